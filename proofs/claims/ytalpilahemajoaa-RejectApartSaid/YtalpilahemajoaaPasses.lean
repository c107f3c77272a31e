/- reject.Passes: by what passed, or by what is in flight. -/
import Derived.Test.YtalpilahemajoaaProg
import Derived.WalkKit
import Derived.ProofKit
import Derived.Below
namespace Go.Proofs.Ytalpilahemajoaa
open Go.RowKit
set_option linter.unusedVariables false
set_option linter.unusedSimpArgs false

/-- A flow rule by value. -/
def flowV (res org : ByteArray) (thr : Bool) (cnt strat : Int) (ref : ByteArray) (shape warm queue : Int) (cl : Bool) (id : Int) (fb : Bool) : Value :=
  .agg #[.string res, .string org, .bool thr, .int .i64 cnt, .int .u8 strat, .string ref, .int .u8 shape, .int .i64 warm, .int .i64 queue, .bool cl, .int .i64 id, .bool fb]
def passB (thr : Bool) (cnt passed flight n : Int) : Bool := if thr then decide (flight < cnt) else decide (passed + n ≤ cnt)

set_option maxHeartbeats 1600000 in
set_option maxRecDepth 100000 in
theorem passes_any (res org : ByteArray) (thr : Bool) (cnt strat : Int) (ref : ByteArray) (shape warm queue : Int) (cl : Bool) (id : Int) (fb : Bool) (passed flight n : Int) (w : World)
    (a0 : -9223372036854775808 ≤ cnt) (a1 : cnt ≤ 9223372036854775807) (b0 : -9223372036854775808 ≤ passed) (b1 : passed ≤ 9223372036854775807) (c0 : -9223372036854775808 ≤ n) (c1 : n ≤ 9223372036854775807) :
    Calls Try.prog 7 #[flowV res org thr cnt strat ref shape warm queue cl id fb, .int .i64 passed, .int .i64 flight, .int .i64 n] w fun e w' => e = .returned (.bool (passB thr cnt passed flight n)) ∧ Below w.heap.size w w' := by
  unfold flowV
  have B1 := fun o => (Below.refl w.heap.size w).alloc (Nat.le_refl _) o
  cases thr
  · have e1 : passB false cnt passed flight n = decide (passed + n ≤ cnt) := rfl
    rw [e1]
    clear e1
    by_cases hp : passed < 0
    · have hp2 : ¬ 0 ≤ passed := by omega
      by_cases hf : cnt - passed ≤ 9223372036854775807
      · have hd : decide (passed + n ≤ cnt) = decide (n ≤ cnt - passed) := by by_cases h : passed + n ≤ cnt <;> simp [h] <;> omega
        rw [hd]
        clear hd
        go_enter Try.func7, Try.ntmps7
        go_wp2_with (fail)
        go_ret
        exact ⟨rfl, B1 _⟩
      · have hd : decide (passed + n ≤ cnt) = true := decide_eq_true (by omega)
        rw [hd]
        clear hd
        obtain ⟨L, hL⟩ : ∃ L, wrap64 (cnt - passed) = L := ⟨_, rfl⟩
        have hL' : L < cnt := by rw [← hL]; unfold wrap64; omega
        go_enter Try.func7, Try.ntmps7
        go_wp2_with (fail)
        go_ret
        exact ⟨rfl, B1 _⟩
    · have hp2 : 0 ≤ passed := by omega
      by_cases hf : -9223372036854775808 ≤ cnt - passed
      · have hd : decide (passed + n ≤ cnt) = decide (n ≤ cnt - passed) := by by_cases h : passed + n ≤ cnt <;> simp [h] <;> omega
        rw [hd]
        clear hd
        go_enter Try.func7, Try.ntmps7
        go_wp2_with (fail)
        go_ret
        exact ⟨rfl, B1 _⟩
      · have hd : decide (passed + n ≤ cnt) = false := decide_eq_false (by omega)
        rw [hd]
        clear hd
        obtain ⟨L, hL⟩ : ∃ L, wrap64 (cnt - passed) = L := ⟨_, rfl⟩
        have hL' : cnt < L := by rw [← hL]; unfold wrap64; omega
        go_enter Try.func7, Try.ntmps7
        go_wp2_with (fail)
        go_ret
        exact ⟨rfl, B1 _⟩
  · have e1 : passB true cnt passed flight n = decide (flight < cnt) := rfl
    rw [e1]
    clear e1
    go_enter Try.func7, Try.ntmps7
    go_wp2_with (fail)
    go_ret
    exact ⟨rfl, B1 _⟩
end Go.Proofs.Ytalpilahemajoaa
