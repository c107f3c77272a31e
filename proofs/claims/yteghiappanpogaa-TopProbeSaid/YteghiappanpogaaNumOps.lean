/- The layer num: MulDiv, Mul, Div, Share, Times: what each call returns; nothing that was there turns. -/
import Derived.Test.YteghiappanpogaaNumBy
namespace Go.Proofs.Yteghiappanpogaa
open Go.RowKit
set_option linter.unusedVariables false
set_option linter.unusedSimpArgs false

/-- What MulDiv answers. -/
def mdN (a b c : Int) (up : Bool) : Int := if c = 0 then 0 else fitN (rnd (a * b) c up)
def mdE (a b c : Int) (up : Bool) : Int := if c = 0 then 9 else fitE (rnd (a * b) c up)
theorem fitN_of (v : Int) : (if fitB v then fitN v else 0) = fitN v := by unfold fitN; split <;> rfl
theorem fitE_of (v : Int) : (if fitB v then 0 else 8) = fitE v := rfl

set_option maxHeartbeats 400000 in
theorem muldiv_any (a b c : Int) (up : Bool) (w : World) (a0 : -9223372036854775808 ≤ a) (a1 : a ≤ 9223372036854775807) (b0 : -9223372036854775808 ≤ b) (b1 : b ≤ 9223372036854775807) (c0 : -9223372036854775808 ≤ c) (c1 : c ≤ 9223372036854775807) :
    Calls Try.prog 43 #[.int .i64 a, .int .i64 b, .int .i64 c, .bool up] w fun e w' => e = .returned (.tuple #[.int .i64 (mdN a b c up), .int .i64 (mdE a b c up)]) ∧ Below w.heap.size w w' := by
  by_cases cz : c = 0
  · have e1 := Lib.hid (show mdN a b c up = 0 by simp [mdN, cz])
    have e2 := Lib.hid (show mdE a b c up = 9 by simp [mdE, cz])
    rw [e1.out, e2.out]
    have cb : (c == 0) = true := by simpa using cz
    clear cz
    go_enter Try.func43, Try.ntmps43
    go_wp2_with (fail)
    go_ret2
    exact ⟨rfl, Below.refl _ _⟩
  · have e1 := Lib.hid (show mdN a b c up = fitN (rnd (a * b) c up) by simp [mdN, cz])
    have e2 := Lib.hid (show mdE a b c up = fitE (rnd (a * b) c up) by simp [mdE, cz])
    rw [e1.out, e2.out]
    have cb : (c == 0) = false := by simpa using cz
    go_enter Try.func43, Try.ntmps43
    go_wp2_with (fail)
    refine (product_any a b _ a0 a1 b0 b1).mono ?_
    rintro e w1 ⟨hi, lo, bb, rfl, h0, h1, l0, l1, hv, hs, hb1⟩
    have Hv := Lib.hid hv
    have Hs := Lib.hid hs
    clear hv hs
    go_wp2_with (fail)
    refine (by_any hi lo c bb up _ h0 h1 l0 l1 c0 c1 cz).mono ?_
    rintro e w2 ⟨rfl, hb2⟩
    rw [Hv.out]
    go_wp2_with (fail)
    refine (told_any _ _ _).mono ?_
    rintro e w3 ⟨rfl, rfl⟩
    rw [fitN_of, fitE_of]
    go_wp2_with (fail)
    go_ret2
    exact ⟨rfl, hb1.trans (hb2.mono hb1.size)⟩

/-- What Share answers. -/
def shN (a b : Int) : Int := if a < 0 ∨ b < a then 0 else if b = 0 then 0 else mdN 1000 a b false
def shE (a b : Int) : Int := if a < 0 ∨ b < a then 2 else if b = 0 then 0 else mdE 1000 a b false

set_option maxHeartbeats 400000 in
theorem times_any (a b : Int) (w : World) (a0 : -9223372036854775808 ≤ a) (a1 : a ≤ 9223372036854775807) (b0 : -9223372036854775808 ≤ b) (b1 : b ≤ 9223372036854775807) :
    Calls Try.prog 41 #[.int .i64 a, .int .i64 b] w fun e w' => e = .returned (.int .i64 (keep (a * b))) ∧ Below w.heap.size w w' := by
  obtain ⟨v, hv0⟩ : ∃ v : Int, a * b = v := ⟨_, rfl⟩
  have hp := product_any a b
  rw [hv0] at hp
  rw [hv0]
  have Hp := Lib.hid hp
  clear hp hv0
  cases hf : fitB v with
  | true =>
    have e1 := Lib.hid (keep_fit hf)
    have e2 := Lib.hid (fitN_yes hf)
    have e3 := Lib.hid hf
    clear hf
    go_enter Try.func41, Try.ntmps41
    go_wp2_with (fail)
    refine (Hp.out _ a0 a1 b0 b1).mono ?_
    rintro e w1 ⟨hi, lo, bb, rfl, h0, h1, l0, l1, hv, hs, hb1⟩
    have Hv := Lib.hid hv
    have Hs := Lib.hid hs
    clear hv hs
    have hz := hb1.size
    go_wp2_with (fail)
    refine (narrow_any hi lo bb _ h0 h1 l0 l1).mono ?_
    rintro e w2 ⟨rfl, hb2⟩
    rw [Hv.out, e2.out, e3.out]
    go_wp2_with (fail)
    go_ret
    exact ⟨by rw [e1.out]; rfl, Below.trans (by repeat (first | exact hb1 | exact Below.refl _ _ | apply Below.alloc | apply Below.setCell | simp | omega)) (hb2.mono (by simp; omega))⟩
  | false =>
    have e2 := Lib.hid (fitN_no hf)
    have e3 := Lib.hid hf
    have e1 : Hid (keep v = edgeV (decide (v < 0))) := by
      by_cases hn : v < 0
      · simp only [edgeV, hn, decide_true, if_true]; exact keep_below hf hn
      · simp only [edgeV, hn, decide_false]; exact keep_above hf (by omega)
    clear hf
    go_enter Try.func41, Try.ntmps41
    go_wp2_with (fail)
    refine (Hp.out _ a0 a1 b0 b1).mono ?_
    rintro e w1 ⟨hi, lo, bb, rfl, h0, h1, l0, l1, hv, hs, hb1⟩
    have Hv := Lib.hid hv
    have Hs := Lib.hid hs
    clear hv hs
    have hz := hb1.size
    go_wp2_with (fail)
    refine (narrow_any hi lo bb _ h0 h1 l0 l1).mono ?_
    rintro e w2 ⟨rfl, hb2⟩
    rw [Hv.out, e2.out, e3.out]
    obtain ⟨hc, hf⟩ := bcell hb2
    go_wp2_with (fail)
    refine (edge_any bb _).mono ?_
    rintro e w3 ⟨rfl, rfl⟩
    go_wp2_with (fail)
    go_ret
    exact ⟨by rw [e1.out, ← Hs.out]; rfl, Below.trans (by repeat (first | exact hb1 | exact Below.refl _ _ | apply Below.alloc | apply Below.setCell | simp | omega)) (hb2.mono (by simp; omega))⟩
end Go.Proofs.Yteghiappanpogaa
