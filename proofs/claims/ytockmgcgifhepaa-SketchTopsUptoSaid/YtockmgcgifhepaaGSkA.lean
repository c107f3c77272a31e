/- sketch: plus, look, begin, the map's keys. -/
import Derived.WalkKit
import Derived.WalkSpells
import Derived.WalkLawsBesides
import Derived.BigQuiet
import Derived.Deep.QuietTactic
import Derived.Deep.DeepCutAuto
import Derived.Deep.CutBlock
import Derived.Lib.Hide
import Derived.Below
import Derived.DeepKeys4
import Derived.IntWalk
import Derived.Test.YtockmgcgifhepaaGGMap
import Derived.Test.YtockmgcgifhepaaShelf
namespace Go.Proofs.Ytockmgcgifhepaa
open Go.RowKit
set_option linter.unusedVariables false
set_option linter.unusedSimpArgs false

/-! ### the map's keys -/
theorem laidOutS : laidOutB Try.prog = true := by kernel_rfl
theorem rowCell : (97 : TypeId) < Try.prog.types.size := of_decide_eq_true (by kernel_rfl)
theorem wideCell : (match Try.prog.underlying 97 with | some (.array _ _) | some (.struct _) => true | _ => false) = true := by rw [Try.underlying97]
set_option maxRecDepth 100000 in
theorem cellKeyed : Maps.Keyed Try.prog 97 := Maps.Keyed.of_law (deep_law_laid laidOutS (m := 2) (by omega) rowCell (by kernel_rfl) wideCell)
def cellV (r c : Int) : Value := .agg #[.int .i64 r, .int .i64 c]
theorem cellsOfCell : Try.prog.cellsOf 97 = 2 := by kernel_rfl
theorem cellsOfInt : Try.prog.cellsOf 3 = 1 := by kernel_rfl
theorem keyTypeCell : Try.prog.keyType 97 = true := by kernel_rfl
theorem typesS : ∃ m, Try.prog.types.size + 1 = m + 2 := by
  have h : 0 < Try.prog.types.size := Nat.lt_of_le_of_lt (Nat.zero_le _) rowCell
  exact ⟨Try.prog.types.size - 1, by omega⟩
theorem keyOf_cell {r c : Int} (wr : (Lit.int .i64 r).wf = true) (wc : (Lit.int .i64 c).wf = true) : ∃ kl, keyOf Try.prog 97 (cellV r c) = some kl := by
  have hu := Try.underlying97
  have hi := Try.underlying3
  have hf : Value.formed Try.prog 97 (cellV r c) = true := by simp [cellV, Value.formed, hu, cellsOfCell]
  obtain ⟨m, hm⟩ := typesS
  unfold keyOf
  rw [hu]
  simp only [keyTypeCell, hf, Bool.and_self, if_true]
  rw [hm]
  simp [cellV, Value.cells, Program.keyLits, hu, hi, cellsOfCell, cellsOfInt, wr, wc]

set_option maxHeartbeats 800000 in
theorem skplus_any (a b : Int) (a0 : 0 ≤ a) (a1 : a ≤ 4611686018427387904) (b0 : 0 ≤ b) (b1 : b ≤ 4611686018427387904) (w : World) :
    Calls Try.prog 47 #[.int .i64 a, .int .i64 b] w fun e w' => e = .returned (.int .i64 (plusS a b)) ∧ w' = w := by
  by_cases h : 4611686018427387904 - b < a
  · go_enter Try.func47, Try.ntmps47
    go_wp2_with (fail)
    go_ret
    exact ⟨by unfold plusS; rw [if_pos h]; rfl, rfl⟩
  · go_enter Try.func47, Try.ntmps47
    go_wp2_with (fail)
    go_ret
    exact ⟨by unfold plusS; rw [if_neg (by omega)]; rfl, rfl⟩

/-- The error of a time. -/
def lookS (last at_ : Int) : Int := if at_ < 0 ∨ 1152921504606846976 < at_ then 2 else if at_ < last then 7 else 0
set_option maxHeartbeats 800000 in
theorem sklook_nil (at_ : Int) (w : World) : Calls Try.prog 25 #[.pointer none, .int .i64 at_] w fun e w' => e = .returned (.int .i64 1) ∧ w' = w := by
  go_enter Try.func25, Try.ntmps25
  go_wp2_with (fail)
  go_ret
  exact ⟨rfl, rfl⟩
set_option maxHeartbeats 1600000 in
theorem sklook_any (s : Nat) (last at_ : Int) (w : World) (hc : w.cell? ⟨s, 6, none⟩ = some (.int .i64 last)) :
    Calls Try.prog 25 #[.pointer (some ⟨s, 0, none⟩), .int .i64 at_] w fun e w' => e = .returned (.int .i64 (lookS last at_)) ∧ w' = w := by
  by_cases h1 : at_ < 0
  · go_enter Try.func25, Try.ntmps25
    go_wp2_with (fail)
    go_ret
    exact ⟨by unfold lookS; rw [if_pos (Or.inl h1)]; rfl, rfl⟩
  · by_cases h2 : 1152921504606846976 < at_
    · go_enter Try.func25, Try.ntmps25
      go_wp2_with (fail)
      go_ret
      exact ⟨by unfold lookS; rw [if_pos (Or.inr h2)]; rfl, rfl⟩
    · by_cases h3 : at_ < last
      · go_enter Try.func25, Try.ntmps25
        go_wp2_with (fail)
        go_ret
        exact ⟨by unfold lookS; rw [if_neg (by omega), if_pos h3]; rfl, rfl⟩
      · go_enter Try.func25, Try.ntmps25
        go_wp2_with (fail)
        go_ret
        exact ⟨by unfold lookS; rw [if_neg (by omega), if_neg (by omega)]; rfl, rfl⟩

/-- How great a sketch is. -/
structure ShapeS where
  W : Int
  B : Int
  R : Int
  C : Int
  seed : Int
def ShapeS.c (h : ShapeS) : Array Value := #[.int .i64 h.W, .int .i64 h.B, .int .i64 h.R, .int .i64 h.C, .int .u64 h.seed]
/-- .. that was made: b is the width of a bucket. -/
structure ShapeOk (h : ShapeS) (b : Int) : Prop where
  W1 : 1 ≤ h.W
  W2 : h.W ≤ 1099511627776
  B1 : 1 ≤ h.B
  B2 : h.B ≤ 60
  R1 : 1 ≤ h.R
  R2 : h.R ≤ 8
  C1 : 1 ≤ h.C
  C2 : h.C ≤ 4096
  bW : h.W = b * h.B
  b1 : 1 ≤ b
  s0 : 0 ≤ h.seed
  s1 : h.seed ≤ 18446744073709551615
theorem ShapeOk.div {h : ShapeS} {b : Int} (k : ShapeOk h b) : h.W.tdiv h.B = b := by
  rw [k.bW]; exact Int.mul_tdiv_cancel _ (by have := k.B1; omega)
theorem ShapeOk.bW' {h : ShapeS} {b : Int} (k : ShapeOk h b) : b ≤ h.W := by
  rw [k.bW]
  have := Int.mul_le_mul_of_nonneg_left k.B1 (show 0 ≤ b by have := k.b1; omega)
  omega

set_option maxHeartbeats 1600000 in
theorem skbegin_any (h : ShapeS) (b at_ : Int) (hb : ShapeOk h b) (a0 : 0 ≤ at_) (a1 : at_ ≤ 9223372036854775807) (w : World) :
    Calls Try.prog 44 #[.agg h.c, .int .i64 at_] w fun e w' => e = .returned (.int .i64 (beginS b at_)) ∧ Below w.heap.size w w' := by
  have hdiv := hb.div
  have hb1 := hb.b1
  have hb2 : b ≤ 1099511627776 := by have := hb.bW'; have := hb.W2; omega
  have hm0 : 0 ≤ at_ % b := Int.emod_nonneg _ (by omega)
  have hm1 : at_ % b ≤ at_ := by have := Int.mul_ediv_add_emod at_ b; have := Int.mul_nonneg (show 0 ≤ b by omega) (Int.ediv_nonneg a0 (show 0 ≤ b by omega)); omega
  obtain ⟨M, hM⟩ : ∃ M, at_ % b = M := ⟨_, rfl⟩
  rw [hM] at hm0 hm1
  have hB := Lib.hid (show beginS b at_ = at_ - M by unfold beginS; rw [hM])
  obtain ⟨W1, W2, B1, B2, R1, R2, C1, C2, bW, _, _, _⟩ := hb
  obtain ⟨W, B, R, C, seed⟩ := h
  unfold ShapeS.c
  dsimp only at *
  clear bW
  go_enter Try.func44, Try.ntmps44
  go_wp2_with (fail)
  go_ret
  exact ⟨by rw [hB.out]; rfl, (Below.refl _ _).alloc (Nat.le_refl _) _⟩
end Go.Proofs.Ytockmgcgifhepaa
