import Derived.WalkKit
import Derived.WalkSpells
import Derived.WalkLawsBesides
import Derived.BigQuiet
import Derived.Deep.QuietTactic
import Derived.Deep.DeepCutAuto
import Derived.Deep.CutBlock
import Derived.Deep.RegionHeld3
import Derived.Lib.Hide
import Derived.Below
import Derived.IntWalk
import Derived.Test.YtemlafbkkaloiaaGreatGGGMap
import Derived.Test.YtemlafbkkaloiaaGreatShelf
namespace Go.Proofs.YtemlafbkkaloiaaGreat
open Go.RowKit
set_option linter.unusedVariables false
set_option linter.unusedSimpArgs false
set_option maxHeartbeats 800000 in
theorem wplus_any (a b : Int) (a0 : 0 ≤ a) (a1 : a ≤ 4611686018427387904) (b0 : 0 ≤ b) (b1 : b ≤ 4611686018427387904) (w : World) :
    Calls Tryz.prog 116 #[.int .i64 a, .int .i64 b] w fun e w' => e = .returned (.int .i64 (plusW a b)) ∧ w' = w := by
  have h : plusW a b = min a (4611686018427387904 - b) + b := by unfold plusW; split <;> omega
  rw [h]
  go_enter Tryz.func116, Tryz.ntmps116
  go_wp2_with (fail)
  go_ret
  exact ⟨rfl, rfl⟩
def ctV (c : CntS) : Value := .agg #[.int .i64 c.p, .int .i64 c.b, .int .i64 c.d, .int .i64 c.e, .int .i64 c.r, .int .i64 c.m]
def CntS.l (c : CntS) : List Int := [c.p, c.b, c.d, c.e, c.r, c.m]
def ctO (c : CntS) (t : TypeId) : Obj := .cells #[.int .i64 c.p, .int .i64 c.b, .int .i64 c.d, .int .i64 c.e, .int .i64 c.r, .int .i64 c.m] t
theorem right_in {c : CntS} (h : RightC c) {k : Nat} (hk : k < 6) : 0 ≤ c.l.getD k 0 ∧ c.l.getD k 0 ≤ 4611686018427387904 := by
  match k, hk with
  | 0, _ => exact ⟨h.p0, h.p1⟩
  | 1, _ => exact ⟨h.b0, h.b1⟩
  | 2, _ => exact ⟨h.d0, h.d1⟩
  | 3, _ => exact ⟨h.e0, h.e1⟩
  | 4, _ => exact ⟨h.r0, h.r1⟩
  | 5, _ => exact ⟨h.m0, h.m1⟩
theorem get_allocW (w : World) (o : Obj) (i : Nat) : (w.alloc o).heap[i]? = if i = w.heap.size then some o else w.heap[i]? := by
  show (Array.push w.heap o)[i]? = _
  rw [Array.getElem?_push]
set_option maxHeartbeats 3200000 in
theorem wright_any (c : CntS) (h : RightC c) (w : World) : Calls Tryz.prog 73 #[ctV c] w fun e w' => e = .returned (.bool true) ∧ Below w.heap.size w w' := by
  have HIN := Lib.hid (fun (k : Nat) (hk : k < 6) => right_in h hk)
  have hb : Below w.heap.size w ((w.alloc (ctO c 92)).alloc (ctO c 3)) := ((Below.refl _ _).alloc (Nat.le_refl _) _).alloc (by simp) _
  have HB := Lib.hid hb
  have hg : ((w.alloc (ctO c 92)).alloc (ctO c 3)).heap[w.heap.size + 1]? = some (ctO c 3) := by simp only [get_allocW, World.size_alloc, if_true]
  have hc : ∀ j, j < 6 → ((w.alloc (ctO c 92)).alloc (ctO c 3)).cell? ⟨w.heap.size + 1, j, none⟩ = some (.int .i64 (c.l.getD j 0)) := by
    intro j hj
    simp only [World.cell?, hg]
    match j, hj with
    | 0, _ => rfl
    | 1, _ => rfl
    | 2, _ => rfl
    | 3, _ => rfl
    | 4, _ => rfl
    | 5, _ => rfl
  have HC := Lib.hid hc
  obtain ⟨L, hL⟩ : ∃ L, c.l = L := ⟨_, rfl⟩
  rw [hL] at HC HIN
  have hed := h.ed
  have hmr := h.mr
  have hdr := h.dr
  clear hb hg hc h hL
  obtain ⟨p, b, d, e, r, m⟩ := c
  unfold ctV ctO at *
  dsimp only at *
  have h3 : decide (0 < d) = true ∨ decide (r = 0) = true := by rcases hdr with h | h <;> simp [h]
  go_enter Tryz.func73, Tryz.ntmps73
  go_wp2_with (fail)
  go_loop [4, 19] (fun x i => ∃ k : Nat, k ≤ 6 ∧ i = .int .i64 k) (fun _ i => 6 - (intOf i).toNat)
  case atStart => exact ⟨0, Nat.zero_le _, rfl⟩
  case round =>
    obtain ⟨k, hk, rfl⟩ := hrel
    by_cases hlt : k < 6
    · have d1 := HC.out k hlt
      have hs := HIN.out k hlt
      have k0 : (0 : Int) ≤ k := by omega
      have k1 : (k : Int) < 6 := by omega
      generalize L.getD k 0 = X at d1 hs
      obtain ⟨hs0, hs1⟩ := hs
      go_wp2_with (fail)
      exact ⟨⟨k + 1, by omega, by go_num⟩, by first | (simp [intOf]; done) | (simp [intOf]; omega)⟩
    · have k1 : ¬ (k : Int) < 6 := by omega
      by_cases hd : 0 < d
      · go_wp2_with (fail)
        go_ret
        exact ⟨rfl, HB.out⟩
      · have hr0 : r = 0 := by omega
        subst hr0
        go_wp2_with (fail)
        go_ret
        exact ⟨rfl, HB.out⟩
/-! ### the window's own small functions -/
def lookW (last at_ : Int) : Int := if at_ < 0 ∨ 1152921504606846976 < at_ then 2 else if at_ < last then 7 else 0
theorem lookW_ok {last at_ : Int} (h : lookW last at_ = 0) : 0 ≤ at_ ∧ at_ ≤ 1152921504606846976 ∧ last ≤ at_ := by
  unfold lookW at h; split at h <;> (try split at h) <;> omega
set_option maxHeartbeats 800000 in
theorem wwrong_any (p : Nat) (last at_ : Int) (w : World) (h : w.cell? ⟨p, 2, none⟩ = some (.int .i64 last)) : Calls Tryz.prog 72 #[.pointer (some ⟨p, 0, none⟩), .int .i64 at_] w fun e w' => e = .returned (.int .i64 (lookW last at_)) ∧ w' = w := by
  unfold lookW
  by_cases h1 : at_ < 0
  · rw [if_pos (Or.inl h1)]
    go_enter Tryz.func72, Tryz.ntmps72
    go_wp2_with (fail)
    go_ret
    exact ⟨rfl, rfl⟩
  · by_cases h2 : 1152921504606846976 < at_
    · rw [if_pos (Or.inr h2)]
      go_enter Tryz.func72, Tryz.ntmps72
      go_wp2_with (fail)
      go_ret
      exact ⟨rfl, rfl⟩
    · rw [if_neg (by omega)]
      by_cases h3 : at_ < last
      · rw [if_pos h3]
        go_enter Tryz.func72, Tryz.ntmps72
        go_wp2_with (fail)
        go_ret
        exact ⟨rfl, rfl⟩
      · rw [if_neg h3]
        go_enter Tryz.func72, Tryz.ntmps72
        go_wp2_with (fail)
        go_ret
        exact ⟨rfl, rfl⟩
structure ShapeW (W B : Int) : Prop where
  w0 : 1 ≤ W
  w1 : W ≤ 1099511627776
  b0 : 1 ≤ B
  b1 : B ≤ 60
  m : W % B = 0
theorem ShapeW.slot {W B : Int} (h : ShapeW W B) : 0 < W / B := by
  obtain ⟨a1, a2, a3, a4, a5⟩ := h
  have e := Int.mul_ediv_add_emod W B
  rw [a5, Int.add_zero] at e
  have h0 : 0 ≤ W / B := Int.ediv_nonneg (by omega) (by omega)
  have h1 : W / B ≠ 0 := fun e1 => by rw [e1, Int.mul_zero] at e; omega
  omega
theorem ShapeW.le {W B : Int} (h : ShapeW W B) : W / B ≤ 1099511627776 := by
  have := Int.ediv_le_self (a := W) B (by have := h.w0; omega)
  have := h.w1
  omega
set_option maxHeartbeats 800000 in
theorem wbucket_any (p : Nat) (W B at_ : Int) (hS : ShapeW W B) (a0 : 0 ≤ at_) (a1 : at_ ≤ 9223372036854775807) (w : World) (h0 : w.cell? ⟨p, 0, none⟩ = some (.int .i64 W)) (h1 : w.cell? ⟨p, 1, none⟩ = some (.int .i64 B)) :
    Calls Tryz.prog 74 #[.pointer (some ⟨p, 0, none⟩), .int .i64 at_] w fun e w' => e = .returned (.int .i64 (at_ / (W / B))) ∧ ∃ n, w' = w.drewN n := by
  have q1 : W.tdiv B = W / B := Int.tdiv_eq_ediv_of_nonneg (by have := hS.w0; omega)
  have hs := hS.slot
  have q2 : at_.tdiv (W / B) = at_ / (W / B) := Int.tdiv_eq_ediv_of_nonneg a0
  have hle := hS.le
  have hB0 := hS.b0
  have hb0 : (B == 0) = false := by rw [beq_eq_false_iff_ne]; omega
  have hB1 : (B == -1) = false := by rw [beq_eq_false_iff_ne]; omega
  obtain ⟨D, hD⟩ : ∃ D, W / B = D := ⟨_, rfl⟩
  rw [hD] at q1 q2 hs hle
  have hd0 : (D == 0) = false := by rw [beq_eq_false_iff_ne]; omega
  have hd1 : (D == -1) = false := by rw [beq_eq_false_iff_ne]; omega
  obtain ⟨G, hG⟩ : ∃ G, at_ / D = G := ⟨_, rfl⟩
  have hG0 : 0 ≤ G := by rw [← hG]; exact Int.ediv_nonneg a0 (by omega)
  have hG1 : G ≤ at_ := by rw [← hG]; exact Int.ediv_le_self _ a0
  rw [hG] at q2
  have HR := Lib.hid (show at_ / (W / B) = G by rw [hD, hG])
  rw [HR.out]
  have r1 : IntKind.i64.wrap D = D := IntWalk.i64_in _ (by omega)
  have r2 : IntKind.i64.wrap G = G := IntWalk.i64_in _ (by omega)
  clear hD hG hS
  go_enter Tryz.func74, Tryz.ntmps74
  go_wp2_with (fail)
  go_quiet (fail)
  go_wp2_with (fail)
  go_ret
  exact ⟨rfl, _, rfl⟩
end Go.Proofs.YtemlafbkkaloiaaGreat
