/- Copies of rules. -/
import Derived.Test.YtgkdpkpiejjfmaaRCpH
namespace Go.Proofs.Ytgkdpkpiejjfmaa
open Go.RowKit
set_option linter.unusedVariables false
set_option linter.unusedSimpArgs false

theorem rows_alloc1 {w : World} {r : RulesS} {b : Nat} (hb : b = w.heap.size) : RowsAt (w.alloc (.cells r.cs 28)) (some ⟨b, 0, none⟩) 5 ([r].map fun r => r.cs.toList) := by
  subst hb
  refine Or.inr ⟨_, 0, rfl, by simp, fun j rr hj k u hk hu => ?_⟩
  obtain rfl : j = 0 := by cases j <;> simp at hj ⊢
  obtain rfl : r.cs.toList = rr := by simpa using hj
  have hg : (w.alloc (.cells r.cs 28)).heap[w.heap.size]? = some (.cells r.cs 28) := by rw [get_allocC, if_pos rfl]
  rw [show 0 + 0 * 5 + k = k by omega]
  simp only [World.cell?, hg]
  rw [← hu]
  simp
theorem RulesAt.j0 {w : World} {r : RulesS} (h : RulesAt w r) : ([r].flatMap (·.fl)).length * 120 ≤ 140737488351232 := by have := h.l0; have := h.s0; simp; omega
theorem RulesAt.j1 {w : World} {r : RulesS} (h : RulesAt w r) : ([r].flatMap (·.br)).length * 64 ≤ 140737488351232 := by have := h.l1; have := h.s1; simp; omega
theorem RulesAt.j2 {w : World} {r : RulesS} (h : RulesAt w r) : ([r].flatMap (·.ho)).length * 64 ≤ 140737488351232 := by have := h.l2; have := h.s2; simp; omega
theorem RulesAt.j3 {w : World} {r : RulesS} (h : RulesAt w r) : ([r].flatMap (·.sy)).length * 40 ≤ 140737488351232 := by have := h.l3; have := h.s3; simp; omega
theorem RulesAt.j4 {w : World} {r : RulesS} (h : RulesAt w r) : ([r].flatMap (·.au)).length * 48 ≤ 140737488351232 := by have := h.l4; have := h.s4; simp; omega
theorem get5J (w : World) (x0 x1 x2 x3 x4 : Value) (t : TypeId) {b : Nat} (h : w.heap[b]? = some (.cells #[x0, x1, x2, x3, x4] t)) : w.cell? ⟨b, 0, none⟩ = some x0 ∧ w.cell? ⟨b, 1, none⟩ = some x1 ∧ w.cell? ⟨b, 2, none⟩ = some x2 ∧ w.cell? ⟨b, 3, none⟩ = some x3 ∧ w.cell? ⟨b, 4, none⟩ = some x4 := by
  simp only [World.cell?, h]
  exact ⟨rfl, rfl, rfl, rfl, rfl⟩
theorem fz5J (w : World) (x : Array Value) (t : TypeId) {b : Nat} (h : w.heap[b]? = some (.cells x t)) (k : Nat) : w.frozen? ⟨b, k, none⟩ = false := by simp [World.frozen?, h]

set_option maxHeartbeats 6400000 in
set_option maxRecDepth 100000 in
theorem pcopy_any {w : World} (r : RulesS) (hr : RulesAt w r) : Calls Try.prog 4 #[.agg r.cs] w (JoinP w [r]) := by
  obtain ⟨w2, hw2⟩ : ∃ w2, (w.alloc (.cells r.cs 28)).alloc (.cells #[.slice none 0 0, .slice none 0 0, .slice none 0 0, .slice none 0 0, .slice none 0 0] 28) = w2 := ⟨_, rfl⟩
  have hz2 : w2.heap.size = w.heap.size + 2 := by rw [← hw2]; simp
  have hb2 : Below w.heap.size w w2 := by rw [← hw2]; exact ((Below.refl _ _).alloc (Nat.le_refl _) _).alloc (by simp) _
  have g0 : w2.heap[w.heap.size]? = some (.cells r.cs 28) := by rw [← hw2, get_allocC, if_neg (by simp), get_allocC, if_pos rfl]
  have g1 : w2.heap[w.heap.size + 1]? = some (.cells #[.slice none 0 0, .slice none 0 0, .slice none 0 0, .slice none 0 0, .slice none 0 0] 28) := by rw [← hw2, get_allocC, if_pos (by simp)]
  have hb3 : Below w.heap.size w (w2.alloc (.cells r.cs 28)) := hb2.alloc (by omega) _
  have HJC := Lib.hid (pjoin_any (w := w2.alloc (.cells r.cs 28)) (ls := [r]) (some ⟨w.heap.size + 2, 0, none⟩) 1 1 rfl (by decide) (rows_alloc1 hz2.symm) (fun x hx => by obtain rfl := List.mem_singleton.1 hx; exact hr.below (Nat.le_refl _) hb3) hr.j0 hr.j1 hr.j2 hr.j3 hr.j4)
  have HZ := Lib.hid hz2
  have HB3 := Lib.hid hb3
  have HG1 := Lib.hid (show (w2.alloc (.cells r.cs 28)).heap[w.heap.size + 1]? = some (.cells #[.slice none 0 0, .slice none 0 0, .slice none 0 0, .slice none 0 0, .slice none 0 0] 28) by rw [get_allocC, if_neg (by omega)]; exact g1)
  have HZ3 := Lib.hid (show (w2.alloc (.cells r.cs 28)).heap.size = w.heap.size + 3 by simp; omega)
  obtain ⟨c0, c1, c2, c3, c4⟩ := get5J w2 _ _ _ _ _ _ g0
  clear g0 g1 hb2 hb3 hr
  unfold RulesS.cs at hw2 HJC HB3 HG1 HZ3 ⊢
  subst hw2
  go_enter Try.func4, Try.ntmps4
  go_wp2_with (fail)
  refine HJC.out.mono ?_
  rintro e w4 ⟨base, B, v0, v1, v2, v3, v4, ho, au, rfl, hj, hho, hau⟩
  clear hz2 c0 c1 c2 c3 c4 HJC
  obtain ⟨⟨a0, L0, k0, rfl, -⟩, ⟨a1, L1, k1, rfl, -⟩, ⟨a2, L2, k2, rfl, -⟩, ⟨a3, L3, k3, rfl, -⟩, ⟨a4, L4, k4, rfl, -⟩⟩ := hj.sl
  have HH := Lib.hid (And.intro hho hau)
  clear hho hau
  have hrc := (hj.bel.block (w.heap.size + 1) (by have := HZ3.out; omega)).trans HG1.out
  have HRC := Lib.hid hrc
  have HJ := Lib.hid hj
  obtain ⟨g0, g1, g2, g3, g4⟩ := get5J w4 _ _ _ _ _ _ hrc
  have fr0 := fz5J w4 _ _ hrc 0
  have fr1 := fz5J w4 _ _ hrc 1
  have fr2 := fz5J w4 _ _ hrc 2
  have fr3 := fz5J w4 _ _ hrc 3
  have fr4 := fz5J w4 _ _ hrc 4
  clear hrc hj
  go_wp2_with (fail)
  trace_state
  have hbb : w.heap.size + 3 ≤ B := by have := HJ.out.bb; have := HZ3.out; omega
  have hb1 := HJ.out.b1
  have h1 := heap_setCell_same w4 (w.heap.size + 1) 0 _ _ (.slice a0 L0 k0) HRC.out
  have h2 := heap_setCell_same _ (w.heap.size + 1) 1 _ _ (.slice a1 L1 k1) h1
  have h3 := heap_setCell_same _ (w.heap.size + 1) 2 _ _ (.slice a2 L2 k2) h2
  have h4 := heap_setCell_same _ (w.heap.size + 1) 3 _ _ (.slice a3 L3 k3) h3
  have h5 := heap_setCell_same _ (w.heap.size + 1) 4 _ _ (.slice a4 L4 k4) h4
  have hw := HJ.out.weak HB3.out
  have j1 := hw.set (g := w.heap.size + 1) (k := 0) (u := .slice a0 L0 k0) (by omega) (by omega) (by omega)
  have j2 := j1.set (g := w.heap.size + 1) (k := 1) (u := .slice a1 L1 k1) (by omega) (by omega) (by omega)
  have j3 := j2.set (g := w.heap.size + 1) (k := 2) (u := .slice a2 L2 k2) (by omega) (by omega) (by omega)
  have j4 := j3.set (g := w.heap.size + 1) (k := 3) (u := .slice a3 L3 k3) (by omega) (by omega) (by omega)
  have j5 := j4.set (g := w.heap.size + 1) (k := 4) (u := .slice a4 L4 k4) (by omega) (by omega) (by omega)
  refine bodyPost_ret (results_cell_row (P := Try.prog) rfl _ _ (w.heap.size + 1) 28 #[.slice a0 L0 k0, .slice a1 L1 k1, .slice a2 L2 k2, .slice a3 L3 k3, .slice a4 L4 k4] (0, 0) _ (by rfl) ?hh Try.underlying28 rfl (by kernel_rfl)) rfl ?_
  case hh => exact h5
  exact ⟨base, B, _, _, _, _, _, ho, au, rfl, j5, HH.out.1, HH.out.2⟩

set_option maxHeartbeats 6400000 in
set_option maxRecDepth 100000 in
theorem r7copy_any {w : World} (r : RulesS) (hr : RulesAt w r) : Calls Try.prog 13 #[.agg r.cs] w (JoinP w [r]) := by
  obtain ⟨w2, hw2⟩ : ∃ w2, (w.alloc (.cells r.cs 28)).alloc (.cells #[.slice none 0 0, .slice none 0 0, .slice none 0 0, .slice none 0 0, .slice none 0 0] 28) = w2 := ⟨_, rfl⟩
  have hz2 : w2.heap.size = w.heap.size + 2 := by rw [← hw2]; simp
  have hb2 : Below w.heap.size w w2 := by rw [← hw2]; exact ((Below.refl _ _).alloc (Nat.le_refl _) _).alloc (by simp) _
  have g0 : w2.heap[w.heap.size]? = some (.cells r.cs 28) := by rw [← hw2, get_allocC, if_neg (by simp), get_allocC, if_pos rfl]
  have g1 : w2.heap[w.heap.size + 1]? = some (.cells #[.slice none 0 0, .slice none 0 0, .slice none 0 0, .slice none 0 0, .slice none 0 0] 28) := by rw [← hw2, get_allocC, if_pos (by simp)]
  have hb3 : Below w.heap.size w (w2.alloc (.cells r.cs 28)) := hb2.alloc (by omega) _
  have HJC := Lib.hid (rjoin_any (w := w2.alloc (.cells r.cs 28)) (ls := [r]) (some ⟨w.heap.size + 2, 0, none⟩) 1 1 rfl (by decide) (rows_alloc1 hz2.symm) (fun x hx => by obtain rfl := List.mem_singleton.1 hx; exact hr.below (Nat.le_refl _) hb3) hr.j0 hr.j1 hr.j2 hr.j3 hr.j4)
  have HZ := Lib.hid hz2
  have HB3 := Lib.hid hb3
  have HG1 := Lib.hid (show (w2.alloc (.cells r.cs 28)).heap[w.heap.size + 1]? = some (.cells #[.slice none 0 0, .slice none 0 0, .slice none 0 0, .slice none 0 0, .slice none 0 0] 28) by rw [get_allocC, if_neg (by omega)]; exact g1)
  have HZ3 := Lib.hid (show (w2.alloc (.cells r.cs 28)).heap.size = w.heap.size + 3 by simp; omega)
  obtain ⟨c0, c1, c2, c3, c4⟩ := get5J w2 _ _ _ _ _ _ g0
  clear g0 g1 hb2 hb3 hr
  unfold RulesS.cs at hw2 HJC HB3 HG1 HZ3 ⊢
  subst hw2
  go_enter Try.func13, Try.ntmps13
  go_wp2_with (fail)
  refine HJC.out.mono ?_
  rintro e w4 ⟨base, B, v0, v1, v2, v3, v4, ho, au, rfl, hj, hho, hau⟩
  clear hz2 c0 c1 c2 c3 c4 HJC
  obtain ⟨⟨a0, L0, k0, rfl, -⟩, ⟨a1, L1, k1, rfl, -⟩, ⟨a2, L2, k2, rfl, -⟩, ⟨a3, L3, k3, rfl, -⟩, ⟨a4, L4, k4, rfl, -⟩⟩ := hj.sl
  have HH := Lib.hid (And.intro hho hau)
  clear hho hau
  have hrc := (hj.bel.block (w.heap.size + 1) (by have := HZ3.out; omega)).trans HG1.out
  have HRC := Lib.hid hrc
  have HJ := Lib.hid hj
  obtain ⟨g0, g1, g2, g3, g4⟩ := get5J w4 _ _ _ _ _ _ hrc
  have fr0 := fz5J w4 _ _ hrc 0
  have fr1 := fz5J w4 _ _ hrc 1
  have fr2 := fz5J w4 _ _ hrc 2
  have fr3 := fz5J w4 _ _ hrc 3
  have fr4 := fz5J w4 _ _ hrc 4
  clear hrc hj
  go_wp2_with (fail)
  trace_state
  have hbb : w.heap.size + 3 ≤ B := by have := HJ.out.bb; have := HZ3.out; omega
  have hb1 := HJ.out.b1
  have h1 := heap_setCell_same w4 (w.heap.size + 1) 0 _ _ (.slice a0 L0 k0) HRC.out
  have h2 := heap_setCell_same _ (w.heap.size + 1) 1 _ _ (.slice a1 L1 k1) h1
  have h3 := heap_setCell_same _ (w.heap.size + 1) 2 _ _ (.slice a2 L2 k2) h2
  have h4 := heap_setCell_same _ (w.heap.size + 1) 3 _ _ (.slice a3 L3 k3) h3
  have h5 := heap_setCell_same _ (w.heap.size + 1) 4 _ _ (.slice a4 L4 k4) h4
  have hw := HJ.out.weak HB3.out
  have j1 := hw.set (g := w.heap.size + 1) (k := 0) (u := .slice a0 L0 k0) (by omega) (by omega) (by omega)
  have j2 := j1.set (g := w.heap.size + 1) (k := 1) (u := .slice a1 L1 k1) (by omega) (by omega) (by omega)
  have j3 := j2.set (g := w.heap.size + 1) (k := 2) (u := .slice a2 L2 k2) (by omega) (by omega) (by omega)
  have j4 := j3.set (g := w.heap.size + 1) (k := 3) (u := .slice a3 L3 k3) (by omega) (by omega) (by omega)
  have j5 := j4.set (g := w.heap.size + 1) (k := 4) (u := .slice a4 L4 k4) (by omega) (by omega) (by omega)
  refine bodyPost_ret (results_cell_row (P := Try.prog) rfl _ _ (w.heap.size + 1) 28 #[.slice a0 L0 k0, .slice a1 L1 k1, .slice a2 L2 k2, .slice a3 L3 k3, .slice a4 L4 k4] (0, 0) _ (by rfl) ?hh Try.underlying28 rfl (by kernel_rfl)) rfl ?_
  case hh => exact h5
  exact ⟨base, B, _, _, _, _, _, ho, au, rfl, j5, HH.out.1, HH.out.2⟩
end Go.Proofs.Ytgkdpkpiejjfmaa
