/- RulesCopies: the walk. -/
import Derived.Test.YtgkdpkpiejjfmaaRCpL
import Derived.Test.YtgkdpkpiejjfmaaRuI
import Derived.Deep.RegionHeld3
namespace Go.Proofs.Ytgkdpkpiejjfmaa
open Go.RowKit
set_option linter.unusedVariables false
set_option linter.unusedSimpArgs false

theorem rows_alloc2 {w : World} {x y : RulesS} {b : Nat} (hb : b = w.heap.size) : RowsAt (w.alloc (.cells #[.slice x.a0 x.n0 x.c0, .slice x.a1 x.n1 x.c1, .slice x.a2 x.n2 x.c2, .slice x.a3 x.n3 x.c3, .slice x.a4 x.n4 x.c4, .slice y.a0 y.n0 y.c0, .slice y.a1 y.n1 y.c1, .slice y.a2 y.n2 y.c2, .slice y.a3 y.n3 y.c3, .slice y.a4 y.n4 y.c4] 28)) (some ⟨b, 0, none⟩) 5 ([x, y].map fun r => r.cs.toList) := by
  subst hb
  refine Or.inr ⟨_, 0, rfl, by simp, fun j rr hj k u hk hu => ?_⟩
  have hg : (w.alloc (.cells #[.slice x.a0 x.n0 x.c0, .slice x.a1 x.n1 x.c1, .slice x.a2 x.n2 x.c2, .slice x.a3 x.n3 x.c3, .slice x.a4 x.n4 x.c4, .slice y.a0 y.n0 y.c0, .slice y.a1 y.n1 y.c1, .slice y.a2 y.n2 y.c2, .slice y.a3 y.n3 y.c3, .slice y.a4 y.n4 y.c4] 28)).heap[w.heap.size]? = some (.cells #[.slice x.a0 x.n0 x.c0, .slice x.a1 x.n1 x.c1, .slice x.a2 x.n2 x.c2, .slice x.a3 x.n3 x.c3, .slice x.a4 x.n4 x.c4, .slice y.a0 y.n0 y.c0, .slice y.a1 y.n1 y.c1, .slice y.a2 y.n2 y.c2, .slice y.a3 y.n3 y.c3, .slice y.a4 y.n4 y.c4] 28) := by rw [get_allocC, if_pos rfl]
  simp only [World.cell?, hg]
  match j, hj with
  | 0, hj =>
    obtain rfl : x.cs.toList = rr := by simpa using hj
    unfold RulesS.cs at hu
    match k, hk, hu with
    | 0, _, hu => exact hu
    | 1, _, hu => exact hu
    | 2, _, hu => exact hu
    | 3, _, hu => exact hu
    | 4, _, hu => exact hu
  | 1, hj =>
    obtain rfl : y.cs.toList = rr := by simpa using hj
    unfold RulesS.cs at hu
    match k, hk, hu with
    | 0, _, hu => exact hu
    | 1, _, hu => exact hu
    | 2, _, hu => exact hu
    | 3, _, hu => exact hu
    | 4, _, hu => exact hu
  | j + 2, hj => simp at hj
/-- The cells of a box of rules. -/
def BoxR (w : World) (g : Nat) (r : RulesS) : Prop := w.cell? ⟨g, 0, none⟩ = some (.slice r.a0 r.n0 r.c0) ∧ w.cell? ⟨g, 1, none⟩ = some (.slice r.a1 r.n1 r.c1) ∧ w.cell? ⟨g, 2, none⟩ = some (.slice r.a2 r.n2 r.c2) ∧ w.cell? ⟨g, 3, none⟩ = some (.slice r.a3 r.n3 r.c3) ∧ w.cell? ⟨g, 4, none⟩ = some (.slice r.a4 r.n4 r.c4)
theorem boxR_of {w : World} {g : Nat} {r : RulesS} (h : w.heap[g]? = some (.cells r.cs 28)) : BoxR w g r := get5J w _ _ _ _ _ _ h
theorem RulesAt.two {w : World} {a b : RulesS} (ha : RulesAt w a) (hb : RulesAt w b) (p0 : a.n0 ≤ 1048576) (p1 : a.n1 ≤ 1048576) (p2 : a.n2 ≤ 1048576) (p3 : a.n3 ≤ 1048576) (p4 : a.n4 ≤ 1048576) (q0 : b.n0 ≤ 1048576) (q1 : b.n1 ≤ 1048576) (q2 : b.n2 ≤ 1048576) (q3 : b.n3 ≤ 1048576) (q4 : b.n4 ≤ 1048576) :
    ([a, b].flatMap (·.fl)).length * 120 ≤ 140737488351232 ∧ ([a, b].flatMap (·.br)).length * 64 ≤ 140737488351232 ∧ ([a, b].flatMap (·.ho)).length * 64 ≤ 140737488351232 ∧ ([a, b].flatMap (·.sy)).length * 40 ≤ 140737488351232 ∧ ([a, b].flatMap (·.au)).length * 48 ≤ 140737488351232 := by
  have h0 := ha.l0; have h1 := ha.l1; have h2 := ha.l2; have h3 := ha.l3; have h4 := ha.l4
  have g0 := hb.l0; have g1 := hb.l1; have g2 := hb.l2; have g3 := hb.l3; have g4 := hb.l4
  simp
  omega
theorem two_at {wx : World} {a b : RulesS} (ha : RulesAt wx a) (hb : RulesAt wx b) : ∀ x ∈ [a, b], RulesAt wx x := by
  intro x hx
  rcases List.mem_cons.1 hx with e | e
  · rw [e]; exact ha
  · rw [List.mem_singleton.1 e]; exact hb
theorem Tells.yes {P : Prop} {w : World} {e : Ending} {w' : World} (h : Tells P w e w') (hp : P) : e = .returned (.bool true) ∧ Below w.heap.size w w' := by
  obtain ⟨⟨t, rfl, ht⟩, hb⟩ := h
  rw [ht.2 hp]
  exact ⟨rfl, hb⟩
theorem Tells.dec {P : Prop} {w : World} {e : Ending} {w' : World} {t0 : Bool} (h : Tells P w e w') (hp : t0 = true ↔ P) : e = .returned (.bool t0) ∧ Below w.heap.size w w' := by
  obtain ⟨⟨t, rfl, ht⟩, hb⟩ := h
  have : t = t0 := Bool.eq_iff_iff.2 (ht.trans hp.symm)
  rw [this]
  exact ⟨rfl, hb⟩
theorem offF {w w' : World} {S : Nat → Prop} (h : Below w.heap.size w w') : Off S w w' := ⟨h.os, h.tape, h.output, h.size, fun k hk _ => h.block k hk⟩
theorem rm_keptM {wr wx : World} {base size n : Nat} {e : TypeId} {v : Value} {xs : List Value} (h : wr.ownsRow base e size v n xs) (hb : Below wr.heap.size wr wx) : wx.ownsRow base e size v n xs :=
  h.kept (row := none) ⟨hb.os, hb.tape, hb.output, hb.size, fun k hk _ => hb.block k hk⟩ (by cases v.ownBlock <;> simp)
theorem own_cell {w3 w9 : World} {base size m cc lo hi : Nat} {e : TypeId} {a : Option Addr} {xs : List Value} (h : w3.ownsRow base e size (.slice a m cc) m xs) (hb : Below w3.heap.size w3 w9) (hlo : lo ≤ base) (hhi : w3.heap.size ≤ hi) (i k : Nat) (hi' : i < m) (hk : k < size) : ∃ g off cur, a = some ⟨g, off, none⟩ ∧ lo ≤ g ∧ g < hi ∧ w9.heap[g]? = some (.cells cur e) ∧ off + i * size + k < cur.size := by
  obtain ⟨g, off, cur, h1, h2, h3, h4⟩ := row_cell h hi' hk
  have hg := (Array.getElem?_eq_some_iff.1 h3).1
  exact ⟨g, off, cur, h1, by omega, by omega, (hb.block g hg).trans h3, h4⟩
theorem own_n {w : World} {base size n m cc : Nat} {e : TypeId} {a : Option Addr} {xs : List Value} (h : w.ownsRow base e size (.slice a m cc) n xs) (hn : n = m) : w.ownsRow base e size (.slice a m cc) m xs := hn ▸ h
theorem shp_row {α : Type} {w9 wr : World} {lo hi n k : Nat} {e : TypeId} {a : Option Addr} {xs : List α} {f : α → List Value} {y : α} {u : Value} (hS : Shp w9 lo hi wr) (h : RowsAt w9 a n (xs.map f)) {i g off : Nat} {cur : Array Value} (hy : xs[i]? = some y) (ha : a = some ⟨g, off, none⟩) (hg : w9.heap[g]? = some (.cells cur e)) (hl : loose e = false) (hk : k < n) (hu : (f y)[k]? = some u) : wr.cell? ⟨g, off + i * n + k, none⟩ = some u := by
  obtain ⟨g', off', h1, _, h2⟩ := rowsAt_get h (j := i) (x := f y) (by rw [List.getElem?_map, hy]; rfl)
  rw [ha] at h1
  injection h1 with h1
  injection h1 with e1 e2 _
  subst e1 e2
  rw [hS.keepCell hg hl]
  exact h2 k u hk hu
theorem Shp.below {N : Nat} {w2 w9 wr : World} {hi : Nat} (h : Shp w9 N hi wr) (hb : Below N w2 w9) (hn : N ≤ w9.heap.size) : Below N w2 wr :=
  ⟨h.off.os.trans hb.os, h.off.tape.trans hb.tape, h.off.output.trans hb.output, by have := h.size; have := hb.size; omega, fun k hk => (h.off.block k (by omega) (fun e => by omega)).trans (hb.block k hk)⟩

set_option maxHeartbeats 25600000 in
set_option maxRecDepth 100000 in
theorem rcopies_law {w : World} (a b : RulesS) (ha : RulesAt w a) (hb : RulesAt w b) (p0 : a.n0 ≤ 1048576) (p1 : a.n1 ≤ 1048576) (p2 : a.n2 ≤ 1048576) (p3 : a.n3 ≤ 1048576) (p4 : a.n4 ≤ 1048576) (q0 : b.n0 ≤ 1048576) (q1 : b.n1 ≤ 1048576) (q2 : b.n2 ≤ 1048576) (q3 : b.n3 ≤ 1048576) (q4 : b.n4 ≤ 1048576) :
    Calls Try.prog 3 #[.agg a.cs, .agg b.cs] w fun e w' => e = .returned (.bool true) ∧ Below w.heap.size w w' := by
  obtain ⟨W2, hW2⟩ : ∃ W2, (w.alloc (.cells a.cs 28)).alloc (.cells b.cs 28) = W2 := ⟨_, rfl⟩
  have hz2 : W2.heap.size = w.heap.size + 2 := by rw [← hW2]; simp
  have hb2 : Below w.heap.size w W2 := by rw [← hW2]; exact ((Below.refl _ _).alloc (Nat.le_refl _) _).alloc (by simp) _
  have g0 : W2.heap[w.heap.size]? = some (.cells a.cs 28) := by rw [← hW2, get_allocC, if_neg (by simp), get_allocC, if_pos rfl]
  have g1 : W2.heap[w.heap.size + 1]? = some (.cells b.cs 28) := by rw [← hW2, get_allocC, if_pos (by simp)]
  have HZ := Lib.hid hz2
  have HB2 := Lib.hid hb2
  have HA : Hid (∀ wx, Below W2.heap.size W2 wx → RulesAt wx a) := fun wx h => ha.below (Nat.le_refl _) (hb2.trans (h.mono hb2.size))
  have HB : Hid (∀ wx, Below W2.heap.size W2 wx → RulesAt wx b) := fun wx h => hb.below (Nat.le_refl _) (hb2.trans (h.mono hb2.size))
  have HXA : Hid (∀ wx, Below W2.heap.size W2 wx → BoxR wx w.heap.size a) := fun wx h => boxR_of ((h.block _ (by omega)).trans g0)
  have HXB : Hid (∀ wx, Below W2.heap.size W2 wx → BoxR wx (w.heap.size + 1) b) := fun wx h => boxR_of ((h.block _ (by omega)).trans g1)
  have HCP : Hid (∀ wx, Below W2.heap.size W2 wx → Calls Try.prog 4 #[.agg a.cs] wx (fun e w' => ∃ base B r, e = .returned (.agg r.cs) ∧ OwnR wx base B r w' ∧ SumR [a] r ∧ (∀ (S : Nat → Prop) (w2 : World), Off S w' w2 → (∀ k, k < w'.heap.size → S k → k < base) → RulesAt w2 r))) := fun wx h => (pcopy_any a (HA.out wx h)).mono fun e w' hj => hj.out (fun x hx => by rw [List.mem_singleton.1 hx]; exact HA.out wx h) ha.j0 ha.j1 ha.j2 ha.j3 ha.j4
  have HCR : Hid (∀ wx, Below W2.heap.size W2 wx → Calls Try.prog 13 #[.agg a.cs] wx (fun e w' => ∃ base B r, e = .returned (.agg r.cs) ∧ OwnR wx base B r w' ∧ SumR [a] r ∧ (∀ (S : Nat → Prop) (w2 : World), Off S w' w2 → (∀ k, k < w'.heap.size → S k → k < base) → RulesAt w2 r))) := fun wx h => (r7copy_any a (HA.out wx h)).mono fun e w' hj => hj.out (fun x hx => by rw [List.mem_singleton.1 hx]; exact HA.out wx h) ha.j0 ha.j1 ha.j2 ha.j3 ha.j4
  obtain ⟨t0, t1, t2, t3, t4⟩ := ha.two hb p0 p1 p2 p3 p4 q0 q1 q2 q3 q4
  have HJP : Hid (∀ wx, Below W2.heap.size W2 wx → ∀ g, RowsAt wx (some ⟨g, 0, none⟩) 5 ([a, b].map fun r => r.cs.toList) → Calls Try.prog 5 #[.slice (some ⟨g, 0, none⟩) 2 2] wx (fun e w' => ∃ base B r, e = .returned (.agg r.cs) ∧ OwnR wx base B r w' ∧ SumR [a, b] r ∧ (∀ (S : Nat → Prop) (w2 : World), Off S w' w2 → (∀ k, k < w'.heap.size → S k → k < base) → RulesAt w2 r))) := fun wx h g hg => (pjoin_any (w := wx) (ls := [a, b]) (some ⟨g, 0, none⟩) 2 2 rfl (by decide) hg (two_at (HA.out wx h) (HB.out wx h)) t0 t1 t2 t3 t4).mono fun e w' hj => hj.out (two_at (HA.out wx h) (HB.out wx h)) t0 t1 t2 t3 t4
  have HJR : Hid (∀ wx, Below W2.heap.size W2 wx → ∀ g, RowsAt wx (some ⟨g, 0, none⟩) 5 ([a, b].map fun r => r.cs.toList) → Calls Try.prog 8 #[.slice (some ⟨g, 0, none⟩) 2 2] wx (fun e w' => ∃ base B r, e = .returned (.agg r.cs) ∧ OwnR wx base B r w' ∧ SumR [a, b] r ∧ (∀ (S : Nat → Prop) (w2 : World), Off S w' w2 → (∀ k, k < w'.heap.size → S k → k < base) → RulesAt w2 r))) := fun wx h g hg => (rjoin_any (w := wx) (ls := [a, b]) (some ⟨g, 0, none⟩) 2 2 rfl (by decide) hg (two_at (HA.out wx h) (HB.out wx h)) t0 t1 t2 t3 t4).mono fun e w' hj => hj.out (two_at (HA.out wx h) (HB.out wx h)) t0 t1 t2 t3 t4
  have HRP : Hid (∀ wx, Below W2.heap.size W2 wx → Calls Try.prog 11 #[.agg a.cs] wx (TextsP wx (ded (allR a)))) := fun wx h => pres_any a (HA.out wx h) p0 p1 p2 p4
  have HRR : Hid (∀ wx, Below W2.heap.size W2 wx → Calls Try.prog 12 #[.agg a.cs] wx (TextsP wx (ded (allR a)))) := fun wx h => r7res_any a (HA.out wx h) p0 p1 p2 p4
  have hnm : (allR a).length ≤ 6291456 := by have h1 := pre4_len a a.n4; unfold allR; omega
  have HNM := Lib.hid hnm
  obtain ⟨x0, x1, x2, x3, x4⟩ := HXA.out W2 (Below.refl _ _)
  clear g0 g1 hb2 ha hb hz2 t0 t1 t2 t3 t4 p0 p1 p2 p3 p4 q0 q1 q2 q3 q4 hnm
  unfold RulesS.cs at hW2 HCP HCR HJP HJR HRP HRR ⊢
  subst hW2
  go_enter Try.func3, Try.ntmps3
  go_wp2_with (fail)
  generalize (w.alloc _).alloc _ = W2 at *
  refine (HCP.out _ (Below.refl _ _)).mono ?_
  rintro e w3 ⟨cb, cB, c, rfl, hoc, hsc, hrc⟩
  have HB3 : Hid (Below W2.heap.size W2 w3) := Lib.hid hoc.bel
  have HOC := Lib.hid hoc
  have HSC := Lib.hid hsc
  have HRC := Lib.hid hrc
  clear hoc hsc hrc x0 x1 x2 x3 x4
  have h4 : Below W2.heap.size W2 (w3.alloc (.cells #[.slice c.a0 c.n0 c.c0, .slice c.a1 c.n1 c.c1, .slice c.a2 c.n2 c.c2, .slice c.a3 c.n3 c.c3, .slice c.a4 c.n4 c.c4] 28)) := HB3.out.alloc (HB3.out.size) _
  have z4 : (w3.alloc (.cells #[.slice c.a0 c.n0 c.c0, .slice c.a1 c.n1 c.c1, .slice c.a2 c.n2 c.c2, .slice c.a3 c.n3 c.c3, .slice c.a4 c.n4 c.c4] 28)).heap.size = w3.heap.size + 1 := by simp
  have gC : (w3.alloc (.cells #[.slice c.a0 c.n0 c.c0, .slice c.a1 c.n1 c.c1, .slice c.a2 c.n2 c.c2, .slice c.a3 c.n3 c.c3, .slice c.a4 c.n4 c.c4] 28)).heap[w3.heap.size]? = some (.cells #[.slice c.a0 c.n0 c.c0, .slice c.a1 c.n1 c.c1, .slice c.a2 c.n2 c.c2, .slice c.a3 c.n3 c.c3, .slice c.a4 c.n4 c.c4] 28) := by rw [get_allocC, if_pos rfl]
  have hr4 : Below w3.heap.size w3 (w3.alloc (.cells #[.slice c.a0 c.n0 c.c0, .slice c.a1 c.n1 c.c1, .slice c.a2 c.n2 c.c2, .slice c.a3 c.n3 c.c3, .slice c.a4 c.n4 c.c4] 28)) := (Below.refl _ _).alloc (Nat.le_refl _) _
  obtain ⟨x0, x1, x2, x3, x4⟩ := HXA.out _ h4
  obtain ⟨y0, y1, y2, y3, y4⟩ := HXB.out _ h4
  have H4 := Lib.hid h4
  have Z4 := Lib.hid z4
  have GC := Lib.hid gC
  have HR4 := Lib.hid hr4
  clear h4 z4 gC hr4
  go_wp2_with (fail)
  generalize w3.alloc _ = w4 at *
  refine (HJP.out (w4.alloc _) (H4.out.alloc (H4.out.size) _) _ (rows_alloc2 Z4.out.symm)).mono ?_
  rintro e w5 ⟨db, dB, d, rfl, hod, hsd, hrd⟩
  have hb45 : Below w4.heap.size w4 w5 := ((Below.refl w4.heap.size w4).alloc (Nat.le_refl _) _).trans (hod.bel.mono (by simp))
  have HB45 := Lib.hid hb45
  have HDB := Lib.hid (show w4.heap.size ≤ db ∧ db ≤ w5.heap.size from ⟨by have h1 := hod.bb; have h2 := hod.b1; simp only [World.size_alloc] at h1; omega, hod.bs⟩)
  have HOD := Lib.hid hod
  have HSD := Lib.hid hsd
  have HRD := Lib.hid hrd
  clear hod hsd hrd hb45 x0 x1 x2 x3 x4 y0 y1 y2 y3 y4
  obtain ⟨w6, hw6⟩ : ∃ w6, w5.alloc (.cells #[.slice d.a0 d.n0 d.c0, .slice d.a1 d.n1 d.c1, .slice d.a2 d.n2 d.c2, .slice d.a3 d.n3 d.c3, .slice d.a4 d.n4 d.c4] 28) = w6 := ⟨_, rfl⟩
  have h56 : Below w5.heap.size w5 w6 := by rw [← hw6]; exact (Below.refl _ _).alloc (Nat.le_refl _) _
  have z6 : w6.heap.size = w5.heap.size + 1 := by rw [← hw6]; simp
  have gD : w6.heap[w5.heap.size]? = some (.cells #[.slice d.a0 d.n0 d.c0, .slice d.a1 d.n1 d.c1, .slice d.a2 d.n2 d.c2, .slice d.a3 d.n3 d.c3, .slice d.a4 d.n4 d.c4] 28) := by rw [← hw6, get_allocC, if_pos rfl]
  have h46 : Below w4.heap.size w4 w6 := HB45.out.trans (h56.mono HB45.out.size)
  have h36 : Below w3.heap.size w3 w6 := HR4.out.trans (h46.mono HR4.out.size)
  have h26 : Below W2.heap.size W2 w6 := H4.out.trans (h46.mono H4.out.size)
  have gC6 : w6.heap[w3.heap.size]? = some (.cells #[.slice c.a0 c.n0 c.c0, .slice c.a1 c.n1 c.c1, .slice c.a2 c.n2 c.c2, .slice c.a3 c.n3 c.c3, .slice c.a4 c.n4 c.c4] 28) := (h46.block _ (by have := Z4.out; omega)).trans GC.out
  have hsz36 : w3.heap.size < w6.heap.size := by have := Z4.out; have := h46.size; omega
  have hsz56 : w5.heap.size < w6.heap.size := by omega
  have H26 := Lib.hid h26
  have H36 := Lib.hid h36
  have H56 := Lib.hid h56
  have Z6 := Lib.hid z6
  have GD := Lib.hid gD
  have GC6 := Lib.hid gC6
  have H2X : Hid (∀ wx, Below w6.heap.size w6 wx → Below W2.heap.size W2 wx) := fun wx h => h26.trans (h.mono h26.size)
  have HC : Hid (∀ wx, Below w6.heap.size w6 wx → RulesAt wx c) := fun wx h => HRC.out (fun _ => False) wx (offF (h36.trans (h.mono h36.size))) (fun _ _ hf => hf.elim)
  have HD : Hid (∀ wx, Below w6.heap.size w6 wx → RulesAt wx d) := fun wx h => HRD.out (fun _ => False) wx (offF (h56.trans (h.mono h56.size))) (fun _ _ hf => hf.elim)
  have HXC : Hid (∀ wx, Below w6.heap.size w6 wx → BoxR wx w3.heap.size c) := fun wx h => boxR_of ((h.block _ hsz36).trans gC6)
  have HXD : Hid (∀ wx, Below w6.heap.size w6 wx → BoxR wx w5.heap.size d) := fun wx h => boxR_of ((h.block _ hsz56).trans gD)
  have HSB : Hid (∀ wx, Below w6.heap.size w6 wx → (BoxR wx w.heap.size a ∧ BoxR wx (w.heap.size + 1) b ∧ BoxR wx w3.heap.size c ∧ BoxR wx w5.heap.size d) ∧ Below w6.heap.size w6 wx) := fun wx h => ⟨⟨HXA.out wx (H2X.out wx h), HXB.out wx (H2X.out wx h), HXC.out wx h, HXD.out wx h⟩, h⟩
  have HT1 : Hid (∀ wx, Below w6.heap.size w6 wx → Calls Try.prog 7 #[.agg c.cs, .agg a.cs] wx (fun e w' => e = .returned (.bool true) ∧ Below wx.heap.size wx w')) := fun wx h => (r7same_any c a (HC.out wx h) (HA.out wx (H2X.out wx h))).mono fun e w' t => t.yes HSC.out.one
  have HT2 : Hid (∀ wx, Below w6.heap.size w6 wx → ∀ y, RulesAt wx y → SumR [a, b] y → Calls Try.prog 7 #[.agg d.cs, .agg y.cs] wx (fun e w' => e = .returned (.bool true) ∧ Below wx.heap.size wx w')) := fun wx h y hy hs => (r7same_any d y (HD.out wx h) hy).mono fun e w' t => t.yes (HSD.out.same hs)
  obtain ⟨t0, ht0⟩ : ∃ t0 : Bool, t0 = true ↔ SameRR a b := by
    by_cases h : SameRR a b
    · exact ⟨true, by simp [h]⟩
    · exact ⟨false, by simp [h]⟩
  have HT3 : Hid (∀ wx, Below w6.heap.size w6 wx → Calls Try.prog 9 #[.agg a.cs, .agg b.cs] wx (fun e w' => e = .returned (.bool t0) ∧ Below wx.heap.size wx w')) := fun wx h => (same_any a b (HA.out wx (H2X.out wx h)) (HB.out wx (H2X.out wx h))).mono fun e w' t => t.dec ht0
  have HT4 : Hid (∀ wx, Below w6.heap.size w6 wx → Calls Try.prog 7 #[.agg a.cs, .agg b.cs] wx (fun e w' => e = .returned (.bool t0) ∧ Below wx.heap.size wx w')) := fun wx h => (r7same_any a b (HA.out wx (H2X.out wx h)) (HB.out wx (H2X.out wx h))).mono fun e w' t => t.dec ht0
  have HT5 : Hid (∀ wx, Below w6.heap.size w6 wx → Calls Try.prog 9 #[.agg c.cs, .agg a.cs] wx (fun e w' => e = .returned (.bool true) ∧ Below wx.heap.size wx w')) := fun wx h => (same_any c a (HC.out wx h) (HA.out wx (H2X.out wx h))).mono fun e w' t => t.yes HSC.out.one
  unfold RulesS.cs at HT1 HT2 HT3 HT4 HT5
  unfold BoxR at HSB
  clear h56 z6 gD h46 h36 h26 gC6 hsz36 hsz56 ht0
  go_wp2_with (fail)
  try simp only [hw6]
  refine wp_region_noPanic ?_
  refine wp_region_held_drew (S := fun wx => ((wx.cell? ⟨w.heap.size, 0, none⟩ = some (.slice a.a0 a.n0 a.c0) ∧ wx.cell? ⟨w.heap.size, 1, none⟩ = some (.slice a.a1 a.n1 a.c1) ∧ wx.cell? ⟨w.heap.size, 2, none⟩ = some (.slice a.a2 a.n2 a.c2) ∧ wx.cell? ⟨w.heap.size, 3, none⟩ = some (.slice a.a3 a.n3 a.c3) ∧ wx.cell? ⟨w.heap.size, 4, none⟩ = some (.slice a.a4 a.n4 a.c4)) ∧ (wx.cell? ⟨w.heap.size + 1, 0, none⟩ = some (.slice b.a0 b.n0 b.c0) ∧ wx.cell? ⟨w.heap.size + 1, 1, none⟩ = some (.slice b.a1 b.n1 b.c1) ∧ wx.cell? ⟨w.heap.size + 1, 2, none⟩ = some (.slice b.a2 b.n2 b.c2) ∧ wx.cell? ⟨w.heap.size + 1, 3, none⟩ = some (.slice b.a3 b.n3 b.c3) ∧ wx.cell? ⟨w.heap.size + 1, 4, none⟩ = some (.slice b.a4 b.n4 b.c4)) ∧ (wx.cell? ⟨w3.heap.size, 0, none⟩ = some (.slice c.a0 c.n0 c.c0) ∧ wx.cell? ⟨w3.heap.size, 1, none⟩ = some (.slice c.a1 c.n1 c.c1) ∧ wx.cell? ⟨w3.heap.size, 2, none⟩ = some (.slice c.a2 c.n2 c.c2) ∧ wx.cell? ⟨w3.heap.size, 3, none⟩ = some (.slice c.a3 c.n3 c.c3) ∧ wx.cell? ⟨w3.heap.size, 4, none⟩ = some (.slice c.a4 c.n4 c.c4)) ∧ (wx.cell? ⟨w5.heap.size, 0, none⟩ = some (.slice d.a0 d.n0 d.c0) ∧ wx.cell? ⟨w5.heap.size, 1, none⟩ = some (.slice d.a1 d.n1 d.c1) ∧ wx.cell? ⟨w5.heap.size, 2, none⟩ = some (.slice d.a2 d.n2 d.c2) ∧ wx.cell? ⟨w5.heap.size, 3, none⟩ = some (.slice d.a3 d.n3 d.c3) ∧ wx.cell? ⟨w5.heap.size, 4, none⟩ = some (.slice d.a4 d.n4 d.c4))) ∧ Below w6.heap.size w6 wx) (by kernel_rfl) ?_ (fun hHeld => ?_)
  · exact HSB.out _ (Below.refl _ _).drew
  refine wpAnyH_ready (rs := [0]) (by kernel_rfl) (by simp) (AllReadyH.cons rfl (fun K hK => ?_) AllReadyH.nil)
  go_simp
  refine (live_any _).mono ?_; rintro e wa ⟨rfl, hba⟩
  try (go_wp2_with fail)
  refine hK.out _ _ ?_ (fun hHeld => ?_)
  · exact HSB.out _ (hHeld.2.trans (hba.mono hHeld.2.size))
  clear hK K
  try simp only [Act.put, List.getElem_toArray, List.getElem_cons_succ, List.getElem_cons_zero, List.setIfInBounds_toArray, List.set_cons_zero, List.set_cons_succ]
  refine wpAnyH_take (i := 1) (v := ?_) rfl (by kernel_rfl) (by kernel_rfl) (by kernel_rfl) (fun _ _ _ h => h) (Or.inl ⟨by rfl, ?hy⟩) (by assumption) ?_
  case hy => intro w hSw; (try dsimp only at hSw); go_simp; try with_reducible rfl
  try simp only [Act.put, List.getElem_toArray, List.getElem_cons_succ, List.getElem_cons_zero, List.setIfInBounds_toArray, List.set_cons_zero, List.set_cons_succ]
  refine wpAnyH_take (i := 2) (v := ?_) rfl (by kernel_rfl) (by kernel_rfl) (by kernel_rfl) (fun _ _ _ h => h) (Or.inl ⟨by rfl, ?hy⟩) (by assumption) ?_
  case hy => intro w hSw; (try dsimp only at hSw); go_simp; try with_reducible rfl
  try simp only [Act.put, List.getElem_toArray, List.getElem_cons_succ, List.getElem_cons_zero, List.setIfInBounds_toArray, List.set_cons_zero, List.set_cons_succ]
  refine wpAnyH_take (i := 3) (v := ?_) rfl (by kernel_rfl) (by kernel_rfl) (by kernel_rfl) (fun _ _ _ h => h) (Or.inl ⟨by rfl, ?hy⟩) (by assumption) ?_
  case hy => intro w hSw; (try dsimp only at hSw); go_simp; try with_reducible rfl
  try simp only [Act.put, List.getElem_toArray, List.getElem_cons_succ, List.getElem_cons_zero, List.setIfInBounds_toArray, List.set_cons_zero, List.set_cons_succ]
  refine wpAnyH_take (i := 4) (v := ?_) rfl (by kernel_rfl) (by kernel_rfl) (by kernel_rfl) (fun _ _ _ h => h) (Or.inl ⟨by rfl, ?hy⟩) (by assumption) ?_
  case hy => intro w hSw; (try dsimp only at hSw); go_simp; try with_reducible rfl
  try simp only [Act.put, List.getElem_toArray, List.getElem_cons_succ, List.getElem_cons_zero, List.setIfInBounds_toArray, List.set_cons_zero, List.set_cons_succ]
  refine wpAnyH_ready (rs := [5]) (by kernel_rfl) (by simp) (AllReadyH.cons rfl (fun K hK => ?_) AllReadyH.nil)
  go_simp
  refine (HT1.out _ hHeld.2).mono ?_; rintro e wb ⟨rfl, hba⟩
  try (go_wp2_with fail)
  refine hK.out _ _ ?_ (fun hHeld => ?_)
  · exact HSB.out _ (hHeld.2.trans (hba.mono hHeld.2.size))
  clear hK K
  try simp only [Act.put, List.getElem_toArray, List.getElem_cons_succ, List.getElem_cons_zero, List.setIfInBounds_toArray, List.set_cons_zero, List.set_cons_succ]
  refine wpAnyH_take (i := 6) (v := ?_) rfl (by kernel_rfl) (by kernel_rfl) (by kernel_rfl) (fun _ _ _ h => h) (Or.inl ⟨by rfl, ?hy⟩) (by assumption) ?_
  case hy => intro w hSw; (try dsimp only at hSw); go_simp; try with_reducible rfl
  try simp only [Act.put, List.getElem_toArray, List.getElem_cons_succ, List.getElem_cons_zero, List.setIfInBounds_toArray, List.set_cons_zero, List.set_cons_succ]
  refine wpAnyH_take (i := 7) (v := ?_) rfl (by kernel_rfl) (by kernel_rfl) (by kernel_rfl) (fun _ _ _ h => h) (Or.inl ⟨by rfl, ?hy⟩) (by assumption) ?_
  case hy => intro w hSw; (try dsimp only at hSw); go_simp; try with_reducible rfl
  try simp only [Act.put, List.getElem_toArray, List.getElem_cons_succ, List.getElem_cons_zero, List.setIfInBounds_toArray, List.set_cons_zero, List.set_cons_succ]
  refine wpAnyH_take (i := 8) (v := ?_) rfl (by kernel_rfl) (by kernel_rfl) (by kernel_rfl) (fun _ _ _ h => h) (Or.inl ⟨by rfl, ?hy⟩) (by assumption) ?_
  case hy => intro w hSw; (try dsimp only at hSw); go_simp; try with_reducible rfl
  try simp only [Act.put, List.getElem_toArray, List.getElem_cons_succ, List.getElem_cons_zero, List.setIfInBounds_toArray, List.set_cons_zero, List.set_cons_succ]
  refine wpAnyH_take (i := 9) (v := ?_) rfl (by kernel_rfl) (by kernel_rfl) (by kernel_rfl) (fun _ _ _ h => h) (Or.inl ⟨by rfl, ?hy⟩) (by assumption) ?_
  case hy => intro w hSw; (try dsimp only at hSw); go_simp; try with_reducible rfl
  try simp only [Act.put, List.getElem_toArray, List.getElem_cons_succ, List.getElem_cons_zero, List.setIfInBounds_toArray, List.set_cons_zero, List.set_cons_succ]
  refine wpAnyH_take (i := 10) (v := ?_) rfl (by kernel_rfl) (by kernel_rfl) (by kernel_rfl) (fun _ _ _ h => h) (Or.inl ⟨by rfl, ?hy⟩) (by assumption) ?_
  case hy => intro w hSw; (try dsimp only at hSw); go_simp; try with_reducible rfl
  try simp only [Act.put, List.getElem_toArray, List.getElem_cons_succ, List.getElem_cons_zero, List.setIfInBounds_toArray, List.set_cons_zero, List.set_cons_succ]
  refine wpAnyH_take (i := 11) (v := ?_) rfl (by kernel_rfl) (by kernel_rfl) (by kernel_rfl) (fun _ _ _ h => h) (Or.inl ⟨by rfl, ?hy⟩) (by assumption) ?_
  case hy => intro w hSw; (try dsimp only at hSw); go_simp; try with_reducible rfl
  try simp only [Act.put, List.getElem_toArray, List.getElem_cons_succ, List.getElem_cons_zero, List.setIfInBounds_toArray, List.set_cons_zero, List.set_cons_succ]
  refine wpAnyH_ready (rs := [12]) (by kernel_rfl) (by simp) (AllReadyH.cons rfl (fun K hK => ?_) AllReadyH.nil)
  go_simp
  skip
  try (go_wp2_with fail)
  refine hK.out _ _ ?_ (fun hHeld => ?_)
  · exact HSB.out _ (hHeld.2.alloc hHeld.2.size _)
  clear hK K
  try simp only [Act.put, List.getElem_toArray, List.getElem_cons_succ, List.getElem_cons_zero, List.setIfInBounds_toArray, List.set_cons_zero, List.set_cons_succ]
  refine wpAnyH_ready (rs := [13]) (by kernel_rfl) (by simp) (AllReadyH.cons rfl (fun K hK => ?_) AllReadyH.nil)
  go_simp
  refine (HJR.out _ (H2X.out _ hHeld.2) _ (rows_alloc2 rfl)).mono ?_; rintro e wc ⟨jb, jB, dj, rfl, hoj, hsj, hrj⟩; have hba := hoj.bel; have hdj := hrj (fun _ => False) wc (Off.refl _ _) (fun _ _ hf => hf.elim); have HDJ := Lib.hid hdj; have HSJ := Lib.hid hsj; clear hoj hsj hrj hdj
  try (go_wp2_with fail)
  refine hK.out _ _ ?_ (fun hHeld => ?_)
  · exact HSB.out _ (hHeld.2.trans (hba.mono hHeld.2.size))
  clear hK K
  try simp only [Act.put, List.getElem_toArray, List.getElem_cons_succ, List.getElem_cons_zero, List.setIfInBounds_toArray, List.set_cons_zero, List.set_cons_succ]
  refine wpAnyH_ready (rs := [14]) (by kernel_rfl) (by simp) (AllReadyH.cons rfl (fun K hK => ?_) AllReadyH.nil)
  go_simp
  refine (HT2.out _ hHeld.2 dj HDJ.out HSJ.out).mono ?_; rintro e wd ⟨rfl, hba⟩
  try (go_wp2_with fail)
  refine hK.out _ _ ?_ (fun hHeld => ?_)
  · exact HSB.out _ (hHeld.2.trans (hba.mono hHeld.2.size))
  clear hK K
  try simp only [Act.put, List.getElem_toArray, List.getElem_cons_succ, List.getElem_cons_zero, List.setIfInBounds_toArray, List.set_cons_zero, List.set_cons_succ]
  refine wpAnyH_take (i := 15) (v := ?_) rfl (by kernel_rfl) (by kernel_rfl) (by kernel_rfl) (fun _ _ _ h => h) (Or.inl ⟨by rfl, ?hy⟩) (by assumption) ?_
  case hy => intro w hSw; (try dsimp only at hSw); go_simp; try with_reducible rfl
  try simp only [Act.put, List.getElem_toArray, List.getElem_cons_succ, List.getElem_cons_zero, List.setIfInBounds_toArray, List.set_cons_zero, List.set_cons_succ]
  refine wpAnyH_take (i := 16) (v := ?_) rfl (by kernel_rfl) (by kernel_rfl) (by kernel_rfl) (fun _ _ _ h => h) (Or.inl ⟨by rfl, ?hy⟩) (by assumption) ?_
  case hy => intro w hSw; (try dsimp only at hSw); go_simp; try with_reducible rfl
  try simp only [Act.put, List.getElem_toArray, List.getElem_cons_succ, List.getElem_cons_zero, List.setIfInBounds_toArray, List.set_cons_zero, List.set_cons_succ]
  refine wpAnyH_take (i := 17) (v := ?_) rfl (by kernel_rfl) (by kernel_rfl) (by kernel_rfl) (fun _ _ _ h => h) (Or.inl ⟨by rfl, ?hy⟩) (by assumption) ?_
  case hy => intro w hSw; (try dsimp only at hSw); go_simp; try with_reducible rfl
  try simp only [Act.put, List.getElem_toArray, List.getElem_cons_succ, List.getElem_cons_zero, List.setIfInBounds_toArray, List.set_cons_zero, List.set_cons_succ]
  refine wpAnyH_take (i := 18) (v := ?_) rfl (by kernel_rfl) (by kernel_rfl) (by kernel_rfl) (fun _ _ _ h => h) (Or.inl ⟨by rfl, ?hy⟩) (by assumption) ?_
  case hy => intro w hSw; (try dsimp only at hSw); go_simp; try with_reducible rfl
  try simp only [Act.put, List.getElem_toArray, List.getElem_cons_succ, List.getElem_cons_zero, List.setIfInBounds_toArray, List.set_cons_zero, List.set_cons_succ]
  refine wpAnyH_take (i := 19) (v := ?_) rfl (by kernel_rfl) (by kernel_rfl) (by kernel_rfl) (fun _ _ _ h => h) (Or.inl ⟨by rfl, ?hy⟩) (by assumption) ?_
  case hy => intro w hSw; (try dsimp only at hSw); go_simp; try with_reducible rfl
  try simp only [Act.put, List.getElem_toArray, List.getElem_cons_succ, List.getElem_cons_zero, List.setIfInBounds_toArray, List.set_cons_zero, List.set_cons_succ]
  refine wpAnyH_take (i := 21) (v := ?_) rfl (by kernel_rfl) (by kernel_rfl) (by kernel_rfl) (fun _ _ _ h => h) (Or.inl ⟨by rfl, ?hy⟩) (by assumption) ?_
  case hy => intro w hSw; (try dsimp only at hSw); go_simp; try with_reducible rfl
  try simp only [Act.put, List.getElem_toArray, List.getElem_cons_succ, List.getElem_cons_zero, List.setIfInBounds_toArray, List.set_cons_zero, List.set_cons_succ]
  refine wpAnyH_take (i := 22) (v := ?_) rfl (by kernel_rfl) (by kernel_rfl) (by kernel_rfl) (fun _ _ _ h => h) (Or.inl ⟨by rfl, ?hy⟩) (by assumption) ?_
  case hy => intro w hSw; (try dsimp only at hSw); go_simp; try with_reducible rfl
  try simp only [Act.put, List.getElem_toArray, List.getElem_cons_succ, List.getElem_cons_zero, List.setIfInBounds_toArray, List.set_cons_zero, List.set_cons_succ]
  refine wpAnyH_ready (rs := [20]) (by kernel_rfl) (by simp) (AllReadyH.cons rfl (fun K hK => ?_) AllReadyH.nil)
  go_simp
  refine (HT3.out _ hHeld.2).mono ?_; rintro e we ⟨rfl, hba⟩
  try (go_wp2_with fail)
  refine hK.out _ _ ?_ (fun hHeld => ?_)
  · exact HSB.out _ (hHeld.2.trans (hba.mono hHeld.2.size))
  clear hK K
  try simp only [Act.put, List.getElem_toArray, List.getElem_cons_succ, List.getElem_cons_zero, List.setIfInBounds_toArray, List.set_cons_zero, List.set_cons_succ]
  refine wpAnyH_ready (rs := [23]) (by kernel_rfl) (by simp) (AllReadyH.cons rfl (fun K hK => ?_) AllReadyH.nil)
  go_simp
  refine (HT4.out _ hHeld.2).mono ?_; rintro e wf ⟨rfl, hba⟩
  try (go_wp2_with fail)
  refine hK.out _ _ ?_ (fun hHeld => ?_)
  · exact HSB.out _ (hHeld.2.trans (hba.mono hHeld.2.size))
  clear hK K
  try simp only [Act.put, List.getElem_toArray, List.getElem_cons_succ, List.getElem_cons_zero, List.setIfInBounds_toArray, List.set_cons_zero, List.set_cons_succ]
  refine wpAnyH_take (i := 24) (v := ?_) rfl (by kernel_rfl) (by kernel_rfl) (by kernel_rfl) (fun _ _ _ h => h) (Or.inl ⟨by rfl, ?hy⟩) (by assumption) ?_
  case hy => intro w hSw; (try dsimp only at hSw); go_simp; try with_reducible rfl
  try simp only [Act.put, List.getElem_toArray, List.getElem_cons_succ, List.getElem_cons_zero, List.setIfInBounds_toArray, List.set_cons_zero, List.set_cons_succ]
  refine wpAnyH_take (i := 25) (v := ?_) rfl (by kernel_rfl) (by kernel_rfl) (by kernel_rfl) (fun _ _ _ h => h) (Or.inl ⟨by rfl, ?hy⟩) (by assumption) ?_
  case hy => intro w hSw; (try dsimp only at hSw); go_simp; try with_reducible rfl
  try simp only [Act.put, List.getElem_toArray, List.getElem_cons_succ, List.getElem_cons_zero, List.setIfInBounds_toArray, List.set_cons_zero, List.set_cons_succ]
  refine wpAnyH_take (i := 26) (v := ?_) rfl (by kernel_rfl) (by kernel_rfl) (by kernel_rfl) (fun _ _ _ h => h) (Or.inl ⟨by rfl, ?hy⟩) (by assumption) ?_
  case hy => intro w hSw; (try dsimp only at hSw); go_simp; try with_reducible rfl
  try simp only [Act.put, List.getElem_toArray, List.getElem_cons_succ, List.getElem_cons_zero, List.setIfInBounds_toArray, List.set_cons_zero, List.set_cons_succ]
  refine wpAnyH_take (i := 27) (v := ?_) rfl (by kernel_rfl) (by kernel_rfl) (by kernel_rfl) (fun _ _ _ h => h) (Or.inl ⟨by rfl, ?hy⟩) (by assumption) ?_
  case hy => intro w hSw; (try dsimp only at hSw); go_simp; try with_reducible rfl
  try simp only [Act.put, List.getElem_toArray, List.getElem_cons_succ, List.getElem_cons_zero, List.setIfInBounds_toArray, List.set_cons_zero, List.set_cons_succ]
  refine wpAnyH_take (i := 28) (v := ?_) rfl (by kernel_rfl) (by kernel_rfl) (by kernel_rfl) (fun _ _ _ h => h) (Or.inl ⟨by rfl, ?hy⟩) (by assumption) ?_
  case hy => intro w hSw; (try dsimp only at hSw); go_simp; try with_reducible rfl
  try simp only [Act.put, List.getElem_toArray, List.getElem_cons_succ, List.getElem_cons_zero, List.setIfInBounds_toArray, List.set_cons_zero, List.set_cons_succ]
  refine wpAnyH_ready (rs := [29]) (by kernel_rfl) (by simp) (AllReadyH.cons rfl (fun K hK => ?_) AllReadyH.nil)
  go_simp
  refine (HT5.out _ hHeld.2).mono ?_; rintro e wg ⟨rfl, hba⟩
  try (go_wp2_with fail)
  refine hK.out _ _ ?_ (fun hHeld => ?_)
  · exact HSB.out _ (hHeld.2.trans (hba.mono hHeld.2.size))
  clear hK K
  try simp only [Act.put, List.getElem_toArray, List.getElem_cons_succ, List.getElem_cons_zero, List.setIfInBounds_toArray, List.set_cons_zero, List.set_cons_succ]
  refine wpAnyH_take (i := 30) (v := ?_) rfl (by kernel_rfl) (by kernel_rfl) (by kernel_rfl) (fun _ _ _ h => h) (Or.inl ⟨by rfl, ?hy⟩) (by assumption) ?_
  case hy => intro w hSw; (try dsimp only at hSw); go_simp; try with_reducible rfl
  try simp only [Act.put, List.getElem_toArray, List.getElem_cons_succ, List.getElem_cons_zero, List.setIfInBounds_toArray, List.set_cons_zero, List.set_cons_succ]
  refine wpAnyH_take (i := 31) (v := ?_) rfl (by kernel_rfl) (by kernel_rfl) (by kernel_rfl) (fun _ _ _ h => h) (Or.inl ⟨by rfl, ?hy⟩) (by assumption) ?_
  case hy => intro w hSw; (try dsimp only at hSw); go_simp; try with_reducible rfl
  try simp only [Act.put, List.getElem_toArray, List.getElem_cons_succ, List.getElem_cons_zero, List.setIfInBounds_toArray, List.set_cons_zero, List.set_cons_succ]
  refine wpAnyH_take (i := 32) (v := ?_) rfl (by kernel_rfl) (by kernel_rfl) (by kernel_rfl) (fun _ _ _ h => h) (Or.inl ⟨by rfl, ?hy⟩) (by assumption) ?_
  case hy => intro w hSw; (try dsimp only at hSw); go_simp; try with_reducible rfl
  try simp only [Act.put, List.getElem_toArray, List.getElem_cons_succ, List.getElem_cons_zero, List.setIfInBounds_toArray, List.set_cons_zero, List.set_cons_succ]
  refine wpAnyH_take (i := 33) (v := ?_) rfl (by kernel_rfl) (by kernel_rfl) (by kernel_rfl) (fun _ _ _ h => h) (Or.inl ⟨by rfl, ?hy⟩) (by assumption) ?_
  case hy => intro w hSw; (try dsimp only at hSw); go_simp; try with_reducible rfl
  try simp only [Act.put, List.getElem_toArray, List.getElem_cons_succ, List.getElem_cons_zero, List.setIfInBounds_toArray, List.set_cons_zero, List.set_cons_succ]
  refine wpAnyH_take (i := 35) (v := ?_) rfl (by kernel_rfl) (by kernel_rfl) (by kernel_rfl) (fun _ _ _ h => h) (Or.inl ⟨by rfl, ?hy⟩) (by assumption) ?_
  case hy => intro w hSw; (try dsimp only at hSw); go_simp; try with_reducible rfl
  try simp only [Act.put, List.getElem_toArray, List.getElem_cons_succ, List.getElem_cons_zero, List.setIfInBounds_toArray, List.set_cons_zero, List.set_cons_succ]
  refine wpAnyH_ready (rs := [34]) (by kernel_rfl) (by simp) (AllReadyH.cons rfl (fun K hK => ?_) AllReadyH.nil)
  go_simp
  refine (HRP.out _ (H2X.out _ hHeld.2)).mono ?_; rintro e wh ⟨v1, rfl, hv1, hba⟩
  try (go_wp2_with fail)
  refine hK.out _ _ ?_ (fun hHeld => ?_)
  · exact HSB.out _ (hHeld.2.trans (hba.mono hHeld.2.size))
  clear hK K
  try simp only [Act.put, List.getElem_toArray, List.getElem_cons_succ, List.getElem_cons_zero, List.setIfInBounds_toArray, List.set_cons_zero, List.set_cons_succ]
  refine wpAnyH_ready (rs := [36]) (by kernel_rfl) (by simp) (AllReadyH.cons rfl (fun K hK => ?_) AllReadyH.nil)
  go_simp
  refine (HRR.out _ (H2X.out _ hHeld.2)).mono ?_; rintro e wi ⟨v2, rfl, hv2, hba⟩; have hv3 := rm_keptM hv1 hba
  try (go_wp2_with fail)
  refine hK.out _ _ ?_ (fun hHeld => ?_)
  · exact HSB.out _ (hHeld.2.trans (hba.mono hHeld.2.size))
  clear hK K
  try simp only [Act.put, List.getElem_toArray, List.getElem_cons_succ, List.getElem_cons_zero, List.setIfInBounds_toArray, List.set_cons_zero, List.set_cons_succ]
  refine wpAnyH_ready (rs := [37]) (by kernel_rfl) (by simp) (AllReadyH.cons rfl (fun K hK => ?_) AllReadyH.nil)
  go_simp
  obtain ⟨na, nc, rfl⟩ := own_sliceO hv3; obtain ⟨ma, mc, rfl⟩ := own_sliceO hv2; obtain ⟨l1, _, l2⟩ := texts_own hv3; obtain ⟨k1, _, k2⟩ := texts_own hv2; refine (sametexts_any na ma _ _ nc mc (ded (allR a)) l1 k1 (by have := ded_len (allR a); have := HNM.out; omega) l2 k2).mono ?_; rintro e wj ⟨rfl, hba⟩; clear l1 l2 k1 k2 hv3 hv2 hv1
  try (go_wp2_with fail)
  refine hK.out _ _ ?_ (fun hHeld => ?_)
  · exact HSB.out _ (hHeld.2.trans (hba.mono hHeld.2.size))
  clear hK K
  try simp only [Act.put, List.getElem_toArray, List.getElem_cons_succ, List.getElem_cons_zero, List.setIfInBounds_toArray, List.set_cons_zero, List.set_cons_succ]
  refine wpAnyH_take (i := 38) (v := ?_) rfl (by kernel_rfl) (by kernel_rfl) (by kernel_rfl) (fun _ _ _ h => h) (Or.inl ⟨by rfl, ?hy⟩) (by assumption) ?_
  case hy => intro w hSw; (try dsimp only at hSw); go_simp; try with_reducible rfl
  try simp only [Act.put, List.getElem_toArray, List.getElem_cons_succ, List.getElem_cons_zero, List.setIfInBounds_toArray, List.set_cons_zero, List.set_cons_succ]
  refine wpAnyH_take (i := 39) (v := ?_) rfl (by kernel_rfl) (by kernel_rfl) (by kernel_rfl) (fun _ _ _ h => h) (Or.inl ⟨by rfl, ?hy⟩) (by assumption) ?_
  case hy => intro w hSw; (try dsimp only at hSw); go_simp; try with_reducible rfl
  try simp only [Act.put, List.getElem_toArray, List.getElem_cons_succ, List.getElem_cons_zero, List.setIfInBounds_toArray, List.set_cons_zero, List.set_cons_succ]
  refine wpAnyH_done (by kernel_rfl) ?_ _
  refine NoPanic.normal ?_
  have HHJ := Lib.hid hHeld
  obtain ⟨⟨⟨x0, x1, x2, x3, x4⟩, -⟩, -⟩ := hHeld
  have H6J := Lib.hid HHJ.out.2
  clear HHJ HT1 HT2 HT3 HT4 HT5 HRP HRR HDJ HSJ HNM HJP HJR HCP HSB
  go_wp2_with (fail)
  refine (HCR.out _ (H2X.out _ H6J.out)).mono ?_
  rintro e w8 ⟨wb, wB, was, rfl, how, hsw, hrw⟩
  clear x0 x1 x2 x3 x4
  obtain ⟨w9, hw9⟩ : ∃ w9, w8.alloc (.cells #[.slice was.a0 was.n0 was.c0, .slice was.a1 was.n1 was.c1, .slice was.a2 was.n2 was.c2, .slice was.a3 was.n3 was.c3, .slice was.a4 was.n4 was.c4] 28) = w9 := ⟨_, rfl⟩
  have h89 : Below w8.heap.size w8 w9 := by rw [← hw9]; exact (Below.refl _ _).alloc (Nat.le_refl _) _
  have z9 : w9.heap.size = w8.heap.size + 1 := by rw [← hw9]; simp
  have gW : w9.heap[w8.heap.size]? = some (.cells #[.slice was.a0 was.n0 was.c0, .slice was.a1 was.n1 was.c1, .slice was.a2 was.n2 was.c2, .slice was.a3 was.n3 was.c3, .slice was.a4 was.n4 was.c4] 28) := by rw [← hw9, get_allocC, if_pos rfl]
  have hj9 : Below wj.heap.size wj w9 := how.bel.trans (h89.mono how.bel.size)
  have h69 : Below w6.heap.size w6 w9 := H6J.out.trans (hj9.mono H6J.out.size)
  have h39 : Below w3.heap.size w3 w9 := H36.out.trans (h69.mono H36.out.size)
  have h59 : Below w5.heap.size w5 w9 := H56.out.trans (h69.mono H56.out.size)
  have h29 : Below W2.heap.size W2 w9 := H2X.out w9 h69
  have hlo3 : W2.heap.size ≤ cb := by have h1 := HOC.out.bb; have h2 := HOC.out.b1; omega
  have hlo5 : W2.heap.size ≤ db := by have h1 := HDB.out.1; have h2 := H4.out.size; omega
  have hwb : wj.heap.size ≤ wb := by have h1 := how.bb; have h2 := how.b1; omega
  have hhi3 : w3.heap.size ≤ wb := by have h1 := H36.out.size; have h2 := H6J.out.size; omega
  have hhi5 : w5.heap.size ≤ wb := by have h1 := H56.out.size; have h2 := H6J.out.size; omega
  have hc9 := HC.out w9 h69
  have hd9 := HD.out w9 h69
  have HC9 := Lib.hid hc9
  have HD9 := Lib.hid hd9
  have cn0 : c.n0 ≤ 1172812402926 := by have := hc9.s0; omega
  have cn2 : c.n2 ≤ 2199023255488 := by have := hc9.s2; omega
  have dn1 : d.n1 ≤ 2199023255488 := by have := hd9.s1; omega
  have dn4 : d.n4 ≤ 2932031007317 := by have := hd9.s4; omega
  have HF := Lib.hid (own_cell (own_n HOC.out.r0 hc9.l0) h39 hlo3 hhi3)
  have HH := Lib.hid (own_cell (own_n HOC.out.r2 hc9.l2) h39 hlo3 hhi3)
  have HI := Lib.hid (fun y (hy : y ∈ c.ho) => own_cell (HOC.out.oh y hy).row h39 hlo3 hhi3)
  have HU := Lib.hid (own_cell (own_n HOD.out.r4 hd9.l4) h59 hlo5 hhi5)
  have HO := Lib.hid (fun y (hy : y ∈ d.au) => own_cell (HOD.out.oa y hy).row h59 hlo5 hhi5)
  have HK := Lib.hid (own_cell (own_n HOD.out.r1 hd9.l1) h59 hlo5 hhi5)
  have HXC9 : Hid (∀ wr, Shp w9 W2.heap.size wb wr → BoxR wr w3.heap.size c) := fun wr h => boxR_of (h.keep ((h69.block _ (by have h1 := H36.out.size; have h2 := Z4.out; have h3 := HB45.out.size; have h4 := Z6.out; omega)).trans GC6.out) rfl)
  have HXD9 : Hid (∀ wr, Shp w9 W2.heap.size wb wr → BoxR wr w5.heap.size d) := fun wr h => boxR_of (h.keep ((h69.block _ (by have h4 := Z6.out; omega)).trans GD.out) rfl)
  have HXW9 : Hid (∀ wr, Shp w9 W2.heap.size wb wr → BoxR wr w8.heap.size was) := fun wr h => boxR_of (h.keep gW rfl)
  have H2R : Hid (∀ wr, Shp w9 W2.heap.size wb wr → Below W2.heap.size W2 wr) := fun wr h => h.below h29 h29.size
  have HWS : Hid (∀ wr, Shp w9 W2.heap.size wb wr → RulesAt wr was) := fun wr h => hrw (fun k => W2.heap.size ≤ k ∧ k < wb) wr
    ⟨h.off.os.trans h89.os, h.off.tape.trans h89.tape, h.off.output.trans h89.output, Nat.le_trans h89.size h.off.size, fun k hk hn => (h.off.block k (by omega) hn).trans (h89.block k hk)⟩ (fun k _ hk => hk.2)
  have HSW := Lib.hid hsw
  have HSH : Hid (Shp w9 W2.heap.size wb w9) := Lib.hid (Shp.refl _ _ _)
  clear h89 z9 gW hj9 h69 h39 h59 h29 hlo3 hlo5 hwb hhi3 hhi5 hc9 hd9 how hsw hrw HCR HOC HOD HRC HRD
  go_wp2_with (fail)
  try simp only [hw9]
  go_loopw [8] (fun s wr => ∃ k : Nat, k ≤ c.n0 ∧ s = .int .i64 k ∧ Hid (Shp w9 W2.heap.size wb wr)) (fun s _ => c.n0 - (intOf s).toNat)
  case atStart => exact ⟨0, Nat.zero_le _, rfl, HSH⟩
  case round =>
    rename World => wr
    obtain ⟨k, hk, rfl, HS⟩ := hrel
    obtain ⟨e0, e1, e2, e3, e4⟩ := HXC9.out wr HS.out
    by_cases hlt : k < c.n0
    · have k0 : (0 : Int) ≤ k := by omega
      have k1 : (k : Int) < c.n0 := by omega
      obtain ⟨g, off, cur, hga, hg1, hg2, hg3, hg4⟩ := HF.out k 3 hlt (by decide)
      obtain ⟨u, cu, fu⟩ := HS.out.cell hg3 hg4
      have HN := Lib.hid (HS.out.set (k := off + k * 12 + 3) (v := .int .i64 (-9)) hg3 rfl hg1 hg2)
      rw [hga] at e0
      clear hga hg1 hg2 hg3 hg4
      go_wp2_with (fail)
      exact ⟨⟨k + 1, by omega, by go_num, HN⟩, by first | (simp [intOf]; done) | (simp [intOf]; omega)⟩
    · go_wp2_with (fail)
      clear hlt e0 e1 e2 e3 e4
      go_loopw [9, 10] (fun s _ wr => ∃ k : Nat, k ≤ c.n2 ∧ s = .int .i64 k ∧ Hid (Shp w9 W2.heap.size wb wr)) (fun s _ _ => c.n2 - (intOf s).toNat)
      case atStart => exact ⟨0, Nat.zero_le _, rfl, HS⟩
      case round =>
        rename World => wr
        clear hk HS
        obtain ⟨k, hk, rfl, HS⟩ := hrel
        obtain ⟨e0, e1, e2, e3, e4⟩ := HXC9.out wr HS.out
        by_cases hlt : k < c.n2
        · have k0 : (0 : Int) ≤ k := by omega
          have k1 : (k : Int) < c.n2 := by omega
          obtain ⟨y, hy⟩ : ∃ y, c.ho[k]? = some y := ⟨_, List.getElem?_eq_getElem (by rw [HC9.out.l2]; exact hlt)⟩
          obtain ⟨g, off, cur, hga, hg1, hg2, hg3, hg4⟩ := HH.out k 4 hlt (by decide)
          have HIT : Hid (∀ wx, Shp w9 W2.heap.size wb wx → wx.cell? ⟨g, off + k * 5 + 4, none⟩ = some (.slice y.ia y.il y.ic)) := fun wx hS => shp_row hS HC9.out.ho (k := 4) hy hga hg3 rfl (by decide) rfl
          have HIX : Hid (∀ wx, Shp w9 W2.heap.size wb wx → wx.cell? ⟨w3.heap.size, 2, none⟩ = some (.slice (some ⟨g, off, none⟩) c.n2 c.c2)) := fun wx hS => by rw [← hga]; exact (HXC9.out wx hS).2.2.1
          have HIC := Lib.hid (HI.out y (List.mem_of_getElem? hy))
          have il : y.il ≤ 5864062014805 := by have := (HC9.out.zh y (List.mem_of_getElem? hy)).b; omega
          clear e0 e1 e2 e3 e4 hy hga hg1 hg2 hg3 hg4
          have e2 := HIX.out wr HS.out
          go_wp2_with (fail)
          clear e2
          go_loopw [10] (fun s wr => ∃ j : Nat, j ≤ y.il ∧ s = .int .i64 j ∧ Hid (Shp w9 W2.heap.size wb wr)) (fun s _ => y.il - (intOf s).toNat)
          case atStart => exact ⟨0, Nat.zero_le _, rfl, HS⟩
          case round =>
            rename World => wz
            clear HS
            obtain ⟨j, hj, rfl, HS⟩ := hrel
            have e2 := HIX.out wz HS.out
            have i4 := HIT.out wz HS.out
            by_cases hlj : j < y.il
            · have j0 : (0 : Int) ≤ j := by omega
              have j1 : (j : Int) < y.il := by omega
              obtain ⟨g', off', cur', hga', hg1', hg2', hg3', hg4'⟩ := HIC.out j 1 hlj (by decide)
              obtain ⟨u, cu, fu⟩ := HS.out.cell hg3' hg4'
              have HN := Lib.hid (HS.out.set (k := off' + j * 2 + 1) (v := .int .i64 (-9)) hg3' rfl hg1' hg2')
              rw [hga'] at i4
              clear hga' hg1' hg2' hg3' hg4'
              go_wp2_with (fail)
              exact ⟨⟨j + 1, by omega, by go_num, HN⟩, by first | (simp [intOf]; done) | (simp [intOf]; omega)⟩
            · go_wp2_with (fail)
              exact ⟨⟨k + 1, by omega, by go_num, HS⟩, by first | (simp [intOf]; done) | (simp [intOf]; omega)⟩
        · go_wp2_with (fail)
          clear hlt hk HF HH HI HXC9 cn0 HC9 e0 e1 e2 e3 e4
          go_loopw [11, 12] (fun s _ wr => ∃ k : Nat, k ≤ d.n4 ∧ s = .int .i64 k ∧ Hid (Shp w9 W2.heap.size wb wr)) (fun s _ _ => d.n4 - (intOf s).toNat)
          case atStart => exact ⟨0, Nat.zero_le _, rfl, HS⟩
          case round =>
            rename World => wr
            clear HS
            obtain ⟨k, hk, rfl, HS⟩ := hrel
            obtain ⟨e0, e1, e2, e3, e4⟩ := HXD9.out wr HS.out
            by_cases hlt : k < d.n4
            · have k0 : (0 : Int) ≤ k := by omega
              have k1 : (k : Int) < d.n4 := by omega
              obtain ⟨y, hy⟩ : ∃ y, d.au[k]? = some y := ⟨_, List.getElem?_eq_getElem (by rw [HD9.out.l4]; exact hlt)⟩
              obtain ⟨g, off, cur, hga, hg1, hg2, hg3, hg4⟩ := HU.out k 2 hlt (by decide)
              have HIT : Hid (∀ wx, Shp w9 W2.heap.size wb wx → wx.cell? ⟨g, off + k * 3 + 2, none⟩ = some (.slice y.oa y.ol y.oc)) := fun wx hS => shp_row hS HD9.out.au (k := 2) hy hga hg3 rfl (by decide) rfl
              have HIX : Hid (∀ wx, Shp w9 W2.heap.size wb wx → wx.cell? ⟨w5.heap.size, 4, none⟩ = some (.slice (some ⟨g, off, none⟩) d.n4 d.c4)) := fun wx hS => by rw [← hga]; exact (HXD9.out wx hS).2.2.2.2
              have HIC := Lib.hid (HO.out y (List.mem_of_getElem? hy))
              have il : y.ol ≤ 8796093022207 := by have := (HD9.out.za y (List.mem_of_getElem? hy)).b; omega
              clear e0 e1 e2 e3 e4 hy hga hg1 hg2 hg3 hg4
              have e4 := HIX.out wr HS.out
              go_wp2_with (fail)
              clear e4
              go_loopw [12] (fun s wr => ∃ j : Nat, j ≤ y.ol ∧ s = .int .i64 j ∧ Hid (Shp w9 W2.heap.size wb wr)) (fun s _ => y.ol - (intOf s).toNat)
              case atStart => exact ⟨0, Nat.zero_le _, rfl, HS⟩
              case round =>
                rename World => wz
                clear HS
                obtain ⟨j, hj, rfl, HS⟩ := hrel
                have e4 := HIX.out wz HS.out
                have i4 := HIT.out wz HS.out
                by_cases hlj : j < y.ol
                · have j0 : (0 : Int) ≤ j := by omega
                  have j1 : (j : Int) < y.ol := by omega
                  obtain ⟨g', off', cur', hga', hg1', hg2', hg3', hg4'⟩ := HIC.out j 0 hlj (by decide)
                  rw [Nat.mul_one, Nat.add_zero] at hg4'
                  obtain ⟨u, cu, fu⟩ := HS.out.cell hg3' hg4'
                  have HN := Lib.hid (HS.out.set (k := off' + j) (v := .string ⟨#[63]⟩) hg3' rfl hg1' hg2')
                  rw [hga'] at i4
                  clear hga' hg1' hg2' hg3' hg4'
                  go_wp2_with (fail)
                  exact ⟨⟨j + 1, by omega, by go_num, HN⟩, by first | (simp [intOf]; done) | (simp [intOf]; omega)⟩
                · go_wp2_with (fail)
                  exact ⟨⟨k + 1, by omega, by go_num, HS⟩, by first | (simp [intOf]; done) | (simp [intOf]; omega)⟩
            · go_wp2_with (fail)
              clear hlt hk HU HO e0 e1 e2 e3 e4
              go_loopw [13] (fun s wr => ∃ k : Nat, k ≤ d.n1 ∧ s = .int .i64 k ∧ Hid (Shp w9 W2.heap.size wb wr)) (fun s _ => d.n1 - (intOf s).toNat)
              case atStart => exact ⟨0, Nat.zero_le _, rfl, HS⟩
              case round =>
                rename World => wr
                clear HS
                obtain ⟨k, hk, rfl, HS⟩ := hrel
                obtain ⟨e0, e1, e2, e3, e4⟩ := HXD9.out wr HS.out
                by_cases hlt : k < d.n1
                · have k0 : (0 : Int) ≤ k := by omega
                  have k1 : (k : Int) < d.n1 := by omega
                  obtain ⟨g, off, cur, hga, hg1, hg2, hg3, hg4⟩ := HK.out k 2 hlt (by decide)
                  obtain ⟨u, cu, fu⟩ := HS.out.cell hg3 hg4
                  have HN := Lib.hid (HS.out.set (k := off + k * 7 + 2) (v := .int .i64 (-9)) hg3 rfl hg1 hg2)
                  rw [hga] at e1
                  clear hga hg1 hg2 hg3 hg4
                  go_wp2_with (fail)
                  exact ⟨⟨k + 1, by omega, by go_num, HN⟩, by first | (simp [intOf]; done) | (simp [intOf]; omega)⟩
                · obtain ⟨x0, x1, x2, x3, x4⟩ := HXA.out wr (H2R.out wr HS.out)
                  obtain ⟨y0, y1, y2, y3, y4⟩ := HXW9.out wr HS.out
                  have HSA := Lib.hid ((r7same_any was a (HWS.out wr HS.out) (HA.out wr (H2R.out wr HS.out))).mono fun e w' t => t.yes HSW.out.one)
                  have HBE := Lib.hid (HB2.out.trans ((H2R.out wr HS.out).mono HB2.out.size))
                  unfold RulesS.cs at HSA
                  clear HS
                  go_wp2_with (fail)
                  refine HSA.out.mono ?_
                  rintro e wl ⟨rfl, hbl⟩
                  have HBL := Lib.hid (HBE.out.trans (hbl.mono HBE.out.size))
                  clear hbl
                  go_wp2_with (fail)
                  go_ret
                  exact ⟨rfl, HBL.out⟩
end Go.Proofs.Ytgkdpkpiejjfmaa
