/- The laws of the layer rules: RulesMany. -/
import Derived.Test.YtpgjaaekpaeajaaRJoin
import Derived.Test.YtpgjaaekpaeajaaRWhere
namespace Go.Proofs.Ytpgjaaekpaeajaa
open Go.RowKit
set_option linter.unusedVariables false
set_option linter.unusedSimpArgs false

/-- Rules in a cell of five, small enough to be joined with others. -/
def noR : RulesS := ⟨none, 0, 0, none, 0, 0, none, 0, 0, none, 0, 0, none, 0, 0, [], [], [], [], []⟩
theorem noR_at (w : World) : RulesAt w noR :=
  ⟨rfl, rfl, rfl, rfl, rfl, by decide, by decide, by decide, by decide, by decide, fun _ => ⟨rfl, rfl⟩, fun _ => ⟨rfl, rfl⟩, fun _ => ⟨rfl, rfl⟩, fun _ => ⟨rfl, rfl⟩, fun _ => ⟨rfl, rfl⟩, Or.inl rfl, Or.inl rfl, Or.inl rfl, Or.inl rfl, Or.inl rfl, by simp [noR], by simp [noR], by simp [noR], by simp [noR], by simp [noR], by simp [noR]⟩
def sumR (r : RulesS) : Nat := r.n0 + r.n1 + r.n2 + r.n3 + r.n4
theorem rows_two {w : World} {x y : RulesS} {g : Nat} (h : w.heap[g]? = some (.cells #[.slice x.a0 x.n0 x.c0, .slice x.a1 x.n1 x.c1, .slice x.a2 x.n2 x.c2, .slice x.a3 x.n3 x.c3, .slice x.a4 x.n4 x.c4, .slice y.a0 y.n0 y.c0, .slice y.a1 y.n1 y.c1, .slice y.a2 y.n2 y.c2, .slice y.a3 y.n3 y.c3, .slice y.a4 y.n4 y.c4] 28)) : RowsAt w (some ⟨g, 0, none⟩) 5 ([x, y].map fun r => r.cs.toList) := by
  refine Or.inr ⟨g, 0, rfl, (Array.getElem?_eq_some_iff.1 h).1, fun j r hj k u hk hu => ?_⟩
  simp only [World.cell?, h]
  match j with
  | 0 =>
    obtain rfl : x.cs.toList = r := by simpa using hj
    match k, hk with
    | 0, _ => exact hu
    | 1, _ => exact hu
    | 2, _ => exact hu
    | 3, _ => exact hu
    | 4, _ => exact hu
  | 1 =>
    obtain rfl : y.cs.toList = r := by simpa using hj
    match k, hk with
    | 0, _ => exact hu
    | 1, _ => exact hu
    | 2, _ => exact hu
    | 3, _ => exact hu
    | 4, _ => exact hu
  | j + 2 => simp at hj
/-- Two rules can be joined: one of them is none, or both are few. -/
theorem join_two {w : World} {x y : RulesS} (hx : RulesAt w x) (hy : RulesAt w y) (hs : x = noR ∨ (sumR x ≤ 700 ∧ sumR y ≤ 700)) (g c : Nat) (h : w.heap[g]? = some (.cells #[.slice x.a0 x.n0 x.c0, .slice x.a1 x.n1 x.c1, .slice x.a2 x.n2 x.c2, .slice x.a3 x.n3 x.c3, .slice x.a4 x.n4 x.c4, .slice y.a0 y.n0 y.c0, .slice y.a1 y.n1 y.c1, .slice y.a2 y.n2 y.c2, .slice y.a3 y.n3 y.c3, .slice y.a4 y.n4 y.c4] 28)) :
    Calls Try.prog 8 #[.slice (some ⟨g, 0, none⟩) 2 c] w fun e w' => ∃ r', e = .returned r'.v ∧ (∀ w2, Off (fun k => k < w.heap.size) w' w2 → RulesAt w2 r') ∧ sumR r' = sumR x + sumR y ∧ Below w.heap.size w w' := by
  have hl : ∀ (k : Nat) (b : Nat), (x = noR → True) → True := fun _ _ _ => trivial
  have lx := And.intro hx.l0 (And.intro hx.l1 (And.intro hx.l2 (And.intro hx.l3 hx.l4)))
  have ly := And.intro hy.l0 (And.intro hy.l1 (And.intro hy.l2 (And.intro hy.l3 hy.l4)))
  have sx := And.intro hx.s0 (And.intro hx.s1 (And.intro hx.s2 (And.intro hx.s3 hx.s4)))
  have sy := And.intro hy.s0 (And.intro hy.s1 (And.intro hy.s2 (And.intro hy.s3 hy.s4)))
  have hz : (x.n0 + y.n0) * 120 ≤ 140737488351232 ∧ (x.n1 + y.n1) * 64 ≤ 140737488351232 ∧ (x.n2 + y.n2) * 64 ≤ 140737488351232 ∧ (x.n3 + y.n3) * 40 ≤ 140737488351232 ∧ (x.n4 + y.n4) * 48 ≤ 140737488351232 := by
    rcases hs with h | ⟨h1, h2⟩
    · subst h
      simp only [noR, Nat.zero_add]
      exact sy
    · unfold sumR at h1 h2; omega
  refine (rjoin_any (w := w) (ls := [x, y]) (some ⟨g, 0, none⟩) 2 c rfl (by omega) (rows_two h) (by intro r hr; rcases List.mem_cons.1 hr with rfl | hr; (· exact hx); (· obtain rfl := List.mem_singleton.1 hr; exact hy)) ?_ ?_ ?_ ?_ ?_).mono ?_
  · simp [lx.1, ly.1]; omega
  · simp [lx.2.1, ly.2.1]; omega
  · simp [lx.2.2.1, ly.2.2.1]; omega
  · simp [lx.2.2.2.1, ly.2.2.2.1]; omega
  · simp [lx.2.2.2.2, ly.2.2.2.2]; omega
  · rintro e w' ⟨base, B, v0, v1, v2, v3, v4, ho, au, rfl, hj, h1, h2⟩
    have hho := len_core h1
    have hau := len_coreA h2
    simp only [List.flatMap_cons, List.flatMap_nil, List.append_nil, List.length_append] at hho hau hj
    obtain ⟨r', ⟨hv, e0, e1, e2, e3, e4⟩, hrr⟩ := hj.rules (by rw [List.length_append, lx.1, ly.1]; exact hz.1) (by rw [List.length_append, lx.2.1, ly.2.1]; exact hz.2.1) (by rw [hho, lx.2.2.1, ly.2.2.1]; exact hz.2.2.1) (by rw [List.length_append, lx.2.2.2.1, ly.2.2.2.1]; exact hz.2.2.2.1) (by rw [hau, lx.2.2.2.2, ly.2.2.2.2]; exact hz.2.2.2.2)
      (fun f hf => by rcases List.mem_append.1 hf with hf | hf; (· exact hx.zf f hf); (· exact hy.zf f hf)) (fun f hf => by rcases List.mem_append.1 hf with hf | hf; (· exact hx.zb f hf); (· exact hy.zb f hf)) (fun f hf => by rcases List.mem_append.1 hf with hf | hf; (· exact hx.wf f hf); (· exact hy.wf f hf)) (fun f hf => by rcases List.mem_append.1 hf with hf | hf; (· exact hx.wb f hf); (· exact hy.wb f hf))
    have hr' := hrr (fun _ => False) w' (Off.refl _ _) (fun _ _ h => h.elim)
    refine ⟨r', by rw [hv], fun w2 ho => hrr _ w2 ho (fun k _ hk => by have := hj.bb; have := hj.b1; omega), ?_, hj.bel⟩
    unfold sumR
    rw [← hr'.l0, ← hr'.l1, ← hr'.l2, ← hr'.l3, ← hr'.l4, e0, e1, e2, e3, e4, List.length_append, List.length_append, List.length_append, hho, hau, lx.1, ly.1, lx.2.1, ly.2.1, lx.2.2.1, ly.2.2.1, lx.2.2.2.1, ly.2.2.2.1, lx.2.2.2.2, ly.2.2.2.2]
    omega

theorem many_cells {w : World} {g : Nat} {x : RulesS} (h : w.heap[g]? = some (boxR x)) : w.cell? ⟨g, 0, none⟩ = some (.slice x.a0 x.n0 x.c0) ∧ w.cell? ⟨g, 1, none⟩ = some (.slice x.a1 x.n1 x.c1) ∧ w.cell? ⟨g, 2, none⟩ = some (.slice x.a2 x.n2 x.c2) ∧ w.cell? ⟨g, 3, none⟩ = some (.slice x.a3 x.n3 x.c3) ∧ w.cell? ⟨g, 4, none⟩ = some (.slice x.a4 x.n4 x.c4) := by
  unfold boxR at h
  simp only [World.cell?, h]
  exact ⟨rfl, rfl, rfl, rfl, rfl⟩
theorem many_froz {w : World} {g : Nat} {x : RulesS} (h : w.heap[g]? = some (boxR x)) (k : Nat) : w.frozen? ⟨g, k, none⟩ = false := by
  unfold boxR at h
  simp [World.frozen?, h]
theorem many_set {w : World} {g : Nat} {x y : RulesS} (h : w.heap[g]? = some (boxR x)) : (((((w.setCell ⟨g, 0, none⟩ (.slice y.a0 y.n0 y.c0)).setCell ⟨g, 1, none⟩ (.slice y.a1 y.n1 y.c1)).setCell ⟨g, 2, none⟩ (.slice y.a2 y.n2 y.c2)).setCell ⟨g, 3, none⟩ (.slice y.a3 y.n3 y.c3)).setCell ⟨g, 4, none⟩ (.slice y.a4 y.n4 y.c4)).heap[g]? = some (boxR y) := by
  unfold boxR at h
  have h1 := heap_setCell_same w g 0 _ _ (.slice y.a0 y.n0 y.c0) h
  have h2 := heap_setCell_same _ g 1 _ _ (.slice y.a1 y.n1 y.c1) h1
  have h3 := heap_setCell_same _ g 2 _ _ (.slice y.a2 y.n2 y.c2) h2
  have h4 := heap_setCell_same _ g 3 _ _ (.slice y.a3 y.n3 y.c3) h3
  exact heap_setCell_same _ g 4 _ _ (.slice y.a4 y.n4 y.c4) h4
theorem off_set5 {w : World} {g : Nat} {a b c d e : Value} : Off (fun k => k = g) w (((((w.setCell ⟨g, 0, none⟩ a).setCell ⟨g, 1, none⟩ b).setCell ⟨g, 2, none⟩ c).setCell ⟨g, 3, none⟩ d).setCell ⟨g, 4, none⟩ e) :=
  (((((Off.refl (fun k => k = g) w).setCell (S := fun k => k = g) (p := ⟨g, 0, none⟩) (fun _ => rfl) a).setCell (S := fun k => k = g) (p := ⟨g, 1, none⟩) (fun _ => rfl) b).setCell (S := fun k => k = g) (p := ⟨g, 2, none⟩) (fun _ => rfl) c).setCell (S := fun k => k = g) (p := ⟨g, 3, none⟩) (fun _ => rfl) d).setCell (S := fun k => k = g) (p := ⟨g, 4, none⟩) (fun _ => rfl) e

/-- What lies in memory between two joins. -/
structure ManyI (w : World) (r x : RulesS) (wr : World) : Prop where
  bel : Below (w.heap.size + 1) (w.alloc (boxR r)) wr
  at_ : RulesAt wr x
  box : wr.heap[w.heap.size + 1]? = some (boxR x)
theorem ManyI.old {w : World} {r x : RulesS} {wr : World} (h : ManyI w r x wr) : Below w.heap.size w wr := ((Below.refl _ _).alloc (Nat.le_refl _) _).trans (h.bel.mono (Nat.le_succ _))
theorem ManyI.own {w : World} {r x : RulesS} {wr : World} (h : ManyI w r x wr) : wr.heap[w.heap.size]? = some (boxR r) := (h.bel.block _ (Nat.lt_succ_self _)).trans (by rw [get_allocB, if_pos rfl])
theorem ManyI.lt {w : World} {r x : RulesS} {wr : World} (h : ManyI w r x wr) : w.heap.size + 1 < wr.heap.size := (Array.getElem?_eq_some_iff.1 h.box).1

set_option maxHeartbeats 12800000 in
set_option maxRecDepth 100000 in
theorem rulesmany_law {w : World} (r : RulesS) (hr : RulesAt w r) (n : Int) (wn : (Lit.int .u16 n).wf = true) :
    Calls Try.prog 3 #[r.v, .int .u16 n] w fun e w' => e = .returned (.bool true) ∧ Below w.heap.size w w' := by
  have hu : 0 ≤ n := by
    simp [Lit.wf] at wn
    have : IntKind.u16.min = 0 := by decide
    omega
  have hu2 : n ≤ 65535 := by
    simp [Lit.wf] at wn
    have : IntKind.u16.max = 65535 := by decide
    omega
  have hv : r.v = .agg #[.slice r.a0 r.n0 r.c0, .slice r.a1 r.n1 r.c1, .slice r.a2 r.n2 r.c2, .slice r.a3 r.n3 r.c3, .slice r.a4 r.n4 r.c4] := rfl
  have HR := Lib.hid hr
  have HLV := Lib.hid (fun (w : World) => live_any w)
  have HST : Hid (ManyI w r noR ((w.alloc (boxR r)).alloc (boxR noR))) := ⟨(Below.refl _ _).alloc (by simp) _, noR_at _, by rw [get_allocB, if_pos (by simp)]⟩
  rw [hv]
  obtain ⟨m, hm⟩ : ∃ m : Nat, IntKind.i64.wrap (n.tmod 300) = m ∧ n.tmod 300 = m ∧ m ≤ 300 := ⟨(n.tmod 300).toNat, by
    have h1 : n.tmod 300 = n % 300 := Int.tmod_eq_emod_of_nonneg hu
    rw [h1, IntKind.wrap_i64]; omega⟩
  obtain ⟨hm1, hm2, hm3⟩ := hm
  unfold boxR at HST
  clear hv hr wn
  go_enter Try.func3, Try.ntmps3
  go_wp2_with (fail)
  have HST2 : Hid (ManyI w r noR _) := HST
  clear HST
  go_loopw [6] (fun s wr => ∃ (i : Nat) (x : RulesS), i ≤ m ∧ s = .int .i64 i ∧ Hid (ManyI w r x wr) ∧ (x = noR ∨ (sumR x ≤ 700 ∧ sumR r ≤ 700))) (fun s _ => m - (intOf s).toNat)
  case atStart => exact ⟨0, noR, Nat.zero_le _, rfl, HST2, Or.inl rfl⟩
  case round =>
    obtain ⟨i, x, hi, rfl, HM, hsm⟩ := hrel
    have HSM := Lib.hid hsm
    clear hsm
    have i0 : (0 : Int) ≤ i := by omega
    by_cases hlt : i < m
    · have i1 : (i : Int) < m := by omega
      obtain ⟨p0, p1, p2, p3, p4⟩ := many_cells HM.out.box
      obtain ⟨q0, q1, q2, q3, q4⟩ := many_cells HM.out.own
      go_wp2_with (fail)
      have hal : Below wr.heap.size wr (wr.alloc (.cells #[.slice x.a0 x.n0 x.c0, .slice x.a1 x.n1 x.c1, .slice x.a2 x.n2 x.c2, .slice x.a3 x.n3 x.c3, .slice x.a4 x.n4 x.c4, .slice r.a0 r.n0 r.c0, .slice r.a1 r.n1 r.c1, .slice r.a2 r.n2 r.c2, .slice r.a3 r.n3 r.c3, .slice r.a4 r.n4 r.c4] 28)) := (Below.refl _ _).alloc (Nat.le_refl _) _
      have hsz : (wr.alloc (.cells #[.slice x.a0 x.n0 x.c0, .slice x.a1 x.n1 x.c1, .slice x.a2 x.n2 x.c2, .slice x.a3 x.n3 x.c3, .slice x.a4 x.n4 x.c4, .slice r.a0 r.n0 r.c0, .slice r.a1 r.n1 r.c1, .slice r.a2 r.n2 r.c2, .slice r.a3 r.n3 r.c3, .slice r.a4 r.n4 r.c4] 28)).heap.size = wr.heap.size + 1 := by simp
      refine (join_two (HM.out.at_.below (Nat.le_refl _) hal) (HR.out.below (Nat.le_refl _) (HM.out.old.trans (hal.mono HM.out.old.size))) HSM.out wr.heap.size 2 (by rw [get_allocB, if_pos rfl])).mono ?_
      rintro e w1 ⟨y, he, hkeep, hsum, hb1⟩
      rw [show y.v = .agg #[.slice y.a0 y.n0 y.c0, .slice y.a1 y.n1 y.c1, .slice y.a2 y.n2 y.c2, .slice y.a3 y.n3 y.c3, .slice y.a4 y.n4 y.c4] from rfl] at he
      subst he
      have hlt2 := HM.out.lt
      have hbw : Below wr.heap.size wr w1 := hal.trans (hb1.mono (by omega))
      have hbx := (hbw.block _ hlt2).trans HM.out.box
      have HY := hkeep w1 (Off.refl _ _)
      have y0 := HY.s0
      have y1 := HY.s1
      have y2 := HY.s2
      have y3 := HY.s3
      have y4 := HY.s4
      have HM2 : Hid (ManyI w r y (((((w1.setCell ⟨w.heap.size + 1, 0, none⟩ (.slice y.a0 y.n0 y.c0)).setCell ⟨w.heap.size + 1, 1, none⟩ (.slice y.a1 y.n1 y.c1)).setCell ⟨w.heap.size + 1, 2, none⟩ (.slice y.a2 y.n2 y.c2)).setCell ⟨w.heap.size + 1, 3, none⟩ (.slice y.a3 y.n3 y.c3)).setCell ⟨w.heap.size + 1, 4, none⟩ (.slice y.a4 y.n4 y.c4))) :=
        ⟨(((((HM.out.bel.trans (hbw.mono (by omega))).setCell (p := ⟨w.heap.size + 1, 0, none⟩) (Nat.le_refl _) _).setCell (p := ⟨w.heap.size + 1, 1, none⟩) (Nat.le_refl _) _).setCell (p := ⟨w.heap.size + 1, 2, none⟩) (Nat.le_refl _) _).setCell (p := ⟨w.heap.size + 1, 3, none⟩) (Nat.le_refl _) _).setCell (p := ⟨w.heap.size + 1, 4, none⟩) (Nat.le_refl _) _,
          hkeep _ (off_set5.mono (fun k _ e => by subst e; omega)), many_set hbx⟩
      obtain ⟨z0, z1, z2, z3, z4⟩ := many_cells hbx
      have f0 := many_froz hbx 0
      have f1 := many_froz hbx 1
      have f2 := many_froz hbx 2
      have f3 := many_froz hbx 3
      have f4 := many_froz hbx 4
      have HSU := Lib.hid hsum
      clear hkeep hb1 hbw hal hsz hbx HY hsum
      by_cases hbig : 700 < sumR y
      · have hbig2 : (700 : Int) < (y.n0 : Int) + y.n1 + y.n2 + y.n3 + y.n4 := by unfold sumR at hbig; omega
        clear hbig
        go_wp2_with (fail)
        clear p0 p1 p2 p3 p4 q0 q1 q2 q3 q4 z0 z1 z2 z3 z4 f0 f1 f2 f3 f4 HSM HM
        generalize (((((w1.setCell _ _).setCell _ _).setCell _ _).setCell _ _).setCell _ _) = wr at *
        obtain ⟨x, hx⟩ : ∃ x, x = y := ⟨y, rfl⟩
        subst hx
        have HBX := Lib.hid HM2.out.box
        have HX := Lib.hid HM2.out.at_
        have HZ := Lib.hid HM2.out.lt
        have HBL := Lib.hid HM2.out.old
        clear HM2 HSU HST2
        obtain ⟨p0, p1, p2, p3, p4⟩ := many_cells HBX.out
        have HWP := Lib.hid (rwhere_any HX.out)
        rw [show x.v = .agg #[.slice x.a0 x.n0 x.c0, .slice x.a1 x.n1 x.c1, .slice x.a2 x.n2 x.c2, .slice x.a3 x.n3 x.c3, .slice x.a4 x.n4 x.c4] from rfl] at HWP
        generalize hws : whereS x = ws at *
        obtain ⟨wk, wi, we⟩ := ws
        go_wp2_with (fail)
        refine HWP.out.mono ?_
        rintro e w1 ⟨rfl, hb1⟩
        unfold tri
        obtain ⟨p0, p1, p2, p3, p4⟩ := many_cells ((hb1.block _ HZ.out).trans HBX.out)
        have HWR := Lib.hid (r7where_any (HX.out.below (Nat.le_refl _) hb1))
        rw [show x.v = .agg #[.slice x.a0 x.n0 x.c0, .slice x.a1 x.n1 x.c1, .slice x.a2 x.n2 x.c2, .slice x.a3 x.n3 x.c3, .slice x.a4 x.n4 x.c4] from rfl, hws] at HWR
        have HB1 := Lib.hid (HBL.out.trans (hb1.mono HBL.out.size))
        clear hb1 hws
        go_wp2_with (fail)
        refine HWR.out.mono ?_
        rintro e w2 ⟨rfl, hb2⟩
        unfold tri
        have HB2 := Lib.hid (HB1.out.trans (hb2.mono HB1.out.size))
        clear hb2
        go_wp2_with (fail)
        refine (HLV.out _).mono ?_
        rintro e w3 ⟨rfl, hb3⟩
        have HB3 := Lib.hid (HB2.out.trans (hb3.mono HB2.out.size))
        clear hb3
        go_wp2_with (fail)
        go_ret
        exact ⟨rfl, HB3.out⟩
      · have hbig2 : ¬ (700 : Int) < (y.n0 : Int) + y.n1 + y.n2 + y.n3 + y.n4 := by unfold sumR at hbig; omega
        have HOR := Lib.hid (show y = noR ∨ (sumR y ≤ 700 ∧ sumR r ≤ 700) from Or.inr ⟨by omega, by have := HSU.out; omega⟩)
        clear hbig
        go_wp2_with (fail)
        exact ⟨⟨i + 1, y, by omega, by go_num, HM2, HOR.out⟩, by first | (simp [intOf]; done) | (simp [intOf]; omega)⟩
    · have HBX := Lib.hid HM.out.box
      have HX := Lib.hid HM.out.at_
      have HZ := Lib.hid HM.out.lt
      have HBL := Lib.hid HM.out.old
      clear HM HSM HST2
      obtain ⟨p0, p1, p2, p3, p4⟩ := many_cells HBX.out
      have HWP := Lib.hid (rwhere_any HX.out)
      rw [show x.v = .agg #[.slice x.a0 x.n0 x.c0, .slice x.a1 x.n1 x.c1, .slice x.a2 x.n2 x.c2, .slice x.a3 x.n3 x.c3, .slice x.a4 x.n4 x.c4] from rfl] at HWP
      generalize hws : whereS x = ws at *
      obtain ⟨wk, wi, we⟩ := ws
      go_wp2_with (fail)
      refine HWP.out.mono ?_
      rintro e w1 ⟨rfl, hb1⟩
      unfold tri
      obtain ⟨p0, p1, p2, p3, p4⟩ := many_cells ((hb1.block _ HZ.out).trans HBX.out)
      have HWR := Lib.hid (r7where_any (HX.out.below (Nat.le_refl _) hb1))
      rw [show x.v = .agg #[.slice x.a0 x.n0 x.c0, .slice x.a1 x.n1 x.c1, .slice x.a2 x.n2 x.c2, .slice x.a3 x.n3 x.c3, .slice x.a4 x.n4 x.c4] from rfl, hws] at HWR
      have HB1 := Lib.hid (HBL.out.trans (hb1.mono HBL.out.size))
      clear hb1 hws
      go_wp2_with (fail)
      refine HWR.out.mono ?_
      rintro e w2 ⟨rfl, hb2⟩
      unfold tri
      have HB2 := Lib.hid (HB1.out.trans (hb2.mono HB1.out.size))
      clear hb2
      go_wp2_with (fail)
      refine (HLV.out _).mono ?_
      rintro e w3 ⟨rfl, hb3⟩
      have HB3 := Lib.hid (HB2.out.trans (hb3.mono HB2.out.size))
      clear hb3
      go_wp2_with (fail)
      go_ret
      exact ⟨rfl, HB3.out⟩
end Go.Proofs.Ytpgjaaekpaeajaa
