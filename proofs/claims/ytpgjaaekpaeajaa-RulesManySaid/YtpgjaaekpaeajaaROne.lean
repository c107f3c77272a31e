/- The reference's Where. -/
import Derived.Test.YtpgjaaekpaeajaaRuWhere
import Derived.Test.YtpgjaaekpaeajaaRRefFa
import Derived.Test.YtpgjaaekpaeajaaRHot
namespace Go.Proofs.Ytpgjaaekpaeajaa
open Go.RowKit
set_option linter.unusedVariables false
set_option linter.unusedSimpArgs false

set_option maxHeartbeats 1600000 in
set_option maxRecDepth 100000 in
theorem one1_any {w : World} {r : RulesS} (h : RulesAt w r) (i : Nat) (x) (hi : r.fl[i]? = some x) :
    Calls Try.prog 27 #[r.v, .int .u8 1, .int .i64 i] w fun e w' => e = .returned (.int .i64 (flowE x)) ∧ Below w.heap.size w w' := by
  have hv : r.v = .agg #[.slice r.a0 r.n0 r.c0, .slice r.a1 r.n1 r.c1, .slice r.a2 r.n2 r.c2, .slice r.a3 r.n3 r.c3, .slice r.a4 r.n4 r.c4] := rfl
  have HB := Lib.hid (show Below w.heap.size w (w.alloc (boxR r)) from (Below.refl _ _).alloc (Nat.le_refl _) _)
  have hil : i < r.n0 := by rw [← h.l0]; exact (List.getElem?_eq_some_iff.1 hi).1
  have hs := h.s0
  have HX := Lib.hid (r7flow_any x (h.zf x (List.mem_of_getElem? hi)).1 (h.zf x (List.mem_of_getElem? hi)).2.1 (h.zf x (List.mem_of_getElem? hi)).2.2 (h.wf x (List.mem_of_getElem? hi)).1 (h.wf x (List.mem_of_getElem? hi)).2 _ : Calls Try.prog _ _ (w.alloc (boxR r)) _)
  unfold FlowS.v FlowS.cells at HX
  obtain ⟨b, off, hab, hbl, hfa⟩ := flowsAt_get (h.below (Nat.le_refl _) HB.out).fl hi
  obtain ⟨d0, d1, d2, d3, d4, d5, d6, d7, d8, d9, d10, d11⟩ := hfa
  unfold boxR at HB HX d0 d1 d2 d3 d4 d5 d6 d7 d8 d9 d10 d11
  rw [hv]
  rw [hab] at HB HX d0 d1 d2 d3 d4 d5 d6 d7 d8 d9 d10 d11 ⊢
  generalize r.n0 = N at *
  have k0 : (0 : Int) ≤ i := by omega
  have k1 : (i : Int) < N := by omega
  clear hv h hab  hi
  go_enter Try.func27, Try.ntmps27
  go_wp2_with (fail)
  refine HX.out.mono ?_
  rintro e w1 ⟨rfl, hb⟩
  have HBQ := Lib.hid (HB.out.trans (hb.mono HB.out.size))
  clear hb
  go_wp2_with (fail)
  go_ret
  exact ⟨rfl, HBQ.out⟩

set_option maxHeartbeats 1600000 in
set_option maxRecDepth 100000 in
theorem one2_any {w : World} {r : RulesS} (h : RulesAt w r) (i : Nat) (x) (hi : r.br[i]? = some x) :
    Calls Try.prog 27 #[r.v, .int .u8 2, .int .i64 i] w fun e w' => e = .returned (.int .i64 (breakE x)) ∧ Below w.heap.size w w' := by
  have hv : r.v = .agg #[.slice r.a0 r.n0 r.c0, .slice r.a1 r.n1 r.c1, .slice r.a2 r.n2 r.c2, .slice r.a3 r.n3 r.c3, .slice r.a4 r.n4 r.c4] := rfl
  have HB := Lib.hid (show Below w.heap.size w (w.alloc (boxR r)) from (Below.refl _ _).alloc (Nat.le_refl _) _)
  have hil : i < r.n1 := by rw [← h.l1]; exact (List.getElem?_eq_some_iff.1 hi).1
  have hs := h.s1
  have HX := Lib.hid (r7break_any x (h.zb x (List.mem_of_getElem? hi)) (h.wb x (List.mem_of_getElem? hi)) _ : Calls Try.prog _ _ (w.alloc (boxR r)) _)
  unfold BreakS.v BreakS.cells at HX
  obtain ⟨b, off, hab, hbl, hca⟩ := rowsAt_get (h.below (Nat.le_refl _) HB.out).br (j := i) (x := x.cs) (by rw [List.getElem?_map, hi]; rfl)
  have d0 : (w.alloc (boxR r)).cell? ⟨b, off + i * 7, none⟩ = some (.string x.res) := hca 0 (.string x.res) (by decide) rfl
  have d1 : (w.alloc (boxR r)).cell? ⟨b, off + i * 7 + 1, none⟩ = some (.int .u8 x.gr) := hca 1 (.int .u8 x.gr) (by decide) rfl
  have d2 : (w.alloc (boxR r)).cell? ⟨b, off + i * 7 + 2, none⟩ = some (.int .i64 x.cnt) := hca 2 (.int .i64 x.cnt) (by decide) rfl
  have d3 : (w.alloc (boxR r)).cell? ⟨b, off + i * 7 + 3, none⟩ = some (.int .i64 x.slow) := hca 3 (.int .i64 x.slow) (by decide) rfl
  have d4 : (w.alloc (boxR r)).cell? ⟨b, off + i * 7 + 4, none⟩ = some (.int .i64 x.least) := hca 4 (.int .i64 x.least) (by decide) rfl
  have d5 : (w.alloc (boxR r)).cell? ⟨b, off + i * 7 + 5, none⟩ = some (.int .i64 x.win) := hca 5 (.int .i64 x.win) (by decide) rfl
  have d6 : (w.alloc (boxR r)).cell? ⟨b, off + i * 7 + 6, none⟩ = some (.int .i64 x.rec_) := hca 6 (.int .i64 x.rec_) (by decide) rfl
  unfold boxR at HB HX d0 d1 d2 d3 d4 d5 d6
  rw [hv]
  rw [hab] at HB HX d0 d1 d2 d3 d4 d5 d6 ⊢
  generalize r.n1 = N at *
  have k0 : (0 : Int) ≤ i := by omega
  have k1 : (i : Int) < N := by omega
  clear hv h hab hca hi
  go_enter Try.func27, Try.ntmps27
  go_wp2_with (fail)
  refine HX.out.mono ?_
  rintro e w1 ⟨rfl, hb⟩
  have HBQ := Lib.hid (HB.out.trans (hb.mono HB.out.size))
  clear hb
  go_wp2_with (fail)
  go_ret
  exact ⟨rfl, HBQ.out⟩

set_option maxHeartbeats 1600000 in
set_option maxRecDepth 100000 in
theorem one3_any {w : World} {r : RulesS} (h : RulesAt w r) (i : Nat) (x) (hi : r.ho[i]? = some x) :
    Calls Try.prog 27 #[r.v, .int .u8 3, .int .i64 i] w fun e w' => e = .returned (.int .i64 (hotE x)) ∧ Below w.heap.size w w' := by
  have hv : r.v = .agg #[.slice r.a0 r.n0 r.c0, .slice r.a1 r.n1 r.c1, .slice r.a2 r.n2 r.c2, .slice r.a3 r.n3 r.c3, .slice r.a4 r.n4 r.c4] := rfl
  have HB := Lib.hid (show Below w.heap.size w (w.alloc (boxR r)) from (Below.refl _ _).alloc (Nat.le_refl _) _)
  have hil : i < r.n2 := by rw [← h.l2]; exact (List.getElem?_eq_some_iff.1 hi).1
  have hs := h.s2
  have HX := Lib.hid (r7hot_any x ((h.zh x (List.mem_of_getElem? hi)).below (Nat.le_refl _) HB.out) : Calls Try.prog _ _ (w.alloc (boxR r)) _)
  unfold HotS.v at HX
  obtain ⟨b, off, hab, hbl, hca⟩ := rowsAt_get (h.below (Nat.le_refl _) HB.out).ho (j := i) (x := x.cs) (by rw [List.getElem?_map, hi]; rfl)
  have d0 : (w.alloc (boxR r)).cell? ⟨b, off + i * 5, none⟩ = some (.string x.res) := hca 0 (.string x.res) (by decide) rfl
  have d1 : (w.alloc (boxR r)).cell? ⟨b, off + i * 5 + 1, none⟩ = some (.int .i64 x.idx) := hca 1 (.int .i64 x.idx) (by decide) rfl
  have d2 : (w.alloc (boxR r)).cell? ⟨b, off + i * 5 + 2, none⟩ = some (.int .i64 x.cnt) := hca 2 (.int .i64 x.cnt) (by decide) rfl
  have d3 : (w.alloc (boxR r)).cell? ⟨b, off + i * 5 + 3, none⟩ = some (.int .i64 x.secs) := hca 3 (.int .i64 x.secs) (by decide) rfl
  have d4 : (w.alloc (boxR r)).cell? ⟨b, off + i * 5 + 4, none⟩ = some (.slice x.ia x.il x.ic) := hca 4 (.slice x.ia x.il x.ic) (by decide) rfl
  unfold boxR at HB HX d0 d1 d2 d3 d4
  rw [hv]
  rw [hab] at HB HX d0 d1 d2 d3 d4 ⊢
  generalize r.n2 = N at *
  have k0 : (0 : Int) ≤ i := by omega
  have k1 : (i : Int) < N := by omega
  clear hv h hab hca hi
  go_enter Try.func27, Try.ntmps27
  go_wp2_with (fail)
  refine HX.out.mono ?_
  rintro e w1 ⟨rfl, hb⟩
  have HBQ := Lib.hid (HB.out.trans (hb.mono HB.out.size))
  clear hb
  go_wp2_with (fail)
  go_ret
  exact ⟨rfl, HBQ.out⟩

set_option maxHeartbeats 1600000 in
set_option maxRecDepth 100000 in
theorem one4_any {w : World} {r : RulesS} (h : RulesAt w r) (i : Nat) (x) (hi : r.sy[i]? = some x) :
    Calls Try.prog 27 #[r.v, .int .u8 4, .int .i64 i] w fun e w' => e = .returned (.int .i64 (sysRE x)) ∧ Below w.heap.size w w' := by
  have hv : r.v = .agg #[.slice r.a0 r.n0 r.c0, .slice r.a1 r.n1 r.c1, .slice r.a2 r.n2 r.c2, .slice r.a3 r.n3 r.c3, .slice r.a4 r.n4 r.c4] := rfl
  have HB := Lib.hid (show Below w.heap.size w (w.alloc (boxR r)) from (Below.refl _ _).alloc (Nat.le_refl _) _)
  have hil : i < r.n3 := by rw [← h.l3]; exact (List.getElem?_eq_some_iff.1 hi).1
  have hs := h.s3
  have HX := Lib.hid (r7sys_any x _ : Calls Try.prog _ _ (w.alloc (boxR r)) _)
  skip
  obtain ⟨b, off, hab, hbl, hca⟩ := rowsAt_get (h.below (Nat.le_refl _) HB.out).sy (j := i) (x := x.cs) (by rw [List.getElem?_map, hi]; rfl)
  have d0 : (w.alloc (boxR r)).cell? ⟨b, off + i * 5, none⟩ = some (.int .i64 x.q) := hca 0 (.int .i64 x.q) (by decide) rfl
  have d1 : (w.alloc (boxR r)).cell? ⟨b, off + i * 5 + 1, none⟩ = some (.int .i64 x.t) := hca 1 (.int .i64 x.t) (by decide) rfl
  have d2 : (w.alloc (boxR r)).cell? ⟨b, off + i * 5 + 2, none⟩ = some (.int .i64 x.r) := hca 2 (.int .i64 x.r) (by decide) rfl
  have d3 : (w.alloc (boxR r)).cell? ⟨b, off + i * 5 + 3, none⟩ = some (.int .i64 x.l) := hca 3 (.int .i64 x.l) (by decide) rfl
  have d4 : (w.alloc (boxR r)).cell? ⟨b, off + i * 5 + 4, none⟩ = some (.int .i64 x.c) := hca 4 (.int .i64 x.c) (by decide) rfl
  unfold boxR at HB HX d0 d1 d2 d3 d4
  rw [hv]
  rw [hab] at HB HX d0 d1 d2 d3 d4 ⊢
  generalize r.n3 = N at *
  have k0 : (0 : Int) ≤ i := by omega
  have k1 : (i : Int) < N := by omega
  clear hv h hab hca hi
  go_enter Try.func27, Try.ntmps27
  go_wp2_with (fail)
  refine HX.out.mono ?_
  rintro e w1 ⟨rfl, hb⟩
  have HBQ := Lib.hid (HB.out.trans (hb.mono HB.out.size))
  clear hb
  go_wp2_with (fail)
  go_ret
  exact ⟨rfl, HBQ.out⟩

set_option maxHeartbeats 1600000 in
set_option maxRecDepth 100000 in
theorem one5_any {w : World} {r : RulesS} (h : RulesAt w r) (i : Nat) (x) (hi : r.au[i]? = some x) :
    Calls Try.prog 27 #[r.v, .int .u8 5, .int .i64 i] w fun e w' => e = .returned (.int .i64 (listE x.res x.orig)) ∧ Below w.heap.size w w' := by
  have hv : r.v = .agg #[.slice r.a0 r.n0 r.c0, .slice r.a1 r.n1 r.c1, .slice r.a2 r.n2 r.c2, .slice r.a3 r.n3 r.c3, .slice r.a4 r.n4 r.c4] := rfl
  have HB := Lib.hid (show Below w.heap.size w (w.alloc (boxR r)) from (Below.refl _ _).alloc (Nat.le_refl _) _)
  have hil : i < r.n4 := by rw [← h.l4]; exact (List.getElem?_eq_some_iff.1 hi).1
  have hs := h.s4
  have HX := Lib.hid (r7list_any x.res x.white (h.za x (List.mem_of_getElem? hi)).z x.oa x.ol x.oc x.orig (h.za x (List.mem_of_getElem? hi)).l (by have := (h.za x (List.mem_of_getElem? hi)).b; omega) ((h.za x (List.mem_of_getElem? hi)).at_.below HB.out) (h.za x (List.mem_of_getElem? hi)).iz : Calls Try.prog _ _ (w.alloc (boxR r)) _)
  skip
  obtain ⟨b, off, hab, hbl, hca⟩ := rowsAt_get (h.below (Nat.le_refl _) HB.out).au (j := i) (x := x.cs) (by rw [List.getElem?_map, hi]; rfl)
  have d0 : (w.alloc (boxR r)).cell? ⟨b, off + i * 3, none⟩ = some (.string x.res) := hca 0 (.string x.res) (by decide) rfl
  have d1 : (w.alloc (boxR r)).cell? ⟨b, off + i * 3 + 1, none⟩ = some (.bool x.white) := hca 1 (.bool x.white) (by decide) rfl
  have d2 : (w.alloc (boxR r)).cell? ⟨b, off + i * 3 + 2, none⟩ = some (.slice x.oa x.ol x.oc) := hca 2 (.slice x.oa x.ol x.oc) (by decide) rfl
  unfold boxR at HB HX d0 d1 d2
  rw [hv]
  rw [hab] at HB HX d0 d1 d2 ⊢
  generalize r.n4 = N at *
  have k0 : (0 : Int) ≤ i := by omega
  have k1 : (i : Int) < N := by omega
  clear hv h hab hca hi
  go_enter Try.func27, Try.ntmps27
  go_wp2_with (fail)
  refine HX.out.mono ?_
  rintro e w1 ⟨rfl, hb⟩
  have HBQ := Lib.hid (HB.out.trans (hb.mono HB.out.size))
  clear hb
  go_wp2_with (fail)
  go_ret
  exact ⟨rfl, HBQ.out⟩


/-- What is wrong with rule i of a kind. -/
def oneE (r : RulesS) (kind : Int) (i : Nat) : Int :=
  if kind = 1 then (match r.fl[i]? with | some f => flowE f | none => 0) else if kind = 2 then (match r.br[i]? with | some f => breakE f | none => 0) else if kind = 3 then (match r.ho[i]? with | some f => hotE f | none => 0) else if kind = 4 then (match r.sy[i]? with | some f => sysRE f | none => 0) else (match r.au[i]? with | some f => listE f.res f.orig | none => 0)
theorem one_any {w : World} {r : RulesS} (h : RulesAt w r) (kind : Int) (k0 : 1 ≤ kind) (k1 : kind ≤ 5) (i : Nat) (hi : i < cntR r kind) :
    Calls Try.prog 27 #[r.v, .int .u8 kind, .int .i64 i] w fun e w' => e = .returned (.int .i64 (oneE r kind i)) ∧ Below w.heap.size w w' := by
  rcases (show kind = 1 ∨ kind = 2 ∨ kind = 3 ∨ kind = 4 ∨ kind = 5 by omega) with rfl | rfl | rfl | rfl | rfl
  · obtain ⟨x, e⟩ : ∃ x, r.fl[i]? = some x := ⟨_, List.getElem?_eq_getElem (by rw [h.l0]; exact hi)⟩
    rw [show oneE r 1 i = flowE x by unfold oneE; rw [if_pos rfl, e]]
    exact one1_any h i x e
  · obtain ⟨x, e⟩ : ∃ x, r.br[i]? = some x := ⟨_, List.getElem?_eq_getElem (by rw [h.l1]; exact hi)⟩
    rw [show oneE r 2 i = breakE x by unfold oneE; rw [if_neg (by decide), if_pos rfl, e]]
    exact one2_any h i x e
  · obtain ⟨x, e⟩ : ∃ x, r.ho[i]? = some x := ⟨_, List.getElem?_eq_getElem (by rw [h.l2]; exact hi)⟩
    rw [show oneE r 3 i = hotE x by unfold oneE; rw [if_neg (by decide), if_neg (by decide), if_pos rfl, e]]
    exact one3_any h i x e
  · obtain ⟨x, e⟩ : ∃ x, r.sy[i]? = some x := ⟨_, List.getElem?_eq_getElem (by rw [h.l3]; exact hi)⟩
    rw [show oneE r 4 i = sysRE x by unfold oneE; rw [if_neg (by decide), if_neg (by decide), if_neg (by decide), if_pos rfl, e]]
    exact one4_any h i x e
  · obtain ⟨x, e⟩ : ∃ x, r.au[i]? = some x := ⟨_, List.getElem?_eq_getElem (by rw [h.l4]; exact hi)⟩
    rw [show oneE r 5 i = listE x.res x.orig by unfold oneE; rw [if_neg (by decide), if_neg (by decide), if_neg (by decide), if_neg (by decide), e]]
    exact one5_any h i x e
end Go.Proofs.Ytpgjaaekpaeajaa
