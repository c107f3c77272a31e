/- rules.Where of whatever rules. -/
import Derived.Test.YtpgjaaekpaeajaaRuSys
import Derived.Test.YtpgjaaekpaeajaaRuI
import Derived.Test.YtpgjaaekpaeajaaHotS
import Derived.Test.YtpgjaaekpaeajaaRuOh
namespace Go.Proofs.Ytpgjaaekpaeajaa
open Go.RowKit
set_option linter.unusedVariables false
set_option linter.unusedSimpArgs false


set_option maxHeartbeats 1600000 in
set_option maxRecDepth 100000 in
theorem grp2_any {w : World} {r : RulesS} (h : RulesAt w r) (p : Nat) (hp : w.cell? ⟨p, 1, none⟩ = some (.slice r.a1 r.n1 r.c1)) (i : Nat) (x) (hi : r.br[i]? = some x) :
    Calls Try.prog 49 #[.int .i64 i, .pointer (some ⟨p, 0, none⟩)] w fun e w' => e = .returned (.int .i64 (breakE x)) ∧ Below w.heap.size w w' := by
  have hil : i < r.n1 := by rw [← h.l1]; exact (List.getElem?_eq_some_iff.1 hi).1
  have hs := h.s1
  have HX := Lib.hid (break_any x (h.zb x (List.mem_of_getElem? hi)) w)
  unfold BreakS.v BreakS.cells at HX
  obtain ⟨b, off, hab, hbl, hca⟩ := rowsAt_get h.br (j := i) (x := x.cs) (by rw [List.getElem?_map, hi]; rfl)
  have d0 : w.cell? ⟨b, off + i * 7, none⟩ = some (.string x.res) := hca 0 (.string x.res) (by decide) rfl
  have d1 : w.cell? ⟨b, off + i * 7 + 1, none⟩ = some (.int .u8 x.gr) := hca 1 (.int .u8 x.gr) (by decide) rfl
  have d2 : w.cell? ⟨b, off + i * 7 + 2, none⟩ = some (.int .i64 x.cnt) := hca 2 (.int .i64 x.cnt) (by decide) rfl
  have d3 : w.cell? ⟨b, off + i * 7 + 3, none⟩ = some (.int .i64 x.slow) := hca 3 (.int .i64 x.slow) (by decide) rfl
  have d4 : w.cell? ⟨b, off + i * 7 + 4, none⟩ = some (.int .i64 x.least) := hca 4 (.int .i64 x.least) (by decide) rfl
  have d5 : w.cell? ⟨b, off + i * 7 + 5, none⟩ = some (.int .i64 x.win) := hca 5 (.int .i64 x.win) (by decide) rfl
  have d6 : w.cell? ⟨b, off + i * 7 + 6, none⟩ = some (.int .i64 x.rec_) := hca 6 (.int .i64 x.rec_) (by decide) rfl
  rw [hab] at hp
  generalize r.n1 = N at *
  have k0 : (0 : Int) ≤ i := by omega
  have k1 : (i : Int) < N := by omega
  clear h hab hca hi
  go_enter Try.func49, Try.ntmps49
  go_wp2_with (fail)
  refine HX.out.mono ?_
  rintro e w1 ⟨rfl, hb⟩
  have HBQ := Lib.hid hb
  clear hb
  go_wp2_with (fail)
  go_ret
  exact ⟨rfl, HBQ.out⟩

set_option maxHeartbeats 1600000 in
set_option maxRecDepth 100000 in
theorem grp3_any {w : World} {r : RulesS} (h : RulesAt w r) (p : Nat) (hp : w.cell? ⟨p, 2, none⟩ = some (.slice r.a2 r.n2 r.c2)) (i : Nat) (x) (hi : r.ho[i]? = some x) :
    Calls Try.prog 51 #[.int .i64 i, .pointer (some ⟨p, 0, none⟩)] w fun e w' => e = .returned (.int .i64 (hotE x)) ∧ Below w.heap.size w w' := by
  have hil : i < r.n2 := by rw [← h.l2]; exact (List.getElem?_eq_some_iff.1 hi).1
  have hs := h.s2
  have HX := Lib.hid (rhot_any x (h.zh x (List.mem_of_getElem? hi)))
  unfold HotS.v at HX
  obtain ⟨b, off, hab, hbl, hca⟩ := rowsAt_get h.ho (j := i) (x := x.cs) (by rw [List.getElem?_map, hi]; rfl)
  have d0 : w.cell? ⟨b, off + i * 5, none⟩ = some (.string x.res) := hca 0 (.string x.res) (by decide) rfl
  have d1 : w.cell? ⟨b, off + i * 5 + 1, none⟩ = some (.int .i64 x.idx) := hca 1 (.int .i64 x.idx) (by decide) rfl
  have d2 : w.cell? ⟨b, off + i * 5 + 2, none⟩ = some (.int .i64 x.cnt) := hca 2 (.int .i64 x.cnt) (by decide) rfl
  have d3 : w.cell? ⟨b, off + i * 5 + 3, none⟩ = some (.int .i64 x.secs) := hca 3 (.int .i64 x.secs) (by decide) rfl
  have d4 : w.cell? ⟨b, off + i * 5 + 4, none⟩ = some (.slice x.ia x.il x.ic) := hca 4 (.slice x.ia x.il x.ic) (by decide) rfl
  rw [hab] at hp
  generalize r.n2 = N at *
  have k0 : (0 : Int) ≤ i := by omega
  have k1 : (i : Int) < N := by omega
  clear h hab hca hi
  go_enter Try.func51, Try.ntmps51
  go_wp2_with (fail)
  refine HX.out.mono ?_
  rintro e w1 ⟨rfl, hb⟩
  have HBQ := Lib.hid hb
  clear hb
  go_wp2_with (fail)
  go_ret
  exact ⟨rfl, HBQ.out⟩

set_option maxHeartbeats 1600000 in
set_option maxRecDepth 100000 in
theorem grp4_any {w : World} {r : RulesS} (h : RulesAt w r) (p : Nat) (hp : w.cell? ⟨p, 3, none⟩ = some (.slice r.a3 r.n3 r.c3)) (i : Nat) (x) (hi : r.sy[i]? = some x) :
    Calls Try.prog 53 #[.int .i64 i, .pointer (some ⟨p, 0, none⟩)] w fun e w' => e = .returned (.int .i64 (sysRE x)) ∧ Below w.heap.size w w' := by
  have hil : i < r.n3 := by rw [← h.l3]; exact (List.getElem?_eq_some_iff.1 hi).1
  have hs := h.s3
  have HX := Lib.hid (rsys_any x w)
  skip
  obtain ⟨b, off, hab, hbl, hca⟩ := rowsAt_get h.sy (j := i) (x := x.cs) (by rw [List.getElem?_map, hi]; rfl)
  have d0 : w.cell? ⟨b, off + i * 5, none⟩ = some (.int .i64 x.q) := hca 0 (.int .i64 x.q) (by decide) rfl
  have d1 : w.cell? ⟨b, off + i * 5 + 1, none⟩ = some (.int .i64 x.t) := hca 1 (.int .i64 x.t) (by decide) rfl
  have d2 : w.cell? ⟨b, off + i * 5 + 2, none⟩ = some (.int .i64 x.r) := hca 2 (.int .i64 x.r) (by decide) rfl
  have d3 : w.cell? ⟨b, off + i * 5 + 3, none⟩ = some (.int .i64 x.l) := hca 3 (.int .i64 x.l) (by decide) rfl
  have d4 : w.cell? ⟨b, off + i * 5 + 4, none⟩ = some (.int .i64 x.c) := hca 4 (.int .i64 x.c) (by decide) rfl
  rw [hab] at hp
  generalize r.n3 = N at *
  have k0 : (0 : Int) ≤ i := by omega
  have k1 : (i : Int) < N := by omega
  clear h hab hca hi
  go_enter Try.func53, Try.ntmps53
  go_wp2_with (fail)
  refine HX.out.mono ?_
  rintro e w1 ⟨rfl, hb⟩
  have HBQ := Lib.hid hb
  clear hb
  go_wp2_with (fail)
  go_ret
  exact ⟨rfl, HBQ.out⟩

set_option maxHeartbeats 1600000 in
set_option maxRecDepth 100000 in
theorem grp5_any {w : World} {r : RulesS} (h : RulesAt w r) (p : Nat) (hp : w.cell? ⟨p, 4, none⟩ = some (.slice r.a4 r.n4 r.c4)) (i : Nat) (x) (hi : r.au[i]? = some x) :
    Calls Try.prog 55 #[.int .i64 i, .pointer (some ⟨p, 0, none⟩)] w fun e w' => e = .returned (.int .i64 (listE x.res x.orig)) ∧ Below w.heap.size w w' := by
  have hil : i < r.n4 := by rw [← h.l4]; exact (List.getElem?_eq_some_iff.1 hi).1
  have hs := h.s4
  have HX := Lib.hid (rlist_any x.res x.white (h.za x (List.mem_of_getElem? hi)).z x.oa x.ol x.oc x.orig (h.za x (List.mem_of_getElem? hi)).l (by have := (h.za x (List.mem_of_getElem? hi)).b; omega) (h.za x (List.mem_of_getElem? hi)).lc (h.za x (List.mem_of_getElem? hi)).at_ (h.za x (List.mem_of_getElem? hi)).iz)
  skip
  obtain ⟨b, off, hab, hbl, hca⟩ := rowsAt_get h.au (j := i) (x := x.cs) (by rw [List.getElem?_map, hi]; rfl)
  have d0 : w.cell? ⟨b, off + i * 3, none⟩ = some (.string x.res) := hca 0 (.string x.res) (by decide) rfl
  have d1 : w.cell? ⟨b, off + i * 3 + 1, none⟩ = some (.bool x.white) := hca 1 (.bool x.white) (by decide) rfl
  have d2 : w.cell? ⟨b, off + i * 3 + 2, none⟩ = some (.slice x.oa x.ol x.oc) := hca 2 (.slice x.oa x.ol x.oc) (by decide) rfl
  rw [hab] at hp
  generalize r.n4 = N at *
  have k0 : (0 : Int) ≤ i := by omega
  have k1 : (i : Int) < N := by omega
  clear h hab hca hi
  go_enter Try.func55, Try.ntmps55
  go_wp2_with (fail)
  refine HX.out.mono ?_
  rintro e w1 ⟨rfl, hb⟩
  have HBQ := Lib.hid hb
  clear hb
  go_wp2_with (fail)
  go_ret
  exact ⟨rfl, HBQ.out⟩


def errR (r : RulesS) : List (Nat → Int) := [fun i => match r.fl[i]? with | some f => flowE f | none => 0, fun i => match r.br[i]? with | some f => breakE f | none => 0, fun i => match r.ho[i]? with | some f => hotE f | none => 0, fun i => match r.sy[i]? with | some f => sysRE f | none => 0, fun i => match r.au[i]? with | some f => listE f.res f.orig | none => 0]
def whereS (r : RulesS) : Int × Int × Int := whereR (groupL 0 r.n0 r.n1 r.n2 r.n3 r.n4 (fun i => match r.fl[i]? with | some f => flowE f | none => 0) (fun i => match r.br[i]? with | some f => breakE f | none => 0) (fun i => match r.ho[i]? with | some f => hotE f | none => 0) (fun i => match r.sy[i]? with | some f => sysRE f | none => 0) (fun i => match r.au[i]? with | some f => listE f.res f.orig | none => 0))
theorem rwhere_any {w : World} {r : RulesS} (h : RulesAt w r) : Calls Try.prog 9 #[r.v] w fun e w' => e = .returned (tri (whereS r)) ∧ Below w.heap.size w w' := by
  have h0 := h.s0; have h1 := h.s1; have h2 := h.s2; have h3 := h.s3; have h4 := h.s4
  refine where_gen r.a0 r.a1 r.a2 r.a3 r.a4 r.n0 r.n1 r.n2 r.n3 r.n4 r.c0 r.c1 r.c2 r.c3 r.c4 _ _ _ _ _ (by omega) (by omega) (by omega) (by omega) (by omega) ?_ ?_ ?_ ?_ ?_
  · intro i hi wx p hb hp
    have hx := h.below (Nat.le_refl _) hb
    have hil : i < r.fl.length := by rw [h.l0]; exact hi
    have := gflow_any (w := wx) p r.a0 r.n0 r.c0 r.fl h.l0 (by omega) hp hx.fl (fun f hf => hx.zf f hf) i hil
    rw [List.getElem?_eq_getElem hil]
    exact this
  · intro i hi wx p hb hp
    have hx := h.below (Nat.le_refl _) hb
    obtain ⟨x, e⟩ : ∃ x, r.br[i]? = some x := ⟨_, List.getElem?_eq_getElem (by rw [h.l1]; exact hi)⟩
    rw [e]
    exact grp2_any hx p hp i x e
  · intro i hi wx p hb hp
    have hx := h.below (Nat.le_refl _) hb
    obtain ⟨x, e⟩ : ∃ x, r.ho[i]? = some x := ⟨_, List.getElem?_eq_getElem (by rw [h.l2]; exact hi)⟩
    rw [e]
    exact grp3_any hx p hp i x e
  · intro i hi wx p hb hp
    have hx := h.below (Nat.le_refl _) hb
    obtain ⟨x, e⟩ : ∃ x, r.sy[i]? = some x := ⟨_, List.getElem?_eq_getElem (by rw [h.l3]; exact hi)⟩
    rw [e]
    exact grp4_any hx p hp i x e
  · intro i hi wx p hb hp
    have hx := h.below (Nat.le_refl _) hb
    obtain ⟨x, e⟩ : ∃ x, r.au[i]? = some x := ⟨_, List.getElem?_eq_getElem (by rw [h.l4]; exact hi)⟩
    rw [e]
    exact grp5_any hx p hp i x e
end Go.Proofs.Ytpgjaaekpaeajaa
