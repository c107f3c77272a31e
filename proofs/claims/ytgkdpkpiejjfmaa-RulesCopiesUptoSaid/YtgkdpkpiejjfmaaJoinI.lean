/- Rules that are joined: what lies in memory meanwhile. -/
import Derived.Test.YtgkdpkpiejjfmaaRulesIn
import Derived.Test.YtgkdpkpiejjfmaaRuOf
import Derived.Test.YtgkdpkpiejjfmaaRowsOf
import Derived.Test.YtgkdpkpiejjfmaaRing
namespace Go.Proofs.Ytgkdpkpiejjfmaa
open Go.RowKit
set_option linter.unusedVariables false
set_option linter.unusedSimpArgs false

def typeAt (w : World) (k : Nat) : Option TypeId := match w.heap[k]? with | some (.cells _ t _) => some t | _ => none
theorem typeAt_own {w : World} {base n size k : Nat} {e : TypeId} {v : Value} {xs : List Value} (h : w.ownsRow base e size v n xs) (hk : v.ownBlock = some k) : typeAt w k = some e ∧ base ≤ k ∧ k < w.heap.size := by
  rcases h.2 with ⟨rfl, _⟩ | ⟨g, cap, cur, rfl, hb, hg, _⟩
  · cases hk
  · obtain rfl : g = k := by simpa [Value.ownBlock] using hk
    exact ⟨by unfold typeAt; rw [hg], hb, (Array.getElem?_eq_some_iff.1 hg).1⟩
theorem own_off {S : Nat → Prop} {w w' : World} {base n size : Nat} {e : TypeId} {v : Value} {xs : List Value} (h : w.ownsRow base e size v n xs) (ho : Off S w w') (hS : ∀ k, v.ownBlock = some k → ¬ S k) : w'.ownsRow base e size v n xs := by
  refine ⟨h.1, ?_⟩
  rcases h.2 with hn | ⟨g, cap, cur, rfl, hb, hg, rest⟩
  · exact Or.inl hn
  · exact Or.inr ⟨g, cap, cur, rfl, hb, (ho.block g (Array.getElem?_eq_some_iff.1 hg).1 (hS g rfl)).trans hg, rest⟩
/-- The same rule, wherever its items lie. -/
def HotS.core (h : HotS) : HotS := ⟨h.res, h.idx, h.cnt, h.secs, none, 0, 0, h.items⟩
def AuthS.core (x : AuthS) : AuthS := ⟨x.res, x.white, none, 0, 0, x.orig⟩
structure HotOwn (w : World) (base : Nat) (h : HotS) : Prop where
  z : h.res.size ≤ maxLen
  b : h.il * 24 ≤ 140737488351232
  row : w.ownsRow base 46 2 (.slice h.ia h.il h.ic) h.il (h.items.map ItemS.cs).flatten
  iz : ∀ x ∈ h.items, x.val.size ≤ maxLen
structure AuthOwn (w : World) (base : Nat) (x : AuthS) : Prop where
  z : x.res.size ≤ maxLen
  b : x.ol * 16 ≤ 140737488351232
  row : w.ownsRow base 9 1 (.slice x.oa x.ol x.oc) x.ol (x.orig.map Value.string)
  iz : ∀ s ∈ x.orig, s.size ≤ maxLen
structure JoinI (w0 : World) (base B : Nat) (v0 v1 v2 v3 v4 : Value) (fl : List FlowS) (br : List BreakS) (ho : List HotS) (sy : List SysR) (au : List AuthS) (w : World) : Prop where
  bel : Below w0.heap.size w0 w
  bb : w0.heap.size ≤ B
  b1 : B < base
  bs : base ≤ w.heap.size
  box : w.heap[B]? = some (.cells #[v0, v1, v2, v3, v4] 28)
  r0 : w.ownsRow base 41 12 v0 fl.length (flatF fl)
  r1 : w.ownsRow base 51 7 v1 br.length (br.map BreakS.cs).flatten
  r2 : w.ownsRow base 44 5 v2 ho.length (ho.map HotS.cs).flatten
  r3 : w.ownsRow base 63 5 v3 sy.length (sy.map SysR.cs).flatten
  r4 : w.ownsRow base 48 3 v4 au.length (au.map AuthS.cs).flatten
  oh : ∀ h ∈ ho, HotOwn w base h
  oa : ∀ a ∈ au, AuthOwn w base a
theorem JoinI.off {w0 : World} {base B : Nat} {v0 v1 v2 v3 v4 : Value} {fl : List FlowS} {br : List BreakS} {ho : List HotS} {sy : List SysR} {au : List AuthS} {w w' : World} {S : Nat → Prop} (h : JoinI w0 base B v0 v1 v2 v3 v4 fl br ho sy au w) (hb : Below w0.heap.size w0 w') (hoff : Off S w w') (hS : ∀ k, k < w.heap.size → S k → k < base ∧ k ≠ B) : JoinI w0 base B v0 v1 v2 v3 v4 fl br ho sy au w' := by
  have hlt : ∀ {n size : Nat} {e : TypeId} {v : Value} {xs : List Value}, w.ownsRow base e size v n xs → ∀ k, v.ownBlock = some k → ¬ S k := fun h k e hs => by have h1 := typeAt_own h e; have := (hS k h1.2.2 hs).1; omega
  have hB : B < w.heap.size := (Array.getElem?_eq_some_iff.1 h.box).1
  exact ⟨hb, h.bb, h.b1, Nat.le_trans h.bs hoff.size, (hoff.block B hB (fun hs => (hS B hB hs).2 rfl)).trans h.box, own_off h.r0 hoff (hlt h.r0), own_off h.r1 hoff (hlt h.r1), own_off h.r2 hoff (hlt h.r2), own_off h.r3 hoff (hlt h.r3), own_off h.r4 hoff (hlt h.r4),
    fun x hx => ⟨(h.oh x hx).z, (h.oh x hx).b, own_off (h.oh x hx).row hoff (hlt (h.oh x hx).row), (h.oh x hx).iz⟩, fun x hx => ⟨(h.oa x hx).z, (h.oa x hx).b, own_off (h.oa x hx).row hoff (hlt (h.oa x hx).row), (h.oa x hx).iz⟩⟩
theorem JoinI.weak {w00 w0 : World} {base B : Nat} {v0 v1 v2 v3 v4 : Value} {fl : List FlowS} {br : List BreakS} {ho : List HotS} {sy : List SysR} {au : List AuthS} {w : World} (h : JoinI w0 base B v0 v1 v2 v3 v4 fl br ho sy au w) (hb : Below w00.heap.size w00 w0) : JoinI w00 base B v0 v1 v2 v3 v4 fl br ho sy au w :=
  ⟨hb.trans (h.bel.mono hb.size), Nat.le_trans hb.size h.bb, h.b1, h.bs, h.box, h.r0, h.r1, h.r2, h.r3, h.r4, h.oh, h.oa⟩
theorem JoinI.below {w0 : World} {base B : Nat} {v0 v1 v2 v3 v4 : Value} {fl : List FlowS} {br : List BreakS} {ho : List HotS} {sy : List SysR} {au : List AuthS} {w w' : World} (h : JoinI w0 base B v0 v1 v2 v3 v4 fl br ho sy au w) (hb : Below w.heap.size w w') : JoinI w0 base B v0 v1 v2 v3 v4 fl br ho sy au w' :=
  h.off (S := fun _ => False) (h.bel.trans (hb.mono h.bel.size)) ⟨hb.os, hb.tape, hb.output, hb.size, fun k hk _ => hb.block k hk⟩ (fun _ _ h => h.elim)
theorem JoinI.cells {w0 : World} {base B : Nat} {v0 v1 v2 v3 v4 : Value} {fl : List FlowS} {br : List BreakS} {ho : List HotS} {sy : List SysR} {au : List AuthS} {w : World} (h : JoinI w0 base B v0 v1 v2 v3 v4 fl br ho sy au w) : w.cell? ⟨B, 0, none⟩ = some v0 ∧ w.cell? ⟨B, 1, none⟩ = some v1 ∧ w.cell? ⟨B, 2, none⟩ = some v2 ∧ w.cell? ⟨B, 3, none⟩ = some v3 ∧ w.cell? ⟨B, 4, none⟩ = some v4 := by
  have hb := h.box
  simp only [World.cell?, hb]
  exact ⟨rfl, rfl, rfl, rfl, rfl⟩
theorem JoinI.froz {w0 : World} {base B : Nat} {v0 v1 v2 v3 v4 : Value} {fl : List FlowS} {br : List BreakS} {ho : List HotS} {sy : List SysR} {au : List AuthS} {w : World} (h : JoinI w0 base B v0 v1 v2 v3 v4 fl br ho sy au w) (k : Nat) : w.frozen? ⟨B, k, none⟩ = false := by
  have hb := h.box
  simp [World.frozen?, hb]
theorem JoinI.slices {w0 : World} {base B : Nat} {v0 v1 v2 v3 v4 : Value} {fl : List FlowS} {br : List BreakS} {ho : List HotS} {sy : List SysR} {au : List AuthS} {w : World} (h : JoinI w0 base B v0 v1 v2 v3 v4 fl br ho sy au w) : (∃ a c, v0 = .slice a fl.length c) ∧ (∃ a c, v1 = .slice a br.length c) ∧ (∃ a c, v2 = .slice a ho.length c) ∧ (∃ a c, v3 = .slice a sy.length c) ∧ (∃ a c, v4 = .slice a au.length c) :=
  ⟨own_sliceO h.r0, own_sliceO h.r1, own_sliceO h.r2, own_sliceO h.r3, own_sliceO h.r4⟩
theorem flatF_app (a b : List FlowS) : flatF (a ++ b) = flatF a ++ flatF b := by simp [flatF]

theorem JoinI.app0 {w0 : World} {base B : Nat} {v0 v1 v2 v3 v4 v' : Value} {fl : List FlowS} {br : List BreakS} {ho : List HotS} {sy : List SysR} {au : List AuthS} {more : List FlowS} {w w3 : World} (h : JoinI w0 base B v0 v1 v2 v3 v4 fl br ho sy au w) (hown : w3.ownsRow base 41 12 v' (fl.length + more.length) (flatF fl ++ flatF more)) (hg : w.grownBy w3 v0.ownBlock) :
    JoinI w0 base B v' v1 v2 v3 v4 (fl ++ more) br ho sy au (w3.setCell ⟨B, 0, none⟩ v') := by
  have hB : B < w.heap.size := (Array.getElem?_eq_some_iff.1 h.box).1
  have hr := fun j e => typeAt_own h.r0 (k := j) e
  have hbx : w3.heap[B]? = some (.cells #[v0, v1, v2, v3, v4] 28) := (hg.block B hB (fun e => by have := (hr B e.symm).2.1; have := h.b1; omega)).trans h.box
  have hoff : Off (fun j => v0.ownBlock = some j ∨ j = B) w (w3.setCell ⟨B, 0, none⟩ v') := by
    refine Off.setCell (S := fun j => v0.ownBlock = some j ∨ j = B) (p := ⟨B, 0, none⟩) ⟨hg.os, hg.tape, hg.output, hg.size, fun j hj hn => hg.block j hj (fun e => hn (Or.inl e.symm))⟩ (fun _ => Or.inr rfl) v'
  have hne : ∀ {n size : Nat} {e : TypeId} {v : Value} {xs : List Value}, w.ownsRow base e size v n xs → e ≠ 41 → ∀ j, v.ownBlock = some j → ¬ (v0.ownBlock = some j ∨ j = B) := fun hw he j ej => by
    have h1 := typeAt_own hw ej
    rintro (h2 | h2)
    · have h3 := (hr j h2).1
      rw [h1.1] at h3
      exact he (by injection h3)
    · have := h.b1; omega
  have hown' : (w3.setCell ⟨B, 0, none⟩ v').ownsRow base 41 12 v' (fl ++ more).length (flatF (fl ++ more)) := by
    have e1 : flatF (fl ++ more) = flatF fl ++ flatF more := by exact flatF_app _ _
    rw [e1, List.length_append]
    exact own_off hown (S := fun j => j = B) ⟨rfl, rfl, rfl, by simp [World.setCell], fun j hj hn => heap_setCell_other _ _ _ _ hn⟩ (fun j ej e => by have := (typeAt_own hown ej).2.1; have := h.b1; omega)
  exact ⟨(h.bel.grown hg h.bel.size (fun j e => by have := (hr j e).2.1; have := h.b1; have := h.bb; omega)).setCell h.bb _, h.bb, h.b1, by simp [World.setCell]; exact Nat.le_trans h.bs hg.size, heap_setCell_same w3 B 0 _ _ v' hbx,
    hown', own_off h.r1 hoff (hne h.r1 (by decide)), own_off h.r2 hoff (hne h.r2 (by decide)), own_off h.r3 hoff (hne h.r3 (by decide)), own_off h.r4 hoff (hne h.r4 (by decide)),
    fun y hy => ⟨(h.oh y hy).z, (h.oh y hy).b, own_off (h.oh y hy).row hoff (hne (h.oh y hy).row (by decide)), (h.oh y hy).iz⟩,
    fun y hy => ⟨(h.oa y hy).z, (h.oa y hy).b, own_off (h.oa y hy).row hoff (hne (h.oa y hy).row (by decide)), (h.oa y hy).iz⟩⟩

theorem JoinI.app1 {w0 : World} {base B : Nat} {v0 v1 v2 v3 v4 v' : Value} {fl : List FlowS} {br : List BreakS} {ho : List HotS} {sy : List SysR} {au : List AuthS} {more : List BreakS} {w w3 : World} (h : JoinI w0 base B v0 v1 v2 v3 v4 fl br ho sy au w) (hown : w3.ownsRow base 51 7 v' (br.length + more.length) ((br.map BreakS.cs).flatten ++ (more.map BreakS.cs).flatten)) (hg : w.grownBy w3 v1.ownBlock) :
    JoinI w0 base B v0 v' v2 v3 v4 fl (br ++ more) ho sy au (w3.setCell ⟨B, 1, none⟩ v') := by
  have hB : B < w.heap.size := (Array.getElem?_eq_some_iff.1 h.box).1
  have hr := fun j e => typeAt_own h.r1 (k := j) e
  have hbx : w3.heap[B]? = some (.cells #[v0, v1, v2, v3, v4] 28) := (hg.block B hB (fun e => by have := (hr B e.symm).2.1; have := h.b1; omega)).trans h.box
  have hoff : Off (fun j => v1.ownBlock = some j ∨ j = B) w (w3.setCell ⟨B, 1, none⟩ v') := by
    refine Off.setCell (S := fun j => v1.ownBlock = some j ∨ j = B) (p := ⟨B, 1, none⟩) ⟨hg.os, hg.tape, hg.output, hg.size, fun j hj hn => hg.block j hj (fun e => hn (Or.inl e.symm))⟩ (fun _ => Or.inr rfl) v'
  have hne : ∀ {n size : Nat} {e : TypeId} {v : Value} {xs : List Value}, w.ownsRow base e size v n xs → e ≠ 51 → ∀ j, v.ownBlock = some j → ¬ (v1.ownBlock = some j ∨ j = B) := fun hw he j ej => by
    have h1 := typeAt_own hw ej
    rintro (h2 | h2)
    · have h3 := (hr j h2).1
      rw [h1.1] at h3
      exact he (by injection h3)
    · have := h.b1; omega
  have hown' : (w3.setCell ⟨B, 1, none⟩ v').ownsRow base 51 7 v' (br ++ more).length (((br ++ more).map BreakS.cs).flatten) := by
    have e1 : ((br ++ more).map BreakS.cs).flatten = (br.map BreakS.cs).flatten ++ (more.map BreakS.cs).flatten := by rw [List.map_append, List.flatten_append]
    rw [e1, List.length_append]
    exact own_off hown (S := fun j => j = B) ⟨rfl, rfl, rfl, by simp [World.setCell], fun j hj hn => heap_setCell_other _ _ _ _ hn⟩ (fun j ej e => by have := (typeAt_own hown ej).2.1; have := h.b1; omega)
  exact ⟨(h.bel.grown hg h.bel.size (fun j e => by have := (hr j e).2.1; have := h.b1; have := h.bb; omega)).setCell h.bb _, h.bb, h.b1, by simp [World.setCell]; exact Nat.le_trans h.bs hg.size, heap_setCell_same w3 B 1 _ _ v' hbx,
    own_off h.r0 hoff (hne h.r0 (by decide)), hown', own_off h.r2 hoff (hne h.r2 (by decide)), own_off h.r3 hoff (hne h.r3 (by decide)), own_off h.r4 hoff (hne h.r4 (by decide)),
    fun y hy => ⟨(h.oh y hy).z, (h.oh y hy).b, own_off (h.oh y hy).row hoff (hne (h.oh y hy).row (by decide)), (h.oh y hy).iz⟩,
    fun y hy => ⟨(h.oa y hy).z, (h.oa y hy).b, own_off (h.oa y hy).row hoff (hne (h.oa y hy).row (by decide)), (h.oa y hy).iz⟩⟩

theorem JoinI.app2 {w0 : World} {base B : Nat} {v0 v1 v2 v3 v4 v' : Value} {fl : List FlowS} {br : List BreakS} {ho : List HotS} {sy : List SysR} {au : List AuthS} {more : List HotS} {w w3 : World} (h : JoinI w0 base B v0 v1 v2 v3 v4 fl br ho sy au w) (hmo : ∀ h ∈ more, HotOwn w base h) (hown : w3.ownsRow base 44 5 v' (ho.length + more.length) ((ho.map HotS.cs).flatten ++ (more.map HotS.cs).flatten)) (hg : w.grownBy w3 v2.ownBlock) :
    JoinI w0 base B v0 v1 v' v3 v4 fl br (ho ++ more) sy au (w3.setCell ⟨B, 2, none⟩ v') := by
  have hB : B < w.heap.size := (Array.getElem?_eq_some_iff.1 h.box).1
  have hr := fun j e => typeAt_own h.r2 (k := j) e
  have hbx : w3.heap[B]? = some (.cells #[v0, v1, v2, v3, v4] 28) := (hg.block B hB (fun e => by have := (hr B e.symm).2.1; have := h.b1; omega)).trans h.box
  have hoff : Off (fun j => v2.ownBlock = some j ∨ j = B) w (w3.setCell ⟨B, 2, none⟩ v') := by
    refine Off.setCell (S := fun j => v2.ownBlock = some j ∨ j = B) (p := ⟨B, 2, none⟩) ⟨hg.os, hg.tape, hg.output, hg.size, fun j hj hn => hg.block j hj (fun e => hn (Or.inl e.symm))⟩ (fun _ => Or.inr rfl) v'
  have hne : ∀ {n size : Nat} {e : TypeId} {v : Value} {xs : List Value}, w.ownsRow base e size v n xs → e ≠ 44 → ∀ j, v.ownBlock = some j → ¬ (v2.ownBlock = some j ∨ j = B) := fun hw he j ej => by
    have h1 := typeAt_own hw ej
    rintro (h2 | h2)
    · have h3 := (hr j h2).1
      rw [h1.1] at h3
      exact he (by injection h3)
    · have := h.b1; omega
  have hown' : (w3.setCell ⟨B, 2, none⟩ v').ownsRow base 44 5 v' (ho ++ more).length (((ho ++ more).map HotS.cs).flatten) := by
    have e1 : ((ho ++ more).map HotS.cs).flatten = (ho.map HotS.cs).flatten ++ (more.map HotS.cs).flatten := by rw [List.map_append, List.flatten_append]
    rw [e1, List.length_append]
    exact own_off hown (S := fun j => j = B) ⟨rfl, rfl, rfl, by simp [World.setCell], fun j hj hn => heap_setCell_other _ _ _ _ hn⟩ (fun j ej e => by have := (typeAt_own hown ej).2.1; have := h.b1; omega)
  exact ⟨(h.bel.grown hg h.bel.size (fun j e => by have := (hr j e).2.1; have := h.b1; have := h.bb; omega)).setCell h.bb _, h.bb, h.b1, by simp [World.setCell]; exact Nat.le_trans h.bs hg.size, heap_setCell_same w3 B 2 _ _ v' hbx,
    own_off h.r0 hoff (hne h.r0 (by decide)), own_off h.r1 hoff (hne h.r1 (by decide)), hown', own_off h.r3 hoff (hne h.r3 (by decide)), own_off h.r4 hoff (hne h.r4 (by decide)),
    fun y hy => by rcases List.mem_append.1 hy with hy | hy; (· exact ⟨(h.oh y hy).z, (h.oh y hy).b, own_off (h.oh y hy).row hoff (hne (h.oh y hy).row (by decide)), (h.oh y hy).iz⟩); (· exact ⟨(hmo y hy).z, (hmo y hy).b, own_off (hmo y hy).row hoff (hne (hmo y hy).row (by decide)), (hmo y hy).iz⟩),
    fun y hy => ⟨(h.oa y hy).z, (h.oa y hy).b, own_off (h.oa y hy).row hoff (hne (h.oa y hy).row (by decide)), (h.oa y hy).iz⟩⟩

theorem JoinI.app3 {w0 : World} {base B : Nat} {v0 v1 v2 v3 v4 v' : Value} {fl : List FlowS} {br : List BreakS} {ho : List HotS} {sy : List SysR} {au : List AuthS} {more : List SysR} {w w3 : World} (h : JoinI w0 base B v0 v1 v2 v3 v4 fl br ho sy au w) (hown : w3.ownsRow base 63 5 v' (sy.length + more.length) ((sy.map SysR.cs).flatten ++ (more.map SysR.cs).flatten)) (hg : w.grownBy w3 v3.ownBlock) :
    JoinI w0 base B v0 v1 v2 v' v4 fl br ho (sy ++ more) au (w3.setCell ⟨B, 3, none⟩ v') := by
  have hB : B < w.heap.size := (Array.getElem?_eq_some_iff.1 h.box).1
  have hr := fun j e => typeAt_own h.r3 (k := j) e
  have hbx : w3.heap[B]? = some (.cells #[v0, v1, v2, v3, v4] 28) := (hg.block B hB (fun e => by have := (hr B e.symm).2.1; have := h.b1; omega)).trans h.box
  have hoff : Off (fun j => v3.ownBlock = some j ∨ j = B) w (w3.setCell ⟨B, 3, none⟩ v') := by
    refine Off.setCell (S := fun j => v3.ownBlock = some j ∨ j = B) (p := ⟨B, 3, none⟩) ⟨hg.os, hg.tape, hg.output, hg.size, fun j hj hn => hg.block j hj (fun e => hn (Or.inl e.symm))⟩ (fun _ => Or.inr rfl) v'
  have hne : ∀ {n size : Nat} {e : TypeId} {v : Value} {xs : List Value}, w.ownsRow base e size v n xs → e ≠ 63 → ∀ j, v.ownBlock = some j → ¬ (v3.ownBlock = some j ∨ j = B) := fun hw he j ej => by
    have h1 := typeAt_own hw ej
    rintro (h2 | h2)
    · have h3 := (hr j h2).1
      rw [h1.1] at h3
      exact he (by injection h3)
    · have := h.b1; omega
  have hown' : (w3.setCell ⟨B, 3, none⟩ v').ownsRow base 63 5 v' (sy ++ more).length (((sy ++ more).map SysR.cs).flatten) := by
    have e1 : ((sy ++ more).map SysR.cs).flatten = (sy.map SysR.cs).flatten ++ (more.map SysR.cs).flatten := by rw [List.map_append, List.flatten_append]
    rw [e1, List.length_append]
    exact own_off hown (S := fun j => j = B) ⟨rfl, rfl, rfl, by simp [World.setCell], fun j hj hn => heap_setCell_other _ _ _ _ hn⟩ (fun j ej e => by have := (typeAt_own hown ej).2.1; have := h.b1; omega)
  exact ⟨(h.bel.grown hg h.bel.size (fun j e => by have := (hr j e).2.1; have := h.b1; have := h.bb; omega)).setCell h.bb _, h.bb, h.b1, by simp [World.setCell]; exact Nat.le_trans h.bs hg.size, heap_setCell_same w3 B 3 _ _ v' hbx,
    own_off h.r0 hoff (hne h.r0 (by decide)), own_off h.r1 hoff (hne h.r1 (by decide)), own_off h.r2 hoff (hne h.r2 (by decide)), hown', own_off h.r4 hoff (hne h.r4 (by decide)),
    fun y hy => ⟨(h.oh y hy).z, (h.oh y hy).b, own_off (h.oh y hy).row hoff (hne (h.oh y hy).row (by decide)), (h.oh y hy).iz⟩,
    fun y hy => ⟨(h.oa y hy).z, (h.oa y hy).b, own_off (h.oa y hy).row hoff (hne (h.oa y hy).row (by decide)), (h.oa y hy).iz⟩⟩

theorem JoinI.app4 {w0 : World} {base B : Nat} {v0 v1 v2 v3 v4 v' : Value} {fl : List FlowS} {br : List BreakS} {ho : List HotS} {sy : List SysR} {au : List AuthS} {more : List AuthS} {w w3 : World} (h : JoinI w0 base B v0 v1 v2 v3 v4 fl br ho sy au w) (hmo : ∀ a ∈ more, AuthOwn w base a) (hown : w3.ownsRow base 48 3 v' (au.length + more.length) ((au.map AuthS.cs).flatten ++ (more.map AuthS.cs).flatten)) (hg : w.grownBy w3 v4.ownBlock) :
    JoinI w0 base B v0 v1 v2 v3 v' fl br ho sy (au ++ more) (w3.setCell ⟨B, 4, none⟩ v') := by
  have hB : B < w.heap.size := (Array.getElem?_eq_some_iff.1 h.box).1
  have hr := fun j e => typeAt_own h.r4 (k := j) e
  have hbx : w3.heap[B]? = some (.cells #[v0, v1, v2, v3, v4] 28) := (hg.block B hB (fun e => by have := (hr B e.symm).2.1; have := h.b1; omega)).trans h.box
  have hoff : Off (fun j => v4.ownBlock = some j ∨ j = B) w (w3.setCell ⟨B, 4, none⟩ v') := by
    refine Off.setCell (S := fun j => v4.ownBlock = some j ∨ j = B) (p := ⟨B, 4, none⟩) ⟨hg.os, hg.tape, hg.output, hg.size, fun j hj hn => hg.block j hj (fun e => hn (Or.inl e.symm))⟩ (fun _ => Or.inr rfl) v'
  have hne : ∀ {n size : Nat} {e : TypeId} {v : Value} {xs : List Value}, w.ownsRow base e size v n xs → e ≠ 48 → ∀ j, v.ownBlock = some j → ¬ (v4.ownBlock = some j ∨ j = B) := fun hw he j ej => by
    have h1 := typeAt_own hw ej
    rintro (h2 | h2)
    · have h3 := (hr j h2).1
      rw [h1.1] at h3
      exact he (by injection h3)
    · have := h.b1; omega
  have hown' : (w3.setCell ⟨B, 4, none⟩ v').ownsRow base 48 3 v' (au ++ more).length (((au ++ more).map AuthS.cs).flatten) := by
    have e1 : ((au ++ more).map AuthS.cs).flatten = (au.map AuthS.cs).flatten ++ (more.map AuthS.cs).flatten := by rw [List.map_append, List.flatten_append]
    rw [e1, List.length_append]
    exact own_off hown (S := fun j => j = B) ⟨rfl, rfl, rfl, by simp [World.setCell], fun j hj hn => heap_setCell_other _ _ _ _ hn⟩ (fun j ej e => by have := (typeAt_own hown ej).2.1; have := h.b1; omega)
  exact ⟨(h.bel.grown hg h.bel.size (fun j e => by have := (hr j e).2.1; have := h.b1; have := h.bb; omega)).setCell h.bb _, h.bb, h.b1, by simp [World.setCell]; exact Nat.le_trans h.bs hg.size, heap_setCell_same w3 B 4 _ _ v' hbx,
    own_off h.r0 hoff (hne h.r0 (by decide)), own_off h.r1 hoff (hne h.r1 (by decide)), own_off h.r2 hoff (hne h.r2 (by decide)), own_off h.r3 hoff (hne h.r3 (by decide)), hown',
    fun y hy => ⟨(h.oh y hy).z, (h.oh y hy).b, own_off (h.oh y hy).row hoff (hne (h.oh y hy).row (by decide)), (h.oh y hy).iz⟩,
    fun y hy => by rcases List.mem_append.1 hy with hy | hy; (· exact ⟨(h.oa y hy).z, (h.oa y hy).b, own_off (h.oa y hy).row hoff (hne (h.oa y hy).row (by decide)), (h.oa y hy).iz⟩); (· exact ⟨(hmo y hy).z, (hmo y hy).b, own_off (hmo y hy).row hoff (hne (hmo y hy).row (by decide)), (hmo y hy).iz⟩)⟩


theorem cs_len_br (xs : List BreakS) : ∀ r ∈ xs.map BreakS.cs, r.length = 7 := by intro r hr; obtain ⟨x, _, rfl⟩ := List.mem_map.1 hr; rfl
theorem cs_len_ho (xs : List HotS) : ∀ r ∈ xs.map HotS.cs, r.length = 5 := by intro r hr; obtain ⟨x, _, rfl⟩ := List.mem_map.1 hr; rfl
theorem cs_len_sy (xs : List SysR) : ∀ r ∈ xs.map SysR.cs, r.length = 5 := by intro r hr; obtain ⟨x, _, rfl⟩ := List.mem_map.1 hr; rfl
theorem cs_len_au (xs : List AuthS) : ∀ r ∈ xs.map AuthS.cs, r.length = 3 := by intro r hr; obtain ⟨x, _, rfl⟩ := List.mem_map.1 hr; rfl
theorem cs_len_it (xs : List ItemS) : ∀ r ∈ xs.map ItemS.cs, r.length = 2 := by intro r hr; obtain ⟨x, _, rfl⟩ := List.mem_map.1 hr; rfl
theorem rows_own {w : World} {base m n : Nat} {e : TypeId} {v : Value} {rs : List (List Value)} (hL : ∀ r ∈ rs, r.length = n) (hm : rs.length = m) (h : w.ownsRow base e n v m rs.flatten) : ∃ a c, v = .slice a m c ∧ m ≤ c ∧ (a = none → m = 0 ∧ c = 0) ∧ RowsAt w a n rs := by
  rcases h.2 with ⟨h1, h2⟩ | ⟨g, cap, cur, rfl, hb, hg, hnc, _⟩
  · subst h2
    exact ⟨none, 0, h1, Nat.le_refl _, fun _ => ⟨rfl, rfl⟩, Or.inl (List.length_eq_zero_iff.1 hm)⟩
  · refine ⟨_, cap, rfl, hnc, (fun e => by cases e), Or.inr ⟨g, 0, rfl, (Array.getElem?_eq_some_iff.1 hg).1, fun j r hj k u hk hu => ?_⟩⟩
    rw [Nat.zero_add, rows_cell hL hm h hj k hk]
    exact hu
theorem rows_ownA {w : World} {base m n c : Nat} {e : TypeId} {a : Option Addr} {rs : List (List Value)} (hL : ∀ r ∈ rs, r.length = n) (hm : rs.length = m) (h : w.ownsRow base e n (.slice a m c) m rs.flatten) : m ≤ c ∧ (a = none → m = 0 ∧ c = 0) ∧ RowsAt w a n rs := by
  obtain ⟨a', c', hv, h1, h2, h3⟩ := rows_own hL hm h
  injection hv with e1 e2 e3
  subst e1 e3
  exact ⟨h1, h2, h3⟩
theorem HotOwn.ok {w : World} {base : Nat} {h : HotS} (x : HotOwn w base h) : HotOk w h := by
  have hl : (h.items.map ItemS.cs).length = h.il := by
    have h1 := x.row.1
    rw [flatten_len (cs_len_it h.items)] at h1
    exact Nat.eq_of_mul_eq_mul_right (by decide) h1
  obtain ⟨h1, h2, h3⟩ := rows_ownA (cs_len_it h.items) hl x.row
  exact ⟨x.z, by simpa using hl, h1, x.b, h2, h3, x.iz⟩
theorem AuthOwn.ok {w : World} {base : Nat} {h : AuthS} (x : AuthOwn w base h) : AuthOk w h := by
  have hl : h.orig.length = h.ol := by have h1 := x.row.1; simpa using h1
  rcases hr : x.row.2 with ⟨h1, h2⟩ | ⟨g, cap, cur, h1, hb, hg, hnc, _⟩
  · injection h1 with e1 e2 e3
    exact ⟨x.z, hl, by omega, x.b, fun _ => ⟨h2, e3⟩, Or.inl (List.length_eq_zero_iff.1 (by omega)), x.iz⟩
  · injection h1 with e1 e2 e3
    refine ⟨x.z, hl, by omega, x.b, (fun e => by rw [e] at e1; cases e1), Or.inr ⟨g, 0, e1, (Array.getElem?_eq_some_iff.1 hg).1, fun j hj => ?_⟩, x.iz⟩
    have hw := x.row
    rw [e1] at hw
    rw [Nat.zero_add, hw.cellAt j (by omega)]
    simp [List.getD, hj]


def JoinR (v0 v1 v2 v3 v4 : Value) (fl : List FlowS) (br : List BreakS) (ho : List HotS) (sy : List SysR) (au : List AuthS) (r : RulesS) : Prop := r.v = .agg #[v0, v1, v2, v3, v4] ∧ r.fl = fl ∧ r.br = br ∧ r.ho = ho ∧ r.sy = sy ∧ r.au = au
theorem JoinI.rules {w0 : World} {base B : Nat} {v0 v1 v2 v3 v4 : Value} {fl : List FlowS} {br : List BreakS} {ho : List HotS} {sy : List SysR} {au : List AuthS} {w : World} (h : JoinI w0 base B v0 v1 v2 v3 v4 fl br ho sy au w)
    (s0 : fl.length * 120 ≤ 140737488351232) (s1 : br.length * 64 ≤ 140737488351232) (s2 : ho.length * 64 ≤ 140737488351232) (s3 : sy.length * 40 ≤ 140737488351232) (s4 : au.length * 48 ≤ 140737488351232)
    (zf : ∀ f ∈ fl, f.res.size ≤ maxLen ∧ f.org.size ≤ maxLen ∧ f.ref.size ≤ maxLen) (zb : ∀ b ∈ br, b.res.size ≤ maxLen) (wf : ∀ f ∈ fl, 0 ≤ f.strat ∧ 0 ≤ f.shape) (wb : ∀ b ∈ br, 0 ≤ b.gr) :
    ∃ r, JoinR v0 v1 v2 v3 v4 fl br ho sy au r ∧ ∀ (S : Nat → Prop) (w2 : World), Off S w w2 → (∀ k, k < w.heap.size → S k → k < base) → RulesAt w2 r := by
  obtain ⟨⟨a0, c0, rfl⟩, ⟨a1, c1, rfl⟩, ⟨a2, c2, rfl⟩, ⟨a3, c3, rfl⟩, ⟨a4, c4, rfl⟩⟩ := h.slices
  refine ⟨⟨a0, fl.length, c0, a1, br.length, c1, a2, ho.length, c2, a3, sy.length, c3, a4, au.length, c4, fl, br, ho, sy, au⟩, ⟨rfl, rfl, rfl, rfl, rfl, rfl⟩, ?_⟩
  intro S w2 hoff hS
  have hlt : ∀ {n size : Nat} {e : TypeId} {v : Value} {xs : List Value}, w.ownsRow base e size v n xs → ∀ k, v.ownBlock = some k → ¬ S k := fun h k e hs => by have h1 := typeAt_own h e; have := hS k h1.2.2 hs; omega
  have R0 := own_off h.r0 hoff (hlt h.r0)
  obtain ⟨a0', c0', hv0, hf, hl0⟩ := flows_own R0
  injection hv0 with q1 q2 q3
  subst q1 q3
  have hn0 : a0 = none → fl.length = 0 ∧ c0 = 0 := fun e => by
    rcases R0.2 with ⟨h1, h2⟩ | ⟨g, cap, cur, h1, _⟩
    · injection h1 with e1 e2 e3; exact ⟨e2, e3⟩
    · injection h1 with e1 e2 e3; rw [e] at e1; cases e1
  obtain ⟨_, hn1, h1⟩ := rows_ownA (cs_len_br br) (by simp) (own_off h.r1 hoff (hlt h.r1))
  obtain ⟨_, hn2, h2⟩ := rows_ownA (cs_len_ho ho) (by simp) (own_off h.r2 hoff (hlt h.r2))
  obtain ⟨_, hn3, h3⟩ := rows_ownA (cs_len_sy sy) (by simp) (own_off h.r3 hoff (hlt h.r3))
  obtain ⟨_, hn4, h4⟩ := rows_ownA (cs_len_au au) (by simp) (own_off h.r4 hoff (hlt h.r4))
  exact ⟨rfl, rfl, rfl, rfl, rfl, s0, s1, s2, s3, s4, hn0, hn1, hn2, hn3, hn4, hf, h1, h2, h3, h4, zf, zb,
    fun x hx => (HotOwn.mk (h.oh x hx).z (h.oh x hx).b (own_off (h.oh x hx).row hoff (hlt (h.oh x hx).row)) (h.oh x hx).iz : HotOwn w2 base x).ok,
    fun x hx => (AuthOwn.mk (h.oa x hx).z (h.oa x hx).b (own_off (h.oa x hx).row hoff (hlt (h.oa x hx).row)) (h.oa x hx).iz : AuthOwn w2 base x).ok, wf, wb⟩
theorem flatMap_le {α β : Type} {f : α → List β} : ∀ {ls : List α} {k : Nat} {x : α}, ls[k]? = some x → ((ls.take k).flatMap f).length + (f x).length ≤ (ls.flatMap f).length
  | y :: ls, 0, x, h => by
    obtain rfl : y = x := by simpa using h
    simp
  | y :: ls, k + 1, x, h => by
    have := flatMap_le (f := f) (ls := ls) (k := k) (by simpa using h)
    simp only [List.take_succ_cons, List.flatMap_cons, List.length_append]
    omega
theorem flatMap_next {α β : Type} {f : α → List β} {ls : List α} {k : Nat} {x : α} (h : ls[k]? = some x) : (ls.take (k + 1)).flatMap f = (ls.take k).flatMap f ++ f x := by
  rw [List.take_add_one, h, Option.toList_some, List.flatMap_append]; simp
theorem flowsAt_cells {w : World} {a : Option Addr} {fs : List FlowS} (h : FlowsAt w a fs) : ∀ b, a = some b → ∀ j u, (flatF fs)[j]? = some u → w.cell? (b.add j) = some u := by
  intro b0 e j u hu
  rcases h with h | ⟨b, off, rfl, _, hc⟩
  · subst h; simp [flatF] at hu
  · injection e with e; subst e
    exact flat_cells hc j u hu
theorem rowsAt_cells {w : World} {a : Option Addr} {n : Nat} {rs : List (List Value)} (hL : ∀ r ∈ rs, r.length = n) (hn : 0 < n) (h : RowsAt w a n rs) : ∀ b, a = some b → ∀ j u, rs.flatten[j]? = some u → w.cell? (b.add j) = some u := by
  intro b0 e j u hu
  rcases h with h | ⟨b, off, rfl, _, hc⟩
  · subst h; simp at hu
  · injection e with e; subst e
    have hj : j < rs.length * n := by rw [← flatten_len hL]; exact (List.getElem?_eq_some_iff.1 hu).1
    have hd : j / n < rs.length := Nat.div_lt_of_lt_mul (by rw [Nat.mul_comm]; exact hj)
    have hr : rs[j / n]? = some (rs[j / n]'hd) := List.getElem?_eq_getElem hd
    have h2 := flatten_get hL hr (j % n) (Nat.mod_lt _ hn)
    rw [Nat.div_add_mod' j n, hu] at h2
    rw [Go.WideShapes.add_plain]
    have h3 := hc _ _ hr (j % n) u (Nat.mod_lt _ hn) h2.symm
    rw [Nat.add_assoc, Nat.div_add_mod' j n] at h3
    exact h3
theorem texts_cells {w : World} {a : Option Addr} {ss : List ByteArray} (h : TextsAt w a ss) : ∀ b, a = some b → ∀ j u, (ss.map Value.string)[j]? = some u → w.cell? (b.add j) = some u := by
  intro b0 e j u hu
  rcases h with h | ⟨b, off, rfl, _, hc⟩
  · subst h; simp at hu
  · injection e with e; subst e
    have hj : j < ss.length := by have := (List.getElem?_eq_some_iff.1 hu).1; simpa using this
    rw [Go.WideShapes.add_plain, hc j hj]
    simp [List.getElem?_map, hj, List.getD] at hu ⊢
    exact hu
theorem one_of {α : Type} {f : α → List Value} (h : ∀ x, ∀ u ∈ f x, u.oneCell' = true) (xs : List α) : ∀ u ∈ (xs.map f).flatten, u.oneCell' = true := by
  intro u hu
  obtain ⟨r, hr, hu⟩ := List.mem_flatten.1 hu
  obtain ⟨x, _, rfl⟩ := List.mem_map.1 hr
  exact h x u hu
theorem one_br (x : BreakS) : ∀ u ∈ x.cs, u.oneCell' = true := by intro u hu; simp only [BreakS.cs, List.mem_cons, List.not_mem_nil, or_false] at hu; rcases hu with rfl | rfl | rfl | rfl | rfl | rfl | rfl <;> rfl
theorem one_ho (x : HotS) : ∀ u ∈ x.cs, u.oneCell' = true := by intro u hu; simp only [HotS.cs, List.mem_cons, List.not_mem_nil, or_false] at hu; rcases hu with rfl | rfl | rfl | rfl | rfl <;> rfl
theorem one_sy (x : SysR) : ∀ u ∈ x.cs, u.oneCell' = true := by intro u hu; simp only [SysR.cs, List.mem_cons, List.not_mem_nil, or_false] at hu; rcases hu with rfl | rfl | rfl | rfl | rfl <;> rfl
theorem one_au (x : AuthS) : ∀ u ∈ x.cs, u.oneCell' = true := by intro u hu; simp only [AuthS.cs, List.mem_cons, List.not_mem_nil, or_false] at hu; rcases hu with rfl | rfl | rfl <;> rfl
theorem one_it (x : ItemS) : ∀ u ∈ x.cs, u.oneCell' = true := by intro u hu; simp only [ItemS.cs, List.mem_cons, List.not_mem_nil, or_false] at hu; rcases hu with rfl | rfl <;> rfl
theorem one_tx (ss : List ByteArray) : ∀ u ∈ ss.map Value.string, u.oneCell' = true := by intro u hu; obtain ⟨s, _, rfl⟩ := List.mem_map.1 hu; rfl
theorem wpList_append_fl {P : Program} (w : World) {ops : Array Oper} {rest : List Oper} {o : Oper} {a : Act} {Q : Exit → Act → World → Prop} (hgd : o.guard = none) (s x : Operand) (t : TypeId)
    (ho : o.op = .call { callee := .builtin .append, args := #[s, x], argTypes := #[t, t] })
    (base : Nat) (e : TypeId) (i : TypeInfo) (z : Value) (size bytes : Nat) (ht : P.underlying t = some (.slice e)) (hi : P.info? e = some i) (hz : i.zero = some z)
    (hsize : i.size = size) (hby : i.bytes = bytes) (hzs : z.cells.size = size) (hsz : 0 < size)
    (v : Value) (n : Nat) (xs : List Value) (hs : a.eval s = v) (hown : w.ownsRow base e size v n xs)
    (ad : Option Addr) (m c : Nat) (news : List Value) (hx : a.eval x = .slice ad m c) (hnil : ad = none → m = 0 ∧ c = 0) (hl : news.length = m * size) (hnews : ∀ b, ad = some b → ∀ j u, news[j]? = some u → w.cell? (b.add j) = some u) (h1 : ∀ u ∈ news, u.oneCell' = true)
    (h63 : n + m ≤ maxLen) (hbytes : (n + m) * bytes ≤ 140737488355328) (hbase : base ≤ w.heap.size)
    (h : ∀ v' w', w'.ownsRow base e size v' (n + m) (xs ++ news) → w.grownBy w' v.ownBlock → wpList P ops Q rest (a.put o.dst v') w') : wpList P ops Q (o :: rest) a w :=
  wpList_plain hgd fun _ hK => wp_append_fl w s x t ho base e i z size bytes ht hi hz hsize hby hzs hsz v n xs hs hown ad m c news hx hnil hl hnews h1 h63 hbytes hbase fun v' w' p q => hK _ _ (h v' w' p q)

end Go.Proofs.Ytgkdpkpiejjfmaa