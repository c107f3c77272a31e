/- What lies in memory while HandRules goes. -/
import Derived.Test.YtnobfmlfhaaghaaTextB
import Derived.Test.YtnobfmlfhaaghaaHandIt
import Derived.Test.YtnobfmlfhaaghaaRing
namespace Go.Proofs.Ytnobfmlfhaaghaa
open Go.RowKit
set_option linter.unusedVariables false
set_option linter.unusedSimpArgs false

def typeAtH (w : World) (k : Nat) : Option TypeId := match w.heap[k]? with | some (.cells _ t _) => some t | _ => none
theorem typeAtH_own {w : World} {base n size k : Nat} {e : TypeId} {v : Value} {xs : List Value} (h : w.ownsRow base e size v n xs) (hk : v.ownBlock = some k) : typeAtH w k = some e ∧ base ≤ k ∧ k < w.heap.size := by
  rcases h.2 with ⟨rfl, _⟩ | ⟨g, cap, cur, rfl, hb, hg, _⟩
  · cases hk
  · obtain rfl : g = k := by simpa [Value.ownBlock] using hk
    exact ⟨by unfold typeAtH; rw [hg], hb, (Array.getElem?_eq_some_iff.1 hg).1⟩
theorem ownH_off {S : Nat → Prop} {w w' : World} {base n size : Nat} {e : TypeId} {v : Value} {xs : List Value} (h : w.ownsRow base e size v n xs) (ho : Off S w w') (hS : ∀ k, v.ownBlock = some k → ¬ S k) : w'.ownsRow base e size v n xs := by
  refine ⟨h.1, ?_⟩
  rcases h.2 with hn | ⟨g, cap, cur, rfl, hb, hg, rest⟩
  · exact Or.inl hn
  · exact Or.inr ⟨g, cap, cur, rfl, hb, (ho.block g (Array.getElem?_eq_some_iff.1 hg).1 (hS g rfl)).trans hg, rest⟩
/-- The same rule, wherever its items lie. -/
def HotS.kern (h : HotS) : HotS := ⟨h.res, h.idx, h.cnt, h.secs, none, 0, 0, h.items⟩
def AuthS.kern (x : AuthS) : AuthS := ⟨x.res, x.white, none, 0, 0, x.orig⟩
def HotHand (w : World) (base : Nat) (h : HotS) : Prop := ∃ g b, base ≤ b ∧ h.ia = some ⟨g, 0, none⟩ ∧ h.ic = h.il + 9 ∧ h.items.length = h.il ∧ w.ownsRow b 106 2 (.slice (some ⟨g, 0, none⟩) (h.il + 9) (h.il + 9)) (h.il + 9) (fullIt (h.items.map ItemS.cs)).flatten
def AuthHand (w : World) (base : Nat) (x : AuthS) : Prop := ∃ g b, base ≤ b ∧ x.oa = some ⟨g, 0, none⟩ ∧ x.oc = x.ol + 9 ∧ x.orig.length = x.ol ∧ w.ownsRow b 9 1 (.slice (some ⟨g, 0, none⟩) (x.ol + 9) (x.ol + 9)) (x.ol + 9) (fullTx (x.orig.map strR)).flatten
theorem HotHand.below {w w' : World} {base : Nat} {h : HotS} (x : HotHand w base h) (hb : Below w.heap.size w w') : HotHand w' base h := by
  obtain ⟨g, b, c1, c2, c3, c4, c5⟩ := x
  exact ⟨g, b, c1, c2, c3, c4, below_ownT c5 hb⟩
theorem AuthHand.below {w w' : World} {base : Nat} {h : AuthS} (x : AuthHand w base h) (hb : Below w.heap.size w w') : AuthHand w' base h := by
  obtain ⟨g, b, c1, c2, c3, c4, c5⟩ := x
  exact ⟨g, b, c1, c2, c3, c4, below_ownT c5 hb⟩
structure HandI (w0 : World) (B N : Nat) (F Br Sy v2 v4 : Value) (ho : List HotS) (au : List AuthS) (w : World) : Prop where
  off : Off (fun j => j = B) w0 w
  bz : B < N
  nz : w0.heap.size = N
  box : w.heap[B]? = some (.cells #[F, Br, v2, Sy, v4] 45)
  r2 : w.ownsRow N 69 5 v2 ho.length (ho.map HotS.cs).flatten
  r4 : w.ownsRow N 37 3 v4 au.length (au.map AuthS.cs).flatten
  oh : ∀ h ∈ ho, HotHand w N h
  oa : ∀ a ∈ au, AuthHand w N a
theorem HandI.below {w0 : World} {B N : Nat} {F Br Sy v2 v4 : Value} {ho : List HotS} {au : List AuthS} {w w' : World} (h : HandI w0 B N F Br Sy v2 v4 ho au w) (hb : Below w.heap.size w w') : HandI w0 B N F Br Sy v2 v4 ho au w' :=
  ⟨h.off.trans (Off.ofBelow (S := fun _ => False) hb) (fun _ _ h => h.elim), h.bz, h.nz, (hb.block B (Array.getElem?_eq_some_iff.1 h.box).1).trans h.box, below_ownT h.r2 hb, below_ownT h.r4 hb, fun x hx => (h.oh x hx).below hb, fun x hx => (h.oa x hx).below hb⟩
theorem HandI.cells {w0 : World} {B N : Nat} {F Br Sy v2 v4 : Value} {ho : List HotS} {au : List AuthS} {w : World} (h : HandI w0 B N F Br Sy v2 v4 ho au w) : w.cell? ⟨B, 0, none⟩ = some F ∧ w.cell? ⟨B, 1, none⟩ = some Br ∧ w.cell? ⟨B, 2, none⟩ = some v2 ∧ w.cell? ⟨B, 3, none⟩ = some Sy ∧ w.cell? ⟨B, 4, none⟩ = some v4 := by
  have hb := h.box
  simp only [World.cell?, hb]
  exact ⟨rfl, rfl, rfl, rfl, rfl⟩
theorem HandI.froz {w0 : World} {B N : Nat} {F Br Sy v2 v4 : Value} {ho : List HotS} {au : List AuthS} {w : World} (h : HandI w0 B N F Br Sy v2 v4 ho au w) (k : Nat) : w.frozen? ⟨B, k, none⟩ = false := by
  have hb := h.box
  simp [World.frozen?, hb]

theorem HandI.app2 {w0 : World} {B N : Nat} {F Br Sy v2 v4 v' : Value} {ho : List HotS} {au : List AuthS} {x : HotS} {w w3 : World} (h : HandI w0 B N F Br Sy v2 v4 ho au w) (hx : HotHand w N x)
    (hown : w3.ownsRow N 69 5 v' (ho.length + 1) ((ho.map HotS.cs).flatten ++ x.cs)) (hg : w.grownBy w3 v2.ownBlock) :
    HandI w0 B N F Br Sy v' v4 (ho ++ [x]) au (w3.setCell ⟨B, 2, none⟩ v') := by
  have hB : B < w.heap.size := (Array.getElem?_eq_some_iff.1 h.box).1
  have hr := fun j e => typeAtH_own h.r2 (k := j) e
  have hbx : w3.heap[B]? = some (.cells #[F, Br, v2, Sy, v4] 45) := (hg.block B hB (fun e => by have := (hr B e.symm).2.1; have := h.bz; omega)).trans h.box
  have hoff : Off (fun j => v2.ownBlock = some j ∨ j = B) w (w3.setCell ⟨B, 2, none⟩ v') := by
    refine Off.setCell (S := fun j => v2.ownBlock = some j ∨ j = B) (p := ⟨B, 2, none⟩) ⟨hg.os, hg.tape, hg.output, hg.size, fun j hj hn => hg.block j hj (fun e => hn (Or.inl e.symm))⟩ (fun _ => Or.inr rfl) v'
  have hne : ∀ {n size b : Nat} {e : TypeId} {v : Value} {xs : List Value}, w.ownsRow b e size v n xs → N ≤ b → e ≠ 69 → ∀ j, v.ownBlock = some j → ¬ (v2.ownBlock = some j ∨ j = B) := fun hw hb he j ej => by
    have h1 := typeAtH_own hw ej
    rintro (h2 | h2)
    · have h3 := (hr j h2).1
      rw [h1.1] at h3
      exact he (by injection h3)
    · have := h1.2.1; have := h.bz; omega
  have hown' : (w3.setCell ⟨B, 2, none⟩ v').ownsRow N 69 5 v' (ho ++ [x]).length (((ho ++ [x]).map HotS.cs).flatten) := by
    have e1 : ((ho ++ [x]).map HotS.cs).flatten = (ho.map HotS.cs).flatten ++ x.cs := by rw [List.map_append, List.flatten_append]; simp
    rw [e1, List.length_append]
    exact ownH_off hown (S := fun j => j = B) ⟨rfl, rfl, rfl, by simp [World.setCell], fun j hj hn => heap_setCell_other _ _ _ _ hn⟩ (fun j ej e => by have := (typeAtH_own hown ej).2.1; have := h.bz; omega)
  have kH : ∀ y, HotHand w N y → HotHand (w3.setCell ⟨B, 2, none⟩ v') N y := fun y ⟨g, b, c1, c2, c3, c4, c5⟩ => ⟨g, b, c1, c2, c3, c4, ownH_off c5 hoff (hne c5 c1 (by decide))⟩
  have kA : ∀ y, AuthHand w N y → AuthHand (w3.setCell ⟨B, 2, none⟩ v') N y := fun y ⟨g, b, c1, c2, c3, c4, c5⟩ => ⟨g, b, c1, c2, c3, c4, ownH_off c5 hoff (hne c5 c1 (by decide))⟩
  refine ⟨h.off.trans hoff (fun j hj hs => by
    rcases hs with hs | hs
    · have := (hr j hs).2.1; have := h.nz; omega
    · exact hs), h.bz, h.nz, heap_setCell_same w3 B 2 _ _ v' hbx, ?_, ?_, ?_, ?_⟩
  · exact hown'
  · exact ownH_off h.r4 hoff (hne h.r4 (Nat.le_refl _) (by decide))
  · intro y hy
    rcases List.mem_append.1 hy with hy | hy
    · exact kH y (h.oh y hy)
    · obtain rfl := List.mem_singleton.1 hy; exact kH _ hx
  · intro y hy; exact kA y (h.oa y hy)

theorem HandI.app4 {w0 : World} {B N : Nat} {F Br Sy v2 v4 v' : Value} {ho : List HotS} {au : List AuthS} {x : AuthS} {w w3 : World} (h : HandI w0 B N F Br Sy v2 v4 ho au w) (hx : AuthHand w N x)
    (hown : w3.ownsRow N 37 3 v' (au.length + 1) ((au.map AuthS.cs).flatten ++ x.cs)) (hg : w.grownBy w3 v4.ownBlock) :
    HandI w0 B N F Br Sy v2 v' ho (au ++ [x]) (w3.setCell ⟨B, 4, none⟩ v') := by
  have hB : B < w.heap.size := (Array.getElem?_eq_some_iff.1 h.box).1
  have hr := fun j e => typeAtH_own h.r4 (k := j) e
  have hbx : w3.heap[B]? = some (.cells #[F, Br, v2, Sy, v4] 45) := (hg.block B hB (fun e => by have := (hr B e.symm).2.1; have := h.bz; omega)).trans h.box
  have hoff : Off (fun j => v4.ownBlock = some j ∨ j = B) w (w3.setCell ⟨B, 4, none⟩ v') := by
    refine Off.setCell (S := fun j => v4.ownBlock = some j ∨ j = B) (p := ⟨B, 4, none⟩) ⟨hg.os, hg.tape, hg.output, hg.size, fun j hj hn => hg.block j hj (fun e => hn (Or.inl e.symm))⟩ (fun _ => Or.inr rfl) v'
  have hne : ∀ {n size b : Nat} {e : TypeId} {v : Value} {xs : List Value}, w.ownsRow b e size v n xs → N ≤ b → e ≠ 37 → ∀ j, v.ownBlock = some j → ¬ (v4.ownBlock = some j ∨ j = B) := fun hw hb he j ej => by
    have h1 := typeAtH_own hw ej
    rintro (h2 | h2)
    · have h3 := (hr j h2).1
      rw [h1.1] at h3
      exact he (by injection h3)
    · have := h1.2.1; have := h.bz; omega
  have hown' : (w3.setCell ⟨B, 4, none⟩ v').ownsRow N 37 3 v' (au ++ [x]).length (((au ++ [x]).map AuthS.cs).flatten) := by
    have e1 : ((au ++ [x]).map AuthS.cs).flatten = (au.map AuthS.cs).flatten ++ x.cs := by rw [List.map_append, List.flatten_append]; simp
    rw [e1, List.length_append]
    exact ownH_off hown (S := fun j => j = B) ⟨rfl, rfl, rfl, by simp [World.setCell], fun j hj hn => heap_setCell_other _ _ _ _ hn⟩ (fun j ej e => by have := (typeAtH_own hown ej).2.1; have := h.bz; omega)
  have kH : ∀ y, HotHand w N y → HotHand (w3.setCell ⟨B, 4, none⟩ v') N y := fun y ⟨g, b, c1, c2, c3, c4, c5⟩ => ⟨g, b, c1, c2, c3, c4, ownH_off c5 hoff (hne c5 c1 (by decide))⟩
  have kA : ∀ y, AuthHand w N y → AuthHand (w3.setCell ⟨B, 4, none⟩ v') N y := fun y ⟨g, b, c1, c2, c3, c4, c5⟩ => ⟨g, b, c1, c2, c3, c4, ownH_off c5 hoff (hne c5 c1 (by decide))⟩
  refine ⟨h.off.trans hoff (fun j hj hs => by
    rcases hs with hs | hs
    · have := (hr j hs).2.1; have := h.nz; omega
    · exact hs), h.bz, h.nz, heap_setCell_same w3 B 4 _ _ v' hbx, ?_, ?_, ?_, ?_⟩
  · exact ownH_off h.r2 hoff (hne h.r2 (Nat.le_refl _) (by decide))
  · exact hown'
  · intro y hy; exact kH y (h.oh y hy)
  · intro y hy
    rcases List.mem_append.1 hy with hy | hy
    · exact kA y (h.oa y hy)
    · obtain rfl := List.mem_singleton.1 hy; exact kA _ hx
end Go.Proofs.Ytnobfmlfhaaghaa
