/- Rules that are joined: one rule with a list of its own. -/
import Derived.Test.YtgkdpkpiejjfmaaJoinI
import Derived.Test.YtgkdpkpiejjfmaaHotR
namespace Go.Proofs.Ytgkdpkpiejjfmaa
open Go.RowKit
set_option linter.unusedVariables false
set_option linter.unusedSimpArgs false


def hotbO (y : HotS) : Obj := .cells #[.string y.res, .int .i64 y.idx, .int .i64 y.cnt, .int .i64 y.secs, .slice y.ia y.il y.ic] 44
def hotbN (y : HotS) (ya : Option Addr) (yc : Nat) : Obj := .cells #[.string y.res, .int .i64 y.idx, .int .i64 y.cnt, .int .i64 y.secs, .slice ya y.il yc] 44
theorem join_hotb {w1 : World} {base B : Nat} {v0 v1 v2 v3 v4 : Value} {fl : List FlowS} {br : List BreakS} {ho : List HotS} {sy : List SysR} {au : List AuthS} {w w4 : World} (h : JoinI w1 base B v0 v1 v2 v3 v4 fl br ho sy au w) (y : HotS) (ok : HotOk w y) {g : Nat} (hg : g = w.heap.size) {ya : Option Addr} {yc : Nat} (hown4 : w4.ownsRow base 46 2 (.slice ya y.il yc) y.il ((y.items.map ItemS.cs).flatten)) (hg4 : (w.alloc (hotbO y)).grownBy w4 none) :
    (w4.frozen? ⟨g, 4, none⟩ = false ∧ w4.cell? ⟨g, 4, none⟩ = some (.slice y.ia y.il y.ic)) ∧ JoinI w1 base B v0 v1 v2 v3 v4 fl br ho sy au (w4.setCell ⟨g, 4, none⟩ (.slice ya y.il yc)) ∧ ((w4.setCell ⟨g, 4, none⟩ (.slice ya y.il yc)).cell? ⟨g, 0, none⟩ = some (.string y.res) ∧ (w4.setCell ⟨g, 4, none⟩ (.slice ya y.il yc)).cell? ⟨g, 1, none⟩ = some (.int .i64 y.idx) ∧ (w4.setCell ⟨g, 4, none⟩ (.slice ya y.il yc)).cell? ⟨g, 2, none⟩ = some (.int .i64 y.cnt) ∧ (w4.setCell ⟨g, 4, none⟩ (.slice ya y.il yc)).cell? ⟨g, 3, none⟩ = some (.int .i64 y.secs) ∧ (w4.setCell ⟨g, 4, none⟩ (.slice ya y.il yc)).cell? ⟨g, 4, none⟩ = some (.slice ya y.il yc)) ∧ HotOwn (w4.setCell ⟨g, 4, none⟩ (.slice ya y.il yc)) base ⟨y.res, y.idx, y.cnt, y.secs, ya, y.il, yc, y.items⟩ := by
  have hb : Below w.heap.size w w4 := ((Below.refl _ _).alloc (Nat.le_refl _) _).grown hg4 (by simp) (fun k e => by cases e)
  have hgh : w4.heap[g]? = some (hotbO y) := by
    rw [hg]
    exact (hg4.block _ (by simp) (by simp)).trans (by rw [get_allocB, if_pos rfl])
  unfold hotbO at hgh
  have hJ := h.below (hb.setCell (p := ⟨g, 4, none⟩) (by rw [hg]; exact Nat.le_refl _) (.slice ya y.il yc))
  have hn := heap_setCell_same w4 g 4 _ _ (.slice ya y.il yc) hgh
  refine ⟨⟨by simp [World.frozen?, hgh], by simp only [World.cell?, hgh]; rfl⟩, hJ, ?_, ⟨ok.z, ok.b, ?_, ok.iz⟩⟩
  · simp only [World.cell?, hn]
    exact ⟨rfl, rfl, rfl, rfl, rfl⟩
  · refine own_off hown4 (S := fun j => j = g) ⟨rfl, rfl, rfl, by simp [World.setCell], fun j hj hne => heap_setCell_other _ _ _ _ hne⟩ (fun j ej e => ?_)
    have h1 := (typeAt_own hown4 ej).1
    rw [e] at h1
    unfold typeAt at h1
    rw [hgh] at h1
    have h2 := Option.some.inj h1
    exact absurd h2 (by decide)
theorem join_hotb2 {w1 : World} {base B : Nat} {v0 v1 v2 v3 v4 : Value} {fl : List FlowS} {br : List BreakS} {ho : List HotS} {sy : List SysR} {au : List AuthS} {w w5 : World} {v' : Value} (h : JoinI w1 base B v0 v1 v2 v3 v4 fl br ho sy au w) (y : HotS) (o : Obj) (hown5 : w5.ownsRow base 44 5 v' (ho.length + 1) ((ho.map HotS.cs).flatten ++ y.cs)) (hg5 : (w.alloc o).grownBy w5 v2.ownBlock) (hy : HotOwn w base y) :
    (w5.frozen? ⟨B, 2, none⟩ = false ∧ w5.cell? ⟨B, 2, none⟩ = some v2) ∧ JoinI w1 base B v0 v1 v' v3 v4 fl br (ho ++ [y]) sy au (w5.setCell ⟨B, 2, none⟩ v') := by
  have hA := h.below ((Below.refl _ _).alloc (Nat.le_refl _) o)
  have hB : B < (w.alloc o).heap.size := (Array.getElem?_eq_some_iff.1 hA.box).1
  have hbx := (hg5.block B hB (fun e => by have h1 := (typeAt_own hA.r2 e.symm).2.1; have := hA.b1; omega)).trans hA.box
  refine ⟨⟨by simp [World.frozen?, hbx], by simp only [World.cell?, hbx]; rfl⟩, ?_⟩
  refine hA.app2 (more := [y]) (fun z hz => ?_) (by simpa using hown5) hg5
  obtain rfl := List.mem_singleton.1 hz
  exact ⟨hy.z, hy.b, hy.row.alloc o, hy.iz⟩

def autbO (y : AuthS) : Obj := .cells #[.string y.res, .bool y.white, .slice y.oa y.ol y.oc] 48
def autbN (y : AuthS) (ya : Option Addr) (yc : Nat) : Obj := .cells #[.string y.res, .bool y.white, .slice ya y.ol yc] 48
theorem join_autb {w1 : World} {base B : Nat} {v0 v1 v2 v3 v4 : Value} {fl : List FlowS} {br : List BreakS} {ho : List HotS} {sy : List SysR} {au : List AuthS} {w w4 : World} (h : JoinI w1 base B v0 v1 v2 v3 v4 fl br ho sy au w) (y : AuthS) (ok : AuthOk w y) {g : Nat} (hg : g = w.heap.size) {ya : Option Addr} {yc : Nat} (hown4 : w4.ownsRow base 9 1 (.slice ya y.ol yc) y.ol (y.orig.map Value.string)) (hg4 : (w.alloc (autbO y)).grownBy w4 none) :
    (w4.frozen? ⟨g, 2, none⟩ = false ∧ w4.cell? ⟨g, 2, none⟩ = some (.slice y.oa y.ol y.oc)) ∧ JoinI w1 base B v0 v1 v2 v3 v4 fl br ho sy au (w4.setCell ⟨g, 2, none⟩ (.slice ya y.ol yc)) ∧ ((w4.setCell ⟨g, 2, none⟩ (.slice ya y.ol yc)).cell? ⟨g, 0, none⟩ = some (.string y.res) ∧ (w4.setCell ⟨g, 2, none⟩ (.slice ya y.ol yc)).cell? ⟨g, 1, none⟩ = some (.bool y.white) ∧ (w4.setCell ⟨g, 2, none⟩ (.slice ya y.ol yc)).cell? ⟨g, 2, none⟩ = some (.slice ya y.ol yc)) ∧ AuthOwn (w4.setCell ⟨g, 2, none⟩ (.slice ya y.ol yc)) base ⟨y.res, y.white, ya, y.ol, yc, y.orig⟩ := by
  have hb : Below w.heap.size w w4 := ((Below.refl _ _).alloc (Nat.le_refl _) _).grown hg4 (by simp) (fun k e => by cases e)
  have hgh : w4.heap[g]? = some (autbO y) := by
    rw [hg]
    exact (hg4.block _ (by simp) (by simp)).trans (by rw [get_allocB, if_pos rfl])
  unfold autbO at hgh
  have hJ := h.below (hb.setCell (p := ⟨g, 2, none⟩) (by rw [hg]; exact Nat.le_refl _) (.slice ya y.ol yc))
  have hn := heap_setCell_same w4 g 2 _ _ (.slice ya y.ol yc) hgh
  refine ⟨⟨by simp [World.frozen?, hgh], by simp only [World.cell?, hgh]; rfl⟩, hJ, ?_, ⟨ok.z, ok.b, ?_, ok.iz⟩⟩
  · simp only [World.cell?, hn]
    exact ⟨rfl, rfl, rfl⟩
  · refine own_off hown4 (S := fun j => j = g) ⟨rfl, rfl, rfl, by simp [World.setCell], fun j hj hne => heap_setCell_other _ _ _ _ hne⟩ (fun j ej e => ?_)
    have h1 := (typeAt_own hown4 ej).1
    rw [e] at h1
    unfold typeAt at h1
    rw [hgh] at h1
    have h2 := Option.some.inj h1
    exact absurd h2 (by decide)
theorem join_autb2 {w1 : World} {base B : Nat} {v0 v1 v2 v3 v4 : Value} {fl : List FlowS} {br : List BreakS} {ho : List HotS} {sy : List SysR} {au : List AuthS} {w w5 : World} {v' : Value} (h : JoinI w1 base B v0 v1 v2 v3 v4 fl br ho sy au w) (y : AuthS) (o : Obj) (hown5 : w5.ownsRow base 48 3 v' (au.length + 1) ((au.map AuthS.cs).flatten ++ y.cs)) (hg5 : (w.alloc o).grownBy w5 v4.ownBlock) (hy : AuthOwn w base y) :
    (w5.frozen? ⟨B, 4, none⟩ = false ∧ w5.cell? ⟨B, 4, none⟩ = some v4) ∧ JoinI w1 base B v0 v1 v2 v3 v' fl br ho sy (au ++ [y]) (w5.setCell ⟨B, 4, none⟩ v') := by
  have hA := h.below ((Below.refl _ _).alloc (Nat.le_refl _) o)
  have hB : B < (w.alloc o).heap.size := (Array.getElem?_eq_some_iff.1 hA.box).1
  have hbx := (hg5.block B hB (fun e => by have h1 := (typeAt_own hA.r4 e.symm).2.1; have := hA.b1; omega)).trans hA.box
  refine ⟨⟨by simp [World.frozen?, hbx], by simp only [World.cell?, hbx]; rfl⟩, ?_⟩
  refine hA.app4 (more := [y]) (fun z hz => ?_) (by simpa using hown5) hg5
  obtain rfl := List.mem_singleton.1 hz
  exact ⟨hy.z, hy.b, hy.row.alloc o, hy.iz⟩

theorem alloc_cells {w : World} (cs : Array Value) (t : TypeId) {b : Nat} (hb : b = w.heap.size) : ∀ a, some (⟨b, 0, none⟩ : Addr) = some a → ∀ j u, cs.toList[j]? = some u → (w.alloc (.cells cs t)).cell? (a.add j) = some u := by
  intro a e j u hu
  injection e with e
  subst e hb
  have : (w.alloc (.cells cs t)).heap[w.heap.size]? = some (.cells cs t) := by rw [get_allocB, if_pos rfl]
  rw [Go.WideShapes.add_plain]
  simp only [World.cell?, this]
  rw [Nat.zero_add, ← hu]
  simp
end Go.Proofs.Ytgkdpkpiejjfmaa