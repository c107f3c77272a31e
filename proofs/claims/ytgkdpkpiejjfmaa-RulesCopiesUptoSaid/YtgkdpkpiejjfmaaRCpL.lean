/- What Copy and Join give, as rules; stores that leave their shape. -/
import Derived.Test.YtgkdpkpiejjfmaaRCpK
namespace Go.Proofs.Ytgkdpkpiejjfmaa
open Go.RowKit
set_option linter.unusedVariables false
set_option linter.unusedSimpArgs false

/-- Rules whose lists lie in rows of their own. -/
def OwnR (w0 : World) (base B : Nat) (r : RulesS) (w : World) : Prop := JoinI w0 base B (.slice r.a0 r.n0 r.c0) (.slice r.a1 r.n1 r.c1) (.slice r.a2 r.n2 r.c2) (.slice r.a3 r.n3 r.c3) (.slice r.a4 r.n4 r.c4) r.fl r.br r.ho r.sy r.au w
/-- The rules of several, one behind the other. -/
structure SumR (ls : List RulesS) (r : RulesS) : Prop where
  fl : r.fl = ls.flatMap (·.fl)
  br : r.br = ls.flatMap (·.br)
  ho : r.ho.map hK = (ls.flatMap (·.ho)).map hK
  sy : r.sy = ls.flatMap (·.sy)
  au : r.au.map aK = (ls.flatMap (·.au)).map aK
theorem core_hK {xs ys : List HotS} (h : xs.map HotS.core = ys.map HotS.core) : xs.map hK = ys.map hK := by
  have h1 := congrArg (List.map hK) h
  rw [List.map_map, List.map_map] at h1
  exact h1
theorem core_aK {xs ys : List AuthS} (h : xs.map AuthS.core = ys.map AuthS.core) : xs.map aK = ys.map aK := by
  have h1 := congrArg (List.map aK) h
  rw [List.map_map, List.map_map] at h1
  exact h1
theorem SumR.same {ls : List RulesS} {x y : RulesS} (hx : SumR ls x) (hy : SumR ls y) : SameRR x y := ⟨hx.fl.trans hy.fl.symm, hx.br.trans hy.br.symm, hx.ho.trans hy.ho.symm, hx.sy.trans hy.sy.symm, hx.au.trans hy.au.symm⟩
theorem SumR.one {x y : RulesS} (hx : SumR [y] x) : SameRR x y := by
  refine ⟨hx.fl.trans ?_, hx.br.trans ?_, hx.ho.trans ?_, hx.sy.trans ?_, hx.au.trans ?_⟩ <;> simp
theorem JoinP.out {w w' : World} {ls : List RulesS} {e : Ending} (h : JoinP w ls e w') (hz : ∀ x ∈ ls, RulesAt w x)
    (s0 : (ls.flatMap (·.fl)).length * 120 ≤ 140737488351232) (s1 : (ls.flatMap (·.br)).length * 64 ≤ 140737488351232) (s2 : (ls.flatMap (·.ho)).length * 64 ≤ 140737488351232) (s3 : (ls.flatMap (·.sy)).length * 40 ≤ 140737488351232) (s4 : (ls.flatMap (·.au)).length * 48 ≤ 140737488351232) :
    ∃ base B r, e = .returned (.agg r.cs) ∧ OwnR w base B r w' ∧ SumR ls r ∧ (∀ (S : Nat → Prop) (w2 : World), Off S w' w2 → (∀ k, k < w'.heap.size → S k → k < base) → RulesAt w2 r) := by
  obtain ⟨base, B, v0, v1, v2, v3, v4, ho, au, rfl, hj, hho, hau⟩ := h
  have l2 := len_core hho
  have l4 := len_coreA hau
  obtain ⟨r, ⟨hv, h0, h1, h2, h3, h4⟩, hr⟩ := hj.rules s0 s1 (by rw [l2]; exact s2) s3 (by rw [l4]; exact s4)
    (fun f hf => by obtain ⟨x, hx, hf⟩ := List.mem_flatMap.1 hf; exact (hz x hx).zf f hf) (fun f hf => by obtain ⟨x, hx, hf⟩ := List.mem_flatMap.1 hf; exact (hz x hx).zb f hf)
    (fun f hf => by obtain ⟨x, hx, hf⟩ := List.mem_flatMap.1 hf; exact (hz x hx).wf f hf) (fun f hf => by obtain ⟨x, hx, hf⟩ := List.mem_flatMap.1 hf; exact (hz x hx).wb f hf)
  unfold RulesS.v RulesS.cs at hv
  injection hv with hv
  injection hv with hv
  injection hv with e0 hv
  injection hv with e1 hv
  injection hv with e2 hv
  injection hv with e3 hv
  injection hv with e4 hv
  subst e0 e1 e2 e3 e4
  refine ⟨base, B, r, rfl, ?_, ⟨h0, h1, by rw [h2]; exact core_hK hho, h3, by rw [h4]; exact core_aK hau⟩, hr⟩
  unfold OwnR
  rw [h0, h1, h2, h3, h4]
  exact hj
theorem OwnR.below {w0 w w' : World} {base B : Nat} {r : RulesS} (h : OwnR w0 base B r w) (hb : Below w.heap.size w w') : OwnR w0 base B r w' := JoinI.below h hb

theorem row_cell {w : World} {base size n c : Nat} {e : TypeId} {a : Option Addr} {xs : List Value} (h : w.ownsRow base e size (.slice a n c) n xs) {i k : Nat} (hi : i < n) (hk : k < size) : ∃ g off cur, a = some ⟨g, off, none⟩ ∧ base ≤ g ∧ w.heap[g]? = some (.cells cur e) ∧ off + i * size + k < cur.size := by
  rcases h.2 with ⟨h1, h2⟩ | ⟨g, cap, cur, h1, h2, h3, h4, h5, h6, h7⟩
  · omega
  · injection h1 with e1 e2 e3
    refine ⟨g, 0, cur, e1, h2, h3, ?_⟩
    rw [h6]
    have h8 : (i + 1) * size ≤ cap * size := Nat.mul_le_mul_right _ (by omega)
    rw [Nat.add_mul] at h8
    omega
/-- Cells that may change their value. -/
def loose (t : TypeId) : Bool := t == 41 || t == 46 || t == 9 || t == 51
structure Shp (w : World) (lo hi : Nat) (wr : World) : Prop where
  off : Off (fun k => lo ≤ k ∧ k < hi) w wr
  size : wr.heap.size = w.heap.size
  sh : ∀ (k : Nat) (xs : Array Value) (t : TypeId), w.heap[k]? = some (.cells xs t) → ∃ ys, wr.heap[k]? = some (.cells ys t) ∧ ys.size = xs.size ∧ (loose t = false → ys = xs)
theorem Shp.refl (w : World) (lo hi : Nat) : Shp w lo hi w := ⟨⟨rfl, rfl, rfl, Nat.le_refl _, fun _ _ _ => rfl⟩, rfl, fun k xs t h => ⟨xs, h, rfl, fun _ => rfl⟩⟩
theorem Shp.set {w wr : World} {lo hi g k : Nat} {v : Value} {cur : Array Value} {t : TypeId} (h : Shp w lo hi wr) (hg : w.heap[g]? = some (.cells cur t)) (hl : loose t = true) (h1 : lo ≤ g) (h2 : g < hi) : Shp w lo hi (wr.setCell ⟨g, k, none⟩ v) := by
  obtain ⟨ys, hy, hys, _⟩ := h.sh g cur t hg
  refine ⟨⟨h.off.os, h.off.tape, h.off.output, by simpa [World.setCell] using h.off.size, fun j hj hn => ?_⟩, by simpa [World.setCell] using h.size, fun j xs t' hj => ?_⟩
  · have hne : j ≠ g := fun e => hn (by rw [e]; exact ⟨h1, h2⟩)
    exact (heap_setCell_other _ _ _ _ hne).trans (h.off.block j hj hn)
  · by_cases e : j = g
    · subst e
      rw [hg] at hj
      injection hj with hj
      injection hj with e1 e2
      subst e1 e2
      refine ⟨_, heap_setCell_same wr j k _ _ v hy, ?_, fun hf => by rw [hl] at hf; cases hf⟩
      simpa using hys
    · obtain ⟨ys', hy', hys', hz'⟩ := h.sh j xs t' hj
      exact ⟨ys', (heap_setCell_other _ _ _ _ e).trans hy', hys', hz'⟩
/-- A cell that is there may be stored to. -/
theorem Shp.cell {w wr : World} {lo hi g k : Nat} {cur : Array Value} {t : TypeId} (h : Shp w lo hi wr) (hg : w.heap[g]? = some (.cells cur t)) (hk : k < cur.size) : ∃ u, wr.cell? ⟨g, k, none⟩ = some u ∧ wr.frozen? ⟨g, k, none⟩ = false := by
  obtain ⟨ys, hy, hys, _⟩ := h.sh g cur t hg
  refine ⟨ys[k]'(by omega), ?_, by simp [World.frozen?, hy]⟩
  simp only [World.cell?, hy]
  simp [show k < ys.size by omega]
/-- What is not loose is as it was. -/
theorem Shp.keep {w wr : World} {lo hi g : Nat} {cur : Array Value} {t : TypeId} (h : Shp w lo hi wr) (hg : w.heap[g]? = some (.cells cur t)) (hl : loose t = false) : wr.heap[g]? = some (.cells cur t) := by
  obtain ⟨ys, hy, _, hz⟩ := h.sh g cur t hg
  rw [hz hl] at hy
  exact hy
theorem Shp.keepCell {w wr : World} {lo hi g k : Nat} {cur : Array Value} {t : TypeId} (h : Shp w lo hi wr) (hg : w.heap[g]? = some (.cells cur t)) (hl : loose t = false) : wr.cell? ⟨g, k, none⟩ = w.cell? ⟨g, k, none⟩ := by
  have h1 := h.keep hg hl
  simp only [World.cell?, h1, hg]
end Go.Proofs.Ytgkdpkpiejjfmaa
