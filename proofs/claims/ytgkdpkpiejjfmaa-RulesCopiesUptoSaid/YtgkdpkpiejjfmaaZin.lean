/- How structs and slices that came in are opened at every depth, with the bytes of each. -/
import Derived.Test.YtgkdpkpiejjfmaaRecs2
import Derived.SliceStrings
import Derived.ProofKit
import Derived.OpenShut
import Derived.SizedLaws
namespace Go.Proofs.Ytgkdpkpiejjfmaa
open Go.ChangeShapes Go.WideShapes Go.ChangeAt Go.RowKit Go.Deep
set_option linter.unusedVariables false
set_option linter.unusedSimpArgs false

/-- No part of it takes more bytes than the reach. -/
def Sz {H : Type} (t : TypeId) (d : DataW H) : Prop := (d.weights Try.prog t).all (· ≤ reachBytes) = true
theorem sz_top {H : Type} {ts : List TypeId} {ds : List (DataW H)} {j t : Nat} {d : DataW H} (h : (DataW.weightsEach Try.prog ts ds).all (· ≤ reachBytes) = true) (ht : ts[j]? = some t) (hd : ds[j]? = some d) : Sz t d :=
  List.all_eq_true.2 fun n hn => List.all_eq_true.1 h n (DataW.weights_mem_each ht hd n hn)
theorem sz_field {H : Type} {t : Nat} {fs : Array Field} {parts : List (DataW H)} {k : Nat} {f : Field} {d : DataW H} (hu : Try.prog.underlying t = some (.struct fs)) (h : Sz t (.agg parts)) (hf : fs[k]? = some f) (hp : parts[k]? = some d) : Sz f.type d := by
  unfold Sz at h
  rw [DataW.weights, hu] at h
  exact sz_top h (j := k) (by simp [hf]) hp
theorem sz_slice {H : Type} {t e : Nat} {el sp : List (DataW H)} (hu : Try.prog.underlying t = some (.slice e)) (h : Sz t (.slice el sp)) : (el.length + sp.length) * Try.prog.bytesOf e ≤ reachBytes := by
  have := List.all_eq_true.1 h ((el.length + sp.length) * Try.prog.bytesOf e) (by simp [DataW.weights, hu])
  simpa using this
theorem weights_all_mem {H : Type} {P : Program} {e : TypeId} : ∀ {l : List (DataW H)} {d : DataW H}, d ∈ l → ∀ n ∈ d.weights P e, n ∈ DataW.weightsAll P e l
  | x :: r, d, h, n, hn => by
    simp only [DataW.weightsAll, List.mem_append]
    rcases List.mem_cons.1 h with rfl | h
    · exact Or.inl hn
    · exact Or.inr (weights_all_mem h n hn)
  | [], _, h, _, _ => by simp at h
theorem sz_elem {H : Type} {t e : Nat} {el sp : List (DataW H)} {d : DataW H} (hu : Try.prog.underlying t = some (.slice e)) (h : Sz t (.slice el sp)) (hd : d ∈ el) : Sz e d :=
  List.all_eq_true.2 fun n hn => List.all_eq_true.1 h n (by simp only [DataW.weights, hu, List.mem_cons, List.mem_append]; exact Or.inr (Or.inl (weights_all_mem hd n hn)))

set_option maxRecDepth 100000 in
theorem read_recsZ {H : Type} {enc : TypeId × Value → H} {W : World} {spare : Nat → Bool} {held : Bool} {base t e m0 : Nat} {fs : Array Field} {v : Value} {x0 : DataW H × List MemPlace}
    (ht : Try.prog.underlying t = some (.slice e)) (he : Try.prog.underlying e = some (.struct fs)) (hone : oneCellFields Try.prog fs = true) (hC : Try.prog.cellsOf e = fs.size) (hfs : 0 < fs.size)
    (hf : DataW.trod enc Try.prog W base spare held m0 t [v] = some x0) (hsz : Sz t x0.1) (hB : 0 < Try.prog.bytesOf e) :
    ∃ (a : Option Addr) (len cap : Nat) (V : Nat → Nat → Value), v = .slice a len cap ∧ RecsAt W a fs.size len V ∧ (a = none → len = 0 ∧ cap = 0) ∧ len ≤ cap ∧ len * Try.prog.bytesOf e ≤ 140737488351232 ∧ len ≤ 140737488351232 ∧
      ∀ j, j < len → ∀ (k : Nat) (f : Field), fs[k]? = some f → ∃ (y : DataW H × List MemPlace) (m : Nat), DataW.trod enc Try.prog W base spare held m f.type [V j k] = some y ∧ Sz f.type y.1 := by
  rcases open_slice ht hf with ⟨hcs, hx⟩ | ⟨x, l, c, m, n, D, Pl, hcs, _, hl, hm, hmm, hx, hi⟩
  · simp at hcs
    subst hcs
    exact ⟨none, 0, 0, fun _ _ => .bool false, rfl, Or.inl rfl, fun _ => ⟨rfl, rfl⟩, by omega, by omega, by omega, fun j hj => by omega⟩
  · simp at hcs
    subst hcs
    have hlm : l ≤ m := by rw [hmm]; split <;> omega
    rw [hx] at hsz
    have hs : l * Try.prog.bytesOf e ≤ 140737488351232 := by
      have := sz_slice ht hsz
      simp only [List.length_map, List.length_range, reachBytes] at this
      refine Nat.le_trans (Nat.mul_le_mul_right _ ?_) this
      omega
    have hs' : l ≤ 140737488351232 := Nat.le_trans (Nat.le_mul_of_pos_right _ hB) hs
    have key : ∀ i, i < l → ∀ (k : Nat) (f : Field), fs[k]? = some f → ∃ (v : Value), W.cell? (x.add (i * fs.size + k)) = some v ∧ ∃ (y : DataW H × List MemPlace) (m : Nat), DataW.trod enc Try.prog W base spare held m f.type [v] = some y ∧ Sz f.type y.1 := by
      intro i hil k f hk
      obtain ⟨cs', hc, ht'⟩ := hi i (by omega)
      rw [hC] at hc
      obtain ⟨ys, n', _, hye, hlen, _, hff⟩ := DataW.trod_struct he ht'
      obtain ⟨_, hcl, hat⟩ := World.cells?_some hc
      obtain ⟨ho, hkk⟩ := hone_of hone k f hk
      have hkl : k < fs.size := (Array.getElem?_eq_some_iff.1 hk).1
      have hv : cs'[k]? = some (cs'[k]'(by omega)) := List.getElem?_eq_getElem (by omega)
      have h1 := hff k f hk
      rw [ho, hkk] at h1
      have hone' : (cs'.drop k).take 1 = [cs'[k]'(by omega)] := by
        rw [List.drop_eq_getElem_cons (by omega)]; rfl
      rw [hone'] at h1
      have hys : ∃ y, ys[k]? = some y := ⟨_, List.getElem?_eq_getElem (by omega)⟩
      obtain ⟨y, hy⟩ := hys
      refine ⟨_, ?_, y, _, h1.trans hy, ?_⟩
      · rw [← Go.Deep.add_add, hat k hkl, hv]
      · have e1 : D i = .agg (ys.map (·.1)) := (Prod.mk.inj hye).1
        have e2 : Sz e (D i) := sz_elem ht hsz (List.mem_map.2 ⟨i, List.mem_range.2 hil, rfl⟩)
        rw [e1] at e2
        exact sz_field he e2 hk (by simp [hy])
    refine ⟨some x, l, c, fun j k => (W.cell? (x.add (j * fs.size + k))).getD (.bool false), rfl, ?_, by simp, hl, hs, hs', ?_⟩
    · by_cases h0 : l = 0
      · exact Or.inl h0
      · right
        have hcell : ∀ j, j < l → ∀ k, k < fs.size → ∃ v, W.cell? (x.add (j * fs.size + k)) = some v := fun j hj k hk => by
          obtain ⟨v, hv, _⟩ := key j hj k fs[k] (Array.getElem?_eq_getElem hk)
          exact ⟨v, hv⟩
        obtain ⟨b, off, spot⟩ := x
        obtain ⟨v0, hv0⟩ := hcell 0 (by omega) 0 hfs
        have hspot : spot = none := by simpa [Addr.add] using World.cell?_spot hv0
        subst hspot
        refine ⟨b, off, rfl, ?_, fun j hj k hk => ?_⟩
        · rw [Go.WideShapes.add_plain] at hv0
          exact World.block_lt_of_cell? W _ hv0
        · obtain ⟨v, hv⟩ := hcell j hj k hk
          show _ = some ((W.cell? _).getD _)
          rw [hv]
          rw [Go.WideShapes.add_plain] at hv
          exact hv
    · intro j hj k f hk
      obtain ⟨v, hv, y, m', hy, hb⟩ := key j hj k f hk
      exact ⟨y, m', by show DataW.trod _ _ _ _ _ _ _ _ [(W.cell? _).getD _] = _; rw [hv]; exact hy, hb⟩

set_option maxRecDepth 100000 in
theorem open_structZ {H : Type} {enc : TypeId × Value → H} {W : World} {spare : Nat → Bool} {held : Bool} {base b0 t : Nat} {r : Reach} {fs : Array Field} {v : Value} {d : DataW H} {p : List MemPlace}
    (ht : Try.prog.underlying t = some (.struct fs)) (hone : oneCellFields Try.prog fs = true) (hC : Try.prog.cellsOf t = fs.size)
    (hval : Value.okWide Try.prog W r b0 t v) (hd : DataW.Trod enc Try.prog W base spare held t v d p) (hsz : Sz t d) :
    ∃ cs : Array Value, v = .agg cs ∧ cs.size = fs.size ∧ ∀ (k : Nat) (f : Field), fs[k]? = some f → ∃ u, cs[k]? = some u ∧ ∃ (y : DataW H × List MemPlace) (m : Nat), DataW.trod enc Try.prog W base spare held m f.type [u] = some y ∧ Sz f.type y.1 := by
  obtain ⟨cs, rfl, hsz1⟩ := okWide_struct ht hval
  obtain ⟨fuel, hf⟩ := hd
  refine ⟨cs, rfl, hsz1.trans hC, fun k f hk => ?_⟩
  obtain ⟨ys, n', _, hye, hlen, _, hff⟩ := DataW.trod_struct ht hf
  have hcl : (Value.cells (.agg cs)).toList = cs.toList := rfl
  obtain ⟨ho, hkk⟩ := hone_of hone k f hk
  have hkl : k < fs.size := (Array.getElem?_eq_some_iff.1 hk).1
  have hks : k < cs.size := by rw [hsz1, hC]; exact hkl
  have h1 := hff k f hk
  rw [ho, hkk, hcl] at h1
  have hone' : (cs.toList.drop k).take 1 = [cs[k]] := by
    rw [List.drop_eq_getElem_cons (by simpa using hks)]; rfl
  rw [hone'] at h1
  have hys : ∃ y, ys[k]? = some y := ⟨_, List.getElem?_eq_getElem (by omega)⟩
  obtain ⟨y, hy⟩ := hys
  refine ⟨cs[k], Array.getElem?_eq_getElem hks, y, _, h1.trans hy, ?_⟩
  have e1 : d = .agg (ys.map (·.1)) := (Prod.mk.inj hye).1
  rw [e1] at hsz
  exact sz_field ht hsz hk (by simp [hy])

theorem recs_strZ {H : Type} {enc : TypeId × Value → H} {W : World} {spare : Nat → Bool} {held : Bool} {base t m : Nat} {v : Value} {y : DataW H × List MemPlace}
    (ht : Try.prog.underlying t = some .string) (h : DataW.trod enc Try.prog W base spare held m t [v] = some y) : v = .string (strOf v) ∧ (strOf v).size ≤ maxLen := by
  obtain ⟨n, hv, _, hx⟩ := DataW.trod_string ht h
  simp at hv
  subst hv
  exact ⟨rfl, hx⟩
end Go.Proofs.Ytgkdpkpiejjfmaa
