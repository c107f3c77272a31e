/- Arrays that come in by value: of numbers, and of structs with fields of one cell. -/
import Derived.OpenShut
import Derived.Test.YtlipbkpbflgamaaGRecs
namespace Go.Proofs.Ytlipbkpbflgamaa
open Go.RowKit Go.ChangeShapes Go.WideShapes Go.ChangeAt Go.Deep
set_option linter.unusedVariables false
set_option linter.unusedSimpArgs false

set_option maxRecDepth 100000 in
theorem okWide_arrayA {W : World} {r : Reach} {b0 t n e : Nat} {v : Value} (ht : Try.prog.underlying t = some (.array n e)) (h : Value.okWide Try.prog W r b0 t v) : ∃ cs, v = .agg cs ∧ cs.size = Try.prog.cellsOf t := by
  simp only [Value.okWide, ht] at h
  obtain ⟨cs, h1, h2, _⟩ := h
  exact ⟨cs, h1, h2⟩

set_option maxRecDepth 100000 in
theorem open_arrayv {H : Type} {enc : TypeId × Value → H} {W : World} {spare : Nat → Bool} {held : Bool} {base b0 t n e : Nat} {r : Reach} {v : Value} {d : DataW H} {p : List MemPlace}
    (ht : Try.prog.underlying t = some (.array n e)) (hce : Try.prog.cellsOf e = 1) (hC : Try.prog.cellsOf t = n)
    (hval : Value.okWide Try.prog W r b0 t v) (hd : DataW.Trod enc Try.prog W base spare held t v d p) :
    ∃ cs : Array Value, v = .agg cs ∧ cs.size = n ∧ ∀ (k : Nat), k < n → ∃ u, cs[k]? = some u ∧ ∃ (y : DataW H × List MemPlace) (m : Nat), DataW.trod enc Try.prog W base spare held m e [u] = some y := by
  obtain ⟨cs, rfl, hsz⟩ := okWide_arrayA ht hval
  obtain ⟨fuel, hf⟩ := hd
  refine ⟨cs, rfl, hsz.trans hC, fun k hk => ?_⟩
  obtain ⟨ys, n', _, _, hlen, hyl, hff⟩ := DataW.trod_array ht hf
  have hcl : (Value.cells (.agg cs)).toList = cs.toList := rfl
  have hks : k < cs.size := by rw [hsz, hC]; exact hk
  have h1 := hff k hk
  rw [hce, hcl, Nat.mul_one] at h1
  have hone' : (cs.toList.drop k).take 1 = [cs[k]] := by
    rw [List.drop_eq_getElem_cons (by simpa using hks)]; rfl
  rw [hone'] at h1
  obtain ⟨y, hy⟩ : ∃ y, ys[k]? = some y := ⟨_, List.getElem?_eq_getElem (by omega)⟩
  exact ⟨cs[k], Array.getElem?_eq_getElem hks, y, _, h1.trans hy⟩

set_option maxRecDepth 100000 in
theorem open_arrays {H : Type} {enc : TypeId × Value → H} {W : World} {spare : Nat → Bool} {held : Bool} {base b0 t n e : Nat} {r : Reach} {fs : Array Field} {v : Value} {d : DataW H} {p : List MemPlace}
    (ht : Try.prog.underlying t = some (.array n e)) (he : Try.prog.underlying e = some (.struct fs)) (hone : oneCellFields Try.prog fs = true) (hce : Try.prog.cellsOf e = fs.size) (hC : Try.prog.cellsOf t = n * fs.size)
    (hval : Value.okWide Try.prog W r b0 t v) (hd : DataW.Trod enc Try.prog W base spare held t v d p) :
    ∃ cs : Array Value, v = .agg cs ∧ cs.size = n * fs.size ∧ ∀ (i : Nat), i < n → ∀ (k : Nat) (f : Field), fs[k]? = some f → ∃ u, cs[i * fs.size + k]? = some u ∧ ∃ (y : DataW H × List MemPlace) (m : Nat), DataW.trod enc Try.prog W base spare held m f.type [u] = some y := by
  obtain ⟨cs, rfl, hsz⟩ := okWide_arrayA ht hval
  obtain ⟨fuel, hf⟩ := hd
  refine ⟨cs, rfl, hsz.trans hC, fun i hi k f hk => ?_⟩
  obtain ⟨ys, n', _, _, hlen, hyl, hff⟩ := DataW.trod_array ht hf
  have hcl : (Value.cells (.agg cs)).toList = cs.toList := rfl
  have h1 := hff i hi
  rw [hce, hcl] at h1
  obtain ⟨y, hy⟩ : ∃ y, ys[i]? = some y := ⟨_, List.getElem?_eq_getElem (by omega)⟩
  obtain ⟨zs, m', _, _, hzl, hzz, hzf⟩ := DataW.trod_struct he (h1.trans hy)
  obtain ⟨ho, hkk⟩ := hone_of hone k f hk
  have hkl : k < fs.size := (Array.getElem?_eq_some_iff.1 hk).1
  have hks : i * fs.size + k < cs.size := by
    rw [hsz, hC]
    calc i * fs.size + k < i * fs.size + fs.size := by omega
      _ = (i + 1) * fs.size := by rw [Nat.succ_mul]
      _ ≤ n * fs.size := Nat.mul_le_mul_right _ hi
  have h2 := hzf k f hk
  rw [ho, hkk] at h2
  have hone' : (((cs.toList.drop (i * fs.size)).take fs.size).drop k).take 1 = [cs[i * fs.size + k]] := by
    rw [List.drop_take, List.take_take, List.drop_drop]
    rw [show min 1 (fs.size - k) = 1 by omega]
    rw [List.drop_eq_getElem_cons (by simpa using hks)]; rfl
  rw [hone'] at h2
  obtain ⟨z, hz⟩ : ∃ z, zs[k]? = some z := ⟨_, List.getElem?_eq_getElem (by omega)⟩
  exact ⟨cs[i * fs.size + k], Array.getElem?_eq_getElem hks, z, _, h2.trans hz⟩
end Go.Proofs.Ytlipbkpbflgamaa
