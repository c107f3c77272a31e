/- How a slice of structs that came in is opened: every field of every element is a known cell. -/
import Derived.Test.YtgkdpkpiejjfmaaProg
import Derived.ProofKit
import Derived.OpenShut
import Derived.SizedLaws
import Derived.Deep.Slices
import Derived.Deep.Fields
import Derived.ChangeSame
import Derived.Below
namespace Go.Proofs.Ytgkdpkpiejjfmaa
open Go.ChangeShapes Go.WideShapes Go.ChangeAt Go.RowKit Go.Deep
set_option linter.unusedVariables false

/-- Where a slice of structs reads: 'V j k' is field k of element j; each struct has n fields, one cell each. -/
def RecsAt (w : World) (a : Option Addr) (n len : Nat) (V : Nat → Nat → Value) : Prop :=
  len = 0 ∨ ∃ b off, a = some ⟨b, off, none⟩ ∧ b < w.heap.size ∧ ∀ j, j < len → ∀ k, k < n → w.cell? ⟨b, off + (j * n + k), none⟩ = some (V j k)

theorem RecsAt.below {w w' : World} {a : Option Addr} {n len : Nat} {V : Nat → Nat → Value} (h : RecsAt w a n len V) (hb : Below w.heap.size w w') : RecsAt w' a n len V := by
  rcases h with h | ⟨b, off, rfl, hlt, hc⟩
  · exact Or.inl h
  · exact Or.inr ⟨b, off, rfl, Nat.lt_of_lt_of_le hlt hb.size, fun j hj k hk => (hb.cell (p := ⟨b, off + (j * n + k), none⟩) hlt).trans (hc j hj k hk)⟩

set_option maxRecDepth 100000 in
theorem open_recs {H : Type} {enc : TypeId × Value → H} {W : World} {spare : Nat → Bool} {held : Bool} {base b0 t e : Nat} {r : Reach} {fs : Array Field} {v : Value} {d : DataW H} {p : List MemPlace}
    (ht : Try.prog.underlying t = some (.slice e)) (he : Try.prog.underlying e = some (.struct fs)) (hone : oneCellFields Try.prog fs = true) (hC : Try.prog.cellsOf e = fs.size) (hfs : 0 < fs.size)
    (hval : Value.okWide Try.prog W r b0 t v) (hd : DataW.Trod enc Try.prog W base spare held t v d p)
    {ts : List TypeId} {ds : List (DataW H)} {i0 : Nat} (hj : ts[i0]? = some t) (hdj : ds[i0]? = some d) (hsz : (DataW.weightsEach Try.prog ts ds).all (· ≤ reachBytes) = true) (hB : 0 < Try.prog.bytesOf e) :
    ∃ (a : Option Addr) (len cap : Nat) (V : Nat → Nat → Value), v = .slice a len cap ∧ RecsAt W a fs.size len V ∧ (a = none → len = 0 ∧ cap = 0) ∧ len * Try.prog.bytesOf e ≤ 140737488351232 ∧ len ≤ 140737488351232 ∧
      ∀ j, j < len → ∀ (k : Nat) (f : Field), fs[k]? = some f → ∃ (y : DataW H × List MemPlace) (m : Nat), DataW.trod enc Try.prog W base spare held m f.type [V j k] = some y := by
  obtain ⟨a, len, cap, rfl⟩ := okWide_slice ht hval
  obtain ⟨fuel, hf⟩ := hd
  rcases open_slice ht hf with ⟨hcs, hx⟩ | ⟨x, l, c, m, n, D, Pl, hcs, _, hl, hm, hmm, hx, hi⟩
  · simp [Value.cells] at hcs
    obtain ⟨rfl, rfl, rfl⟩ := hcs
    simp only [Prod.mk.injEq] at hx
    exact ⟨none, 0, 0, fun _ _ => .bool false, rfl, Or.inl rfl, fun _ => ⟨rfl, rfl⟩, by omega, by omega, fun j hj => by omega⟩
  · simp [Value.cells] at hcs
    obtain ⟨rfl, rfl, rfl⟩ := hcs
    simp only [Prod.mk.injEq] at hx
    have hlm : len ≤ m := by rw [hmm]; split <;> omega
    have hs : len * Try.prog.bytesOf e ≤ 140737488351232 := by
      obtain ⟨rfl, _⟩ := hx
      have := sized_slice hsz hj hdj ht
      simp only [List.length_map, List.length_range, reachBytes] at this
      refine Nat.le_trans (Nat.mul_le_mul_right _ ?_) this
      omega
    have hs' : len ≤ 140737488351232 := Nat.le_trans (Nat.le_mul_of_pos_right _ hB) hs
    -- each element's cells
    have key : ∀ i, i < len → ∀ (k : Nat) (f : Field), fs[k]? = some f → ∃ (v : Value), W.cell? (x.add (i * fs.size + k)) = some v ∧ ∃ (y : DataW H × List MemPlace) (m : Nat), DataW.trod enc Try.prog W base spare held m f.type [v] = some y := by
      intro i hil k f hk
      obtain ⟨cs', hc, ht'⟩ := hi i (by omega)
      rw [hC] at hc
      obtain ⟨ys, n', _, _, hlen, _, hff⟩ := DataW.trod_struct he ht'
      obtain ⟨_, hcl, hat⟩ := World.cells?_some hc
      obtain ⟨ho, hkk⟩ := hone_of hone k f hk
      have hkl : k < fs.size := (Array.getElem?_eq_some_iff.1 hk).1
      have hv : cs'[k]? = some (cs'[k]'(by omega)) := List.getElem?_eq_getElem (by omega)
      have h1 := hff k f hk
      rw [ho, hkk] at h1
      have hone' : (cs'.drop k).take 1 = [cs'[k]'(by omega)] := by
        rw [List.drop_eq_getElem_cons (by omega)]; rfl
      rw [hone'] at h1
      have hys : ∃ y, ys[k]? = some y := ⟨_, List.getElem?_eq_getElem (by omega)⟩
      obtain ⟨y, hy⟩ := hys
      refine ⟨_, ?_, y, _, h1.trans hy⟩
      rw [← Go.Deep.add_add, hat k hkl, hv]
    refine ⟨some x, len, cap, fun j k => (W.cell? (x.add (j * fs.size + k))).getD (.bool false), rfl, ?_, by simp, hs, hs', ?_⟩
    · by_cases h0 : len = 0
      · exact Or.inl h0
      · right
        have hcell : ∀ j, j < len → ∀ k, k < fs.size → ∃ v, W.cell? (x.add (j * fs.size + k)) = some v := fun j hj k hk => by
          obtain ⟨v, hv, _⟩ := key j hj k fs[k] (Array.getElem?_eq_getElem hk)
          exact ⟨v, hv⟩
        obtain ⟨b, off, spot⟩ := x
        obtain ⟨v0, hv0⟩ := hcell 0 (by omega) 0 hfs
        have hspot : spot = none := by simpa [Addr.add] using World.cell?_spot hv0
        subst hspot
        refine ⟨b, off, rfl, ?_, fun j hj k hk => ?_⟩
        · rw [Go.WideShapes.add_plain] at hv0
          exact World.block_lt_of_cell? W _ hv0
        · obtain ⟨v, hv⟩ := hcell j hj k hk
          show _ = some ((W.cell? _).getD _)
          rw [hv]
          rw [Go.WideShapes.add_plain] at hv
          exact hv
    · intro j hj k f hk
      obtain ⟨v, hv, y, m', hy⟩ := key j hj k f hk
      exact ⟨y, m', by show DataW.trod _ _ _ _ _ _ _ _ [(W.cell? _).getD _] = _; rw [hv]; exact hy⟩

set_option maxRecDepth 100000 in
/-- A struct that comes in by value: each field of one cell. -/
theorem open_structv {H : Type} {enc : TypeId × Value → H} {W : World} {spare : Nat → Bool} {held : Bool} {base b0 t : Nat} {r : Reach} {fs : Array Field} {v : Value} {d : DataW H} {p : List MemPlace}
    (ht : Try.prog.underlying t = some (.struct fs)) (hone : oneCellFields Try.prog fs = true) (hC : Try.prog.cellsOf t = fs.size)
    (hval : Value.okWide Try.prog W r b0 t v) (hd : DataW.Trod enc Try.prog W base spare held t v d p) :
    ∃ cs : Array Value, v = .agg cs ∧ cs.size = fs.size ∧ ∀ (k : Nat) (f : Field), fs[k]? = some f → ∃ u, cs[k]? = some u ∧ ∃ (y : DataW H × List MemPlace) (m : Nat), DataW.trod enc Try.prog W base spare held m f.type [u] = some y := by
  obtain ⟨cs, rfl, hsz⟩ := okWide_struct ht hval
  obtain ⟨fuel, hf⟩ := hd
  refine ⟨cs, rfl, hsz.trans hC, fun k f hk => ?_⟩
  obtain ⟨ys, n', _, _, hlen, _, hff⟩ := DataW.trod_struct ht hf
  have hcl : (Value.cells (.agg cs)).toList = cs.toList := rfl
  obtain ⟨ho, hkk⟩ := hone_of hone k f hk
  have hkl : k < fs.size := (Array.getElem?_eq_some_iff.1 hk).1
  have hks : k < cs.size := by rw [hsz, hC]; exact hkl
  have h1 := hff k f hk
  rw [ho, hkk, hcl] at h1
  have hone' : (cs.toList.drop k).take 1 = [cs[k]] := by
    rw [List.drop_eq_getElem_cons (by simpa using hks)]; rfl
  rw [hone'] at h1
  have hys : ∃ y, ys[k]? = some y := ⟨_, List.getElem?_eq_getElem (by omega)⟩
  obtain ⟨y, hy⟩ := hys
  exact ⟨cs[k], Array.getElem?_eq_getElem hks, y, _, h1.trans hy⟩

/-- An int field of such an element. -/
theorem recs_int {H : Type} {enc : TypeId × Value → H} {W : World} {spare : Nat → Bool} {held : Bool} {base t m : Nat} {k : IntKind} {v : Value} {y : DataW H × List MemPlace}
    (ht : Try.prog.underlying t = some (.int k)) (h : DataW.trod enc Try.prog W base spare held m t [v] = some y) : v = .int k (intOf v) ∧ (Lit.int k (intOf v)).wf = true := by
  obtain ⟨n, hv, _, hw⟩ := DataW.trod_int ht h
  simp at hv
  subst hv
  exact ⟨rfl, hw⟩

theorem recs_string {H : Type} {enc : TypeId × Value → H} {W : World} {spare : Nat → Bool} {held : Bool} {base t m : Nat} {v : Value} {y : DataW H × List MemPlace}
    (ht : Try.prog.underlying t = some .string) (h : DataW.trod enc Try.prog W base spare held m t [v] = some y) : ∃ s, v = .string s := by
  obtain ⟨n, hv, _⟩ := DataW.trod_string ht h
  simp at hv
  exact ⟨_, hv⟩
def boolOf : Value → Bool | .bool b => b | _ => false
theorem recs_bool {H : Type} {enc : TypeId × Value → H} {W : World} {spare : Nat → Bool} {held : Bool} {base t m : Nat} {v : Value} {y : DataW H × List MemPlace}
    (ht : Try.prog.underlying t = some .bool) (h : DataW.trod enc Try.prog W base spare held m t [v] = some y) : v = .bool (boolOf v) := by
  obtain ⟨n, hv, _⟩ := DataW.trod_bool ht h
  simp at hv
  subst hv
  rfl
end Go.Proofs.Ytgkdpkpiejjfmaa
