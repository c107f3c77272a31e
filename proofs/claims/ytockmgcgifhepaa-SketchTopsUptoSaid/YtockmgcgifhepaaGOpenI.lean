/- Texts of one chain, one behind the other: OpenI, OpenNI, OpenB, TpO. -/
import Derived.ProofKit
import Derived.OpenShut
import Derived.SizedLaws
import Derived.Test.YtockmgcgifhepaaRows
import Derived.Test.YtockmgcgifhepaaInts
import Derived.Test.YtockmgcgifhepaaGRecs
import Derived.Test.YtockmgcgifhepaaGTxB

/- How arguments are opened: a slice of int64 as a list. -/
namespace Go.Proofs.Ytockmgcgifhepaa
open Go.ChangeShapes Go.WideShapes Go.ChangeAt Go.RowKit
set_option linter.unusedVariables false

theorem bytes_int : Try.prog.bytesOf 3 = 8 := by kernel_rfl
theorem wf64' {n : Int} (h : (Lit.int .i64 n).wf = true) : -9223372036854775808 ≤ n ∧ n ≤ 9223372036854775807 := by
  simp only [Lit.wf, IntKind.min, IntKind.max, IntKind.signed, IntKind.bits, Bool.and_eq_true, decide_eq_true_eq, if_true] at h
  omega

set_option maxRecDepth 100000 in
/-- A slice of int64 that came in: it reads as a list; what it takes is within the form's own reach. -/
theorem open_i64s {H : Type} {enc : TypeId × Value → H} {W : World} {spare : Nat → Bool} {held : Bool} {base b0 t : Nat} {r : Reach} {v : Value} {d : DataW H} {p : List MemPlace} {ts : List TypeId} {ds : List (DataW H)} {j : Nat}
    (ht : Try.prog.underlying t = some (.slice 3)) (hval : Value.okWide Try.prog W r b0 t v) (hd : DataW.Trod enc Try.prog W base spare held t v d p)
    (hj : ts[j]? = some t) (hdj : ds[j]? = some d) (hsz : (DataW.weightsEach Try.prog ts ds).all (· ≤ reachBytes) = true) :
    ∃ (a : Option Addr) (len cap : Nat) (xs : List Int), v = .slice a len cap ∧ xs.length = len ∧ len * 8 ≤ 140737488351232 ∧ I64s xs ∧ IntsAt W a xs ∧ (0 < len → a ≠ none) ∧ (a = none → cap = 0) := by
  obtain ⟨a, len, cap, rfl⟩ := okWide_slice ht hval
  obtain ⟨fuel, hf⟩ := hd
  rcases open_ints ht Try.underlying3 (by kernel_rfl) hf with ⟨hcs, _⟩ | ⟨x, l, c, zs, hcs, _, hl, hm, hz, hx, hcell, hwz⟩
  · simp [Value.cells] at hcs
    obtain ⟨rfl, rfl, rfl⟩ := hcs
    exact ⟨none, 0, 0, [], rfl, rfl, by omega, by intro x hx; simp at hx, Or.inl rfl, by omega, fun _ => rfl⟩
  · simp [Value.cells] at hcs
    obtain ⟨rfl, rfl, rfl⟩ := hcs
    simp only [Prod.mk.injEq] at hx
    obtain ⟨rfl, _⟩ := hx
    have hs := sized_slice hsz hj hdj ht
    rw [bytes_int] at hs
    have hzl : len ≤ zs.length := by rw [hz]; split <;> omega
    simp only [lits, List.length_map, List.length_take, List.length_drop, reachBytes] at hs
    refine ⟨some x, len, cap, zs.take len, rfl, by simp; omega, by omega, ?_, ?_, by simp, by simp⟩
    · intro n hn
      exact wf64' (hwz n (List.mem_of_mem_take hn))
    · by_cases h0 : len = 0
      · left; simp [h0]
      · right
        obtain ⟨b, off, rfl, hc⟩ := ints_at hcell (by omega)
        refine ⟨b, off, rfl, ?_, fun j hj => ?_⟩
        · have := hc 0 (by omega)
          exact World.block_lt_of_cell? W _ this
        · have hj' : j < len := by simp at hj; omega
          rw [hc j (by omega)]
          simp [List.getD, hj']
end Go.Proofs.Ytockmgcgifhepaa

/- How rows of int64 and texts within structs that came in are opened. -/
namespace Go.Proofs.Ytockmgcgifhepaa
open Go.ChangeShapes Go.WideShapes Go.ChangeAt Go.RowKit
set_option linter.unusedVariables false

theorem recs_strz {H : Type} {enc : TypeId × Value → H} {W : World} {spare : Nat → Bool} {held : Bool} {base t m : Nat} {v : Value} {y : DataW H × List MemPlace}
    (ht : Try.prog.underlying t = some .string) (h : DataW.trod enc Try.prog W base spare held m t [v] = some y) : v = .string (strOf v) ∧ (strOf v).size ≤ maxLen := by
  obtain ⟨n, hv, _, hx⟩ := DataW.trod_string ht h
  simp at hv
  subst hv
  exact ⟨rfl, hx⟩

set_option maxRecDepth 100000 in
theorem read_i64s {H : Type} {enc : TypeId × Value → H} {W : World} {spare : Nat → Bool} {held : Bool} {base t fuel : Nat} {v : Value} {x : DataW H × List MemPlace}
    (ht : Try.prog.underlying t = some (.slice 3)) (hf : DataW.trod enc Try.prog W base spare held fuel t [v] = some x) :
    ∃ (a : Option Addr) (len cap : Nat) (xs : List Int), v = .slice a len cap ∧ xs.length = len ∧ len ≤ 9223372036854775807 ∧ I64s xs ∧ IntsAt W a xs := by
  rcases open_ints ht Try.underlying3 (by kernel_rfl) hf with ⟨hcs, _⟩ | ⟨a, l, c, zs, hcs, _, hl, hm, hz, hx, hcell, hwz⟩
  · simp at hcs
    subst hcs
    exact ⟨none, 0, 0, [], rfl, rfl, by omega, by intro x hx; simp at hx, Or.inl rfl⟩
  · simp at hcs
    subst hcs
    have hzl : l ≤ zs.length := by rw [hz]; split <;> omega
    refine ⟨some a, l, c, zs.take l, rfl, by simp; omega, by unfold maxLen at *; omega, ?_, ?_⟩
    · intro n hn
      exact wf64' (hwz n (List.mem_of_mem_take hn))
    · by_cases h0 : l = 0
      · left; simp [h0]
      · right
        obtain ⟨b, off, rfl, hc⟩ := ints_at hcell (by omega)
        refine ⟨b, off, rfl, ?_, fun j hj => ?_⟩
        · have := hc 0 (by omega)
          exact World.block_lt_of_cell? W _ this
        · have hj' : j < l := by simp at hj; omega
          rw [hc j (by omega)]
          simp [List.getD, hj']
end Go.Proofs.Ytockmgcgifhepaa

/- How a slice of structs is opened where the bulk of what comes in is bounded. -/
namespace Go.Proofs.Ytockmgcgifhepaa
open Go.ChangeShapes Go.WideShapes Go.ChangeAt Go.RowKit Go.Deep
set_option linter.unusedVariables false

theorem bulk_one {H : Type} (d : DataW H) : 1 ≤ Rows.uptoBulk d := by
  cases d with
  | lit l => cases l <;> simp [Rows.uptoBulk]
  | _ => simp [Rows.uptoBulk]
theorem bulk_part {H : Type} {d : DataW H} : ∀ {l : List (DataW H)}, d ∈ l → Rows.uptoBulk d ≤ Rows.uptoBulkAll l
  | x :: r, h => by
    simp only [Rows.uptoBulkAll]
    rcases List.mem_cons.1 h with e | e
    · subst e; omega
    · have := bulk_part e; omega
theorem bulk_len {H : Type} : ∀ (l : List (DataW H)), l.length ≤ Rows.uptoBulkAll l
  | [] => by simp
  | x :: r => by have := bulk_one x; have := bulk_len r; simp only [Rows.uptoBulkAll, List.length_cons]; omega

set_option maxRecDepth 100000 in
theorem open_recsB {H : Type} {enc : TypeId × Value → H} {W : World} {spare : Nat → Bool} {held : Bool} {base b0 t e : Nat} {r : Reach} {fs : Array Field} {v : Value} {d : DataW H} {p : List MemPlace}
    (ht : Try.prog.underlying t = some (.slice e)) (he : Try.prog.underlying e = some (.struct fs)) (hone : oneCellFields Try.prog fs = true) (hC : Try.prog.cellsOf e = fs.size) (hfs : 0 < fs.size)
    (hval : Value.okWide Try.prog W r b0 t v) (hd : DataW.Trod enc Try.prog W base spare held t v d p) (hk : Rows.uptoBulk d ≤ 1048576) :
    ∃ (a : Option Addr) (len cap : Nat) (V : Nat → Nat → Value), v = .slice a len cap ∧ RecsAt W a fs.size len V ∧ len ≤ 1048576 ∧
      ∀ j, j < len → ∀ (k : Nat) (f : Field), fs[k]? = some f → ∃ (y : DataW H × List MemPlace) (m : Nat), DataW.trod enc Try.prog W base spare held m f.type [V j k] = some y ∧ Rows.uptoBulk y.1 ≤ 1048576 := by
  obtain ⟨a, len, cap, rfl⟩ := okWide_slice ht hval
  obtain ⟨fuel, hf⟩ := hd
  rcases open_slice ht hf with ⟨hcs, hx⟩ | ⟨x, l, c, m, n, D, Pl, hcs, _, hl, hm, hmm, hx, hi⟩
  · simp [Value.cells] at hcs
    obtain ⟨rfl, rfl, rfl⟩ := hcs
    exact ⟨none, 0, 0, fun _ _ => .bool false, rfl, Or.inl rfl, by omega, fun j hj => by omega⟩
  · simp [Value.cells] at hcs
    obtain ⟨rfl, rfl, rfl⟩ := hcs
    simp only [Prod.mk.injEq] at hx
    have hlm : len ≤ m := by rw [hmm]; split <;> omega
    have hbk : Rows.uptoBulkAll ((List.range len).map D) ≤ 1048576 := by
      rw [hx.1] at hk
      simp only [Rows.uptoBulk] at hk
      omega
    have hlen : len ≤ 1048576 := by
      have := bulk_len ((List.range len).map D)
      simp only [List.length_map, List.length_range] at this
      omega
    have key : ∀ i, i < len → ∀ (k : Nat) (f : Field), fs[k]? = some f → ∃ (v : Value), W.cell? (x.add (i * fs.size + k)) = some v ∧ ∃ (y : DataW H × List MemPlace) (m : Nat), DataW.trod enc Try.prog W base spare held m f.type [v] = some y ∧ Rows.uptoBulk y.1 ≤ 1048576 := by
      intro i hil k f hk
      obtain ⟨cs', hc, ht'⟩ := hi i (by omega)
      rw [hC] at hc
      obtain ⟨ys, n', _, hye, hlen, _, hff⟩ := DataW.trod_struct he ht'
      obtain ⟨_, hcl, hat⟩ := World.cells?_some hc
      obtain ⟨ho, hkk⟩ := hone_of hone k f hk
      have hkl : k < fs.size := (Array.getElem?_eq_some_iff.1 hk).1
      have hv : cs'[k]? = some (cs'[k]'(by omega)) := List.getElem?_eq_getElem (by omega)
      have h1 := hff k f hk
      rw [ho, hkk] at h1
      have hone' : (cs'.drop k).take 1 = [cs'[k]'(by omega)] := by
        rw [List.drop_eq_getElem_cons (by omega)]; rfl
      rw [hone'] at h1
      have hys : ∃ y, ys[k]? = some y := ⟨_, List.getElem?_eq_getElem (by omega)⟩
      obtain ⟨y, hy⟩ := hys
      refine ⟨_, ?_, y, _, h1.trans hy, ?_⟩
      · rw [← Go.Deep.add_add, hat k hkl, hv]
      · have e1 : D i = .agg (ys.map (·.1)) := (Prod.mk.inj hye).1
        have e2 : Rows.uptoBulk (D i) ≤ Rows.uptoBulkAll ((List.range len).map D) := bulk_part (List.mem_map.2 ⟨i, List.mem_range.2 hil, rfl⟩)
        have e3 : Rows.uptoBulk y.1 ≤ Rows.uptoBulkAll (ys.map (·.1)) := bulk_part (List.mem_map.2 ⟨y, List.mem_of_getElem? hy, rfl⟩)
        rw [e1] at e2
        simp only [Rows.uptoBulk] at e2
        omega
    refine ⟨some x, len, cap, fun j k => (W.cell? (x.add (j * fs.size + k))).getD (.bool false), rfl, ?_, hlen, ?_⟩
    · by_cases h0 : len = 0
      · exact Or.inl h0
      · right
        have hcell : ∀ j, j < len → ∀ k, k < fs.size → ∃ v, W.cell? (x.add (j * fs.size + k)) = some v := fun j hj k hk => by
          obtain ⟨v, hv, _⟩ := key j hj k fs[k] (Array.getElem?_eq_getElem hk)
          exact ⟨v, hv⟩
        obtain ⟨b, off, spot⟩ := x
        obtain ⟨v0, hv0⟩ := hcell 0 (by omega) 0 hfs
        have hspot : spot = none := by simpa [Addr.add] using World.cell?_spot hv0
        subst hspot
        refine ⟨b, off, rfl, ?_, fun j hj k hk => ?_⟩
        · rw [Go.WideShapes.add_plain] at hv0
          exact World.block_lt_of_cell? W _ hv0
        · obtain ⟨v, hv⟩ := hcell j hj k hk
          show _ = some ((W.cell? _).getD _)
          rw [hv]
          rw [Go.WideShapes.add_plain] at hv
          exact hv
    · intro j hj k f hk
      obtain ⟨v, hv, y, m', hy, hb⟩ := key j hj k f hk
      exact ⟨y, m', by show DataW.trod _ _ _ _ _ _ _ _ [(W.cell? _).getD _] = _; rw [hv]; exact hy, hb⟩

set_option maxRecDepth 100000 in
theorem read_i64sB {H : Type} {enc : TypeId × Value → H} {W : World} {spare : Nat → Bool} {held : Bool} {base t fuel : Nat} {v : Value} {x : DataW H × List MemPlace}
    (ht : Try.prog.underlying t = some (.slice 3)) (hf : DataW.trod enc Try.prog W base spare held fuel t [v] = some x) (hk : Rows.uptoBulk x.1 ≤ 1048576) :
    ∃ (a : Option Addr) (len cap : Nat) (xs : List Int), v = .slice a len cap ∧ xs.length = len ∧ len ≤ 1048576 ∧ IntsAt W a xs := by
  obtain ⟨a, len, cap, xs, hv, hl, _, _, hx⟩ := read_i64s ht hf
  refine ⟨a, len, cap, xs, hv, hl, ?_, hx⟩
  rcases open_ints ht Try.underlying3 (by kernel_rfl) hf with ⟨hcs, _⟩ | ⟨a', l, c, zs, hcs, _, hl', hm, hz, hxx, _, _⟩
  · rw [hv] at hcs
    simp at hcs
    omega
  · rw [hv] at hcs
    simp at hcs
    rw [hxx] at hk
    simp only [Rows.uptoBulk] at hk
    have := bulk_len (H := H) (lits .i64 (zs.take l))
    have h3 : (lits (H := H) .i64 (zs.take l)).length = l := by
      have : l ≤ zs.length := by rw [hz]; split <;> omega
      simp [lits]; omega
    omega
end Go.Proofs.Ytockmgcgifhepaa

/- How a struct with a slice of texts is opened where the bulk of what comes in is bounded. -/
namespace Go.Proofs.Ytockmgcgifhepaa
open Go.ChangeShapes Go.WideShapes Go.ChangeAt Go.RowKit Go.Deep
set_option linter.unusedVariables false
set_option linter.unusedSimpArgs false

theorem open_structB {H : Type} {enc : TypeId × Value → H} {W : World} {spare : Nat → Bool} {held : Bool} {base t : Nat} {fs : Array Field} {cs : Array Value} {d : DataW H} {p : List MemPlace}
    (ht : Try.prog.underlying t = some (.struct fs)) (hone : oneCellFields Try.prog fs = true) (hsz : cs.size = fs.size)
    (hd : DataW.Trod enc Try.prog W base spare held t (.agg cs) d p) :
    ∀ (k : Nat) (f : Field) (u : Value), fs[k]? = some f → cs[k]? = some u → ∃ (y : DataW H × List MemPlace) (m : Nat), DataW.trod enc Try.prog W base spare held m f.type [u] = some y ∧ Rows.uptoBulk y.1 ≤ Rows.uptoBulk d := by
  obtain ⟨fuel, hf⟩ := hd
  intro k f u hk hu
  obtain ⟨ys, n', _, hye, hlen, _, hff⟩ := DataW.trod_struct ht hf
  have hcl : (Value.cells (.agg cs)).toList = cs.toList := rfl
  obtain ⟨ho, hkk⟩ := hone_of hone k f hk
  have hkl : k < fs.size := (Array.getElem?_eq_some_iff.1 hk).1
  have hks : k < cs.size := by rw [hsz]; exact hkl
  have h1 := hff k f hk
  rw [ho, hkk, hcl] at h1
  have hone' : (cs.toList.drop k).take 1 = [cs[k]] := by
    rw [List.drop_eq_getElem_cons (by simpa using hks)]; rfl
  rw [hone'] at h1
  obtain rfl : cs[k] = u := (Array.getElem?_eq_some_iff.1 hu).2
  have hys : ∃ y, ys[k]? = some y := ⟨_, List.getElem?_eq_getElem (by omega)⟩
  obtain ⟨y, hy⟩ := hys
  refine ⟨y, _, h1.trans hy, ?_⟩
  have e1 : d = .agg (ys.map (·.1)) := (Prod.mk.inj hye).1
  have e3 : Rows.uptoBulk y.1 ≤ Rows.uptoBulkAll (ys.map (·.1)) := bulk_part (List.mem_map.2 ⟨y, List.mem_of_getElem? hy, rfl⟩)
  rw [e1]
  simp only [Rows.uptoBulk]
  omega
theorem slice_bulk {H : Type} {enc : TypeId × Value → H} {W : World} {spare : Nat → Bool} {held : Bool} {base t e m : Nat} {a : Option Addr} {len cap : Nat} {y : DataW H × List MemPlace}
    (ht : Try.prog.underlying t = some (.slice e)) (h : DataW.trod enc Try.prog W base spare held m t [.slice a len cap] = some y) : len ≤ Rows.uptoBulk y.1 := by
  rcases open_slice ht h with ⟨hcs, hx⟩ | ⟨x, l, c, m, n, D, Pl, hcs, _, hl, hm, hmm, hx, hi⟩
  · simp at hcs
    omega
  · simp at hcs
    obtain ⟨rfl, rfl, rfl⟩ := hcs
    rw [hx]
    have := bulk_len ((List.range len).map D)
    simp only [List.length_map, List.length_range] at this
    simp only [Rows.uptoBulk]
    omega
set_option maxRecDepth 100000 in
theorem read_textsB {H : Type} {enc : TypeId × Value → H} {W : World} {spare : Nat → Bool} {held : Bool} {base t fuel : Nat} {v : Value} {x : DataW H × List MemPlace}
    (ht : Try.prog.underlying t = some (.slice 9)) (hf : DataW.trod enc Try.prog W base spare held fuel t [v] = some x) (hk : Rows.uptoBulk x.1 ≤ 1048576) :
    ∃ (a : Option Addr) (len cap : Nat) (ss : List ByteArray), v = .slice a len cap ∧ ss.length = len ∧ len ≤ 1048576 ∧ TextsAt W a ss ∧ (∀ s, s ∈ ss → s.size ≤ maxLen) := by
  have hsb : ∀ a len cap, v = .slice a len cap → len ≤ 1048576 := fun a len cap e => by
    subst e
    exact Nat.le_trans (slice_bulk ht hf) hk
  rcases open_strings ht Try.underlying9 (by kernel_rfl) hf with ⟨hcs, hx⟩ | ⟨a, len, cap, zs, hcs, _, hl, hm, hz, hx, hcell, hwz⟩
  · simp at hcs
    subst hcs
    exact ⟨none, 0, 0, [], rfl, rfl, by omega, Or.inl rfl, by simp⟩
  · simp at hcs
    subst hcs
    have hzl : len ≤ zs.length := by rw [hz]; split <;> omega
    have hb := hsb _ _ _ rfl
    refine ⟨some a, len, cap, zs.take len, rfl, by simp; omega, hb, ?_, fun s hs => hwz s (List.mem_of_mem_take hs)⟩
    by_cases h0 : len = 0
    · left; simp [h0]
    · right
      have h1 := hcell 0 (by omega)
      obtain ⟨b, off, spot⟩ := a
      have hspot : spot = none := by simpa [Addr.add] using World.cell?_spot h1
      subst hspot
      refine ⟨b, off, rfl, ?_, fun j hj => ?_⟩
      · have := World.block_lt_of_cell? W _ h1
        simpa [add_plain] using this
      · have hj' : j < len := by simp at hj; omega
        have h2 := hcell j (by omega)
        rw [add_plain] at h2
        rw [h2]
        simp [List.getD, hj']
        rfl

end Go.Proofs.Ytockmgcgifhepaa
