/- Texts of one chain, one behind the other: Recs, Recs2, SkK, SkL, SkN. -/
import Derived.ProofKit
import Derived.OpenShut
import Derived.SizedLaws
import Derived.Deep.Slices
import Derived.Deep.Fields
import Derived.ChangeSame
import Derived.Below
import Derived.Test.YtockmgcgifhepaaProg
import Derived.Test.YtockmgcgifhepaaGSkF

/- How a slice of structs that came in is opened: every field of every element is a known cell. -/
namespace Go.Proofs.Ytockmgcgifhepaa
open Go.ChangeShapes Go.WideShapes Go.ChangeAt Go.RowKit Go.Deep
set_option linter.unusedVariables false

/-- Where a slice of structs reads: 'V j k' is field k of element j; each struct has n fields, one cell each. -/
def RecsAt (w : World) (a : Option Addr) (n len : Nat) (V : Nat → Nat → Value) : Prop :=
  len = 0 ∨ ∃ b off, a = some ⟨b, off, none⟩ ∧ b < w.heap.size ∧ ∀ j, j < len → ∀ k, k < n → w.cell? ⟨b, off + (j * n + k), none⟩ = some (V j k)

theorem RecsAt.below {w w' : World} {a : Option Addr} {n len : Nat} {V : Nat → Nat → Value} (h : RecsAt w a n len V) (hb : Below w.heap.size w w') : RecsAt w' a n len V := by
  rcases h with h | ⟨b, off, rfl, hlt, hc⟩
  · exact Or.inl h
  · exact Or.inr ⟨b, off, rfl, Nat.lt_of_lt_of_le hlt hb.size, fun j hj k hk => (hb.cell (p := ⟨b, off + (j * n + k), none⟩) hlt).trans (hc j hj k hk)⟩

set_option maxRecDepth 100000 in
theorem open_recs {H : Type} {enc : TypeId × Value → H} {W : World} {spare : Nat → Bool} {held : Bool} {base b0 t e : Nat} {r : Reach} {fs : Array Field} {v : Value} {d : DataW H} {p : List MemPlace}
    (ht : Try.prog.underlying t = some (.slice e)) (he : Try.prog.underlying e = some (.struct fs)) (hone : oneCellFields Try.prog fs = true) (hC : Try.prog.cellsOf e = fs.size) (hfs : 0 < fs.size)
    (hval : Value.okWide Try.prog W r b0 t v) (hd : DataW.Trod enc Try.prog W base spare held t v d p)
    {ts : List TypeId} {ds : List (DataW H)} {i0 : Nat} (hj : ts[i0]? = some t) (hdj : ds[i0]? = some d) (hsz : (DataW.weightsEach Try.prog ts ds).all (· ≤ reachBytes) = true) (hB : 0 < Try.prog.bytesOf e) :
    ∃ (a : Option Addr) (len cap : Nat) (V : Nat → Nat → Value), v = .slice a len cap ∧ RecsAt W a fs.size len V ∧ (a = none → len = 0 ∧ cap = 0) ∧ len * Try.prog.bytesOf e ≤ 140737488351232 ∧ len ≤ 140737488351232 ∧
      ∀ j, j < len → ∀ (k : Nat) (f : Field), fs[k]? = some f → ∃ (y : DataW H × List MemPlace) (m : Nat), DataW.trod enc Try.prog W base spare held m f.type [V j k] = some y := by
  obtain ⟨a, len, cap, rfl⟩ := okWide_slice ht hval
  obtain ⟨fuel, hf⟩ := hd
  rcases open_slice ht hf with ⟨hcs, hx⟩ | ⟨x, l, c, m, n, D, Pl, hcs, _, hl, hm, hmm, hx, hi⟩
  · simp [Value.cells] at hcs
    obtain ⟨rfl, rfl, rfl⟩ := hcs
    simp only [Prod.mk.injEq] at hx
    exact ⟨none, 0, 0, fun _ _ => .bool false, rfl, Or.inl rfl, fun _ => ⟨rfl, rfl⟩, by omega, by omega, fun j hj => by omega⟩
  · simp [Value.cells] at hcs
    obtain ⟨rfl, rfl, rfl⟩ := hcs
    simp only [Prod.mk.injEq] at hx
    have hlm : len ≤ m := by rw [hmm]; split <;> omega
    have hs : len * Try.prog.bytesOf e ≤ 140737488351232 := by
      obtain ⟨rfl, _⟩ := hx
      have := sized_slice hsz hj hdj ht
      simp only [List.length_map, List.length_range, reachBytes] at this
      refine Nat.le_trans (Nat.mul_le_mul_right _ ?_) this
      omega
    have hs' : len ≤ 140737488351232 := Nat.le_trans (Nat.le_mul_of_pos_right _ hB) hs
    -- each element's cells
    have key : ∀ i, i < len → ∀ (k : Nat) (f : Field), fs[k]? = some f → ∃ (v : Value), W.cell? (x.add (i * fs.size + k)) = some v ∧ ∃ (y : DataW H × List MemPlace) (m : Nat), DataW.trod enc Try.prog W base spare held m f.type [v] = some y := by
      intro i hil k f hk
      obtain ⟨cs', hc, ht'⟩ := hi i (by omega)
      rw [hC] at hc
      obtain ⟨ys, n', _, _, hlen, _, hff⟩ := DataW.trod_struct he ht'
      obtain ⟨_, hcl, hat⟩ := World.cells?_some hc
      obtain ⟨ho, hkk⟩ := hone_of hone k f hk
      have hkl : k < fs.size := (Array.getElem?_eq_some_iff.1 hk).1
      have hv : cs'[k]? = some (cs'[k]'(by omega)) := List.getElem?_eq_getElem (by omega)
      have h1 := hff k f hk
      rw [ho, hkk] at h1
      have hone' : (cs'.drop k).take 1 = [cs'[k]'(by omega)] := by
        rw [List.drop_eq_getElem_cons (by omega)]; rfl
      rw [hone'] at h1
      have hys : ∃ y, ys[k]? = some y := ⟨_, List.getElem?_eq_getElem (by omega)⟩
      obtain ⟨y, hy⟩ := hys
      refine ⟨_, ?_, y, _, h1.trans hy⟩
      rw [← Go.Deep.add_add, hat k hkl, hv]
    refine ⟨some x, len, cap, fun j k => (W.cell? (x.add (j * fs.size + k))).getD (.bool false), rfl, ?_, by simp, hs, hs', ?_⟩
    · by_cases h0 : len = 0
      · exact Or.inl h0
      · right
        have hcell : ∀ j, j < len → ∀ k, k < fs.size → ∃ v, W.cell? (x.add (j * fs.size + k)) = some v := fun j hj k hk => by
          obtain ⟨v, hv, _⟩ := key j hj k fs[k] (Array.getElem?_eq_getElem hk)
          exact ⟨v, hv⟩
        obtain ⟨b, off, spot⟩ := x
        obtain ⟨v0, hv0⟩ := hcell 0 (by omega) 0 hfs
        have hspot : spot = none := by simpa [Addr.add] using World.cell?_spot hv0
        subst hspot
        refine ⟨b, off, rfl, ?_, fun j hj k hk => ?_⟩
        · rw [Go.WideShapes.add_plain] at hv0
          exact World.block_lt_of_cell? W _ hv0
        · obtain ⟨v, hv⟩ := hcell j hj k hk
          show _ = some ((W.cell? _).getD _)
          rw [hv]
          rw [Go.WideShapes.add_plain] at hv
          exact hv
    · intro j hj k f hk
      obtain ⟨v, hv, y, m', hy⟩ := key j hj k f hk
      exact ⟨y, m', by show DataW.trod _ _ _ _ _ _ _ _ [(W.cell? _).getD _] = _; rw [hv]; exact hy⟩

set_option maxRecDepth 100000 in
/-- A struct that comes in by value: each field of one cell. -/
theorem open_structv {H : Type} {enc : TypeId × Value → H} {W : World} {spare : Nat → Bool} {held : Bool} {base b0 t : Nat} {r : Reach} {fs : Array Field} {v : Value} {d : DataW H} {p : List MemPlace}
    (ht : Try.prog.underlying t = some (.struct fs)) (hone : oneCellFields Try.prog fs = true) (hC : Try.prog.cellsOf t = fs.size)
    (hval : Value.okWide Try.prog W r b0 t v) (hd : DataW.Trod enc Try.prog W base spare held t v d p) :
    ∃ cs : Array Value, v = .agg cs ∧ cs.size = fs.size ∧ ∀ (k : Nat) (f : Field), fs[k]? = some f → ∃ u, cs[k]? = some u ∧ ∃ (y : DataW H × List MemPlace) (m : Nat), DataW.trod enc Try.prog W base spare held m f.type [u] = some y := by
  obtain ⟨cs, rfl, hsz⟩ := okWide_struct ht hval
  obtain ⟨fuel, hf⟩ := hd
  refine ⟨cs, rfl, hsz.trans hC, fun k f hk => ?_⟩
  obtain ⟨ys, n', _, _, hlen, _, hff⟩ := DataW.trod_struct ht hf
  have hcl : (Value.cells (.agg cs)).toList = cs.toList := rfl
  obtain ⟨ho, hkk⟩ := hone_of hone k f hk
  have hkl : k < fs.size := (Array.getElem?_eq_some_iff.1 hk).1
  have hks : k < cs.size := by rw [hsz, hC]; exact hkl
  have h1 := hff k f hk
  rw [ho, hkk, hcl] at h1
  have hone' : (cs.toList.drop k).take 1 = [cs[k]] := by
    rw [List.drop_eq_getElem_cons (by simpa using hks)]; rfl
  rw [hone'] at h1
  have hys : ∃ y, ys[k]? = some y := ⟨_, List.getElem?_eq_getElem (by omega)⟩
  obtain ⟨y, hy⟩ := hys
  exact ⟨cs[k], Array.getElem?_eq_getElem hks, y, _, h1.trans hy⟩

/-- An int field of such an element. -/
theorem recs_int {H : Type} {enc : TypeId × Value → H} {W : World} {spare : Nat → Bool} {held : Bool} {base t m : Nat} {k : IntKind} {v : Value} {y : DataW H × List MemPlace}
    (ht : Try.prog.underlying t = some (.int k)) (h : DataW.trod enc Try.prog W base spare held m t [v] = some y) : v = .int k (intOf v) ∧ (Lit.int k (intOf v)).wf = true := by
  obtain ⟨n, hv, _, hw⟩ := DataW.trod_int ht h
  simp at hv
  subst hv
  exact ⟨rfl, hw⟩

theorem recs_string {H : Type} {enc : TypeId × Value → H} {W : World} {spare : Nat → Bool} {held : Bool} {base t m : Nat} {v : Value} {y : DataW H × List MemPlace}
    (ht : Try.prog.underlying t = some .string) (h : DataW.trod enc Try.prog W base spare held m t [v] = some y) : ∃ s, v = .string s := by
  obtain ⟨n, hv, _⟩ := DataW.trod_string ht h
  simp at hv
  exact ⟨_, hv⟩
def boolOf : Value → Bool | .bool b => b | _ => false
theorem recs_bool {H : Type} {enc : TypeId × Value → H} {W : World} {spare : Nat → Bool} {held : Bool} {base t m : Nat} {v : Value} {y : DataW H × List MemPlace}
    (ht : Try.prog.underlying t = some .bool) (h : DataW.trod enc Try.prog W base spare held m t [v] = some y) : v = .bool (boolOf v) := by
  obtain ⟨n, hv, _⟩ := DataW.trod_bool ht h
  simp at hv
  subst hv
  rfl
end Go.Proofs.Ytockmgcgifhepaa

/- Slices of structs, and structs, with strings and slices among their fields. -/
namespace Go.Proofs.Ytockmgcgifhepaa
open Go.RowKit Go.ChangeShapes Go.WideShapes Go.ChangeAt Go.Deep
set_option linter.unusedVariables false
set_option linter.unusedSimpArgs false

def strOf : Value → ByteArray | .string s => s | _ => ⟨#[]⟩
theorem recs_strv {H : Type} {enc : TypeId × Value → H} {W : World} {spare : Nat → Bool} {held : Bool} {base t m : Nat} {v : Value} {y : DataW H × List MemPlace}
    (ht : Try.prog.underlying t = some .string) (h : DataW.trod enc Try.prog W base spare held m t [v] = some y) : v = .string (strOf v) := by
  obtain ⟨s, rfl⟩ := recs_string ht h
  rfl
theorem recs_slice {H : Type} {enc : TypeId × Value → H} {W : World} {spare : Nat → Bool} {held : Bool} {base t m e : Nat} {v : Value} {y : DataW H × List MemPlace}
    (ht : Try.prog.underlying t = some (.slice e)) (h : DataW.trod enc Try.prog W base spare held m t [v] = some y) : ∃ a l c, v = .slice a l c := by
  rcases open_slice ht h with ⟨hcs, _⟩ | ⟨x, l, c, m, n, D, Pl, hcs, _⟩
  · simp at hcs; exact ⟨_, _, _, hcs⟩
  · simp at hcs; exact ⟨_, _, _, hcs⟩
end Go.Proofs.Ytockmgcgifhepaa

/- sketch: calls, one behind another. -/
namespace Go.Proofs.Ytockmgcgifhepaa
open Go.RowKit
set_option linter.unusedVariables false
set_option linter.unusedSimpArgs false

structure DeedS where
  kind : Int
  at_ : Int
  key : ByteArray
  ns : List Int
/-- Where a deed's four cells lie. -/
def DeedAt (w : World) (b off : Nat) (d : DeedS) : Prop :=
  ∃ (a : Option Addr) (l c : Nat), w.cell? ⟨b, off, none⟩ = some (.int .i64 d.kind) ∧ w.cell? ⟨b, off + 1, none⟩ = some (.int .i64 d.at_) ∧ w.cell? ⟨b, off + 2, none⟩ = some (.string d.key) ∧ w.cell? ⟨b, off + 3, none⟩ = some (.slice a l c) ∧
    d.ns.length = l ∧ l ≤ 9223372036854775807 ∧ IntsAt w a d.ns ∧ d.key.size ≤ maxLen
def DeedsAt (w : World) (a : Option Addr) (ds : List DeedS) : Prop := ds = [] ∨ ∃ b off, a = some ⟨b, off, none⟩ ∧ b < w.heap.size ∧ ∀ j d, ds[j]? = some d → DeedAt w b (off + j * 4) d
theorem IntsAt.belowS {w w' : World} {a : Option Addr} {xs : List Int} (h : IntsAt w a xs) (hb : Below w.heap.size w w') : IntsAt w' a xs := by
  rcases h with h | ⟨b, off, rfl, hlt, hc⟩
  · exact Or.inl h
  · exact Or.inr ⟨b, off, rfl, Nat.lt_of_lt_of_le hlt hb.size, fun j hj => (hb.cell (p := ⟨b, off + j, none⟩) hlt).trans (hc j hj)⟩
theorem DeedAt.below {w w' : World} {b off : Nat} {d : DeedS} (h : DeedAt w b off d) (hl : b < w.heap.size) (hb : Below w.heap.size w w') : DeedAt w' b off d := by
  obtain ⟨a, l, c, h0, h1, h2, h3, h4, h5, h6, h7⟩ := h
  exact ⟨a, l, c, (hb.cell (p := ⟨b, off, none⟩) hl).trans h0, (hb.cell (p := ⟨b, off + 1, none⟩) hl).trans h1, (hb.cell (p := ⟨b, off + 2, none⟩) hl).trans h2, (hb.cell (p := ⟨b, off + 3, none⟩) hl).trans h3, h4, h5, h6.belowS hb, h7⟩
theorem DeedsAt.below {w w' : World} {a : Option Addr} {ds : List DeedS} (h : DeedsAt w a ds) (hb : Below w.heap.size w w') : DeedsAt w' a ds := by
  rcases h with h | ⟨b, off, rfl, hl, hc⟩
  · exact Or.inl h
  · exact Or.inr ⟨b, off, rfl, Nat.lt_of_lt_of_le hl hb.size, fun j d hd => (hc j d hd).below hl hb⟩
theorem deeds_of {w : World} {a : Option Addr} {len : Nat} {V : Nat → Nat → Value} (hr : RecsAt w a 4 len V)
    (h0 : ∀ j, j < len → V j 0 = .int .i64 (intOf (V j 0)) ∧ (Lit.int .i64 (intOf (V j 0))).wf = true) (h1 : ∀ j, j < len → V j 1 = .int .i64 (intOf (V j 1)) ∧ (Lit.int .i64 (intOf (V j 1))).wf = true)
    (h2 : ∀ j, j < len → V j 2 = .string (strOf (V j 2)) ∧ (strOf (V j 2)).size ≤ maxLen)
    (h3 : ∀ j, j < len → ∃ (a : Option Addr) (l c : Nat) (ns : List Int), V j 3 = .slice a l c ∧ ns.length = l ∧ l ≤ 9223372036854775807 ∧ I64s ns ∧ IntsAt w a ns) :
    ∃ ds : List DeedS, ds.length = len ∧ DeedsAt w a ds := by
  rcases hr with rfl | ⟨b, off, rfl, hl, hc⟩
  · exact ⟨[], rfl, Or.inl rfl⟩
  · have key : ∀ n, n ≤ len → ∃ ds : List DeedS, ds.length = n ∧ ∀ j d, ds[j]? = some d → DeedAt w b (off + j * 4) d := by
      intro n
      induction n with
      | zero => exact fun _ => ⟨[], rfl, by simp⟩
      | succ n ih =>
        intro hn
        obtain ⟨ds, hd, hh⟩ := ih (by omega)
        obtain ⟨a', l, c, ns, e3, e4, e5, _, e6⟩ := h3 n (by omega)
        refine ⟨ds ++ [⟨intOf (V n 0), intOf (V n 1), strOf (V n 2), ns⟩], by simp [hd], fun j d hj => ?_⟩
        by_cases hjn : j < n
        · rw [List.getElem?_append_left (by omega)] at hj
          exact hh j d hj
        · have hjl : j < n + 1 := by
            have := (List.getElem?_eq_some_iff.1 hj).1
            simp at this; omega
          have hjn2 : j = n := by omega
          subst hjn2
          rw [List.getElem?_append_right (by omega), hd, Nat.sub_self] at hj
          obtain rfl : _ = d := by simpa using hj
          have q := fun k hk => hc j (by omega) k hk
          refine ⟨a', l, c, ?_, ?_, ?_, ?_, e4, e5, e6, (h2 j (by omega)).2⟩
          · rw [← (h0 j (by omega)).1]; exact q 0 (by omega)
          · rw [← (h1 j (by omega)).1]; exact q 1 (by omega)
          · rw [← (h2 j (by omega)).1]; exact q 2 (by omega)
          · rw [← e3]; exact q 3 (by omega)
    obtain ⟨ds, hd, hh⟩ := key len (Nat.le_refl _)
    exact ⟨ds, hd, Or.inr ⟨b, off, rfl, hl, hh⟩⟩

/-- What was noted, and when last. -/
def stepN (st : Int × List NoteS) (d : DeedS) : Int × List NoteS := if d.kind = 0 ∧ addE st.1 d.at_ d.ns = 0 then (d.at_, st.2 ++ newNotes d.at_ d.key d.ns) else st
def runN (ds : List DeedS) : Int × List NoteS := ds.foldl stepN (0, [])
theorem runN_snoc {ds : List DeedS} {k : Nat} {d : DeedS} (h : ds[k]? = some d) : runN (ds.take (k + 1)) = stepN (runN (ds.take k)) d := by
  obtain ⟨hk, rfl⟩ := List.getElem?_eq_some_iff.1 h
  unfold runN
  rw [List.take_succ_eq_append_getElem hk, List.foldl_append]; rfl

theorem addE_zero {last at_ : Int} {ns : List Int} (h : addE last at_ ns = 0) : lookS last at_ = 0 ∧ ns.any badS = false := by
  unfold addE at h
  split at h
  · omega
  · split at h
    · omega
    · rename_i h2
      exact ⟨h, by simpa using h2⟩
/-- A sketch's memory, together with what it means. -/
structure SkInv (w : World) (s : Nat) (h : ShapeS) (b : Int) (last : Int) (notes : List NoteS) (v : Value) (bs : List BkS) : Prop where
  at_ : SkAt w s h last v bs
  inv : InvS b h.W h.R (colS h) last notes (bs.map BkS.a)
theorem sorted_few {lo hi : Int} : ∀ {l : List Int}, l.Pairwise (· < ·) → (∀ x, x ∈ l → lo < x ∧ x ≤ hi) → (l.length : Int) ≤ max 0 (hi - lo)
  | [], _, _ => by simp; omega
  | x :: l, hp, hx => by
    obtain ⟨h1, h2⟩ := List.pairwise_cons.1 hp
    have h3 := hx x (by simp)
    have := sorted_few (lo := x) (hi := hi) h2 (fun y hy => ⟨h1 y hy, (hx y (by simp [hy])).2⟩)
    simp only [List.length_cons]
    omega
theorem inv_room {h : ShapeS} {b last at_ : Int} {notes : List NoteS} {bs : List BkA} (hi : InvS b h.W h.R (colS h) last notes bs) (hb : ShapeOk h b) (hat : last ≤ at_) : (keepBk (beginS b at_) h.W bs).length ≤ 1099511627776 := by
  have hs : ((keepBk (beginS b at_) h.W bs).map (·.at_)).Pairwise (· < ·) := by
    rw [List.pairwise_map]
    exact hi.sorted.filter _
  have := sorted_few (lo := beginS b at_ - h.W) (hi := beginS b at_) hs (fun x hx => by
    obtain ⟨y, hy, rfl⟩ := List.mem_map.1 hx
    obtain ⟨h1, h2⟩ := List.mem_filter.1 hy
    have h3 := hi.upto y h1
    have h4 := beginS_mono hi.b1 hat
    exact ⟨by simpa using h2, by omega⟩)
  have hw := hb.W2
  have := hb.W1
  simp only [List.length_map] at *
  omega
theorem skInv_made (w : World) {h : ShapeS} {b : Int} (hb : ShapeOk h b) : SkInv (w.alloc (skObj h)) w.heap.size h b 0 [] (.slice none 0 0) [] :=
  ⟨skAt_made w h, InvS.empty (by have := hb.b1; omega) hb.bW'⟩
theorem SkInv.below {w w' : World} {s : Nat} {h : ShapeS} {b last : Int} {notes : List NoteS} {v : Value} {bs : List BkS} (k : SkInv w s h b last notes v bs) (hb : Below w.heap.size w w') : SkInv w' s h b last notes v bs := ⟨k.at_.below hb, k.inv⟩

/-- Add, at what it means. -/
theorem skaddI_any {w : World} {s : Nat} {h : ShapeS} {b last : Int} {notes : List NoteS} {v : Value} {bs : List BkS} (hi : SkInv w s h b last notes v bs) (hb : ShapeOk h b) (at_ : Int) (key : ByteArray) (hk : key.size ≤ maxLen)
    (a : Option Addr) (len cap : Nat) (ns : List Int) (hl : ns.length = len) (hm : len ≤ 9223372036854775807) (hn : IntsAt w a ns) (hap : ns ≠ [] → ∀ g off, a = some ⟨g, off, none⟩ → ¬ SkOwn s v bs g) :
    Calls Try.prog 20 #[.pointer (some ⟨s, 0, none⟩), .int .i64 at_, .string key, .slice a len cap] w fun e w' => e = .returned (.int .i64 (addE last at_ ns)) ∧
      ∃ v' bs', SkInv w' s h b (if addE last at_ ns = 0 then at_ else last) (if addE last at_ ns = 0 then notes ++ newNotes at_ key ns else notes) v' bs' ∧ Off (SkOwn s v bs) w w' ∧ (∀ i, SkOwn s v' bs' i → SkOwn s v bs i ∨ w.heap.size ≤ i) := by
  refine (skadd_any hi.at_ hb at_ key hk a len cap ns hl hm hn hap (fun hle => inv_room hi.inv hb hle)).mono ?_
  rintro e w' ⟨ret, off, fine, not⟩
  refine ⟨ret, ?_⟩
  by_cases hE : addE last at_ ns = 0
  · obtain ⟨v', bs', pre, x, k, hw, hmm, hown⟩ := fine hE
    have hle := (lookS_ok (addE_zero hE).1).2.2
    rw [if_pos hE, if_pos hE]
    refine ⟨v', bs', ⟨k, ?_⟩, off, hown⟩
    rw [hmm]
    exact hi.inv.add hle key (fun x hx => (any_nonneg (addE_zero hE).2 x hx).1) hw
  · rw [if_neg hE, if_neg hE]
    exact ⟨v, bs, hi.below (not hE), off, fun i hi => Or.inl hi⟩
theorem withBk_len (g : Int) (bs : List BkA) : (withBk g bs).length ≤ bs.length + 1 := by
  unfold withBk
  split
  · omega
  · simp
/-- Add, at what it means; and there are not many buckets. -/
theorem skaddI2_any {w : World} {s : Nat} {h : ShapeS} {b last : Int} {notes : List NoteS} {v : Value} {bs : List BkS} (hi : SkInv w s h b last notes v bs) (hb : ShapeOk h b) (at_ : Int) (key : ByteArray) (hk : key.size ≤ maxLen)
    (a : Option Addr) (len cap : Nat) (ns : List Int) (hl : ns.length = len) (hm : len ≤ 9223372036854775807) (hn : IntsAt w a ns) (hap : ns ≠ [] → ∀ g off, a = some ⟨g, off, none⟩ → ¬ SkOwn s v bs g) (hbl : bs.length ≤ 1099511627777) :
    Calls Try.prog 20 #[.pointer (some ⟨s, 0, none⟩), .int .i64 at_, .string key, .slice a len cap] w fun e w' => e = .returned (.int .i64 (addE last at_ ns)) ∧
      ∃ v' bs', SkInv w' s h b (if addE last at_ ns = 0 then at_ else last) (if addE last at_ ns = 0 then notes ++ newNotes at_ key ns else notes) v' bs' ∧ Off (SkOwn s v bs) w w' ∧ (∀ i, SkOwn s v' bs' i → SkOwn s v bs i ∨ w.heap.size ≤ i) ∧ bs'.length ≤ 1099511627777 := by
  refine (skadd_any hi.at_ hb at_ key hk a len cap ns hl hm hn hap (fun hle => inv_room hi.inv hb hle)).mono ?_
  rintro e w' ⟨ret, off, fine, not⟩
  refine ⟨ret, ?_⟩
  by_cases hE : addE last at_ ns = 0
  · obtain ⟨v', bs', pre, x, k, hw, hmm, hown⟩ := fine hE
    have hle := (lookS_ok (addE_zero hE).1).2.2
    rw [if_pos hE, if_pos hE]
    refine ⟨v', bs', ⟨k, ?_⟩, off, hown, ?_⟩
    · rw [hmm]
      exact hi.inv.add hle key (fun x hx => (any_nonneg (addE_zero hE).2 x hx).1) hw
    · have h1 := inv_room hi.inv hb hle
      have h2 := withBk_len (beginS b at_) (keepBk (beginS b at_) h.W (bs.map BkS.a))
      have h3 := congrArg List.length hmm
      rw [hw] at h2
      simp only [List.length_map, List.length_append, List.length_singleton] at h2 h3
      omega
  · rw [if_neg hE, if_neg hE]
    exact ⟨v, bs, hi.below (not hE), off, fun i hi => Or.inl hi, hbl⟩
end Go.Proofs.Ytockmgcgifhepaa

/- sketch: a sketch behind calls; its estimate. -/
namespace Go.Proofs.Ytockmgcgifhepaa
open Go.RowKit
set_option linter.unusedVariables false
set_option linter.unusedSimpArgs false

/-- The estimate, by the document. -/
def estN (h : ShapeS) (b at_ : Int) (key : ByteArray) (notes : List NoteS) : Int := leastS (fun r => capS (sumP (fun y => decide (beginS b at_ - h.W < beginS b y.at_) && decide (colS h r y.key = colS h r key)) notes)) h.R.toNat
def totN (h : ShapeS) (b at_ : Int) (notes : List NoteS) : Int := capS (sumP (fun y => decide (beginS b at_ - h.W < beginS b y.at_) && true) notes)
theorem SkInv.est {w : World} {s : Nat} {h : ShapeS} {b last : Int} {notes : List NoteS} {v : Value} {bs : List BkS} (k : SkInv w s h b last notes v bs) {at_ : Int} (hat : last ≤ at_) (key : ByteArray) : estS h b at_ key (bs.map BkS.a) = estN h b at_ key notes := by
  unfold estS estN
  exact leastS_congr (fun r hr => k.inv.row hat (by omega) (by omega) key)
theorem SkInv.tot {w : World} {s : Nat} {h : ShapeS} {b last : Int} {notes : List NoteS} {v : Value} {bs : List BkS} (k : SkInv w s h b last notes v bs) {at_ : Int} (hat : last ≤ at_) : totS h b at_ (bs.map BkS.a) = totN h b at_ notes := k.inv.total hat
theorem skEstI_any {w : World} {s : Nat} {h : ShapeS} {b last : Int} {notes : List NoteS} {v : Value} {bs : List BkS} (k : SkInv w s h b last notes v bs) (hb : ShapeOk h b) (at_ : Int) (key : ByteArray) (hk : key.size ≤ maxLen) :
    Calls Try.prog 21 #[.pointer (some ⟨s, 0, none⟩), .int .i64 at_, .string key] w fun e w' => e = .returned (.tuple #[.int .i64 (if lookS last at_ = 0 then estN h b at_ key notes else 0), .int .i64 (lookS last at_)]) ∧ Below w.heap.size w w' := by
  have := skEstimate_any k.at_ hb at_ key hk
  by_cases hE : lookS last at_ = 0
  · rw [if_pos hE, k.est (lookS_ok hE).2.2] at this
    rw [if_pos hE]; exact this
  · rw [if_neg hE] at this ⊢; exact this
theorem skTotI_any {w : World} {s : Nat} {h : ShapeS} {b last : Int} {notes : List NoteS} {v : Value} {bs : List BkS} (k : SkInv w s h b last notes v bs) (hb : ShapeOk h b) (at_ : Int) :
    Calls Try.prog 22 #[.pointer (some ⟨s, 0, none⟩), .int .i64 at_] w fun e w' => e = .returned (.tuple #[.int .i64 (if lookS last at_ = 0 then totN h b at_ notes else 0), .int .i64 (lookS last at_)]) ∧ Below w.heap.size w w' := by
  have := skTotal_any k.at_ hb at_
  by_cases hE : lookS last at_ = 0
  · rw [if_pos hE, k.tot (lookS_ok hE).2.2] at this
    rw [if_pos hE]; exact this
  · rw [if_neg hE] at this ⊢; exact this
theorem look_last {last : Int} (h0 : 0 ≤ last) (h1 : last ≤ 1152921504606846976) : lookS last last = 0 := by
  unfold lookS
  rw [if_neg (by omega), if_neg (by omega)]

structure RunPost (w : World) (h : ShapeS) (ds : List DeedS) (e : Ending) (w' : World) : Prop where
  bel : Below w.heap.size w w'
  no : newE h ≠ 0 → e = .returned (.tuple #[.pointer none, .int .i64 (newE h)])
  yes : newE h = 0 → ∃ s v bs, e = .returned (.tuple #[.pointer (some ⟨s, 0, none⟩), .int .i64 0]) ∧ SkInv w' s h (h.W / h.B) (runN ds).1 (runN ds).2 v bs ∧ ∀ i, SkOwn s v bs i → w.heap.size ≤ i
theorem RunPost.mkNo {w w' : World} {h : ShapeS} {ds : List DeedS} {e : Ending} {E : Int} (hE : newE h = E) (hn : E ≠ 0) (he : e = .returned (.tuple #[.pointer none, .int .i64 E])) (hb : Below w.heap.size w w') : RunPost w h ds e w' :=
  ⟨hb, fun _ => by rw [hE]; exact he, fun h0 => absurd (hE.symm.trans h0) hn⟩
theorem RunPost.mkYes {w w' : World} {h : ShapeS} {ds : List DeedS} {e : Ending} {s : Nat} {v : Value} {bs : List BkS} (hE : newE h = 0) (he : e = .returned (.tuple #[.pointer (some ⟨s, 0, none⟩), .int .i64 0])) (hb : Below w.heap.size w w') {b : Int} (hbb : h.W / h.B = b) (hk : SkInv w' s h b (runN ds).1 (runN ds).2 v bs) (ho : ∀ i, SkOwn s v bs i → w.heap.size ≤ i) : RunPost w h ds e w' :=
  ⟨hb, fun h0 => absurd hE h0, fun _ => ⟨s, v, bs, he, by rw [hbb]; exact hk, ho⟩⟩
theorem IntsAt.belowB {w w' : World} {a : Option Addr} {xs : List Int} (h : IntsAt w a xs) (hb : Below w.heap.size w w') : IntsAt w' a xs := h.belowS hb
set_option maxHeartbeats 6400000 in
set_option maxRecDepth 100000 in
theorem skrun_any (w : World) (h : ShapeS) (s0 : 0 ≤ h.seed) (s1 : h.seed ≤ 18446744073709551615) (a : Option Addr) (len cap : Nat) (ds : List DeedS) (hl : ds.length = len) (hm : len ≤ 140737488351232) (hd : DeedsAt w a ds) :
    Calls Try.prog 4 #[.agg h.c, .slice a len cap] w (RunPost w h ds) := by
  have HD := Lib.hid hd
  have HL := Lib.hid hl
  have hbx : Below w.heap.size w (w.alloc (.cells h.c 24)) := (Below.refl _ _).alloc (Nat.le_refl _) _
  have HBX := Lib.hid hbx
  have HN := Lib.hid (sknew_any h (w.alloc (.cells h.c 24)))
  have HOK := Lib.hid (fun hE => newE_ok (h := h) hE s0 s1)
  clear hd hl hbx
  unfold ShapeS.c at *
  by_cases hE : newE h = 0
  · have HE := Lib.hid hE
    have HB := Lib.hid (HOK.out hE)
    obtain ⟨b, hb⟩ : ∃ b, h.W / h.B = b := ⟨_, rfl⟩
    rw [hb] at HB
    have HBB := Lib.hid hb
    clear hE hb
    go_enter Try.func4, Try.ntmps4
    go_wp2_with (fail)
    refine HN.out.mono ?_
    intro e wa hp
    obtain ⟨rfl, rfl⟩ := hp.2 HE.out
    have hk0 := skInv_made (w.alloc (.cells #[.int .i64 h.W, .int .i64 h.B, .int .i64 h.R, .int .i64 h.C, .int .u64 h.seed] 24)) HB.out
    have hb0 := HBX.out.alloc (show w.heap.size ≤ _ by simp) (skObj h)
    have hsz : (w.alloc (.cells #[.int .i64 h.W, .int .i64 h.B, .int .i64 h.R, .int .i64 h.C, .int .u64 h.seed] 24)).heap.size = w.heap.size + 1 := by simp
    rw [hsz] at hk0
    clear hp HN HBX hsz
    generalize (w.alloc (.cells #[.int .i64 h.W, .int .i64 h.B, .int .i64 h.R, .int .i64 h.C, .int .u64 h.seed] 24)).alloc (skObj h) = w0 at *
    have HK0 := Lib.hid hk0
    have HB0 := Lib.hid hb0
    clear hk0 hb0
    go_wp2_with (fail)
    go_loopw [8] (fun i wr => ∃ (k : Nat) (v : Value) (bs : List BkS), k ≤ len ∧ i = .int .i64 k ∧ Hid (SkInv wr (w.heap.size + 1) h b (runN (ds.take k)).1 (runN (ds.take k)).2 v bs) ∧ Hid (∀ i, SkOwn (w.heap.size + 1) v bs i → w.heap.size ≤ i) ∧ Hid (Below w.heap.size w wr)) (fun i _ => len - (intOf i).toNat)
    case atStart => exact ⟨0, .slice none 0 0, [], Nat.zero_le _, rfl, by rw [List.take_zero]; exact HK0, Lib.hid (fun i hi => by unfold SkOwn at hi; simp [Value.ownBlock] at hi; omega), HB0⟩
    case round =>
      rename World => wy
      obtain ⟨k, v, bs, hk, rfl, HK, HOW, HBY⟩ := hrel
      by_cases hlt : k < len
      · have hkl : k < ds.length := by rw [HL.out]; exact hlt
        have k0 : (0 : Int) ≤ k := by omega
        have k1 : (k : Int) < len := by omega
        obtain ⟨d, hd⟩ : ∃ d, ds[k]? = some d := ⟨_, List.getElem?_eq_getElem hkl⟩
        obtain ⟨b0, off, ha, hbl, hc⟩ : ∃ b off, a = some ⟨b, off, none⟩ ∧ b < w.heap.size ∧ ∀ j d, ds[j]? = some d → DeedAt w b (off + j * 4) d := by
          rcases HD.out with h | h
          · rw [h] at hkl; simp at hkl
          · exact h
        subst ha
        obtain ⟨a', l, c, d0, d1, d2, d3, e4, e5, e6, e7⟩ := hc k d hd
        have HD1 := Lib.hid d1
        have HD2 := Lib.hid d2
        have HD3 := Lib.hid d3
        have d0 := (HBY.out.cell (p := ⟨b0, off + k * 4, none⟩) hbl).trans d0
        have d1 := (HBY.out.cell (p := ⟨b0, off + k * 4 + 1, none⟩) hbl).trans d1
        have d2 := (HBY.out.cell (p := ⟨b0, off + k * 4 + 2, none⟩) hbl).trans d2
        have d3 := (HBY.out.cell (p := ⟨b0, off + k * 4 + 3, none⟩) hbl).trans d3
        have HRS := Lib.hid (runN_snoc hd)
        have HI6 := Lib.hid e6
        clear hd hc e6
        by_cases hkind : d.kind = 0
        · have hkd : (d.kind == 0) = true := by simp [hkind]
          have HADD := Lib.hid (skaddI_any (w := wy.drew) (HK.out.below (Below.refl _ _).drew) HB.out d.at_ d.key e7 a' l c d.ns e4 e5 (HI6.out.belowB HBY.out.drew) (fun hne g off hg => fun hs => by
            have h1 := HOW.out g hs
            rcases HI6.out with h | ⟨b', off', h2, h3, _⟩
            · exact hne h
            · rw [hg] at h2; injection h2 with h2; injection h2 with h2; omega))
          have HSTEP := Lib.hid (show runN (ds.take (k + 1)) = ((if addE (runN (ds.take k)).1 d.at_ d.ns = 0 then d.at_ else (runN (ds.take k)).1), (if addE (runN (ds.take k)).1 d.at_ d.ns = 0 then (runN (ds.take k)).2 ++ newNotes d.at_ d.key d.ns else (runN (ds.take k)).2)) by
            rw [HRS.out]
            unfold stepN
            by_cases hz : addE (runN (ds.take k)).1 d.at_ d.ns = 0
            · rw [if_pos ⟨hkind, hz⟩, if_pos hz, if_pos hz]
            · rw [if_neg (fun e => hz e.2), if_neg hz, if_neg hz])
          clear hkind HRS e4 e5 e7
          go_wp2_with (fail)
          refine wp_region_noPanic ?_
          refine wp_region_held_drew (S := fun wx => wx.cell? ⟨b0, off + k * 4 + 1, none⟩ = some (.int .i64 d.at_) ∧ wx.cell? ⟨b0, off + k * 4 + 2, none⟩ = some (.string d.key) ∧ wx.cell? ⟨b0, off + k * 4 + 3, none⟩ = some (.slice a' l c)) (by kernel_rfl) ?_ (fun hHeld => ?_)
          · exact ⟨d1, d2, d3⟩
          refine wpAnyH_take (i := 0) (v := ?_) rfl (by kernel_rfl) (by kernel_rfl) (by kernel_rfl) (fun _ _ _ h => h) (Or.inl ⟨by rfl, ?hy⟩) (by assumption) ?_
          case hy => intro w hSw; (try dsimp only at hSw); go_simp; try with_reducible rfl
          try simp only [Act.put, List.getElem_toArray, List.getElem_cons_succ, List.getElem_cons_zero, List.setIfInBounds_toArray, List.set_cons_zero, List.set_cons_succ]
          refine wpAnyH_take (i := 1) (v := ?_) rfl (by kernel_rfl) (by kernel_rfl) (by kernel_rfl) (fun _ _ _ h => h) (Or.inl ⟨by rfl, ?hy⟩) (by assumption) ?_
          case hy => intro w hSw; (try dsimp only at hSw); go_simp; try with_reducible rfl
          try simp only [Act.put, List.getElem_toArray, List.getElem_cons_succ, List.getElem_cons_zero, List.setIfInBounds_toArray, List.set_cons_zero, List.set_cons_succ]
          refine wpAnyH_take (i := 2) (v := ?_) rfl (by kernel_rfl) (by kernel_rfl) (by kernel_rfl) (fun _ _ _ h => h) (Or.inl ⟨by rfl, ?hy⟩) (by assumption) ?_
          case hy => intro w hSw; (try dsimp only at hSw); go_simp; try with_reducible rfl
          try simp only [Act.put, List.getElem_toArray, List.getElem_cons_succ, List.getElem_cons_zero, List.setIfInBounds_toArray, List.set_cons_zero, List.set_cons_succ]
          refine wpAnyH_take (i := 3) (v := ?_) rfl (by kernel_rfl) (by kernel_rfl) (by kernel_rfl) (fun _ _ _ h => h) (Or.inl ⟨by rfl, ?hy⟩) (by assumption) ?_
          case hy => intro w hSw; (try dsimp only at hSw); go_simp; try with_reducible rfl
          try simp only [Act.put, List.getElem_toArray, List.getElem_cons_succ, List.getElem_cons_zero, List.setIfInBounds_toArray, List.set_cons_zero, List.set_cons_succ]
          refine wpAnyH_take (i := 4) (v := ?_) rfl (by kernel_rfl) (by kernel_rfl) (by kernel_rfl) (fun _ _ _ h => h) (Or.inl ⟨by rfl, ?hy⟩) (by assumption) ?_
          case hy => intro w hSw; (try dsimp only at hSw); go_simp; try with_reducible rfl
          try simp only [Act.put, List.getElem_toArray, List.getElem_cons_succ, List.getElem_cons_zero, List.setIfInBounds_toArray, List.set_cons_zero, List.set_cons_succ]
          refine wpAnyH_take (i := 5) (v := ?_) rfl (by kernel_rfl) (by kernel_rfl) (by kernel_rfl) (fun _ _ _ h => h) (Or.inl ⟨by rfl, ?hy⟩) (by assumption) ?_
          case hy => intro w hSw; (try dsimp only at hSw); go_simp; try with_reducible rfl
          try simp only [Act.put, List.getElem_toArray, List.getElem_cons_succ, List.getElem_cons_zero, List.setIfInBounds_toArray, List.set_cons_zero, List.set_cons_succ]
          refine wpAnyH_take (i := 6) (v := ?_) rfl (by kernel_rfl) (by kernel_rfl) (by kernel_rfl) (fun _ _ _ h => h) (Or.inl ⟨by rfl, ?hy⟩) (by assumption) ?_
          case hy => intro w hSw; (try dsimp only at hSw); go_simp; try with_reducible rfl
          try simp only [Act.put, List.getElem_toArray, List.getElem_cons_succ, List.getElem_cons_zero, List.setIfInBounds_toArray, List.set_cons_zero, List.set_cons_succ]
          refine wpAnyH_take (i := 7) (v := ?_) rfl (by kernel_rfl) (by kernel_rfl) (by kernel_rfl) (fun _ _ _ h => h) (Or.inl ⟨by rfl, ?hy⟩) (by assumption) ?_
          case hy => intro w hSw; (try dsimp only at hSw); go_simp; try with_reducible rfl
          try simp only [Act.put, List.getElem_toArray, List.getElem_cons_succ, List.getElem_cons_zero, List.setIfInBounds_toArray, List.set_cons_zero, List.set_cons_succ]
          refine wpAnyH_take (i := 8) (v := ?_) rfl (by kernel_rfl) (by kernel_rfl) (by kernel_rfl) (fun _ _ _ h => h) (Or.inl ⟨by rfl, ?hy⟩) (by assumption) ?_
          case hy => intro w hSw; (try dsimp only at hSw); go_simp; try with_reducible rfl
          try simp only [Act.put, List.getElem_toArray, List.getElem_cons_succ, List.getElem_cons_zero, List.setIfInBounds_toArray, List.set_cons_zero, List.set_cons_succ]
          refine wpAnyH_take (i := 9) (v := ?_) rfl (by kernel_rfl) (by kernel_rfl) (by kernel_rfl) (fun _ _ _ h => h) (Or.inl ⟨by rfl, ?hy⟩) (by assumption) ?_
          case hy => intro w hSw; (try dsimp only at hSw); go_simp; try with_reducible rfl
          try simp only [Act.put, List.getElem_toArray, List.getElem_cons_succ, List.getElem_cons_zero, List.setIfInBounds_toArray, List.set_cons_zero, List.set_cons_succ]
          refine wpAnyH_take (i := 10) (v := ?_) rfl (by kernel_rfl) (by kernel_rfl) (by kernel_rfl) (fun _ _ _ h => h) (Or.inl ⟨by rfl, ?hy⟩) (by assumption) ?_
          case hy => intro w hSw; (try dsimp only at hSw); go_simp; try with_reducible rfl
          try simp only [Act.put, List.getElem_toArray, List.getElem_cons_succ, List.getElem_cons_zero, List.setIfInBounds_toArray, List.set_cons_zero, List.set_cons_succ]
          refine wpAnyH_take (i := 11) (v := ?_) rfl (by kernel_rfl) (by kernel_rfl) (by kernel_rfl) (fun _ _ _ h => h) (Or.inl ⟨by rfl, ?hy⟩) (by assumption) ?_
          case hy => intro w hSw; (try dsimp only at hSw); go_simp; try with_reducible rfl
          try simp only [Act.put, List.getElem_toArray, List.getElem_cons_succ, List.getElem_cons_zero, List.setIfInBounds_toArray, List.set_cons_zero, List.set_cons_succ]
          refine wpAnyH_take (i := 12) (v := ?_) rfl (by kernel_rfl) (by kernel_rfl) (by kernel_rfl) (fun _ _ _ h => h) (Or.inl ⟨by rfl, ?hy⟩) (by assumption) ?_
          case hy => intro w hSw; (try dsimp only at hSw); go_simp; try with_reducible rfl
          try simp only [Act.put, List.getElem_toArray, List.getElem_cons_succ, List.getElem_cons_zero, List.setIfInBounds_toArray, List.set_cons_zero, List.set_cons_succ]
          refine wpAnyH_take (i := 13) (v := ?_) rfl (by kernel_rfl) (by kernel_rfl) (by kernel_rfl) (fun _ _ _ h => h) (Or.inl ⟨by rfl, ?hy⟩) (by assumption) ?_
          case hy => intro w hSw; (try dsimp only at hSw); go_simp; try with_reducible rfl
          try simp only [Act.put, List.getElem_toArray, List.getElem_cons_succ, List.getElem_cons_zero, List.setIfInBounds_toArray, List.set_cons_zero, List.set_cons_succ]
          refine wpAnyH_take (i := 14) (v := ?_) rfl (by kernel_rfl) (by kernel_rfl) (by kernel_rfl) (fun _ _ _ h => h) (Or.inl ⟨by rfl, ?hy⟩) (by assumption) ?_
          case hy => intro w hSw; (try dsimp only at hSw); go_simp; try with_reducible rfl
          try simp only [Act.put, List.getElem_toArray, List.getElem_cons_succ, List.getElem_cons_zero, List.setIfInBounds_toArray, List.set_cons_zero, List.set_cons_succ]
          refine wpAnyH_take (i := 15) (v := ?_) rfl (by kernel_rfl) (by kernel_rfl) (by kernel_rfl) (fun _ _ _ h => h) (Or.inl ⟨by rfl, ?hy⟩) (by assumption) ?_
          case hy => intro w hSw; (try dsimp only at hSw); go_simp; try with_reducible rfl
          try simp only [Act.put, List.getElem_toArray, List.getElem_cons_succ, List.getElem_cons_zero, List.setIfInBounds_toArray, List.set_cons_zero, List.set_cons_succ]
          refine wpAnyH_ready (rs := [16]) (by kernel_rfl) (by simp) (AllReadyH.cons rfl (fun K hK => ?_) AllReadyH.nil)
          go_simp
          refine HADD.out.mono ?_
          rintro e wb ⟨rfl, v', bs', hk', hof, how⟩
          have hbl2 : Below w.heap.size w wb := (HBY.out.drew).trans (hof.below (B := w.heap.size) (show w.heap.size ≤ wy.drew.heap.size from HBY.out.size) (fun i hi hs => by have := HOW.out i hs; omega))
          try (go_wp2_with fail)
          refine hK.out _ _ ?_ (fun hHeld => ?_)
          · exact ⟨(hbl2.cell (p := ⟨b0, off + k * 4 + 1, none⟩) hbl).trans HD1.out, (hbl2.cell (p := ⟨b0, off + k * 4 + 2, none⟩) hbl).trans HD2.out, (hbl2.cell (p := ⟨b0, off + k * 4 + 3, none⟩) hbl).trans HD3.out⟩
          clear hK K
          try simp only [Act.put, List.getElem_toArray, List.getElem_cons_succ, List.getElem_cons_zero, List.setIfInBounds_toArray, List.set_cons_zero, List.set_cons_succ]
          refine wpAnyH_done (by kernel_rfl) ?_ _
          refine NoPanic.normal ?_
          go_wp2_with (fail)
          exact ⟨⟨k + 1, v', bs', by omega, by go_num, by rw [HSTEP.out]; exact Lib.hid hk', Lib.hid (fun i hi => by
            rcases how i hi with h1 | h1
            · exact HOW.out i h1
            · exact Nat.le_trans HBY.out.size h1), Lib.hid hbl2⟩, by first | (simp [intOf]; done) | (simp [intOf]; omega)⟩
        · have hkd : (d.kind == 0) = false := by simp [hkind]
          have HSTEP := Lib.hid (show runN (ds.take (k + 1)) = runN (ds.take k) by
            rw [HRS.out]
            unfold stepN
            rw [if_neg (fun e => hkind e.1)])
          clear hkind HRS e4 e5 e7
          go_wp2_with (fail)
          exact ⟨⟨k + 1, v, bs, by omega, by go_num, by rw [HSTEP.out]; exact HK, HOW, HBY⟩, by first | (simp [intOf]; done) | (simp [intOf]; omega)⟩
      · have k1 : ¬ (k : Int) < len := by omega
        have e1 : ds.take k = ds := List.take_of_length_le (by rw [HL.out]; omega)
        rw [e1] at HK
        clear e1
        go_wp2_with (fail)
        go_ret2
        exact RunPost.mkYes HE.out rfl HBY.out HBB.out HK.out HOW.out
  · have HE := Lib.hid hE
    go_enter Try.func4, Try.ntmps4
    go_wp2_with (fail)
    refine HN.out.mono ?_
    intro e wa hp
    obtain ⟨rfl, rfl⟩ := hp.1 HE.out
    have hne : (newE h == 0) = false := by simpa using hE
    obtain ⟨E, hEE⟩ : ∃ E, newE h = E := ⟨_, rfl⟩
    have HEE := Lib.hid hEE
    rw [hEE] at hne HE
    simp only [hEE]
    clear hEE
    clear HN hp HOK hE
    go_wp2_with (fail)
    by_cases h0 : len = 0
    · have h0' : ¬ (0 : Int) < len := by omega
      go_loopw [8] (fun i wr => i = .int .i64 0 ∧ Hid (Below w.heap.size w wr)) (fun i _ => 0)
      case atStart => exact ⟨rfl, HBX⟩
      case round =>
        rename World => wy
        obtain ⟨rfl, HBY⟩ := hrel
        go_wp2_with (fail)
        go_ret2
        exact RunPost.mkNo HEE.out HE.out rfl HBY.out
    · have h0' : (0 : Int) < len := by omega
      go_loopw [8] (fun i wr => i = .int .i64 0 ∧ Hid (Below w.heap.size w wr)) (fun i _ => 0)
      case atStart => exact ⟨rfl, HBX⟩
      case round =>
        rename World => wy
        obtain ⟨rfl, HBY⟩ := hrel
        go_wp2_with (fail)
        go_ret2
        exact RunPost.mkNo HEE.out HE.out rfl HBY.out
end Go.Proofs.Ytockmgcgifhepaa

/- sketch: what was added of a key, and its estimate (plain); the reference's Plus. -/
namespace Go.Proofs.Ytockmgcgifhepaa
open Go.RowKit
set_option linter.unusedVariables false
set_option linter.unusedSimpArgs false

set_option maxHeartbeats 800000 in
theorem rplusS_any (a b : Int) (a0 : 0 ≤ a) (a1 : a ≤ 4611686018427387904) (b0 : 0 ≤ b) (b1 : b ≤ 4611686018427387904) (w : World) :
    Calls Try.prog 54 #[.int .i64 a, .int .i64 b] w fun e w' => e = .returned (.int .i64 (plusS a b)) ∧ w' = w := by
  by_cases h : 4611686018427387904 - a < b
  · go_enter Try.func54, Try.ntmps54
    go_wp2_with (fail)
    go_ret
    exact ⟨by unfold plusS; rw [if_pos (by omega)]; rfl, rfl⟩
  · go_enter Try.func54, Try.ntmps54
    go_wp2_with (fail)
    go_ret
    exact ⟨by unfold plusS; rw [if_neg (by omega)]; rfl, rfl⟩

/-- A deed that was done, with its numbers' slice. -/
structure DoneS where
  d : DeedS
  a : Option Addr
  l : Nat
  c : Nat
def DoneS.vals (x : DoneS) : List Value := [.int .i64 x.d.kind, .int .i64 x.d.at_, .string x.d.key, .slice x.a x.l x.c]
def flatD (xs : List DoneS) : List Value := xs.flatMap DoneS.vals
theorem flatD_len : ∀ xs : List DoneS, (flatD xs).length = xs.length * 4
  | [] => rfl
  | x :: xs => by simp only [flatD, List.flatMap_cons, List.length_append, List.length_cons]; rw [show (xs.flatMap DoneS.vals).length = xs.length * 4 from flatD_len xs]; simp [DoneS.vals]; omega
theorem flatD_get : ∀ {xs : List DoneS} {j : Nat} {x : DoneS}, xs[j]? = some x → ∀ k, k < 4 → (flatD xs)[j * 4 + k]? = x.vals[k]?
  | y :: xs, 0, x, h, k, hk => by
    obtain rfl : y = x := by simpa using h
    simp only [flatD, List.flatMap_cons, Nat.zero_mul, Nat.zero_add]
    rw [List.getElem?_append_left (by simp [DoneS.vals]; omega)]
  | y :: xs, j + 1, x, h, k, hk => by
    have h' : xs[j]? = some x := by simpa using h
    have := flatD_get h' k hk
    simp only [flatD, List.flatMap_cons] at this ⊢
    rw [List.getElem?_append_right (by simp [DoneS.vals]; omega), ← this]
    congr 1
    simp [DoneS.vals]; omega
def notesOf (xs : List DoneS) : List NoteS := xs.flatMap (fun x => newNotes x.d.at_ x.d.key x.d.ns)
theorem notesOf_snoc (xs : List DoneS) (x : DoneS) : notesOf (xs ++ [x]) = notesOf xs ++ newNotes x.d.at_ x.d.key x.d.ns := by simp [notesOf]
theorem notesOf_take {xs : List DoneS} {k : Nat} {x : DoneS} (h : xs[k]? = some x) : notesOf (xs.take (k + 1)) = notesOf (xs.take k) ++ newNotes x.d.at_ x.d.key x.d.ns := by
  obtain ⟨hk, rfl⟩ := List.getElem?_eq_some_iff.1 h
  rw [List.take_succ_eq_append_getElem hk, notesOf_snoc]
structure DoneOk (w : World) (x : DoneS) : Prop where
  len : x.d.ns.length = x.l
  small : x.l ≤ 9223372036854775807
  row : IntsAt w x.a x.d.ns
  fine : ∀ y, y ∈ x.d.ns → 0 ≤ y ∧ y ≤ 1099511627776
  a0 : 0 ≤ x.d.at_
  a1 : x.d.at_ ≤ 1152921504606846976

/-- What of the notes is the key's own, in the window. -/
def ownP (h : ShapeS) (b : Int) (D : DeedS) (y : NoteS) : Bool := decide (beginS b D.at_ - h.W < beginS b y.at_) && decide (y.key = D.key)
def condD (h : ShapeS) (b : Int) (D : DeedS) (x : DoneS) : Bool := decide (beginS b D.at_ - h.W < beginS b x.d.at_) && decide (x.d.key = D.key)
def ownN (h : ShapeS) (b : Int) (D : DeedS) (notes : List NoteS) : Int := capS (sumP (ownP h b D) notes)
theorem ownN_step {h : ShapeS} {b : Int} {D : DeedS} {xs : List DoneS} {k : Nat} {x : DoneS} (hx : xs[k]? = some x) : ownN h b D (notesOf (xs.take (k + 1))) = if condD h b D x then capS (sumP (ownP h b D) (notesOf (xs.take k)) + sumN x.d.ns) else ownN h b D (notesOf (xs.take k)) := by
  unfold ownN
  rw [notesOf_take hx, sumP_append, sumP_new (ownP h b D) x.d.at_ x.d.key (condD h b D x) (fun n => rfl)]
  cases condD h b D x
  · simp
  · rfl
theorem sumN_take {ns : List Int} {n : Nat} {y : Int} (hy : ns[n]? = some y) : sumN (ns.take (n + 1)) = sumN (ns.take n) + y := by
  obtain ⟨hk, rfl⟩ := List.getElem?_eq_some_iff.1 hy
  rw [List.take_succ_eq_append_getElem hk]
  generalize ns[n] = z
  have : ∀ l : List Int, sumN (l ++ [z]) = sumN l + z := fun l => by
    induction l with
    | nil => show z + sumN [] = sumN [] + z; show z + 0 = 0 + z; omega
    | cons a l ih => show a + sumN (l ++ [z]) = a + sumN l + z; rw [ih]; omega
  exact this _
theorem own_le_est {h : ShapeS} {b : Int} {D : DeedS} {notes : List NoteS} (hn : NonNeg notes) : ownN h b D notes ≤ estN h b D.at_ D.key notes := by
  refine le_leastS (capS_le _) (fun r hr => capS_mono (sumP_mono hn (fun y _ hy => ?_)))
  simp only [ownP, Bool.and_eq_true, decide_eq_true_eq] at hy
  rw [hy.2]
  simp [hy.1]
theorem est_le_tot {h : ShapeS} {b at_ : Int} {key : ByteArray} {notes : List NoteS} (hR : 1 ≤ h.R) (hn : NonNeg notes) : estN h b at_ key notes ≤ totN h b at_ notes := by
  refine Int.le_trans (leastS_le (r := 0) (by omega)) (capS_mono (sumP_mono hn (fun y _ hy => ?_)))
  simp only [Bool.and_eq_true, decide_eq_true_eq] at hy
  simp [hy.1]
theorem begin_mul {b t : Int} : beginS b t = b * (t / b) := by
  unfold beginS
  have := Int.mul_ediv_add_emod t b
  omega
theorem window_iff {h : ShapeS} {b : Int} (hb : ShapeOk h b) (s t : Int) : (t / b - h.B < s / b) ↔ (beginS b t - h.W < beginS b s) := by
  rw [begin_mul, begin_mul, hb.bW, ← Int.mul_sub]
  have hp : 0 < b := by have := hb.b1; omega
  constructor
  · intro hh
    exact Int.mul_lt_mul_of_pos_left hh hp
  · intro hh
    exact Int.lt_of_mul_lt_mul_left hh (by omega)
theorem four_cellsS (w : World) (x y z u : Value) (t : TypeId) : ∀ j v, ([x, y, z, u] : List Value)[j]? = some v → (w.alloc (.cells #[x, y, z, u] t)).cell? ((⟨w.heap.size, 0, none⟩ : Addr).add j) = some v := by
  intro j v h
  have hz := new_blockS w (.cells #[x, y, z, u] t)
  rw [WideShapes.add_plain, Nat.zero_add]
  match j with
  | 0 => simp at h; subst h; simp only [World.cell?, hz]; rfl
  | 1 => simp at h; subst h; simp only [World.cell?, hz]; rfl
  | 2 => simp at h; subst h; simp only [World.cell?, hz]; rfl
  | 3 => simp at h; subst h; simp only [World.cell?, hz]; rfl
theorem info_deed : (Try.prog.info? 39).map (fun i => (i.zero, i.size, i.bytes)) = some (some (.agg #[.int .i64 0, .int .i64 0, .string ⟨#[]⟩, .slice none 0 0]), 4, 56) := by kernel_rfl
end Go.Proofs.Ytockmgcgifhepaa
