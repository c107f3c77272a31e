/- sketch: calls, one behind another. -/
import Derived.Test.YtogdnacambjhpaaSkJ
import Derived.Test.YtogdnacambjhpaaRecs2
namespace Go.Proofs.Ytogdnacambjhpaa
open Go.RowKit
set_option linter.unusedVariables false
set_option linter.unusedSimpArgs false

structure DeedS where
  kind : Int
  at_ : Int
  key : ByteArray
  ns : List Int
/-- Where a deed's four cells lie. -/
def DeedAt (w : World) (b off : Nat) (d : DeedS) : Prop :=
  ∃ (a : Option Addr) (l c : Nat), w.cell? ⟨b, off, none⟩ = some (.int .i64 d.kind) ∧ w.cell? ⟨b, off + 1, none⟩ = some (.int .i64 d.at_) ∧ w.cell? ⟨b, off + 2, none⟩ = some (.string d.key) ∧ w.cell? ⟨b, off + 3, none⟩ = some (.slice a l c) ∧
    d.ns.length = l ∧ l ≤ 9223372036854775807 ∧ IntsAt w a d.ns ∧ d.key.size ≤ maxLen
def DeedsAt (w : World) (a : Option Addr) (ds : List DeedS) : Prop := ds = [] ∨ ∃ b off, a = some ⟨b, off, none⟩ ∧ b < w.heap.size ∧ ∀ j d, ds[j]? = some d → DeedAt w b (off + j * 4) d
theorem IntsAt.belowS {w w' : World} {a : Option Addr} {xs : List Int} (h : IntsAt w a xs) (hb : Below w.heap.size w w') : IntsAt w' a xs := by
  rcases h with h | ⟨b, off, rfl, hlt, hc⟩
  · exact Or.inl h
  · exact Or.inr ⟨b, off, rfl, Nat.lt_of_lt_of_le hlt hb.size, fun j hj => (hb.cell (p := ⟨b, off + j, none⟩) hlt).trans (hc j hj)⟩
theorem DeedAt.below {w w' : World} {b off : Nat} {d : DeedS} (h : DeedAt w b off d) (hl : b < w.heap.size) (hb : Below w.heap.size w w') : DeedAt w' b off d := by
  obtain ⟨a, l, c, h0, h1, h2, h3, h4, h5, h6, h7⟩ := h
  exact ⟨a, l, c, (hb.cell (p := ⟨b, off, none⟩) hl).trans h0, (hb.cell (p := ⟨b, off + 1, none⟩) hl).trans h1, (hb.cell (p := ⟨b, off + 2, none⟩) hl).trans h2, (hb.cell (p := ⟨b, off + 3, none⟩) hl).trans h3, h4, h5, h6.belowS hb, h7⟩
theorem DeedsAt.below {w w' : World} {a : Option Addr} {ds : List DeedS} (h : DeedsAt w a ds) (hb : Below w.heap.size w w') : DeedsAt w' a ds := by
  rcases h with h | ⟨b, off, rfl, hl, hc⟩
  · exact Or.inl h
  · exact Or.inr ⟨b, off, rfl, Nat.lt_of_lt_of_le hl hb.size, fun j d hd => (hc j d hd).below hl hb⟩
theorem deeds_of {w : World} {a : Option Addr} {len : Nat} {V : Nat → Nat → Value} (hr : RecsAt w a 4 len V)
    (h0 : ∀ j, j < len → V j 0 = .int .i64 (intOf (V j 0)) ∧ (Lit.int .i64 (intOf (V j 0))).wf = true) (h1 : ∀ j, j < len → V j 1 = .int .i64 (intOf (V j 1)) ∧ (Lit.int .i64 (intOf (V j 1))).wf = true)
    (h2 : ∀ j, j < len → V j 2 = .string (strOf (V j 2)) ∧ (strOf (V j 2)).size ≤ maxLen)
    (h3 : ∀ j, j < len → ∃ (a : Option Addr) (l c : Nat) (ns : List Int), V j 3 = .slice a l c ∧ ns.length = l ∧ l ≤ 9223372036854775807 ∧ I64s ns ∧ IntsAt w a ns) :
    ∃ ds : List DeedS, ds.length = len ∧ DeedsAt w a ds := by
  rcases hr with rfl | ⟨b, off, rfl, hl, hc⟩
  · exact ⟨[], rfl, Or.inl rfl⟩
  · have key : ∀ n, n ≤ len → ∃ ds : List DeedS, ds.length = n ∧ ∀ j d, ds[j]? = some d → DeedAt w b (off + j * 4) d := by
      intro n
      induction n with
      | zero => exact fun _ => ⟨[], rfl, by simp⟩
      | succ n ih =>
        intro hn
        obtain ⟨ds, hd, hh⟩ := ih (by omega)
        obtain ⟨a', l, c, ns, e3, e4, e5, _, e6⟩ := h3 n (by omega)
        refine ⟨ds ++ [⟨intOf (V n 0), intOf (V n 1), strOf (V n 2), ns⟩], by simp [hd], fun j d hj => ?_⟩
        by_cases hjn : j < n
        · rw [List.getElem?_append_left (by omega)] at hj
          exact hh j d hj
        · have hjl : j < n + 1 := by
            have := (List.getElem?_eq_some_iff.1 hj).1
            simp at this; omega
          have hjn2 : j = n := by omega
          subst hjn2
          rw [List.getElem?_append_right (by omega), hd, Nat.sub_self] at hj
          obtain rfl : _ = d := by simpa using hj
          have q := fun k hk => hc j (by omega) k hk
          refine ⟨a', l, c, ?_, ?_, ?_, ?_, e4, e5, e6, (h2 j (by omega)).2⟩
          · rw [← (h0 j (by omega)).1]; exact q 0 (by omega)
          · rw [← (h1 j (by omega)).1]; exact q 1 (by omega)
          · rw [← (h2 j (by omega)).1]; exact q 2 (by omega)
          · rw [← e3]; exact q 3 (by omega)
    obtain ⟨ds, hd, hh⟩ := key len (Nat.le_refl _)
    exact ⟨ds, hd, Or.inr ⟨b, off, rfl, hl, hh⟩⟩

/-- What was noted, and when last. -/
def stepN (st : Int × List NoteS) (d : DeedS) : Int × List NoteS := if d.kind = 0 ∧ addE st.1 d.at_ d.ns = 0 then (d.at_, st.2 ++ newNotes d.at_ d.key d.ns) else st
def runN (ds : List DeedS) : Int × List NoteS := ds.foldl stepN (0, [])
theorem runN_snoc {ds : List DeedS} {k : Nat} {d : DeedS} (h : ds[k]? = some d) : runN (ds.take (k + 1)) = stepN (runN (ds.take k)) d := by
  obtain ⟨hk, rfl⟩ := List.getElem?_eq_some_iff.1 h
  unfold runN
  rw [List.take_succ_eq_append_getElem hk, List.foldl_append]; rfl

theorem addE_zero {last at_ : Int} {ns : List Int} (h : addE last at_ ns = 0) : lookS last at_ = 0 ∧ ns.any badS = false := by
  unfold addE at h
  split at h
  · omega
  · split at h
    · omega
    · rename_i h2
      exact ⟨h, by simpa using h2⟩
/-- A sketch's memory, together with what it means. -/
structure SkInv (w : World) (s : Nat) (h : ShapeS) (b : Int) (last : Int) (notes : List NoteS) (v : Value) (bs : List BkS) : Prop where
  at_ : SkAt w s h last v bs
  inv : InvS b h.W h.R (colS h) last notes (bs.map BkS.a)
theorem sorted_few {lo hi : Int} : ∀ {l : List Int}, l.Pairwise (· < ·) → (∀ x, x ∈ l → lo < x ∧ x ≤ hi) → (l.length : Int) ≤ max 0 (hi - lo)
  | [], _, _ => by simp; omega
  | x :: l, hp, hx => by
    obtain ⟨h1, h2⟩ := List.pairwise_cons.1 hp
    have h3 := hx x (by simp)
    have := sorted_few (lo := x) (hi := hi) h2 (fun y hy => ⟨h1 y hy, (hx y (by simp [hy])).2⟩)
    simp only [List.length_cons]
    omega
theorem inv_room {h : ShapeS} {b last at_ : Int} {notes : List NoteS} {bs : List BkA} (hi : InvS b h.W h.R (colS h) last notes bs) (hb : ShapeOk h b) (hat : last ≤ at_) : (keepBk (beginS b at_) h.W bs).length ≤ 1099511627776 := by
  have hs : ((keepBk (beginS b at_) h.W bs).map (·.at_)).Pairwise (· < ·) := by
    rw [List.pairwise_map]
    exact hi.sorted.filter _
  have := sorted_few (lo := beginS b at_ - h.W) (hi := beginS b at_) hs (fun x hx => by
    obtain ⟨y, hy, rfl⟩ := List.mem_map.1 hx
    obtain ⟨h1, h2⟩ := List.mem_filter.1 hy
    have h3 := hi.upto y h1
    have h4 := beginS_mono hi.b1 hat
    exact ⟨by simpa using h2, by omega⟩)
  have hw := hb.W2
  have := hb.W1
  simp only [List.length_map] at *
  omega
theorem skInv_made (w : World) {h : ShapeS} {b : Int} (hb : ShapeOk h b) : SkInv (w.alloc (skObj h)) w.heap.size h b 0 [] (.slice none 0 0) [] :=
  ⟨skAt_made w h, InvS.empty (by have := hb.b1; omega) hb.bW'⟩
theorem SkInv.below {w w' : World} {s : Nat} {h : ShapeS} {b last : Int} {notes : List NoteS} {v : Value} {bs : List BkS} (k : SkInv w s h b last notes v bs) (hb : Below w.heap.size w w') : SkInv w' s h b last notes v bs := ⟨k.at_.below hb, k.inv⟩

/-- Add, at what it means. -/
theorem skaddI_any {w : World} {s : Nat} {h : ShapeS} {b last : Int} {notes : List NoteS} {v : Value} {bs : List BkS} (hi : SkInv w s h b last notes v bs) (hb : ShapeOk h b) (at_ : Int) (key : ByteArray) (hk : key.size ≤ maxLen)
    (a : Option Addr) (len cap : Nat) (ns : List Int) (hl : ns.length = len) (hm : len ≤ 9223372036854775807) (hn : IntsAt w a ns) (hap : ns ≠ [] → ∀ g off, a = some ⟨g, off, none⟩ → ¬ SkOwn s v bs g) :
    Calls Try.prog 11 #[.pointer (some ⟨s, 0, none⟩), .int .i64 at_, .string key, .slice a len cap] w fun e w' => e = .returned (.int .i64 (addE last at_ ns)) ∧
      ∃ v' bs', SkInv w' s h b (if addE last at_ ns = 0 then at_ else last) (if addE last at_ ns = 0 then notes ++ newNotes at_ key ns else notes) v' bs' ∧ Off (SkOwn s v bs) w w' ∧ (∀ i, SkOwn s v' bs' i → SkOwn s v bs i ∨ w.heap.size ≤ i) := by
  refine (skadd_any hi.at_ hb at_ key hk a len cap ns hl hm hn hap (fun hle => inv_room hi.inv hb hle)).mono ?_
  rintro e w' ⟨ret, off, fine, not⟩
  refine ⟨ret, ?_⟩
  by_cases hE : addE last at_ ns = 0
  · obtain ⟨v', bs', pre, x, k, hw, hmm, hown⟩ := fine hE
    have hle := (lookS_ok (addE_zero hE).1).2.2
    rw [if_pos hE, if_pos hE]
    refine ⟨v', bs', ⟨k, ?_⟩, off, hown⟩
    rw [hmm]
    exact hi.inv.add hle key (fun x hx => (any_nonneg (addE_zero hE).2 x hx).1) hw
  · rw [if_neg hE, if_neg hE]
    exact ⟨v, bs, hi.below (not hE), off, fun i hi => Or.inl hi⟩
theorem withBk_len (g : Int) (bs : List BkA) : (withBk g bs).length ≤ bs.length + 1 := by
  unfold withBk
  split
  · omega
  · simp
/-- Add, at what it means; and there are not many buckets. -/
theorem skaddI2_any {w : World} {s : Nat} {h : ShapeS} {b last : Int} {notes : List NoteS} {v : Value} {bs : List BkS} (hi : SkInv w s h b last notes v bs) (hb : ShapeOk h b) (at_ : Int) (key : ByteArray) (hk : key.size ≤ maxLen)
    (a : Option Addr) (len cap : Nat) (ns : List Int) (hl : ns.length = len) (hm : len ≤ 9223372036854775807) (hn : IntsAt w a ns) (hap : ns ≠ [] → ∀ g off, a = some ⟨g, off, none⟩ → ¬ SkOwn s v bs g) (hbl : bs.length ≤ 1099511627777) :
    Calls Try.prog 11 #[.pointer (some ⟨s, 0, none⟩), .int .i64 at_, .string key, .slice a len cap] w fun e w' => e = .returned (.int .i64 (addE last at_ ns)) ∧
      ∃ v' bs', SkInv w' s h b (if addE last at_ ns = 0 then at_ else last) (if addE last at_ ns = 0 then notes ++ newNotes at_ key ns else notes) v' bs' ∧ Off (SkOwn s v bs) w w' ∧ (∀ i, SkOwn s v' bs' i → SkOwn s v bs i ∨ w.heap.size ≤ i) ∧ bs'.length ≤ 1099511627777 := by
  refine (skadd_any hi.at_ hb at_ key hk a len cap ns hl hm hn hap (fun hle => inv_room hi.inv hb hle)).mono ?_
  rintro e w' ⟨ret, off, fine, not⟩
  refine ⟨ret, ?_⟩
  by_cases hE : addE last at_ ns = 0
  · obtain ⟨v', bs', pre, x, k, hw, hmm, hown⟩ := fine hE
    have hle := (lookS_ok (addE_zero hE).1).2.2
    rw [if_pos hE, if_pos hE]
    refine ⟨v', bs', ⟨k, ?_⟩, off, hown, ?_⟩
    · rw [hmm]
      exact hi.inv.add hle key (fun x hx => (any_nonneg (addE_zero hE).2 x hx).1) hw
    · have h1 := inv_room hi.inv hb hle
      have h2 := withBk_len (beginS b at_) (keepBk (beginS b at_) h.W (bs.map BkS.a))
      have h3 := congrArg List.length hmm
      rw [hw] at h2
      simp only [List.length_map, List.length_append, List.length_singleton] at h2 h3
      omega
  · rw [if_neg hE, if_neg hE]
    exact ⟨v, bs, hi.below (not hE), off, fun i hi => Or.inl hi, hbl⟩
end Go.Proofs.Ytogdnacambjhpaa
