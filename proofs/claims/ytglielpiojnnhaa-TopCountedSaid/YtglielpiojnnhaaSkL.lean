/- sketch: a sketch behind calls; its estimate. -/
import Derived.Test.YtglielpiojnnhaaSkK
namespace Go.Proofs.Ytglielpiojnnhaa
open Go.RowKit
set_option linter.unusedVariables false
set_option linter.unusedSimpArgs false

/-- The estimate, by the document. -/
def estN (h : ShapeS) (b at_ : Int) (key : ByteArray) (notes : List NoteS) : Int := leastS (fun r => capS (sumP (fun y => decide (beginS b at_ - h.W < beginS b y.at_) && decide (colS h r y.key = colS h r key)) notes)) h.R.toNat
def totN (h : ShapeS) (b at_ : Int) (notes : List NoteS) : Int := capS (sumP (fun y => decide (beginS b at_ - h.W < beginS b y.at_) && true) notes)
theorem SkInv.est {w : World} {s : Nat} {h : ShapeS} {b last : Int} {notes : List NoteS} {v : Value} {bs : List BkS} (k : SkInv w s h b last notes v bs) {at_ : Int} (hat : last ≤ at_) (key : ByteArray) : estS h b at_ key (bs.map BkS.a) = estN h b at_ key notes := by
  unfold estS estN
  exact leastS_congr (fun r hr => k.inv.row hat (by omega) (by omega) key)
theorem SkInv.tot {w : World} {s : Nat} {h : ShapeS} {b last : Int} {notes : List NoteS} {v : Value} {bs : List BkS} (k : SkInv w s h b last notes v bs) {at_ : Int} (hat : last ≤ at_) : totS h b at_ (bs.map BkS.a) = totN h b at_ notes := k.inv.total hat
theorem skEstI_any {w : World} {s : Nat} {h : ShapeS} {b last : Int} {notes : List NoteS} {v : Value} {bs : List BkS} (k : SkInv w s h b last notes v bs) (hb : ShapeOk h b) (at_ : Int) (key : ByteArray) (hk : key.size ≤ maxLen) :
    Calls Try.prog 10 #[.pointer (some ⟨s, 0, none⟩), .int .i64 at_, .string key] w fun e w' => e = .returned (.tuple #[.int .i64 (if lookS last at_ = 0 then estN h b at_ key notes else 0), .int .i64 (lookS last at_)]) ∧ Below w.heap.size w w' := by
  have := skEstimate_any k.at_ hb at_ key hk
  by_cases hE : lookS last at_ = 0
  · rw [if_pos hE, k.est (lookS_ok hE).2.2] at this
    rw [if_pos hE]; exact this
  · rw [if_neg hE] at this ⊢; exact this
theorem look_last {last : Int} (h0 : 0 ≤ last) (h1 : last ≤ 1152921504606846976) : lookS last last = 0 := by
  unfold lookS
  rw [if_neg (by omega), if_neg (by omega)]

structure RunPost (w : World) (h : ShapeS) (ds : List DeedS) (e : Ending) (w' : World) : Prop where
  bel : Below w.heap.size w w'
  no : newE h ≠ 0 → e = .returned (.tuple #[.pointer none, .int .i64 (newE h)])
  yes : newE h = 0 → ∃ s v bs, e = .returned (.tuple #[.pointer (some ⟨s, 0, none⟩), .int .i64 0]) ∧ SkInv w' s h (h.W / h.B) (runN ds).1 (runN ds).2 v bs ∧ ∀ i, SkOwn s v bs i → w.heap.size ≤ i
theorem RunPost.mkNo {w w' : World} {h : ShapeS} {ds : List DeedS} {e : Ending} {E : Int} (hE : newE h = E) (hn : E ≠ 0) (he : e = .returned (.tuple #[.pointer none, .int .i64 E])) (hb : Below w.heap.size w w') : RunPost w h ds e w' :=
  ⟨hb, fun _ => by rw [hE]; exact he, fun h0 => absurd (hE.symm.trans h0) hn⟩
theorem RunPost.mkYes {w w' : World} {h : ShapeS} {ds : List DeedS} {e : Ending} {s : Nat} {v : Value} {bs : List BkS} (hE : newE h = 0) (he : e = .returned (.tuple #[.pointer (some ⟨s, 0, none⟩), .int .i64 0])) (hb : Below w.heap.size w w') {b : Int} (hbb : h.W / h.B = b) (hk : SkInv w' s h b (runN ds).1 (runN ds).2 v bs) (ho : ∀ i, SkOwn s v bs i → w.heap.size ≤ i) : RunPost w h ds e w' :=
  ⟨hb, fun h0 => absurd hE h0, fun _ => ⟨s, v, bs, he, by rw [hbb]; exact hk, ho⟩⟩
theorem IntsAt.belowB {w w' : World} {a : Option Addr} {xs : List Int} (h : IntsAt w a xs) (hb : Below w.heap.size w w') : IntsAt w' a xs := h.belowS hb
end Go.Proofs.Ytglielpiojnnhaa
