/- SketchRuns: alike. -/
import Derived.Test.YtogdnacambjhpaaRsG
import Derived.Test.YtogdnacambjhpaaMemIn
namespace Go.Proofs.Ytogdnacambjhpaa
open Go.RowKit
set_option linter.unusedVariables false
set_option linter.unusedSimpArgs false

theorem R6At.below {w w' : World} {q : Nat} {h : ShapeS} {last : Int} {v : Value} {ns : List NoteS} (k : R6At w q h last v ns) (hb : Below w.heap.size w w') : R6At w' q h last v ns := k.kept (fun i hi => hb.block i (by
  rcases hi with rfl | e
  · exact k.lt
  · exact (k.row.lt i e).2))
theorem below_drewR {w w' : World} (h : ∃ m, w' = w.drewN m) : Below w.heap.size w w' := by obtain ⟨m, rfl⟩ := h; exact below_drewS (Below.refl _ _) m
set_option maxHeartbeats 3200000 in
set_option maxRecDepth 100000 in
theorem alike_any {w : World} {s q : Nat} {h : ShapeS} {b last : Int} {ns : List NoteS} {v v6 : Value} {bs : List BkS} (k : SkInv w s h b last ns v bs) (k6 : R6At w q h last v6 ns) (hb : ShapeOk h b) (at_ : Int) (key : ByteArray) (hk : key.size ≤ maxLen) :
    Calls Try.prog 23 #[.agg #[.pointer (some ⟨s, 0, none⟩), .pointer (some ⟨q, 0, none⟩)], .int .i64 at_, .string key] w fun e w' => e = .returned (.bool true) ∧ Below w.heap.size w w' := by
  have H1 := Lib.hid (fun (wx : World) (hx : Below w.heap.size w wx) => skEstI_any (k.below hx) hb at_ key hk)
  have H2 := Lib.hid (fun (wx : World) (hx : Below w.heap.size w wx) => r6est_any (k6.below hx) hb at_ key hk)
  have H3 := Lib.hid (fun (wx : World) (hx : Below w.heap.size w wx) => skTotI_any (k.below hx) hb at_)
  have H4 := Lib.hid (fun (wx : World) (hx : Below w.heap.size w wx) => r6tot_any (k6.below hx) hb at_)
  generalize (if lookS last at_ = 0 then estN h b at_ key ns else 0) = E1 at H1 H2
  generalize (if lookS last at_ = 0 then totN h b at_ ns else 0) = T1 at H3 H4
  generalize lookS last at_ = L1 at H1 H2 H3 H4
  have HLS := Lib.hid (fun (wx : World) (hx : Below w.heap.size w wx) => (k6.below hx).cells.2.2.2.2.2.2)
  have HKK := Lib.hid (fun (wx : World) (hx : Below w.heap.size w wx) => (k.below hx).at_)
  have hal : Below w.heap.size w (w.alloc (.cells #[.pointer (some ⟨s, 0, none⟩), .pointer (some ⟨q, 0, none⟩)] 47)) := (Below.refl _ _).alloc (Nat.le_refl _) _
  have hzw : (w.alloc (.cells #[.pointer (some ⟨s, 0, none⟩), .pointer (some ⟨q, 0, none⟩)] 47)).heap.size = w.heap.size + 1 := by simp
  have hnw := new_blockS w (.cells #[.pointer (some ⟨s, 0, none⟩), .pointer (some ⟨q, 0, none⟩)] 47)
  have HAL := Lib.hid hal
  have HC := Lib.hid (show ∀ wx, Below (w.heap.size + 1) (w.alloc (.cells #[.pointer (some ⟨s, 0, none⟩), .pointer (some ⟨q, 0, none⟩)] 47)) wx → wx.cell? ⟨w.heap.size, 0, none⟩ = some (.pointer (some ⟨s, 0, none⟩)) ∧ wx.cell? ⟨w.heap.size, 1, none⟩ = some (.pointer (some ⟨q, 0, none⟩)) ∧ Below w.heap.size w wx ∧ w.heap.size + 1 ≤ wx.heap.size from fun wx hb => by
    have h1 := (hb.block w.heap.size (Nat.lt_succ_self _)).trans hnw
    exact ⟨by simp only [World.cell?, h1]; rfl, by simp only [World.cell?, h1]; rfl, hal.trans (hb.mono (Nat.le_succ _)), by have := hb.size; rw [hzw] at this; exact this⟩)
  clear k k6 hb hal hzw hnw
  go_enter Try.func23, Try.ntmps23
  go_wp2_with (fail)
  refine (H1.out _ HAL.out).mono ?_
  rintro e w2 ⟨rfl, h2⟩
  have hb2 : Below (w.heap.size + 1) (w.alloc (.cells #[.pointer (some ⟨s, 0, none⟩), .pointer (some ⟨q, 0, none⟩)] 47)) w2 := h2.mono (by simp)
  have HB2 := Lib.hid hb2
  obtain ⟨c0, c1, hw2, hz2⟩ := HC.out w2 hb2
  have HW2 := Lib.hid hw2
  have HZ2 := Lib.hid hz2
  clear h2 hb2 hw2 hz2 H1
  go_wp2_with (fail)
  refine (H2.out _ HW2.out).mono ?_
  rintro e w3 ⟨rfl, h3⟩
  have hb3 := HB2.out.trans ((below_drewR h3).mono HZ2.out)
  have HB3 := Lib.hid hb3
  obtain ⟨c0, c1, hw3, hz3⟩ := HC.out w3 hb3
  have HW3 := Lib.hid hw3
  have HZ3 := Lib.hid hz3
  clear h3 hb3 hw3 hz3 H2 HB2 HW2 HZ2
  go_wp2_with (fail)
  refine (H3.out _ HW3.out).mono ?_
  rintro e w4 ⟨rfl, h4⟩
  have hb4 := HB3.out.trans (h4.mono HZ3.out)
  have HB4 := Lib.hid hb4
  obtain ⟨c0, c1, hw4, hz4⟩ := HC.out w4 hb4
  have HW4 := Lib.hid hw4
  have HZ4 := Lib.hid hz4
  clear h4 hb4 hw4 hz4 H3 HB3 HW3 HZ3
  go_wp2_with (fail)
  refine (H4.out _ HW4.out).mono ?_
  rintro e w5 ⟨rfl, h5⟩
  have hb5 := HB4.out.trans ((below_drewR h5).mono HZ4.out)
  have HB5 := Lib.hid hb5
  obtain ⟨c0, c1, hw5, hz5⟩ := HC.out w5 hb5
  have HW5 := Lib.hid hw5
  have c6 := HLS.out w5 hw5
  clear h5 hb5 hw5 hz5 H4 HB4 HW4 HZ4
  go_wp2_with (fail)
  have HLA := Lib.hid (fun (n : Nat) => skLast_any (w := w5.drewN n) ((HKK.out w5 HW5.out).kept (w' := w5.drewN n) (fun _ _ => rfl)))
  go_quiet (first | (go_at_call 15; exact Calls.quiet_of_same (HLA.out _)))
  go_wp2_with (fail)
  go_ret
  exact ⟨rfl, below_drewS HW5.out nq⟩
end Go.Proofs.Ytogdnacambjhpaa
