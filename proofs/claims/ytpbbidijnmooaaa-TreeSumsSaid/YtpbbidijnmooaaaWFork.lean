/- window: Fork. -/
import Derived.Test.YtpbbidijnmooaaaWinI
import Derived.Test.YtpbbidijnmooaaaLay2
namespace Go.Proofs.Ytpbbidijnmooaaa
open Go.RowKit
set_option linter.unusedVariables false
set_option linter.unusedSimpArgs false

theorem mapV_lt_of {w : World} {k : TypeId} {b n : Nat} {f : Value → Option Value} (h : MapV w k b f n) : b < w.heap.size := h.lt
theorem ctm_clone {w : World} {m : Nat} {f : Int → Option CntS} (h : CtmAt w m f) : Calls Try.prog 56 #[.map (some m)] w fun e w' => e = .returned (.map (some w.heap.size)) ∧ CtmAt w' w.heap.size f ∧ Below w.heap.size w w' := by
  obtain ⟨hf, F, n, ⟨D, h1, h2, h3⟩, h4⟩ := h
  have hc : Calls Try.prog 56 #[.map (some m)] w _ := AnyW.maps_Clone_owns Try.lcloneM 3 selfR m n D w h1
  refine hc.mono ?_
  rintro e w' ⟨rfl, h5, _, h6⟩
  exact ⟨rfl, ⟨hf, F, n, ⟨D, h5, h2, h3⟩, h4⟩, h6⟩

set_option maxHeartbeats 3200000 in
set_option maxRecDepth 100000 in
theorem wfork_any {w : World} {p m : Nat} {W B last : Int} {notes : List NoteW} (h : WinN w p m W B last notes) :
    Calls Try.prog 45 #[.pointer (some ⟨p, 0, none⟩)] w fun e w' => e = .returned (.pointer (some ⟨w.heap.size, 0, none⟩)) ∧ WinN w' w.heap.size (w.heap.size + 1) W B last notes ∧ Below w.heap.size w w' := by
  obtain ⟨f, hw, hi⟩ := h.ex
  obtain ⟨c0, c1, c2, c3⟩ := hw.cells
  have hal : Below w.heap.size w (w.alloc (.cells #[.int .i64 W, .int .i64 B, .int .i64 last, .map (some m)] 97)) := (Below.refl _ _).alloc (Nat.le_refl _) _
  have hnb := new_blockS w (.cells #[.int .i64 W, .int .i64 B, .int .i64 last, .map (some m)] 97)
  have hzb : (w.alloc (.cells #[.int .i64 W, .int .i64 B, .int .i64 last, .map (some m)] 97)).heap.size = w.heap.size + 1 := by simp
  have HCL := ctm_clone (hw.map.kept (hal.block m hw.lt.2))
  rw [hzb] at HCL
  have HCL := Lib.hid HCL
  have a3 : (w.alloc (.cells #[.int .i64 W, .int .i64 B, .int .i64 last, .map (some m)] 97)).cell? ⟨p, 3, none⟩ = some (.map (some m)) := (World.cell?_alloc_lt w _ _ hw.lt.1).trans c3
  have HW := Lib.hid hw
  have HI := Lib.hid hi
  have HAL := Lib.hid (And.intro hal (And.intro hnb hzb))
  clear h hw hi hal hnb hzb
  go_enter Try.func45, Try.ntmps45
  go_wp2_with (fail)
  refine HCL.out.mono ?_
  rintro e w2 ⟨rfl, hm2, hb2⟩
  obtain ⟨hal, hnb, hzb⟩ := HAL.out
  have hn2 := (hb2.block w.heap.size (by omega)).trans hnb
  have c3 : w2.cell? ⟨w.heap.size, 3, none⟩ = some (.map (some m)) := by simp only [World.cell?, hn2]; rfl
  have f3 : w2.frozen? ⟨w.heap.size, 3, none⟩ = false := by simp only [World.frozen?, hn2]; simp
  have hz2 := hb2.size
  have HR := Lib.hid (show WinN (w2.setCell ⟨w.heap.size, 3, none⟩ (.map (some (w.heap.size + 1)))) w.heap.size (w.heap.size + 1) W B last notes from
    ⟨f, ⟨heap_setCell_same _ _ 3 _ _ _ hn2, hm2.kept (Below.heap_setCell _ _ _ _ (by show w.heap.size + 1 ≠ w.heap.size; omega)), by omega, HW.out.shape, HW.out.l0, HW.out.l1⟩, HI.out⟩)
  have HB := Lib.hid ((hal.trans (hb2.mono (by omega))).setCell (p := ⟨w.heap.size, 3, none⟩) (Nat.le_refl _) (.map (some (w.heap.size + 1))))
  clear hal hnb hzb hn2 hz2 hm2 hb2 HCL c0 c1 c2 a3
  go_wp2_with (fail)
  go_ret
  exact ⟨rfl, HR.out, HB.out⟩
end Go.Proofs.Ytpbbidijnmooaaa
