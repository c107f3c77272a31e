/- stat: Done, Sum, Past. -/
import Derived.Test.YtpbbidijnmooaaaStB
namespace Go.Proofs.Ytpbbidijnmooaaa
open Go.RowKit
set_option linter.unusedVariables false
set_option linter.unusedSimpArgs false

def doneE (last flight at_ rt : Int) : Int := if lookW last at_ = 2 ∨ isT rt = false then 2 else if lookW last at_ ≠ 0 then lookW last at_ else if flight = 0 then 4 else 0
def doneC (rt : Int) (failed : Bool) : CntS := ⟨0, 0, 1, if failed then 1 else 0, rt, rt⟩
theorem doneC_right {rt : Int} (h : isT rt = true) (failed : Bool) : RightC (doneC rt failed) := by
  simp [isT] at h
  cases failed <;> constructor <;> simp [doneC] <;> omega
/-- What Done leaves. -/
structure DonePost (w : World) (k : NBk) (last flight : Int) (notes : List NoteW) (at_ rt : Int) (failed : Bool) (e : Ending) (w' : World) : Prop where
  e : e = .returned (.int .i64 (doneE last flight at_ rt))
  no : doneE last flight at_ rt ≠ 0 → Below w.heap.size w w'
  yes : doneE last flight at_ rt = 0 → NodeAt w' k at_ (flight - 1) (notes ++ newW at_ [doneC rt failed]) ∧ Off (NOwn k) w w'
theorem DonePost.mkNo {w : World} {k : NBk} {last flight : Int} {notes : List NoteW} {at_ rt : Int} {failed : Bool} {e : Ending} {x : Int} (hE : doneE last flight at_ rt = x) (hx : x ≠ 0) (he : e = .returned (.int .i64 x)) : DonePost w k last flight notes at_ rt failed e w :=
  ⟨by rw [hE]; exact he, fun _ => Below.refl _ _, fun h0 => absurd (hE.symm.trans h0) hx⟩
theorem lookW_cases (last at_ : Int) : lookW last at_ = 0 ∨ lookW last at_ = 2 ∨ lookW last at_ = 7 := by
  unfold lookW; split
  · simp
  · split <;> simp

theorem cts_one {w : World} (c : CntS) : CtsAt (w.alloc (ctO c 32)) (some ⟨w.heap.size, 0, none⟩) [c] := by
  have hn : (w.alloc (ctO c 32)).heap[w.heap.size]? = some (ctO c 32) := (get_allocW w _ _).trans (if_pos rfl)
  refine Or.inr ⟨w.heap.size, 0, rfl, by simp, fun j x hx => ?_⟩
  obtain ⟨hj, hx2⟩ := List.getElem?_eq_some_iff.1 hx
  have : j = 0 := by simp at hj; omega
  subst this
  obtain rfl : c = x := by simpa using hx2
  simpa using (ct_cells hn).1

theorem snote_one {w : World} {k : NBk} {last flight : Int} {notes : List NoteW} (h : NodeAt w k last flight notes) (at_ : Int) (hE : lookW last at_ = 0) {c : CntS} (hr : RightC c) :
    Calls Try.prog 29 #[.pointer (some ⟨k.q, 0, none⟩), .int .i64 at_, .slice (some ⟨w.heap.size + 1, 0, none⟩) 1 1] ((w.alloc (ctO c 32)).alloc (ctO c 32)) fun e w' => e = .returned (.tuple #[]) ∧ NodeAt w' k at_ flight (notes ++ newW at_ [c]) ∧ Off (NOwn k) w w' := by
  have hb : Below w.heap.size w ((w.alloc (ctO c 32)).alloc (ctO c 32)) := ((Below.refl _ _).alloc (Nat.le_refl _) _).alloc (by simp) _
  have hc := cts_one (w := w.alloc (ctO c 32)) c
  rw [World.size_alloc] at hc
  exact (snote_any (h.below hb) at_ hE (some ⟨w.heap.size + 1, 0, none⟩) 1 1 [c] rfl (by omega) (fun e => by cases e) hc (fun x hx => by obtain rfl := List.mem_singleton.1 hx; exact hr) (fun g off e hno => by cases e; have := h.lt hno; omega)).mono
    fun e w' h => ⟨h.1, h.2.1, (Off.ofBelow hb).trans h.2.2 (fun _ _ h => h)⟩

set_option maxHeartbeats 3200000 in
set_option maxRecDepth 100000 in
theorem sdone_any {w : World} {k : NBk} {last flight : Int} {notes : List NoteW} (h : NodeAt w k last flight notes) (at_ rt : Int) (failed : Bool) :
    Calls Try.prog 38 #[.pointer (some ⟨k.q, 0, none⟩), .int .i64 at_, .int .i64 rt, .bool failed] w (DonePost w k last flight notes at_ rt failed) := by
  have HLK := Lib.hid (slook_any h at_ none 0 0 [] rfl (by omega) (Or.inl rfl))
  rw [lookN_nil] at HLK
  have HT := Lib.hid (fun wx => isTime_any rt wx)
  rw [show (decide (0 ≤ rt) && decide (rt ≤ 1152921504606846976)) = isT rt from rfl] at HT
  have HH := Lib.hid h
  obtain ⟨c0, c1, c2⟩ := h.cells
  have hf0 := h.f0
  have hf1 := h.f1
  clear h
  rcases lookW_cases last at_ with hE | hE | hE
  · rw [hE] at HLK
    have HE := Lib.hid hE
    clear hE
    cases hT : isT rt with
    | false =>
      have HC := Lib.hid (show doneE last flight at_ rt = 2 by unfold doneE; rw [if_pos (Or.inr hT)])
      rw [hT] at HT
      clear hT
      go_enter Try.func38, Try.ntmps38
      go_wp2_with (fail)
      refine HLK.out.mono ?_
      rintro e wq ⟨rfl, hq⟩
      subst hq
      go_wp2_with (fail)
      refine (HT.out _).mono ?_
      rintro e wq2 ⟨rfl, hq⟩
      subst hq
      go_wp2_with (fail)
      go_ret
      exact DonePost.mkNo HC.out (by decide) rfl
    | true =>
      have HRT := Lib.hid (doneC_right hT failed)
      have HTT := Lib.hid hT
      rw [hT] at HT
      clear hT
      by_cases hz : flight = 0
      · have HC := Lib.hid (show doneE last flight at_ rt = 4 by unfold doneE; rw [if_neg (by rw [HE.out, HTT.out]; simp), if_neg (by rw [HE.out]; simp), if_pos hz])
        go_enter Try.func38, Try.ntmps38
        go_wp2_with (fail)
        refine HLK.out.mono ?_
        rintro e wq ⟨rfl, hq⟩
        subst hq
        go_wp2_with (fail)
        refine (HT.out _).mono ?_
        rintro e wq2 ⟨rfl, hq⟩
        subst hq
        go_wp2_with (fail)
        go_ret
        exact DonePost.mkNo HC.out (by decide) rfl
      · have HC := Lib.hid (show doneE last flight at_ rt = 0 by unfold doneE; rw [if_neg (by rw [HE.out, HTT.out]; simp), if_neg (by rw [HE.out]; simp), if_neg hz])
        have hz2 : (flight == 0) = false := by simp [hz]
        have HZ := Lib.hid hz
        clear hz
        have HNT := Lib.hid (snote_one HH.out at_ HE.out HRT.out)
        have HST := Lib.hid (show ∀ (w9 : World), NodeAt w9 k at_ flight (notes ++ newW at_ [doneC rt failed]) → Off (NOwn k) w w9 → NodeAt (w9.setCell ⟨k.q, 2, none⟩ (.int .i64 (flight - 1))) k at_ (flight - 1) (notes ++ newW at_ [doneC rt failed]) ∧ Off (NOwn k) w (w9.setCell ⟨k.q, 2, none⟩ (.int .i64 (flight - 1))) from fun w9 h9 o9 => ⟨h9.setFlight (by have := HZ.out; omega) (by omega), o9.setCell (fun _ => (nown k).1) _⟩)
        clear HRT
        cases failed
        all_goals
          unfold ctO at HNT
          rw [show doneC rt _ = _ from rfl] at HNT
          simp only [doneC, if_true, Bool.false_eq_true, if_false] at HNT
          go_enter Try.func38, Try.ntmps38
          go_wp2_with (fail)
          refine HLK.out.mono ?_
          rintro e wq ⟨rfl, hq⟩
          subst hq
          go_wp2_with (fail)
          refine (HT.out _).mono ?_
          rintro e wq2 ⟨rfl, hq⟩
          subst hq
          go_wp2_with (fail)
          refine HNT.out.mono ?_
          rintro e w9 ⟨rfl, hn9, ho9⟩
          have HEND := Lib.hid (HST.out w9 hn9 ho9)
          obtain ⟨d0, d1, d2⟩ := hn9.cells
          have f2 : w9.frozen? ⟨k.q, 2, none⟩ = false := frozen_of_row w9 k.q 2 _ _ hn9.head
          clear hn9 ho9 HNT HST
          go_wp2_with (fail)
          go_ret
          exact ⟨by rw [HC.out]; rfl, fun h0 => absurd HC.out h0, fun _ => HEND.out⟩
  · rw [hE] at HLK
    have HC := Lib.hid (show doneE last flight at_ rt = 2 by unfold doneE; rw [if_pos (Or.inl hE)])
    clear hE
    go_enter Try.func38, Try.ntmps38
    go_wp2_with (fail)
    refine HLK.out.mono ?_
    rintro e wq ⟨rfl, hq⟩
    subst hq
    go_wp2_with (fail)
    go_ret
    exact DonePost.mkNo HC.out (by decide) rfl
  · rw [hE] at HLK
    have HE := Lib.hid hE
    clear hE
    cases hT : isT rt with
    | false =>
      have HC := Lib.hid (show doneE last flight at_ rt = 2 by unfold doneE; rw [if_pos (Or.inr hT)])
      rw [hT] at HT
      clear hT
      go_enter Try.func38, Try.ntmps38
      go_wp2_with (fail)
      refine HLK.out.mono ?_
      rintro e wq ⟨rfl, hq⟩
      subst hq
      go_wp2_with (fail)
      refine (HT.out _).mono ?_
      rintro e wq2 ⟨rfl, hq⟩
      subst hq
      go_wp2_with (fail)
      go_ret
      exact DonePost.mkNo HC.out (by decide) rfl
    | true =>
      have HC := Lib.hid (show doneE last flight at_ rt = 7 by unfold doneE; rw [if_neg (by rw [HE.out, hT]; simp), if_pos (by rw [HE.out]; decide)]; exact HE.out)
      rw [hT] at HT
      clear hT
      go_enter Try.func38, Try.ntmps38
      go_wp2_with (fail)
      refine HLK.out.mono ?_
      rintro e wq ⟨rfl, hq⟩
      subst hq
      go_wp2_with (fail)
      refine (HT.out _).mono ?_
      rintro e wq2 ⟨rfl, hq⟩
      subst hq
      go_wp2_with (fail)
      go_ret
      exact DonePost.mkNo HC.out (by decide) rfl

set_option maxHeartbeats 1600000 in
theorem ssum_any {w : World} {k : NBk} {last flight : Int} {notes : List NoteW} (h : NodeAt w k last flight notes) (at_ : Int) (hE : lookW last at_ = 0) :
    Calls Try.prog 42 #[.pointer (some ⟨k.q, 0, none⟩), .int .i64 at_] w fun e w' => e = .returned (.tuple #[ctV (winC 100000 10 at_ notes), .int .i64 0]) ∧ Below w.heap.size w w' := by
  have HS := Lib.hid (fun (wx : World) (hb : Below w.heap.size w wx) => wSumN_any (h.below hb).sec at_ hE)
  rw [show (1000000 : Int) / 10 = 100000 from rfl] at HS
  obtain ⟨c0, c1, c2⟩ := h.cells
  have hql := h.lt (nown k).1
  have hB : Below w.heap.size w (w.alloc (ctO .zero 32)) := (Below.refl _ _).alloc (Nat.le_refl _) _
  have d0 := (hB.cell (p := ⟨k.q, 0, none⟩) hql).trans c0
  have HB := Lib.hid hB
  have HNW := Lib.hid ((get_allocW w (ctO .zero 32) w.heap.size).trans (if_pos rfl))
  obtain ⟨C, hC⟩ : ∃ C, winC 100000 10 at_ notes = C := ⟨_, rfl⟩
  rw [hC] at HS ⊢
  clear h hE hB c0 c1 c2 hC
  obtain ⟨xp, xb, xd, xe, xr, xm⟩ := C
  unfold ctV at HS ⊢
  unfold ctO CntS.zero at d0 HB HNW
  dsimp only at *
  go_enter Try.func42, Try.ntmps42
  go_wp2_with (fail)
  refine (HS.out _ HB.out).mono ?_
  rintro e w1 ⟨rfl, h1⟩
  have hn := (h1.block w.heap.size (by simp)).trans HNW.out
  have HB1 := Lib.hid (HB.out.trans (h1.mono HB.out.size))
  have HN := Lib.hid hn
  obtain ⟨⟨z0, z1, z2, z3, z4, z5⟩, zf⟩ := ct_cells (c := .zero) hn
  clear h1 hn d0
  go_wp2_with (fail)
  refine bodyPost_ret (results_cell_tmp (P := Try.prog) rfl _ _ w.heap.size 32 #[.int .i64 xp, .int .i64 xb, .int .i64 xd, .int .i64 xe, .int .i64 xr, .int .i64 xm] (0, 0) _ (.int .i64 0) (by rfl) (by rfl) ?hh Try.underlying32 rfl (by kernel_rfl)) rfl ?_
  case hh => exact sixC_same (c := .zero) HN.out xp xb xd xe xr xm
  exact ⟨rfl, sixC_below HB1.out (Nat.le_refl _) xp xb xd xe xr xm⟩
end Go.Proofs.Ytpbbidijnmooaaa
