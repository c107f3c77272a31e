/- stat: Mean; what must be whatever is asked. -/
import Derived.Test.YtejkfmepiagabaaStC
namespace Go.Proofs.Ytejkfmepiagabaa
open Go.RowKit
set_option linter.unusedVariables false
set_option linter.unusedSimpArgs false

theorem below_drewG {n : Nat} {a w : World} (h : Below n a w) (q : Nat) : Below n a (w.drewN q) := ⟨h.os, h.tape, h.output, h.size, h.block⟩
set_option maxHeartbeats 1600000 in
theorem smean_any {w : World} {k : NBk} {last flight : Int} {notes : List NoteW} (h : NodeAt w k last flight notes) (at_ : Int) (hE : lookW last at_ = 0) (hd : (winC 100000 10 at_ notes).d ≠ 0) :
    Calls Try.prog 39 #[.pointer (some ⟨k.q, 0, none⟩), .int .i64 at_] w fun e w' => e = .returned (.tuple #[.int .i64 ((winC 100000 10 at_ notes).r / (winC 100000 10 at_ notes).d), .int .i64 0]) ∧ Below w.heap.size w w' := by
  have HS := Lib.hid (ssum_any h at_ hE)
  have hR : RightC (winC 100000 10 at_ notes) := winC_right h.sec.right.1 at_
  obtain ⟨C, hC⟩ : ∃ C, winC 100000 10 at_ notes = C := ⟨_, rfl⟩
  rw [hC] at HS hR hd ⊢
  obtain ⟨xp, xb, xd, xe, xr, xm⟩ := C
  have h1 := hR.r0
  have h2 := hR.r1
  have h3 := hR.d0
  unfold ctV at HS
  dsimp only at *
  have q1 : xr.tdiv xd = xr / xd := Int.tdiv_eq_ediv_of_nonneg h1
  have q2 : 0 ≤ xr / xd := Int.ediv_nonneg h1 h3
  have q3 : xr / xd ≤ xr := Int.ediv_le_self _ h1
  have q4 : (xd == 0) = false := by simpa using hd
  have q5 : (xd == -1) = false := by rw [beq_eq_false_iff_ne]; omega
  obtain ⟨G, hG⟩ : ∃ G, xr / xd = G := ⟨_, rfl⟩
  rw [hG] at q1 q2 q3 ⊢
  have q6 : IntKind.i64.wrap G = G := IntWalk.i64_in _ (by omega)
  have hdz : ¬ xd = 0 := hd
  clear h hE hR hC hG h1 h2 h3 hd
  go_enter Try.func39, Try.ntmps39
  go_wp2_with (fail)
  refine HS.out.mono ?_
  rintro e w1 ⟨rfl, h1⟩
  have HB1 := Lib.hid h1
  clear h1
  go_wp2_with (fail)
  go_ret2
  exact ⟨rfl, HB1.out.alloc HB1.out.size _⟩

theorem madeN_q (N : Nat) : (madeN N).q = N + 4 := rfl
theorem ints_one (w : World) (n : Int) : IntsAt (w.alloc (.cells #[.int .i64 n] 3)) (some ⟨w.heap.size, 0, none⟩) [n] := by
  have hn : (w.alloc (.cells #[.int .i64 n] 3)).heap[w.heap.size]? = some (.cells #[.int .i64 n] 3) := (get_allocW w _ _).trans (if_pos rfl)
  refine Or.inr ⟨w.heap.size, 0, rfl, by simp, fun j hj => ?_⟩
  have : j = 0 := by simp at hj; omega
  subst this
  simp only [World.cell?, hn]
  rfl
theorem belowNew {w w' w9 : World} {k : NBk} (hk : ∀ i, NOwn k i → w.heap.size ≤ i) (hb : Below w.heap.size w w') (ho : Off (NOwn k) w' w9) : Below w.heap.size w w9 := hb.trans (ho.below hb.size (fun i hi h => by have := hk i h; omega))
/-- Pass, of one count. -/
theorem spass_one {w : World} {k : NBk} {last flight : Int} {notes : List NoteW} (h : NodeAt w k last flight notes) (at_ n : Int) :
    Calls Try.prog 13 #[.pointer (some ⟨k.q, 0, none⟩), .int .i64 at_, .slice (some ⟨w.heap.size, 0, none⟩) 1 1] (w.alloc (.cells #[.int .i64 n] 3)) fun e w' => e = .returned (.int .i64 (passE last flight at_ [n])) ∧ (passE last flight at_ [n] ≠ 0 → Below w.heap.size w w') ∧ (passE last flight at_ [n] = 0 → NodeAt w' k at_ (flight + 1) (notes ++ newW at_ [passC n]) ∧ Off (NOwn k) w w') := by
  have hb : Below w.heap.size w (w.alloc (.cells #[.int .i64 n] 3)) := (Below.refl _ _).alloc (Nat.le_refl _) _
  exact (spass_any (h.below hb) at_ (some ⟨w.heap.size, 0, none⟩) 1 1 [n] rfl (by omega) (ints_one w n)).mono fun e w' h => ⟨h.e, fun hE => hb.trans ((h.no hE).mono hb.size), fun hE => ⟨(h.yes hE).1, (Off.ofBelow hb).trans (h.yes hE).2 (fun _ _ h => h)⟩⟩

set_option maxHeartbeats 6400000 in
set_option maxRecDepth 100000 in
theorem stlive_any (w : World) : Calls Try.prog 18 #[] w fun e w' => e = .returned (.bool true) ∧ Below w.heap.size w w' := by
  have HN := Lib.hid (snew_any w)
  obtain ⟨hk0, hb0⟩ := node_made w
  have HK := Lib.hid (fun i (h : NOwn (madeN w.heap.size) i) => nodeW_own h)
  have HQ := Lib.hid (madeN_q w.heap.size)
  obtain ⟨k, hk⟩ : ∃ k, madeN w.heap.size = k := ⟨_, rfl⟩
  rw [hk] at hk0 HK HQ
  have HN0 := Lib.hid hk0
  have HB0 := Lib.hid hb0
  clear hk0 hb0 hk
  go_enter Try.func18, Try.ntmps18
  go_wp2_with (fail)
  refine HN.out.mono ?_
  rintro e w0 ⟨rfl, h0⟩
  rw [← h0] at HN0 HB0
  rw [← HQ.out]
  clear h0 HN HQ
  go_wp2_with (fail)
  refine (spass_one HN0.out 100 3).mono ?_
  rintro e w1 ⟨rfl, hno, hyes⟩
  obtain ⟨hn1, ho1⟩ := hyes (by kernel_rfl)
  rw [show passE 0 0 100 [3] = 0 by kernel_rfl]
  have HN1 := Lib.hid hn1
  have HB1 := Lib.hid (belowNew HK.out HB0.out ho1)
  clear hno hyes hn1 ho1 HN0 HB0
  go_wp2_with (fail)
  refine (spass_one HN1.out 950000 1).mono ?_
  rintro e w2 ⟨rfl, hno, hyes⟩
  obtain ⟨hn2, ho2⟩ := hyes (by kernel_rfl)
  rw [show passE 100 (0 + 1) 950000 [1] = 0 by kernel_rfl]
  have HN2 := Lib.hid hn2
  have HB2 := Lib.hid (belowNew HK.out HB1.out ho2)
  clear hno hyes hn2 ho2 HN1 HB1
  go_wp2_with (fail)
  have HS1 := Lib.hid (ssum_any HN2.out 999999 (by kernel_rfl))
  rw [show winC 100000 10 999999 ([] ++ newW 100 [passC 3] ++ newW 950000 [passC 1]) = ⟨4, 0, 0, 0, 0, 0⟩ by kernel_rfl] at HS1
  unfold ctV at HS1
  refine HS1.out.mono ?_
  rintro e w3 ⟨rfl, h3⟩
  have HB3 := Lib.hid (HB2.out.trans (h3.mono HB2.out.size))
  have HN3 := Lib.hid (HN2.out.below h3)
  clear h3 HS1 HN2 HB2
  have hz3 := HB3.out.size
  have HB3a := Lib.hid (show Below w3.heap.size w3 (w3.alloc (ctO ⟨4, 0, 0, 0, 0, 0⟩ 34)) from (Below.refl _ _).alloc (Nat.le_refl _) _)
  have hA := (ct_cells ((get_allocW w3 (ctO ⟨4, 0, 0, 0, 0, 0⟩ 34) w3.heap.size).trans (if_pos rfl))).1.1
  unfold ctO at HB3a hA
  go_wp2_with (fail)
  obtain ⟨w4, hw4⟩ : ∃ w4, w3.alloc (.cells #[.int .i64 4, .int .i64 0, .int .i64 0, .int .i64 0, .int .i64 0, .int .i64 0] 34) = w4 := ⟨_, rfl⟩
  rw [hw4] at HB3a hA ⊢
  have HN4 := Lib.hid (show NodeAt w4 k 950000 (0 + 1 + 1) _ from HN3.out.below HB3a.out)
  have HB4 := Lib.hid (HB3.out.trans (HB3a.out.mono HB3.out.size))
  have hz4 := HB3a.out.size
  have hA := World.block_lt_of_cell? w4 _ hA |> fun hl => And.intro hl hA
  obtain ⟨hAl, hA⟩ := hA
  have HNO := Lib.hid (fun (i : Nat) (h : NOwn k i) => HN3.out.lt h)
  clear hw4 HN3 HB3 HB3a
  have HS2 := Lib.hid (ssum_any HN4.out 1000000 (by kernel_rfl))
  rw [show winC 100000 10 1000000 ([] ++ newW 100 [passC 3] ++ newW 950000 [passC 1]) = ⟨1, 0, 0, 0, 0, 0⟩ by kernel_rfl] at HS2
  unfold ctV at HS2
  refine HS2.out.mono ?_
  rintro e w5 ⟨rfl, h5⟩
  have HB5 := Lib.hid (HB4.out.trans (h5.mono HB4.out.size))
  have HN5 := Lib.hid (HN4.out.below h5)
  have hA := (h5.cell (p := ⟨w3.heap.size, 0, none⟩) hAl).trans hA
  have hz5 := h5.size
  clear h5 HS2 HN4 HB4
  have HB5a := Lib.hid (show Below w5.heap.size w5 (w5.alloc (ctO ⟨1, 0, 0, 0, 0, 0⟩ 34)) from (Below.refl _ _).alloc (Nat.le_refl _) _)
  have hC := (ct_cells ((get_allocW w5 (ctO ⟨1, 0, 0, 0, 0, 0⟩ 34) w5.heap.size).trans (if_pos rfl))).1.1
  have hA := (HB5a.out.cell (p := ⟨w3.heap.size, 0, none⟩) (by dsimp only at hAl ⊢; omega)).trans hA
  unfold ctO at HB5a hC hA
  go_wp2_with (fail)
  obtain ⟨w6, hw6⟩ : ∃ w6, w5.alloc (.cells #[.int .i64 1, .int .i64 0, .int .i64 0, .int .i64 0, .int .i64 0, .int .i64 0] 34) = w6 := ⟨_, rfl⟩
  rw [hw6] at HB5a hA hC ⊢
  have HN6 := Lib.hid (show NodeAt w6 k 950000 (0 + 1 + 1) _ from HN5.out.below HB5a.out)
  have HB6 := Lib.hid (HB5.out.trans (HB5a.out.mono HB5.out.size))
  have hz6 := HB5a.out.size
  have hCl := World.block_lt_of_cell? w6 _ hC
  clear hw6 HN5 HB5 HB5a
  have HP := Lib.hid (spast_any HN6.out 1000000 (by kernel_rfl))
  rw [show pastC 1000000 1000000 ([] ++ newW 100 [passC 3] ++ newW 950000 [passC 1]) = 4 by kernel_rfl] at HP
  refine HP.out.mono ?_
  rintro e w7 ⟨rfl, h7⟩
  have HB7 := Lib.hid (HB6.out.trans (h7.mono HB6.out.size))
  have HN7 := Lib.hid (HN6.out.below h7)
  have hA := (h7.cell (p := ⟨w3.heap.size, 0, none⟩) (by dsimp only at hAl ⊢; omega)).trans hA
  have hC := (h7.cell (p := ⟨w5.heap.size, 0, none⟩) hCl).trans hC
  have hz7 := h7.size
  clear h7 HP HN6 HB6
  go_wp2_with (fail)
  have HD := Lib.hid (sdone_any HN7.out 1000000 50 true)
  refine HD.out.mono ?_
  intro e w8 hd
  obtain rfl := hd.e
  rw [show doneE 950000 (0 + 1 + 1) 1000000 50 = 0 by kernel_rfl]
  obtain ⟨hn8, ho8⟩ := hd.yes (by kernel_rfl)
  have HN8 := Lib.hid hn8
  have HB8 := Lib.hid (belowNew HK.out HB7.out ho8)
  have hA := ho8.cell hA (fun hh => by have := HNO.out _ hh; dsimp only at this; omega)
  have hC := ho8.cell hC (fun hh => by have := HNO.out _ hh; dsimp only at this; omega)
  clear hd hn8 ho8 HD
  go_wp2_with (fail)
  have HME := Lib.hid (smean_any HN8.out 1000000 (by kernel_rfl) (by
    rw [show (winC 100000 10 1000000 ([] ++ newW 100 [passC 3] ++ newW 950000 [passC 1] ++ newW 1000000 [doneC 50 true])).d = 1 by kernel_rfl]; decide))
  rw [show (winC 100000 10 1000000 ([] ++ newW 100 [passC 3] ++ newW 950000 [passC 1] ++ newW 1000000 [doneC 50 true])).r / (winC 100000 10 1000000 ([] ++ newW 100 [passC 3] ++ newW 950000 [passC 1] ++ newW 1000000 [doneC 50 true])).d = 50 by kernel_rfl] at HME
  refine HME.out.mono ?_
  rintro e w9 ⟨rfl, h9⟩
  have HB9 := Lib.hid (HB8.out.trans (h9.mono HB8.out.size))
  have HN9 := Lib.hid (HN8.out.below h9)
  have hA := (h9.cell (p := ⟨w3.heap.size, 0, none⟩) (World.block_lt_of_cell? w8 _ hA)).trans hA
  have hC := (h9.cell (p := ⟨w5.heap.size, 0, none⟩) (World.block_lt_of_cell? w8 _ hC)).trans hC
  clear h9 HME HN8 HB8
  go_wp2_with (fail)
  refine (sflight_any HN9.out).mono ?_
  rintro e wq ⟨rfl, hq⟩
  subst hq
  go_wp2_with (fail)
  go_ret
  exact ⟨rfl, HB9.out⟩
end Go.Proofs.Ytejkfmepiagabaa
