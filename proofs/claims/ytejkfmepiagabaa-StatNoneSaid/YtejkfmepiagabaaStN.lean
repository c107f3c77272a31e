/- StatNone: nothing panics, and all is zero, where there is no node. -/
import Derived.Test.YtejkfmepiagabaaStD
namespace Go.Proofs.Ytejkfmepiagabaa
open Go.RowKit
set_option linter.unusedVariables false
set_option linter.unusedSimpArgs false

theorem nsum_nil (at_ : Int) (w : World) : Calls Try.prog 15 #[.pointer none, .int .i64 at_] w fun e w' => e = .returned (.tuple #[.agg #[.int .i64 0, .int .i64 0, .int .i64 0, .int .i64 0, .int .i64 0, .int .i64 0], .int .i64 1]) ∧ Below w.heap.size w w' := by
  have hb : Below w.heap.size w (w.alloc (ctO .zero 34)) := (Below.refl _ _).alloc (Nat.le_refl _) _
  have hn := (get_allocW w (ctO .zero 34) w.heap.size).trans (if_pos rfl)
  have HB := Lib.hid hb
  have HN := Lib.hid hn
  clear hb hn
  unfold ctO CntS.zero at HB HN
  go_enter Try.func15, Try.ntmps15
  go_wp2_with (fail)
  refine bodyPost_ret (results_cell_tmp (P := Try.prog) rfl _ _ w.heap.size 34 #[.int .i64 0, .int .i64 0, .int .i64 0, .int .i64 0, .int .i64 0, .int .i64 0] (0, 0) _ (.int .i64 1) (by rfl) (by rfl) HN.out Try.underlying34 rfl (by kernel_rfl)) rfl ?_
  exact ⟨rfl, HB.out⟩
theorem npast_nil (at_ : Int) (w : World) : Calls Try.prog 19 #[.pointer none, .int .i64 at_] w fun e w' => e = .returned (.tuple #[.int .i64 0, .int .i64 1]) ∧ w' = w := by
  go_enter Try.func19, Try.ntmps19
  go_wp2_with (fail)
  go_ret2
  exact ⟨rfl, rfl⟩
theorem nmost_nil (at_ : Int) (w : World) : Calls Try.prog 37 #[.pointer none, .int .i64 at_] w fun e w' => e = .returned (.tuple #[.int .i64 0, .int .i64 1]) ∧ w' = w := by
  go_enter Try.func37, Try.ntmps37
  go_wp2_with (fail)
  go_ret2
  exact ⟨rfl, rfl⟩
theorem nleast_nil (at_ : Int) (w : World) : Calls Try.prog 38 #[.pointer none, .int .i64 at_] w fun e w' => e = .returned (.tuple #[.int .i64 0, .int .i64 1]) ∧ Below w.heap.size w w' := by
  have HS := Lib.hid (nsum_nil at_ w)
  go_enter Try.func38, Try.ntmps38
  go_wp2_with (fail)
  refine HS.out.mono ?_
  rintro e w1 ⟨rfl, h1⟩
  have HB := Lib.hid h1
  clear h1
  go_wp2_with (fail)
  go_ret2
  exact ⟨rfl, HB.out.alloc HB.out.size _⟩
theorem nmean_nil (at_ : Int) (w : World) : Calls Try.prog 39 #[.pointer none, .int .i64 at_] w fun e w' => e = .returned (.tuple #[.int .i64 0, .int .i64 1]) ∧ Below w.heap.size w w' := by
  have HS := Lib.hid (nsum_nil at_ w)
  go_enter Try.func39, Try.ntmps39
  go_wp2_with (fail)
  refine HS.out.mono ?_
  rintro e w1 ⟨rfl, h1⟩
  have HB := Lib.hid h1
  clear h1
  go_wp2_with (fail)
  go_ret2
  exact ⟨rfl, HB.out.alloc HB.out.size _⟩
theorem nratio_nil (at_ : Int) (w : World) : Calls Try.prog 40 #[.pointer none, .int .i64 at_] w fun e w' => e = .returned (.tuple #[.int .i64 0, .int .i64 1]) ∧ Below w.heap.size w w' := by
  have HS := Lib.hid (nsum_nil at_ w)
  go_enter Try.func40, Try.ntmps40
  go_wp2_with (fail)
  refine HS.out.mono ?_
  rintro e w1 ⟨rfl, h1⟩
  have HB := Lib.hid h1
  clear h1
  go_wp2_with (fail)
  go_ret2
  exact ⟨rfl, HB.out.alloc HB.out.size _⟩
theorem nflight_nil (w : World) : Calls Try.prog 17 #[.pointer none] w fun e w' => e = .returned (.int .i64 0) ∧ w' = w := by
  go_enter Try.func17, Try.ntmps17
  go_wp2_with (fail)
  go_ret
  exact ⟨rfl, rfl⟩
theorem nlast_nil (w : World) : Calls Try.prog 22 #[.pointer none] w fun e w' => e = .returned (.int .i64 0) ∧ w' = w := by
  go_enter Try.func22, Try.ntmps22
  go_wp2_with (fail)
  go_ret
  exact ⟨rfl, rfl⟩
theorem nfork_nil (w : World) : Calls Try.prog 42 #[.pointer none] w fun e w' => e = .returned (.pointer none) ∧ w' = w := by
  go_enter Try.func42, Try.ntmps42
  go_wp2_with (fail)
  go_ret
  exact ⟨rfl, rfl⟩
theorem nlook_nil (at_ : Int) (v : Value) (w : World) : Calls Try.prog 43 #[.pointer none, .int .i64 at_, v] w fun e w' => e = .returned (.int .i64 1) ∧ w' = w := by
  go_enter Try.func43, Try.ntmps43
  go_wp2_with (fail)
  go_ret
  exact ⟨rfl, rfl⟩
theorem npass_nil (at_ : Int) (v : Value) (w : World) : Calls Try.prog 13 #[.pointer none, .int .i64 at_, v] w fun e w' => e = .returned (.int .i64 1) ∧ w' = w := by
  go_enter Try.func13, Try.ntmps13
  go_wp2_with (fail)
  refine (nlook_nil at_ v _).mono ?_
  rintro e wq ⟨rfl, hq⟩
  subst hq
  go_wp2_with (fail)
  go_ret
  exact ⟨rfl, rfl⟩
theorem nblock_nil (at_ : Int) (v : Value) (w : World) : Calls Try.prog 20 #[.pointer none, .int .i64 at_, v] w fun e w' => e = .returned (.int .i64 1) ∧ w' = w := by
  go_enter Try.func20, Try.ntmps20
  go_wp2_with (fail)
  refine (nlook_nil at_ v _).mono ?_
  rintro e wq ⟨rfl, hq⟩
  subst hq
  go_wp2_with (fail)
  go_ret
  exact ⟨rfl, rfl⟩
theorem ndone_nil (at_ rt : Int) (b : Bool) (w : World) : Calls Try.prog 21 #[.pointer none, .int .i64 at_, .int .i64 rt, .bool b] w fun e w' => e = .returned (.int .i64 1) ∧ w' = w := by
  go_enter Try.func21, Try.ntmps21
  go_wp2_with (fail)
  refine (nlook_nil at_ _ _).mono ?_
  rintro e wq ⟨rfl, hq⟩
  subst hq
  go_wp2_with (fail)
  go_ret
  exact ⟨rfl, rfl⟩
theorem results_cell_tmp2 {P : Program} {fn : Func} {p q s : Tmp} {ty : TypeId} (h : fn.results = #[.cell p ty, .tmp q, .tmp s]) (tmps : Array Value) (w : World) (g : Nat) (t : TypeId) (cs : Array Value) (fr : Nat × Nat) (d : TypeDesc) (v u : Value)
    (hp : tmps.getD p undef = .pointer (some ⟨g, 0, none⟩)) (hq : tmps.getD q undef = v) (hs : tmps.getD s undef = u) (hg : w.heap[g]? = some (.cells cs t fr))
    (hu : P.underlying ty = some d) (hd : (match d with | .struct _ | .array _ _ => true | _ => false) = true) (hi : (P.info? ty).map (·.size) = some cs.size) :
    (results fn tmps).run P w = .ok (.tuple #[.agg cs, v, u]) w := by
  have hp' : tmps[p]?.getD undef = .pointer (some ⟨g, 0, none⟩) := by simpa using hp
  have hq' : tmps[q]?.getD undef = v := by simpa using hq
  have hs' : tmps[s]?.getD undef = u := by simpa using hs
  simp [results, h, hp', hq', hs', asAddr, run_loadVar_row w g t ty cs fr d hg hu hd hi]
set_option maxHeartbeats 1600000 in
set_option maxRecDepth 100000 in
theorem njoin_nil (at_ : Int) (w : World) (b : Nat) (c0 : w.cell? ⟨b, 0, none⟩ = some (.pointer none)) (c1 : w.cell? ⟨b, 1, none⟩ = some (.pointer none)) :
    Calls Try.prog 41 #[.int .i64 at_, .slice (some ⟨b, 0, none⟩) 2 2] w fun e w' => e = .returned (.tuple #[.agg #[.int .i64 0, .int .i64 0, .int .i64 0, .int .i64 0, .int .i64 0, .int .i64 0], .int .i64 0, .int .i64 0]) ∧ Below w.heap.size w w' := by
  have hbl := World.block_lt_of_cell? w _ c0
  have hb : Below w.heap.size w (w.alloc (ctO .zero 34)) := (Below.refl _ _).alloc (Nat.le_refl _) _
  have hn := (get_allocW w (ctO .zero 34) w.heap.size).trans (if_pos rfl)
  have HB := Lib.hid hb
  have HN := Lib.hid hn
  have HJ := Lib.hid (fun wx => wjoin_any wx none 0 0 [] rfl (by omega) (by simp) (Or.inl rfl))
  have d0 := (hb.cell (p := ⟨b, 0, none⟩) hbl).trans c0
  have d1 := (hb.cell (p := ⟨b, 1, none⟩) hbl).trans c1
  rw [show joinC .zero [] = .zero from rfl] at HJ
  clear hb hn c0 c1
  unfold ctO CntS.zero at HB HN d0 d1
  unfold ctV CntS.zero at HJ
  dsimp only at HJ
  go_enter Try.func41, Try.ntmps41
  go_wp2_with (fail)
  obtain ⟨w1, hw1⟩ : ∃ w1, w.alloc (.cells #[.int .i64 0, .int .i64 0, .int .i64 0, .int .i64 0, .int .i64 0, .int .i64 0] 34) = w1 := ⟨_, rfl⟩
  rw [hw1] at HB HN d0 d1 ⊢
  clear hw1
  go_loop [5, 7, 8, 15] (fun z l f i => ∃ j : Nat, j ≤ 2 ∧ i = .int .i64 j ∧ l = .slice none 0 0 ∧ f = .int .i64 0 ∧ z = .int .i64 0) (fun _ _ _ i => 2 - (intOf i).toNat)
  case atStart => exact ⟨0, by omega, rfl, rfl, rfl, rfl⟩
  case round =>
    obtain ⟨j, hj, rfl, rfl, rfl, rfl⟩ := hrel
    match j, hj with
    | 0, _ =>
      go_wp2_with (fail)
      exact ⟨⟨1, by omega, rfl, rfl, rfl, rfl⟩, by simp [intOf]⟩
    | 1, _ =>
      go_wp2_with (fail)
      exact ⟨⟨2, by omega, rfl, rfl, rfl, rfl⟩, by simp [intOf]⟩
    | 2, _ =>
      clear d0 d1
      go_wp2_with (fail)
      refine (HJ.out _).mono ?_
      rintro e w2 ⟨rfl, h2⟩
      have hn2 := (h2.block w.heap.size (Array.getElem?_eq_some_iff.1 HN.out).1).trans HN.out
      have HB2 := Lib.hid (HB.out.trans (h2.mono HB.out.size))
      have HN2 := Lib.hid hn2
      obtain ⟨⟨z0, z1, z2, z3, z4, z5⟩, zf⟩ := ct_cells (c := .zero) hn2
      clear h2 hn2
      go_wp2_with (fail)
      refine bodyPost_ret (results_cell_tmp2 (P := Try.prog) rfl _ _ w.heap.size 34 #[.int .i64 0, .int .i64 0, .int .i64 0, .int .i64 0, .int .i64 0, .int .i64 0] (0, 0) _ (.int .i64 0) (.int .i64 0) (by rfl) (by rfl) (by rfl) ?hh Try.underlying34 rfl (by kernel_rfl)) rfl ?_
      case hh => exact sixC_same (c := .zero) HN2.out 0 0 0 0 0 0
      exact ⟨rfl, sixC_below HB2.out (Nat.le_refl _) 0 0 0 0 0 0⟩

set_option maxHeartbeats 6400000 in
set_option maxRecDepth 100000 in
theorem stnone_walk (w : World) (at_ : Int) (wa : (Lit.int .i64 at_).wf = true) (rt : Int) (wr : (Lit.int .i64 rt).wf = true) :
    Calls Try.prog 10 #[.int .i64 at_, .int .i64 rt] w fun e w' => e = .returned (.bool true) ∧ Below w.heap.size w w' := by
  go_enter Try.func10, Try.ntmps10
  go_wp2_with (fail)
  refine (nsum_nil at_ _).mono ?_
  rintro e w1 ⟨rfl, h1⟩
  have HB1 := Lib.hid (h1.alloc h1.size (.cells #[.int .i64 0, .int .i64 0, .int .i64 0, .int .i64 0, .int .i64 0, .int .i64 0] 34))
  clear h1
  go_wp2_with (fail)
  obtain ⟨w2, hw2⟩ : ∃ w2, w1.alloc (.cells #[.int .i64 0, .int .i64 0, .int .i64 0, .int .i64 0, .int .i64 0, .int .i64 0] 34) = w2 := ⟨_, rfl⟩
  rw [hw2] at HB1 ⊢
  clear hw2
  refine (npast_nil at_ _).mono ?_
  rintro e wq ⟨rfl, hq⟩
  subst hq
  go_wp2_with (fail)
  refine (nmost_nil at_ _).mono ?_
  rintro e wq2 ⟨rfl, hq⟩
  subst hq
  go_wp2_with (fail)
  refine (nleast_nil at_ _).mono ?_
  rintro e w3 ⟨rfl, h3⟩
  have HB3 := Lib.hid (HB1.out.trans (h3.mono HB1.out.size))
  clear h3 HB1
  go_wp2_with (fail)
  refine (nmean_nil at_ _).mono ?_
  rintro e w4 ⟨rfl, h4⟩
  have HB4 := Lib.hid (HB3.out.trans (h4.mono HB3.out.size))
  clear h4 HB3
  go_wp2_with (fail)
  refine (nratio_nil at_ _).mono ?_
  rintro e w5 ⟨rfl, h5⟩
  have HB5 := Lib.hid (HB4.out.trans (h5.mono HB4.out.size))
  clear h5 HB4
  have HB6 := Lib.hid (HB5.out.alloc HB5.out.size (.cells #[.pointer none, .pointer none] 23))
  have HG := Lib.hid ((get_allocW w5 (.cells #[.pointer none, .pointer none] 23) w5.heap.size).trans (if_pos rfl))
  go_wp2_with (fail)
  refine (njoin_nil at_ _ w5.heap.size (by simp only [World.cell?, HG.out]; rfl) (by simp only [World.cell?, HG.out]; rfl)).mono ?_
  rintro e w7 ⟨rfl, h7⟩
  have HB7 := Lib.hid (HB6.out.trans (h7.mono HB6.out.size))
  have hz7 := h7.size
  clear h7 HB6 HG HB5
  have HB8 := Lib.hid (HB7.out.alloc HB7.out.size (ctO .zero 34))
  have HN8 := Lib.hid ((get_allocW w7 (ctO .zero 34) w7.heap.size).trans (if_pos rfl))
  have HZ8 := Lib.hid (show w7.heap.size < (w7.alloc (ctO .zero 34)).heap.size by simp)
  unfold ctO CntS.zero at HB8 HN8 HZ8
  clear HB7 hz7
  go_wp2_with (fail)
  obtain ⟨w8, hw8⟩ : ∃ w8, w7.alloc (.cells #[.int .i64 0, .int .i64 0, .int .i64 0, .int .i64 0, .int .i64 0, .int .i64 0] 34) = w8 := ⟨_, rfl⟩
  rw [hw8] at HB8 HN8 HZ8 ⊢
  clear hw8
  refine (stlive_any _).mono ?_
  rintro e w9 ⟨rfl, h9⟩
  have HB9 := Lib.hid (HB8.out.trans (h9.mono HB8.out.size))
  have HN9 := Lib.hid ((h9.block w7.heap.size HZ8.out).trans HN8.out)
  have HZ9 := Lib.hid (Nat.lt_of_lt_of_le HZ8.out h9.size)
  clear h9 HB8 HN8 HZ8
  go_wp2_with (fail)
  refine (npass_nil at_ _ _).mono ?_
  rintro e wq3 ⟨rfl, hq⟩
  subst hq
  go_wp2_with (fail)
  refine (nblock_nil at_ _ _).mono ?_
  rintro e wq4 ⟨rfl, hq⟩
  subst hq
  go_wp2_with (fail)
  refine (ndone_nil at_ rt true _).mono ?_
  rintro e wq5 ⟨rfl, hq⟩
  subst hq
  go_wp2_with (fail)
  refine (nflight_nil _).mono ?_
  rintro e wq6 ⟨rfl, hq⟩
  subst hq
  go_wp2_with (fail)
  refine (nlast_nil _).mono ?_
  rintro e wq7 ⟨rfl, hq⟩
  subst hq
  go_wp2_with (fail)
  refine (nfork_nil _).mono ?_
  rintro e wq8 ⟨rfl, hq⟩
  subst hq
  have hB : Below w9.heap.size w9 ((w9.alloc (.cells #[.int .i64 rt] 3)).alloc (.cells #[.int .i64 rt] 3)) := ((Below.refl _ _).alloc (Nat.le_refl _) _).alloc (by simp) _
  obtain ⟨⟨z0, z1, z2, z3, z4, z5⟩, zf⟩ := ct_cells (c := .zero) ((hB.block w7.heap.size HZ9.out).trans HN9.out)
  unfold CntS.zero at z0 z1 z2 z3 z4 z5
  dsimp only at z0 z1 z2 z3 z4 z5
  have HBE := Lib.hid (HB9.out.trans (hB.mono HB9.out.size))
  clear hB zf
  go_wp2_with (fail)
  go_ret
  exact ⟨rfl, HBE.out⟩
end Go.Proofs.Ytejkfmepiagabaa
