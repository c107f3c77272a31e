/- TreeNone. -/
import Derived.Test.YtpbbidijnmooaaaTrS
namespace Go.Proofs.Ytpbbidijnmooaaa
open Go.RowKit
set_option linter.unusedVariables false
set_option linter.unusedSimpArgs false

set_option maxHeartbeats 6400000 in
set_option maxRecDepth 100000 in
theorem trnone_walk (w : World) (c : CallS) (atq : Int) :
    Calls Try.prog 6 #[.agg c.c, .int .i64 atq] w fun e w' => e = .returned (.bool true) ∧ Below w.heap.size w w' := by
  have HP := Lib.hid (fun wx => tpass_nil c wx)
  have HBL := Lib.hid (fun wx => tblock_nil c wx)
  have HD := Lib.hid (fun wx => tdone_nil c atq true wx)
  have HN := Lib.hid (fun wx => tnode_nil ⟨1, ⟨#[]⟩, ⟨#[]⟩, ⟨#[]⟩⟩ wx)
  have HH := Lib.hid (fun wx => thas_nil ⟨1, ⟨#[]⟩, ⟨#[]⟩, ⟨#[]⟩⟩ wx)
  obtain ⟨at_, res, ctx, org, inb, cnt, aa, al, ac⟩ := c
  unfold CallS.c at *
  unfold KeyS.v at HN HH
  dsimp only at *
  have hA : Below w.heap.size w (w.alloc (.cells #[.int .i64 at_, .string res, .string ctx, .string org, .bool inb, .int .i64 cnt, .slice aa al ac] 40)) := (Below.refl _ _).alloc (Nat.le_refl _) _
  have hzA : (w.alloc (.cells #[.int .i64 at_, .string res, .string ctx, .string org, .bool inb, .int .i64 cnt, .slice aa al ac] 40)).heap.size = w.heap.size + 1 := by simp
  have hnA := new_blockS w (.cells #[.int .i64 at_, .string res, .string ctx, .string org, .bool inb, .int .i64 cnt, .slice aa al ac] 40)
  have hB := hA.alloc hA.size (.cells #[.int .u8 1, .string ⟨#[]⟩, .string ⟨#[]⟩, .string ⟨#[]⟩] 30)
  have hnB := new_blockS (w.alloc (.cells #[.int .i64 at_, .string res, .string ctx, .string org, .bool inb, .int .i64 cnt, .slice aa al ac] 40)) (.cells #[.int .u8 1, .string ⟨#[]⟩, .string ⟨#[]⟩, .string ⟨#[]⟩] 30)
  rw [hzA] at hnB
  have hnA2 := (Below.heap_alloc (w.alloc (.cells #[.int .i64 at_, .string res, .string ctx, .string org, .bool inb, .int .i64 cnt, .slice aa al ac] 40)) (.cells #[.int .u8 1, .string ⟨#[]⟩, .string ⟨#[]⟩, .string ⟨#[]⟩] 30) w.heap.size (by omega)).trans hnA
  obtain ⟨w1, hw1⟩ : ∃ w1, (w.alloc (.cells #[.int .i64 at_, .string res, .string ctx, .string org, .bool inb, .int .i64 cnt, .slice aa al ac] 40)).alloc (.cells #[.int .u8 1, .string ⟨#[]⟩, .string ⟨#[]⟩, .string ⟨#[]⟩] 30) = w1 := ⟨_, rfl⟩
  have HW1 := Lib.hid hw1
  have hf0 := four_box hnB
  rw [hw1] at hB hnB hnA2
  have HB1 := Lib.hid (Below.refl w1.heap.size w1)
  have HBW := Lib.hid hB
  have HQ := Lib.hid (fun (wx : World) (hx : Below w1.heap.size w1 wx) => call_cells ((hx.block w.heap.size (Array.getElem?_eq_some_iff.1 hnA2).1).trans hnA2))
  have HK := Lib.hid (fun (wx : World) (hx : Below w1.heap.size w1 wx) => four_box ((hx.block (w.heap.size + 1) (Array.getElem?_eq_some_iff.1 hnB).1).trans hnB))
  obtain ⟨f0, f1, f2, f3⟩ := hf0
  clear hA hzA hnA hB hnB hnA2 hw1
  go_enter Try.func6, Try.ntmps6
  go_wp2_with (fail)
  rw [HW1.out]
  clear f0 f1 f2 f3
  refine (tsum_nil atq _ _).mono ?_
  rintro e w2 ⟨rfl, hb2⟩
  unfold ctV CntS.zero
  dsimp only
  have hb2 := ((Below.refl w1.heap.size w1).alloc (Nat.le_refl _) (.cells #[.int .u8 1, .string ⟨#[]⟩, .string ⟨#[]⟩, .string ⟨#[]⟩] 30)).trans (hb2.mono (by simp))
  have HB2 := Lib.hid (hb2.alloc hb2.size (.cells #[.int .i64 0, .int .i64 0, .int .i64 0, .int .i64 0, .int .i64 0, .int .i64 0] 32))
  clear hb2
  go_wp2_with (fail)
  obtain ⟨w3, hw3⟩ : ∃ w3, w2.alloc (.cells #[.int .i64 0, .int .i64 0, .int .i64 0, .int .i64 0, .int .i64 0, .int .i64 0] 32) = w3 := ⟨_, rfl⟩
  rw [hw3] at HB2 ⊢
  clear hw3
  refine (trlive_any _).mono ?_
  rintro e w4 ⟨rfl, hb4⟩
  have HB4 := Lib.hid (HB2.out.trans (hb4.mono HB2.out.size))
  obtain ⟨q0, q1, q2, q3, q4, q5, q6⟩ := HQ.out w4 HB4.out
  obtain ⟨f0, f1, f2, f3⟩ := HK.out w4 HB4.out
  clear hb4
  go_wp2_with (fail)
  have hb5 := HB4.out.alloc HB4.out.size (.cells #[.int .i64 at_, .string res, .string ctx, .string org, .bool inb, .int .i64 cnt, .slice aa al ac] 40)
  obtain ⟨w5, hw5⟩ : ∃ w5, w4.alloc (.cells #[.int .i64 at_, .string res, .string ctx, .string org, .bool inb, .int .i64 cnt, .slice aa al ac] 40) = w5 := ⟨_, rfl⟩
  rw [hw5] at hb5 ⊢
  have HB5 := Lib.hid hb5
  clear hw5 hb5 q0 q1 q2 q3 q4 q5 q6 f0 f1 f2 f3
  obtain ⟨q0, q1, q2, q3, q4, q5, q6⟩ := HQ.out w5 HB5.out
  obtain ⟨f0, f1, f2, f3⟩ := HK.out w5 HB5.out
  refine (ttouch_nil _ _).mono ?_
  rintro e wq ⟨rfl, hq⟩
  have hq := hq.symm
  subst hq
  go_wp2_with (fail)
  refine (HP.out _).mono ?_
  rintro e w6 ⟨rfl, hb6⟩
  have HB6 := Lib.hid (HB5.out.trans (hb6.mono HB5.out.size))
  clear q0 q1 q2 q3 q4 q5 q6 f0 f1 f2 f3
  obtain ⟨q0, q1, q2, q3, q4, q5, q6⟩ := HQ.out w6 HB6.out
  obtain ⟨f0, f1, f2, f3⟩ := HK.out w6 HB6.out
  clear hb6
  go_wp2_with (fail)
  refine (HBL.out _).mono ?_
  rintro e w7 ⟨rfl, hb7⟩
  have HB7 := Lib.hid (HB6.out.trans (hb7.mono HB6.out.size))
  clear q0 q1 q2 q3 q4 q5 q6 f0 f1 f2 f3
  obtain ⟨q0, q1, q2, q3, q4, q5, q6⟩ := HQ.out w7 HB7.out
  obtain ⟨f0, f1, f2, f3⟩ := HK.out w7 HB7.out
  clear hb7
  go_wp2_with (fail)
  refine (HD.out _).mono ?_
  rintro e w8 ⟨rfl, hb8⟩
  have HB8 := Lib.hid (HB7.out.trans (hb8.mono HB7.out.size))
  clear q0 q1 q2 q3 q4 q5 q6 f0 f1 f2 f3
  obtain ⟨q0, q1, q2, q3, q4, q5, q6⟩ := HQ.out w8 HB8.out
  obtain ⟨f0, f1, f2, f3⟩ := HK.out w8 HB8.out
  clear hb8
  go_wp2_with (fail)
  refine (HN.out _).mono ?_
  rintro e w9 ⟨rfl, hb9⟩
  have HB9 := Lib.hid (HB8.out.trans (hb9.mono HB8.out.size))
  clear q0 q1 q2 q3 q4 q5 q6 f0 f1 f2 f3
  obtain ⟨q0, q1, q2, q3, q4, q5, q6⟩ := HQ.out w9 HB9.out
  obtain ⟨f0, f1, f2, f3⟩ := HK.out w9 HB9.out
  clear hb9
  go_wp2_with (fail)
  refine (HH.out _).mono ?_
  rintro e w10 ⟨rfl, hb10⟩
  have HB10 := Lib.hid (HB9.out.trans (hb10.mono HB9.out.size))
  clear q0 q1 q2 q3 q4 q5 q6 f0 f1 f2 f3
  obtain ⟨q0, q1, q2, q3, q4, q5, q6⟩ := HQ.out w10 HB10.out
  obtain ⟨f0, f1, f2, f3⟩ := HK.out w10 HB10.out
  clear hb10
  clear q0 q1 q2 q3 q4 q5 q6 f0 f1 f2 f3
  go_wp2_with (fail)
  refine (tall_nil _).mono ?_
  rintro e wq11 ⟨rfl, hq⟩
  have hq := hq.symm
  subst hq
  go_wp2_with (fail)
  refine (tof_nil 1 ⟨#[]⟩ _).mono ?_
  rintro e w12 ⟨rfl, hb12⟩
  have HB12 := Lib.hid (HB10.out.trans (hb12.mono HB10.out.size))
  clear hb12
  go_wp2_with (fail)
  refine (tlast_nil _).mono ?_
  rintro e wq13 ⟨rfl, hq⟩
  have hq := hq.symm
  subst hq
  go_wp2_with (fail)
  refine (tfork_nil _).mono ?_
  rintro e wq14 ⟨rfl, hq⟩
  have hq := hq.symm
  subst hq
  go_wp2_with (fail)
  go_ret
  exact ⟨rfl, HBW.out.trans (HB12.out.mono HBW.out.size)⟩
theorem trnone_law {w : World} (at_ : Int) (wa : (Lit.int .i64 at_).wf = true) (res ctx org : ByteArray) (inb : Bool) (cnt : Int) (wc : (Lit.int .i64 cnt).wf = true) (aa : Option Addr) (al ac : Nat) (atq : Int) (wq : (Lit.int .i64 atq).wf = true) :
    Calls Try.prog 6 #[.agg #[.int .i64 at_, .string res, .string ctx, .string org, .bool inb, .int .i64 cnt, .slice aa al ac], .int .i64 atq] w fun e w' => e = .returned (.bool true) ∧ Below w.heap.size w w' := trnone_walk w ⟨at_, res, ctx, org, inb, cnt, aa, al, ac⟩ atq
end Go.Proofs.Ytpbbidijnmooaaa
