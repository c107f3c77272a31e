/- tree: where there is no tree. -/
import Derived.Test.YtpbbidijnmooaaaTrO
namespace Go.Proofs.Ytpbbidijnmooaaa
open Go.RowKit
set_option linter.unusedVariables false
set_option linter.unusedSimpArgs false

set_option maxHeartbeats 1600000 in
theorem ttouch_nil (v : Value) (w : World) : Calls Try.prog 20 #[.pointer none, v] w fun e w' => e = .returned (.int .i64 1) ∧ w' = w := by
  go_enter Try.func20, Try.ntmps20
  go_wp2_with (fail)
  go_ret
  exact ⟨rfl, rfl⟩
set_option maxHeartbeats 1600000 in
set_option maxRecDepth 100000 in
theorem tnote_nil (c : CallS) (full : Bool) (v : Value) (w : World) : Calls Try.prog 30 #[.pointer none, .agg c.c, .bool full, v] w fun e w' => e = .returned (.int .i64 1) ∧ Below w.heap.size w w' := by
  have HB := Lib.hid (fun o1 o2 => ((Below.refl w.heap.size w).alloc (Nat.le_refl _) o1).alloc (by simp) o2)
  have hn := new_blockS w (.cells #[.pointer none] 24)
  obtain ⟨at_, res, ctx, org, inb, cnt, aa, al, ac⟩ := c
  unfold CallS.c
  dsimp only
  have hz : ((w.alloc (.cells #[.pointer none] 24)).alloc (.cells #[.int .i64 at_, .string res, .string ctx, .string org, .bool inb, .int .i64 cnt, .slice aa al ac] 40)).cell? ⟨w.heap.size, 0, none⟩ = some (.pointer none) := by
    have h := (Below.heap_alloc (w.alloc (.cells #[.pointer none] 24)) (.cells #[.int .i64 at_, .string res, .string ctx, .string org, .bool inb, .int .i64 cnt, .slice aa al ac] 40) w.heap.size (by simp)).trans hn
    simp [World.cell?, h]
  clear hn
  go_enter Try.func30, Try.ntmps30
  go_wp2_with (fail)
  go_ret
  exact ⟨rfl, HB.out _ _⟩
theorem tpass_nil (c : CallS) (w : World) : Calls Try.prog 17 #[.pointer none, .agg c.c] w fun e w' => e = .returned (.int .i64 1) ∧ Below w.heap.size w w' := by
  have hal : Below w.heap.size w (w.alloc (.cells c.c 40)) := (Below.refl _ _).alloc (Nat.le_refl _) _
  have hnw := new_blockS w (.cells c.c 40)
  obtain ⟨w1, hw1⟩ : ∃ w1, w.alloc (.cells c.c 40) = w1 := ⟨_, rfl⟩
  rw [hw1] at hal hnw
  have HN := Lib.hid (fun v => tnote_nil c true v w1)
  have HAL := Lib.hid hal
  obtain ⟨at_, res, ctx, org, inb, cnt, aa, al, ac⟩ := c
  unfold CallS.c at hnw hw1 HN ⊢
  dsimp only at hnw hw1 HN ⊢
  obtain ⟨q0, q1, q2, q3, q4, q5, q6⟩ := call_cells hnw
  clear hal hnw
  go_enter Try.func17, Try.ntmps17
  go_wp2_with (fail)
  refine (HN.out _).mono ?_
  rintro e w2 ⟨rfl, hb⟩
  go_wp2_with (fail)
  go_ret
  exact ⟨rfl, HAL.out.trans (hb.mono HAL.out.size)⟩
theorem tblock_nil (c : CallS) (w : World) : Calls Try.prog 18 #[.pointer none, .agg c.c] w fun e w' => e = .returned (.int .i64 1) ∧ Below w.heap.size w w' := by
  have hal : Below w.heap.size w (w.alloc (.cells c.c 40)) := (Below.refl _ _).alloc (Nat.le_refl _) _
  have hnw := new_blockS w (.cells c.c 40)
  obtain ⟨w1, hw1⟩ : ∃ w1, w.alloc (.cells c.c 40) = w1 := ⟨_, rfl⟩
  rw [hw1] at hal hnw
  have HN := Lib.hid (fun v => tnote_nil c false v w1)
  have HAL := Lib.hid hal
  obtain ⟨at_, res, ctx, org, inb, cnt, aa, al, ac⟩ := c
  unfold CallS.c at hnw hw1 HN ⊢
  dsimp only at hnw hw1 HN ⊢
  obtain ⟨q0, q1, q2, q3, q4, q5, q6⟩ := call_cells hnw
  clear hal hnw
  go_enter Try.func18, Try.ntmps18
  go_wp2_with (fail)
  refine (HN.out _).mono ?_
  rintro e w2 ⟨rfl, hb⟩
  go_wp2_with (fail)
  go_ret
  exact ⟨rfl, HAL.out.trans (hb.mono HAL.out.size)⟩
set_option maxHeartbeats 1600000 in
set_option maxRecDepth 100000 in
theorem tdone_nil (c : CallS) (rt : Int) (failed : Bool) (w : World) : Calls Try.prog 19 #[.pointer none, .agg c.c, .int .i64 rt, .bool failed] w fun e w' => e = .returned (.int .i64 1) ∧ Below w.heap.size w w' := by
  have HB := Lib.hid (fun o1 o2 => ((Below.refl w.heap.size w).alloc (Nat.le_refl _) o1).alloc (by simp) o2)
  have hn := new_blockS w (.cells #[.pointer none] 24)
  obtain ⟨at_, res, ctx, org, inb, cnt, aa, al, ac⟩ := c
  unfold CallS.c
  dsimp only
  have hz : ((w.alloc (.cells #[.pointer none] 24)).alloc (.cells #[.int .i64 at_, .string res, .string ctx, .string org, .bool inb, .int .i64 cnt, .slice aa al ac] 40)).cell? ⟨w.heap.size, 0, none⟩ = some (.pointer none) := by
    have h := (Below.heap_alloc (w.alloc (.cells #[.pointer none] 24)) (.cells #[.int .i64 at_, .string res, .string ctx, .string org, .bool inb, .int .i64 cnt, .slice aa al ac] 40) w.heap.size (by simp)).trans hn
    simp [World.cell?, h]
  clear hn
  go_enter Try.func19, Try.ntmps19
  go_wp2_with (fail)
  go_ret
  exact ⟨rfl, HB.out _ _⟩
set_option maxHeartbeats 1600000 in
theorem tnode_nil (q : KeyS) (w : World) : Calls Try.prog 14 #[.pointer none, q.v] w fun e w' => e = .returned (.pointer none) ∧ Below w.heap.size w w' := by
  have HB := Lib.hid (fun o1 => (Below.refl w.heap.size w).alloc (Nat.le_refl _) o1)
  obtain ⟨kind, ctx, res, org⟩ := q
  unfold KeyS.v
  dsimp only
  go_enter Try.func14, Try.ntmps14
  go_wp2_with (fail)
  go_ret
  exact ⟨rfl, HB.out _⟩
set_option maxHeartbeats 1600000 in
set_option maxRecDepth 100000 in
theorem thas_nil (q : KeyS) (w : World) : Calls Try.prog 13 #[.pointer none, q.v] w fun e w' => e = .returned (.bool false) ∧ Below w.heap.size w w' := by
  have HB := Lib.hid (fun o1 => (Below.refl w.heap.size w).alloc (Nat.le_refl _) o1)
  obtain ⟨kind, ctx, res, org⟩ := q
  unfold KeyS.v
  dsimp only
  go_enter Try.func13, Try.ntmps13
  go_wp2_with (fail)
  go_quiet (fail)
  go_wp2_with (fail)
  go_ret
  exact ⟨rfl, below_drewG (HB.out _) nq⟩
theorem tall_nil (w : World) : Calls Try.prog 9 #[.pointer none] w fun e w' => e = .returned (.slice none 0 0) ∧ w' = w := by
  go_enter Try.func9, Try.ntmps9
  go_wp2_with (fail)
  go_ret
  exact ⟨rfl, rfl⟩
set_option maxHeartbeats 3200000 in
set_option maxRecDepth 100000 in
theorem tof_nil (kind : Int) (res : ByteArray) (w : World) : Calls Try.prog 12 #[.pointer none, .int .u8 kind, .string res] w fun e w' => e = .returned (.slice none 0 0) ∧ Below w.heap.size w w' := by
  have HB := Lib.hid (fun o1 o2 => ((Below.refl w.heap.size w).alloc (Nat.le_refl _) o1).alloc (by simp) o2)
  have HD := Lib.hid (fun (wx : World) (caps : Array Value) => (tdelete_any (w := wx) (base := 0) (n := 0) (cap := 0) (a := none) (bs := []) (World.ownsRow_nil _ _ _ _) rfl (by omega) 26 caps (fun _ => true) (fun x h => by simp at h) (fun x h => by simp at h)).mono
    (fun e w' h => (show e = .returned (.slice none 0 0) ∧ Below wx.heap.size wx w' by
      obtain ⟨m, he, hm, _, hoff⟩ := h
      have hm : m = 0 := hm
      subst hm
      exact ⟨he, hoff.below (Nat.le_refl _) (fun i _ h => by simp [Value.ownBlock] at h)⟩)))
  go_enter Try.func12, Try.ntmps12
  go_wp2_with (fail)
  refine (tall_nil _).mono ?_
  rintro e wq ⟨rfl, hq⟩
  subst hq
  go_wp2_with (fail)
  refine (HD.out _ _).mono ?_
  rintro e w3 ⟨rfl, hoff⟩
  have HF := Lib.hid hoff
  clear hoff
  go_wp2_with (fail)
  go_ret
  exact ⟨rfl, (HB.out _ _).trans (HF.out.mono (HB.out _ _).size)⟩
set_option maxHeartbeats 3200000 in
set_option maxRecDepth 100000 in
theorem tsum_nil (at_ : Int) (v : Value) (w : World) : Calls Try.prog 10 #[.pointer none, .int .i64 at_, v] w fun e w' => e = .returned (.tuple #[ctV .zero, .int .i64 0, .int .i64 1]) ∧ Below w.heap.size w w' := by
  have HB := Lib.hid ((Below.refl _ w).alloc (Nat.le_refl _) (ctO .zero 32))
  have hnw := (get_allocW w (ctO .zero 32) w.heap.size).trans (if_pos rfl)
  have HNW := Lib.hid hnw
  clear hnw
  unfold ctO CntS.zero at HB HNW
  unfold ctV CntS.zero
  dsimp only at HB HNW ⊢
  obtain ⟨⟨z0, z1, z2, z3, z4, z5⟩, zf⟩ := ct_cells (c := .zero) HNW.out
  dsimp only [CntS.zero] at z0 z1 z2 z3 z4 z5
  obtain ⟨wB, hwB⟩ : ∃ wB, w.alloc (.cells #[.int .i64 0, .int .i64 0, .int .i64 0, .int .i64 0, .int .i64 0, .int .i64 0] 32) = wB := ⟨_, rfl⟩
  rw [hwB] at HB HNW z0 z1 z2 z3 z4 z5 zf
  go_enter Try.func10, Try.ntmps10
  go_wp2_with (fail)
  refine bodyPost_ret (results_cell_tmp3 (P := Try.prog) rfl _ _ w.heap.size 32 #[.int .i64 0, .int .i64 0, .int .i64 0, .int .i64 0, .int .i64 0, .int .i64 0] (0, 0) _ (.int .i64 0) (.int .i64 1) (by rfl) (by rfl) (by rfl) ?hh Try.underlying32 rfl (by kernel_rfl)) rfl ?_
  case hh => exact sixC_same (c := .zero) HNW.out 0 0 0 0 0 0
  exact ⟨rfl, sixC_below HB.out (Nat.le_refl _) 0 0 0 0 0 0⟩
theorem tlast_nil (w : World) : Calls Try.prog 11 #[.pointer none] w fun e w' => e = .returned (.int .i64 0) ∧ w' = w := by
  go_enter Try.func11, Try.ntmps11
  go_wp2_with (fail)
  go_ret
  exact ⟨rfl, rfl⟩
theorem tfork_nil (w : World) : Calls Try.prog 21 #[.pointer none] w fun e w' => e = .returned (.pointer none) ∧ w' = w := by
  go_enter Try.func21, Try.ntmps21
  go_wp2_with (fail)
  go_ret
  exact ⟨rfl, rfl⟩
/-! ### what live's calls leave -/
def cA : CallS := ⟨0, ⟨#[114]⟩, ⟨#[99]⟩, ⟨#[111]⟩, true, 1, none, 0, 0⟩
def cB : CallS := ⟨0, ⟨#[114]⟩, ⟨#[99]⟩, ⟨#[]⟩, false, 2, none, 0, 0⟩
theorem keysA : keysL cA = [⟨3, ⟨#[99]⟩, ⟨#[114]⟩, noT⟩, ⟨4, noT, ⟨#[114]⟩, noT⟩, ⟨5, noT, ⟨#[114]⟩, ⟨#[111]⟩⟩, ⟨2, ⟨#[99]⟩, noT, noT⟩, ⟨1, noT, noT, noT⟩] := by
  unfold keysL cA
  simp [ByteArray.toList_eq]
theorem keysB : keysL cB = [⟨3, ⟨#[99]⟩, ⟨#[114]⟩, noT⟩, ⟨4, noT, ⟨#[114]⟩, noT⟩, ⟨2, ⟨#[99]⟩, noT, noT⟩] := by
  unfold keysL cB
  simp [ByteArray.toList_eq]
def MA : TreeM := noteM [] [⟨3, ⟨#[99]⟩, ⟨#[114]⟩, noT⟩, ⟨4, noT, ⟨#[114]⟩, noT⟩, ⟨5, noT, ⟨#[114]⟩, ⟨#[111]⟩⟩, ⟨2, ⟨#[99]⟩, noT, noT⟩, ⟨1, noT, noT, noT⟩] (passF cA)
def MB : TreeM := noteM MA [⟨3, ⟨#[99]⟩, ⟨#[114]⟩, noT⟩, ⟨4, noT, ⟨#[114]⟩, noT⟩, ⟨2, ⟨#[99]⟩, noT, noT⟩] (passF cB)
theorem lenB : MB.length = 5 := by kernel_rfl
theorem keyB1 : (keysM MB)[1]? = some ⟨4, noT, ⟨#[114]⟩, noT⟩ := by kernel_rfl
theorem sumB1 : sumN 5 (nodesOf MB [⟨4, noT, ⟨#[114]⟩, noT⟩]) = ⟨3, 0, 0, 0, 0, 0⟩ ∧ flsOf (nodesOf MB [⟨4, noT, ⟨#[114]⟩, noT⟩]) = 2 := ⟨by kernel_rfl, by kernel_rfl⟩
theorem sumB2 : sumN 5 (nodesOf MB [⟨5, noT, ⟨#[114]⟩, ⟨#[111]⟩⟩]) = ⟨1, 0, 0, 0, 0, 0⟩ ∧ flsOf (nodesOf MB [⟨5, noT, ⟨#[114]⟩, ⟨#[111]⟩⟩]) = 1 := ⟨by kernel_rfl, by kernel_rfl⟩
theorem errB1 : sumTE 0 5 MB [⟨4, noT, ⟨#[114]⟩, noT⟩] = 0 := by kernel_rfl
theorem errB2 : sumTE 0 5 MB [⟨5, noT, ⟨#[114]⟩, ⟨#[111]⟩⟩] = 0 := by kernel_rfl
theorem nmR : nameB ⟨#[114]⟩ = true := by kernel_rfl
theorem nmC : nameB ⟨#[99]⟩ = true := by kernel_rfl
theorem nmO : nameB ⟨#[111]⟩ = true := by kernel_rfl
theorem errA : noteE [] 0 cA true = 0 := by
  unfold noteE
  rw [keysA, if_neg (by unfold namesB cA; simp [nmR, nmC, nmO]), if_neg (by decide), if_neg (by decide), if_neg (by decide), if_neg (by decide)]
theorem errAB : noteE MA 0 cB true = 0 := by
  unfold noteE
  rw [keysB, if_neg (by unfold namesB cB; simp [nmR, nmC, ByteArray.toList_eq]), if_neg (by decide), if_neg (by decide), if_neg (by decide), if_neg (by decide)]
end Go.Proofs.Ytpbbidijnmooaaa
