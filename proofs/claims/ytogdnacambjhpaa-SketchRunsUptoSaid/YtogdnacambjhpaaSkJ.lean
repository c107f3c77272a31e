/- sketch: nil ones; what must be whatever is asked. -/
import Derived.Test.YtogdnacambjhpaaSkI
namespace Go.Proofs.Ytogdnacambjhpaa
open Go.RowKit
set_option linter.unusedVariables false
set_option linter.unusedSimpArgs false

set_option maxHeartbeats 400000 in
theorem skEstimate_nil (at_ : Int) (key : ByteArray) (w : World) : Calls Try.prog 13 #[.pointer none, .int .i64 at_, .string key] w fun e w' => e = .returned (.tuple #[.int .i64 0, .int .i64 1]) ∧ w' = w := by
  go_enter Try.func13, Try.ntmps13
  go_wp2_with (fail)
  refine (sklook_nil _ _).mono ?_
  rintro e wq ⟨rfl, hq⟩
  subst hq
  go_wp2_with (fail)
  go_ret2
  exact ⟨rfl, rfl⟩
set_option maxHeartbeats 400000 in
theorem skTotal_nil (at_ : Int) (w : World) : Calls Try.prog 14 #[.pointer none, .int .i64 at_] w fun e w' => e = .returned (.tuple #[.int .i64 0, .int .i64 1]) ∧ w' = w := by
  go_enter Try.func14, Try.ntmps14
  go_wp2_with (fail)
  refine (sklook_nil _ _).mono ?_
  rintro e wq ⟨rfl, hq⟩
  subst hq
  go_wp2_with (fail)
  go_ret2
  exact ⟨rfl, rfl⟩
set_option maxHeartbeats 400000 in
theorem skTop_nil (at_ k : Int) (v : Value) (w : World) : Calls Try.prog 25 #[.pointer none, .int .i64 at_, .int .i64 k, v] w fun e w' => e = .returned (.tuple #[.slice none 0 0, .int .i64 1]) ∧ w' = w := by
  go_enter Try.func25, Try.ntmps25
  go_wp2_with (fail)
  refine (sklook_nil _ _).mono ?_
  rintro e wq ⟨rfl, hq⟩
  subst hq
  go_wp2_with (fail)
  go_ret2
  exact ⟨rfl, rfl⟩
set_option maxHeartbeats 400000 in
theorem skColumn_nil (row : Int) (key : ByteArray) (w : World) : Calls Try.prog 29 #[.pointer none, .int .i64 row, .string key] w fun e w' => e = .returned (.tuple #[.int .i64 0, .int .i64 1]) ∧ w' = w := by
  go_enter Try.func29, Try.ntmps29
  go_wp2_with (fail)
  go_ret2
  exact ⟨rfl, rfl⟩
set_option maxHeartbeats 400000 in
theorem skAdd_nil (at_ : Int) (key : ByteArray) (v : Value) (w : World) : Calls Try.prog 11 #[.pointer none, .int .i64 at_, .string key, v] w fun e w' => e = .returned (.int .i64 1) ∧ Below w.heap.size w w' := by
  go_enter Try.func11, Try.ntmps11
  go_wp2_with (fail)
  refine (sklook_nil _ _).mono ?_
  rintro e wq ⟨rfl, hq⟩
  subst hq
  go_wp2_with (fail)
  go_ret
  exact ⟨rfl, (Below.refl _ _).alloc (Nat.le_refl _) _⟩
set_option maxHeartbeats 400000 in
theorem skFork_nil (w : World) : Calls Try.prog 18 #[.pointer none] w fun e w' => e = .returned (.pointer none) ∧ w' = w := by
  go_enter Try.func18, Try.ntmps18
  go_wp2_with (fail)
  go_ret
  exact ⟨rfl, rfl⟩

def liveH : ShapeS := ⟨1000000, 10, 2, 64, 1⟩
def liveK : ByteArray := ⟨#[97]⟩
theorem liveOk : ShapeOk liveH 100000 := ⟨by decide, by decide, by decide, by decide, by decide, by decide, by decide, by decide, by decide, by decide, by decide, by decide⟩
def liveX : BkA := addBk 2 (colS liveH) liveK [1, 2] ⟨0, 0, fun _ _ => 0⟩
theorem liveX_cnt (r : Nat) (h : r < 2) : liveX.cnt r (colS liveH r liveK) = 3 := by
  unfold liveX addBk
  dsimp only
  rw [if_pos ⟨⟨by omega, by omega⟩, rfl⟩]
  rfl
theorem live1 : estS liveH 100000 999999 liveK [liveX] = 3 := by
  have h0 := liveX_cnt 0 (by omega)
  have h1 := liveX_cnt 1 (by omega)
  unfold estS
  show leastS _ 2 = 3
  rw [leastS, leastS, leastS]
  rw [sumB, sumB, sumB, sumB, if_pos (by show (_ : Int) < 0; decide), if_pos (by show (_ : Int) < 0; decide), h0, h1]
  decide
theorem live2 : estS liveH 100000 1000000 liveK [liveX] = 0 := by
  unfold estS
  show leastS _ 2 = 0
  rw [leastS, leastS, leastS]
  rw [sumB, sumB, sumB, sumB, if_neg (by show ¬ (_ : Int) < 0; decide), if_neg (by show ¬ (_ : Int) < 0; decide)]
  decide
theorem live3 : totS liveH 100000 5 [liveX] = 3 := by
  unfold totS
  rw [sumB, sumB, if_pos (by show (_ : Int) < 0; decide)]
  rfl
theorem live4 : hashS liveK = 12638187200555641996 := by decide +kernel
theorem live5 : newE liveH = 0 := by decide

set_option maxHeartbeats 3200000 in
set_option maxRecDepth 100000 in
theorem sklive_any (w : World) : Calls Try.prog 9 #[] w fun e w' => e = .returned (.bool true) ∧ Below w.heap.size w w' := by
  have HN := Lib.hid (sknew_any liveH w)
  have e1 : ∀ pre x, withBk (beginS 100000 0) (keepBk (beginS 100000 0) liveH.W (([] : List BkS).map BkS.a)) = pre ++ [x] → pre = [] ∧ x = ⟨0, 0, fun _ _ => 0⟩ := fun pre x h => by
    have : withBk (beginS 100000 0) (keepBk (beginS 100000 0) liveH.W (([] : List BkS).map BkS.a)) = [] ++ [⟨0, 0, fun _ _ => 0⟩] := rfl
    rw [this] at h
    obtain ⟨h1, h2⟩ := List.append_inj' h rfl
    exact ⟨h1.symm, by simpa using h2.symm⟩
  have E1 := Lib.hid e1
  have HH := Lib.hid (fun wx => skhash_any liveK (by show 1 ≤ maxLen; unfold maxLen; omega) wx)
  rw [live4] at HH
  clear e1
  go_enter Try.func9, Try.ntmps9
  go_wp2_with (fail)
  refine HN.out.mono ?_
  intro e wa hp
  obtain ⟨rfl, rfl⟩ := hp.2 live5
  have hk0 := skAt_made w liveH
  have hb0 : Below w.heap.size w (w.alloc (skObj liveH)) := (Below.refl _ _).alloc (Nat.le_refl _) _
  have hz0 : (w.alloc (skObj liveH)).heap.size = w.heap.size + 1 := by simp
  clear HN hp
  generalize w.alloc (skObj liveH) = wa at *
  go_wp2_with (fail)
  have hal : Below wa.heap.size wa (wa.alloc (.cells #[.int .i64 1, .int .i64 2] 3)) := (Below.refl _ _).alloc (Nat.le_refl _) _
  have hnew := new_blockS wa (.cells #[.int .i64 1, .int .i64 2] 3)
  refine (skadd_any (hk0.below hal) liveOk 0 liveK (by show 1 ≤ maxLen; unfold maxLen; omega) (some ⟨w.heap.size + 1, 0, none⟩) 2 2 [1, 2] rfl (by omega) (Or.inr ⟨_, _, rfl, by simp; omega, fun j hj => by
    rw [← hz0]
    match j with
    | 0 => simp only [World.cell?, hnew]; rfl
    | 1 => simp only [World.cell?, hnew]; rfl
    | j + 2 => simp at hj; omega⟩) (fun _ g off he => by
      injection he with he
      injection he with he
      subst he
      unfold SkOwn
      simp [Value.ownBlock]) (fun _ => by show (0 : Nat) ≤ _; omega)).mono ?_
  intro e wb hp
  obtain ⟨ret, off, fine, _⟩ := hp
  obtain ⟨v', bs', pre, x, hk, hw, hm, _⟩ := fine (by decide)
  obtain ⟨rfl, rfl⟩ := E1.out _ _ hw
  have hm2 : bs'.map BkS.a = [liveX] := hm
  have HOF := Lib.hid (hb0.trans ((hal.mono (by omega)).trans (off.below (B := w.heap.size) (by simp; omega) (fun k hk1 hs => by unfold SkOwn at hs; simp [Value.ownBlock] at hs; omega))))
  have HZB := Lib.hid HOF.out.size
  subst ret
  have hk1 : (liveK).size ≤ maxLen := by show 1 ≤ maxLen; unfold maxLen; omega
  have HE1 := Lib.hid (skEstimate_any hk liveOk 999999 liveK hk1)
  rw [hm2, live1, show lookS 0 999999 = 0 by decide, if_pos rfl] at HE1
  have HK := Lib.hid hk
  have HM2 := Lib.hid hm2
  have HKK := Lib.hid hk1
  rw [show addE 0 0 [1, 2] = 0 by decide]
  clear hk hm hm2 hw fine off hnew hal hk0 hk1
  rw [show liveK = ⟨#[97]⟩ from rfl] at HE1
  go_wp2_with (fail)
  refine HE1.out.mono ?_
  rintro e wc ⟨rfl, hbc⟩
  have HBC := Lib.hid hbc
  have HE2 := Lib.hid (skEstimate_any (HK.out.below hbc) liveOk 1000000 liveK HKK.out)
  rw [HM2.out, live2, show lookS 0 1000000 = 0 by decide, if_pos rfl] at HE2
  rw [show liveK = ⟨#[97]⟩ from rfl] at HE2
  clear hbc
  go_wp2_with (fail)
  refine HE2.out.mono ?_
  rintro e wd ⟨rfl, hbd⟩
  have HBD := Lib.hid (HBC.out.trans (hbd.mono HBC.out.size))
  have HE3 := Lib.hid (skTotal_any (HK.out.below HBD.out) liveOk 5)
  rw [HM2.out, live3, show lookS 0 5 = 0 by decide, if_pos rfl] at HE3
  clear hbd
  go_wp2_with (fail)
  refine HE3.out.mono ?_
  rintro e we ⟨rfl, hbe⟩
  have HBE := Lib.hid (HBD.out.trans (hbe.mono HBD.out.size))
  rw [show liveK = ⟨#[97]⟩ from rfl] at HH
  clear hbe
  go_wp2_with (fail)
  refine (HH.out _).mono ?_
  rintro e wf ⟨rfl, hq⟩
  subst hq
  go_wp2_with (fail)
  go_ret
  exact ⟨rfl, HOF.out.trans (HBE.out.mono HZB.out)⟩
end Go.Proofs.Ytogdnacambjhpaa
