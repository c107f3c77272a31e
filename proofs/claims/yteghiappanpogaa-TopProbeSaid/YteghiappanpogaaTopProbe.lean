/- TopProbe: paced calls that fail open a breaker; then one enters. -/
import Derived.Test.YteghiappanpogaaBrE
import Derived.Test.YteghiappanpogaaPacB
namespace Go.Proofs.Yteghiappanpogaa
open Go.RowKit
set_option linter.unusedVariables false
set_option linter.unusedSimpArgs false

theorem which_any (n m : Int) (w : World) (n0 : -9223372036854775808 ≤ n) (n1 : n ≤ 9223372036854775807) (m0 : 1 ≤ m) (m1 : m ≤ 1099511627776) :
    Calls Try.prog 5 #[.int .i64 n, .int .i64 m] w fun e w' => e = .returned (.int .i64 (n % m)) ∧ w' = w := by
  have hne : (m == 0) = false := by rw [beq_eq_false_iff_ne]; omega
  have hne1 : (m == -1) = false := by rw [beq_eq_false_iff_ne]; omega
  have e0 := Int.emod_nonneg n (show m ≠ 0 by omega)
  have e1 := Int.emod_lt_of_pos n (show 0 < m by omega)
  obtain ⟨X, hX⟩ : ∃ X, n.tmod m = X := ⟨_, rfl⟩
  obtain ⟨Y, hY⟩ : ∃ Y, n % m = Y := ⟨_, rfl⟩
  have hXY : (0 ≤ X ∧ X = Y) ∨ (X < 0 ∧ X + m = Y) := by
    have h := Int.tmod_eq_emod (a := n) (b := m)
    rw [hX, hY] at h
    rw [hY] at e0 e1
    split at h <;> omega
  rw [hY] at e0 e1 ⊢
  have HX := Lib.hid hX
  rcases hXY with ⟨h0, h1⟩ | ⟨h0, h1⟩
  · subst h1
    clear hY HX
    go_enter Try.func5, Try.ntmps5
    go_wp2_with (fail)
    go_ret
    exact ⟨rfl, rfl⟩
  · clear hY HX
    go_enter Try.func5, Try.ntmps5
    go_wp2_with (fail)
    go_ret
    exact ⟨rfl, rfl⟩
def probeR : BreakS := ⟨⟨#[97]⟩, 2, 0, 0, 1, 1000000, 3000000⟩
/-- A pace and a breaker, side by side. -/
structure PB (w wr : World) (b q : Nat) (ps : PaceS) (s : BrS) : Prop where
  ex : ∃ p m, BrAt wr q p m probeR s ∧ w.heap.size ≤ p ∧ w.heap.size ≤ m ∧ ¬ BOwn q p m b
  pace : PaceAt wr b ps
  ok : PaceOk ps
  qu : ps.queue = 1000000
  bel : Below w.heap.size w wr
  qq : w.heap.size ≤ q
  bb : w.heap.size ≤ b
theorem PB.go {w wr w' : World} {b q : Nat} {ps ps' : PaceS} {s : BrS} (h : PB w wr b q ps s) (hp : PaceAt w' b ps') (hok : PaceOk ps') (hqu : ps'.queue = ps.queue) (hg : wr.grownBy w' (some b)) : PB w w' b q ps' s := by
  obtain ⟨p, m, h1, h2, h3, h4⟩ := h.ex
  exact ⟨⟨p, m, h1.kept (fun i hi => hg.block i (h1.lt hi) (fun e => h4 (Option.some.inj e ▸ hi))), h2, h3, h4⟩, hp, hok, hqu.trans h.qu, h.bel.grown hg h.bel.size (fun i e => by have := Option.some.inj e; have := h.bb; omega), h.qq, h.bb⟩
theorem PB.step {w wr w' : World} {b q p m p' m' : Nat} {ps : PaceS} {s s' : BrS} (h : PB w wr b q ps s) (h1 : BrAt wr q p m probeR s) (h2 : w.heap.size ≤ p) (h3 : w.heap.size ≤ m) (h4 : ¬ BOwn q p m b)
    (k1 : BrAt w' q p' m' probeR s') (k2 : Off (BOwn q p m) wr w') (k3 : (p' = p ∧ m' = m) ∨ (wr.heap.size ≤ p' ∧ wr.heap.size ≤ m')) : PB w w' b q ps s' := by
  have hs := h.bel.size
  have hl := h.pace.lt
  refine ⟨⟨p', m', k1, ?_, ?_, fun e => ?_⟩, h.pace.of_block (k2.block b hl h4) k2.size, h.ok, h.qu, h.bel.trans (k2.below hs (fun i hi e => by have := h.qq; rcases e with e | e | e <;> omega)), h.qq, h.bb⟩
  · rcases k3 with ⟨k, _⟩ | ⟨k, _⟩ <;> omega
  · rcases k3 with ⟨_, k⟩ | ⟨_, k⟩ <;> omega
  · rcases k3 with ⟨rfl, rfl⟩ | ⟨k, k'⟩
    · exact h4 e
    · rcases e with e | e | e
      · exact h4 (Or.inl e)
      · omega
      · omega
theorem pb_enter {w wr : World} {b q : Nat} {ps : PaceS} {s : BrS} (h : PB w wr b q ps s) (at_ : Int) :
    Calls Try.prog 8 #[.pointer (some ⟨q, 0, none⟩), .int .i64 at_] wr fun e w' => e = .returned (.tuple #[.bool (enterA s at_), .bool (enterP s at_), .int .i64 (lookW s.la at_)]) ∧ PB w w' b q ps (enterS s at_) := by
  obtain ⟨p, m, h1, h2, h3, h4⟩ := h.ex
  exact (benter_any h1 at_).mono fun e w' hd => ⟨hd.1, h.step h1 h2 h3 h4 hd.2.1 (off_q hd.2.2) (Or.inl ⟨rfl, rfl⟩)⟩
theorem pb_done {w wr : World} {b q : Nat} {ps : PaceS} {s : BrS} (h : PB w wr b q ps s) (at_ rt : Int) (failed probe : Bool) :
    Calls Try.prog 9 #[.pointer (some ⟨q, 0, none⟩), .int .i64 at_, .int .i64 rt, .bool failed, .bool probe] wr fun e w' => e = .returned (.int .i64 (bdoneE s at_ rt probe)) ∧ PB w w' b q ps (bdoneS probeR s at_ rt failed probe) := by
  obtain ⟨p, m, h1, h2, h3, h4⟩ := h.ex
  refine (bdone_any h1 at_ rt failed probe).mono fun e w' hd => ⟨hd.e, ?_⟩
  obtain ⟨p', m', k1, k2, k3⟩ := hd.at'
  exact h.step h1 h2 h3 h4 k1 k2 k3
theorem pb_state {w wr : World} {b q : Nat} {ps : PaceS} {s : BrS} (h : PB w wr b q ps s) : Calls Try.prog 10 #[.pointer (some ⟨q, 0, none⟩)] wr fun e w' => e = .returned (.int .u8 s.st) ∧ w' = wr := by
  obtain ⟨p, m, h1, _⟩ := h.ex
  exact bstate_any h1
theorem pb_go {w wr : World} {b q : Nat} {ps : PaceS} {s : BrS} (h : PB w wr b q ps s) (at_ : Int) (a0 : 0 ≤ at_) (a1 : at_ ≤ 1152921504606846976) :
    Calls Try.prog 7 #[.pointer (some ⟨b, 0, none⟩), .int .i64 at_, .int .i64 1] wr fun e w' => e = .returned (.tuple #[.int .i64 (askW ps at_ 1 ps.count), .bool (askB ps at_ 1 ps.count), .int .i64 (askE ps at_ 1 ps.count)]) ∧ PB w w' b q (gone ps at_ 1 ps.count) s := by
  refine (go_any b ps at_ 1 wr h.pace h.ok (by omega) (by omega) (by omega) (by omega)).mono fun e w' hd => ⟨hd.1, h.go hd.2.1 (gone_ok h.ok at_ 1 ps.count) ?_ hd.2.2⟩
  unfold gone
  split
  · split <;> rfl
  · rfl
/-- How both stand. -/
structure Stand (at_ un pr : Int) (ps : PaceS) (s : BrS) : Prop where
  noted : ps.noted ≤ at_
  la : s.la ≤ at_
  st : (un = -1 ∧ pr = 0 ∧ s = new0) ∨ (0 ≤ un ∧ pr = 0 ∧ s.st = 2 ∧ s.un = un) ∨ (0 ≤ un ∧ pr = 1 ∧ s.st = 3)
theorem ask_ok {ps : PaceS} {at_ : Int} (hok : PaceOk ps) (a0 : 0 ≤ at_) (a1 : at_ ≤ 1152921504606846976) (hn : ps.noted ≤ at_) (hq : ps.queue = 1000000) :
    askE ps at_ 1 ps.count = 0 ∧ 0 ≤ askW ps at_ 1 ps.count ∧ askW ps at_ 1 ps.count ≤ 1000000 ∧ (gone ps at_ 1 ps.count).noted = at_ := by
  have ha : asked at_ 1 ps.count := ⟨a0, a1, ⟨by omega, by omega⟩, hok.c1, hok.c2⟩
  have he : askE ps at_ 1 ps.count = 0 := by unfold askE; rw [if_pos ha, if_neg (by omega)]
  have hb := goesAt_bd hok ha
  refine ⟨he, ?_, ?_, ?_⟩
  · unfold askW; split <;> omega
  · unfold askW askB goesB
    rw [he]
    split
    · rename_i h; simp at h; omega
    · omega
  · unfold gone; rw [if_pos he]; split <;> rfl
theorem done_open {at_ : Int} (a0 : 0 ≤ at_) (a1 : at_ ≤ 1152921504606846976) : bdoneE (enterS new0 at_) at_ 5 false = 0 ∧ (bdoneS probeR (enterS new0 at_) at_ 5 true false).st = 2 ∧ (bdoneS probeR (enterS new0 at_) at_ 5 true false).un = at_ + 3000000 ∧ (bdoneS probeR (enterS new0 at_) at_ 5 true false).la = at_ := by
  have hl : lookW new0.la at_ = 0 := by unfold lookW; rw [if_neg (by omega), if_neg (by show ¬ at_ < 0; omega)]
  have hs : enterS new0 at_ = { new0 with la := at_ } := by unfold enterS; rw [if_pos hl]; rfl
  have hl2 : lookW at_ at_ = 0 := by unfold lookW; rw [if_neg (by omega), if_neg (by omega)]
  have he : bdoneE (enterS new0 at_) at_ 5 false = 0 := by
    rw [hs]; unfold bdoneE
    rw [if_neg (by show ¬ (lookW at_ at_ = 2 ∨ _); rw [hl2]; decide), if_neg (by show ¬ lookW at_ at_ ≠ 0; rw [hl2]; decide), if_neg (by simp)]
  refine ⟨he, ?_⟩
  have hw : winC probeR.win 1 at_ ((enterS new0 at_).notes ++ newW at_ [endC (badB probeR 5 true)]) = ⟨0, 0, 1, 1, 0, 0⟩ := by
    rw [hs]
    show winC 1000000 1 at_ [⟨at_, endC true⟩] = _
    unfold winC
    simp only [sumW]
    rw [if_pos (decide_eq_true (by omega))]
    rfl
  unfold bdoneS
  rw [if_pos he, if_neg (by simp), if_pos (by rw [hs]; rfl), hw, if_pos (by decide)]
  exact ⟨rfl, rfl, rfl⟩
theorem enterC {s : BrS} {at_ : Int} (h : lookW s.la at_ = 0) (hs : s.st = 1) : enterA s at_ = true ∧ enterP s at_ = false ∧ (enterS s at_).st = 1 := by
  unfold enterA enterP enterS passB; rw [h, hs]; simp
theorem enterOa {s : BrS} {at_ : Int} (h : lookW s.la at_ = 0) (hs : s.st = 2) (hu : s.un ≤ at_) : enterA s at_ = true ∧ enterP s at_ = true ∧ (enterS s at_).st = 3 := by
  unfold enterA enterP enterS passB; rw [h, hs]; simp [hu]
theorem enterOb {s : BrS} {at_ : Int} (h : lookW s.la at_ = 0) (hs : s.st = 2) (hu : ¬ s.un ≤ at_) : enterA s at_ = false ∧ enterP s at_ = false ∧ (enterS s at_).st = 2 ∧ (enterS s at_).un = s.un := by
  unfold enterA enterP enterS passB; rw [h, hs, decide_eq_false hu]; simp [hu]
theorem enterH {s : BrS} {at_ : Int} (h : lookW s.la at_ = 0) (hs : s.st = 3) : enterA s at_ = false ∧ enterP s at_ = false ∧ (enterS s at_).st = 3 := by
  unfold enterA enterP enterS passB; rw [h, hs]; simp
theorem enterLa {s : BrS} {at_ : Int} (h : lookW s.la at_ = 0) : (enterS s at_).la = at_ := by unfold enterS; rw [if_pos h]
end Go.Proofs.Yteghiappanpogaa
