/- breaker: one of the call's own; a rule that is right, played through. -/
import Derived.Test.YtejkfmepiagabaaBrE
namespace Go.Proofs.Ytejkfmepiagabaa
open Go.RowKit
set_option linter.unusedVariables false
set_option linter.unusedSimpArgs false

/-- A breaker that the call has made. -/
structure BrIn (w wr : World) (q : Nat) (r : BreakS) (s : BrS) : Prop where
  ex : ∃ p m, BrAt wr q p m r s ∧ w.heap.size ≤ p ∧ w.heap.size ≤ m
  bel : Below w.heap.size w wr
  qq : w.heap.size ≤ q
theorem BrIn.below {w wr w' : World} {q : Nat} {r : BreakS} {s : BrS} (h : BrIn w wr q r s) (hb : Below wr.heap.size wr w') : BrIn w w' q r s := by
  obtain ⟨p, m, h1, h2, h3⟩ := h.ex
  exact ⟨⟨p, m, h1.below hb, h2, h3⟩, h.bel.trans (hb.mono h.bel.size), h.qq⟩
theorem BrIn.lt {w wr : World} {q : Nat} {r : BreakS} {s : BrS} (h : BrIn w wr q r s) : q < wr.heap.size := by
  obtain ⟨p, m, h1, h2, h3⟩ := h.ex
  exact h1.lt (Or.inl rfl)
theorem BrIn.off {w wr w' : World} {q p m : Nat} (hb : Below w.heap.size w wr) (ho : Off (BOwn q p m) wr w') (hq : w.heap.size ≤ q) (hp : w.heap.size ≤ p) (hm : w.heap.size ≤ m) : Below w.heap.size w w' :=
  hb.trans (ho.below hb.size (fun i hi e => by rcases e with e | e | e <;> omega))
theorem bin_done {w wr : World} {q : Nat} {r : BreakS} {s : BrS} (h : BrIn w wr q r s) (at_ rt : Int) (failed probe : Bool) :
    Calls Try.prog 25 #[.pointer (some ⟨q, 0, none⟩), .int .i64 at_, .int .i64 rt, .bool failed, .bool probe] wr fun e w' => e = .returned (.int .i64 (bdoneE s at_ rt probe)) ∧ BrIn w w' q r (bdoneS r s at_ rt failed probe) := by
  obtain ⟨p, m, h1, h2, h3⟩ := h.ex
  refine (bdone_any h1 at_ rt failed probe).mono fun e w' hd => ⟨hd.e, ?_⟩
  obtain ⟨p', m', k1, k2, k3⟩ := hd.at'
  refine ⟨⟨p', m', k1, ?_, ?_⟩, BrIn.off h.bel k2 h.qq h2 h3, h.qq⟩
  · have := h.bel.size; rcases k3 with ⟨k, _⟩ | ⟨k, _⟩ <;> omega
  · have := h.bel.size; rcases k3 with ⟨_, k⟩ | ⟨_, k⟩ <;> omega
theorem bin_enter {w wr : World} {q : Nat} {r : BreakS} {s : BrS} (h : BrIn w wr q r s) (at_ : Int) :
    Calls Try.prog 28 #[.pointer (some ⟨q, 0, none⟩), .int .i64 at_] wr fun e w' => e = .returned (.tuple #[.bool (enterA s at_), .bool (enterP s at_), .int .i64 (lookW s.la at_)]) ∧ BrIn w w' q r (enterS s at_) := by
  obtain ⟨p, m, h1, h2, h3⟩ := h.ex
  exact (benter_any h1 at_).mono fun e w' hd => ⟨hd.1, ⟨p, m, hd.2.1, h2, h3⟩, BrIn.off h.bel (off_q hd.2.2) h.qq h2 h3, h.qq⟩
theorem bin_give {w wr : World} {q : Nat} {r : BreakS} {s : BrS} (h : BrIn w wr q r s) (at_ : Int) :
    Calls Try.prog 29 #[.pointer (some ⟨q, 0, none⟩), .int .i64 at_] wr fun e w' => e = .returned (.int .i64 (giveE s at_)) ∧ BrIn w w' q r (giveS s at_) := by
  obtain ⟨p, m, h1, h2, h3⟩ := h.ex
  exact (bgive_any h1 at_).mono fun e w' hd => ⟨hd.1, ⟨p, m, hd.2.1, h2, h3⟩, BrIn.off h.bel (off_q hd.2.2) h.qq h2 h3, h.qq⟩
theorem bin_state {w wr : World} {q : Nat} {r : BreakS} {s : BrS} (h : BrIn w wr q r s) : Calls Try.prog 26 #[.pointer (some ⟨q, 0, none⟩)] wr fun e w' => e = .returned (.int .u8 s.st) ∧ w' = wr := by
  obtain ⟨p, m, h1, h2, h3⟩ := h.ex
  exact bstate_any h1
theorem bin_trips {w wr : World} {q : Nat} {r : BreakS} {s : BrS} (h : BrIn w wr q r s) : Calls Try.prog 31 #[.pointer (some ⟨q, 0, none⟩)] wr fun e w' => e = .returned (.int .i64 s.tr) ∧ w' = wr := by
  obtain ⟨p, m, h1, h2, h3⟩ := h.ex
  exact btrips_any h1
theorem bin_until {w wr : World} {q : Nat} {r : BreakS} {s : BrS} (h : BrIn w wr q r s) : Calls Try.prog 27 #[.pointer (some ⟨q, 0, none⟩)] wr fun e w' => e = .returned (.tuple #[.int .i64 (untilN s), .bool (decide (s.st ≠ 1))]) ∧ w' = wr := by
  obtain ⟨p, m, h1, h2, h3⟩ := h.ex
  exact buntil_any h1
theorem bin_look {w wr : World} {q : Nat} {r : BreakS} {s : BrS} (h : BrIn w wr q r s) (at_ : Int) :
    Calls Try.prog 32 #[.pointer (some ⟨q, 0, none⟩), .int .i64 at_] wr fun e w' => e = .returned (.tuple #[.bool (decide (lookW s.la at_ = 0) && passB s at_), .int .i64 (lookW s.la at_)]) ∧ w' = wr := by
  obtain ⟨p, m, h1, h2, h3⟩ := h.ex
  exact blookp_any h1 at_
theorem bin_no (r : BreakS) (hz : r.res.size ≤ maxLen) {w wr : World} (hb : Below w.heap.size w wr) (hE : breakE r ≠ 0) :
    Calls Try.prog 24 #[r.v] wr fun e w' => e = .returned (.tuple #[.pointer none, .int .i64 (breakE r)]) ∧ Below w.heap.size w w' :=
  (bnew_any r hz wr).mono fun e w' h => ⟨(h.no hE).1, hb.trans ((h.no hE).2.mono hb.size)⟩
theorem bin_new (r : BreakS) (hz : r.res.size ≤ maxLen) {w wr : World} (hb : Below w.heap.size w wr) (hE : breakE r = 0) :
    Calls Try.prog 24 #[r.v] wr fun e w' => ∃ q, e = .returned (.tuple #[.pointer (some ⟨q, 0, none⟩), .int .i64 0]) ∧ BrIn w w' q r new0 ∧ wr.heap.size ≤ q := by
  refine (bnew_any r hz wr).mono fun e w' h => ?_
  obtain ⟨q, p, m, he, h1, h2, h3, h4, h5⟩ := h.yes hE
  have := hb.size
  exact ⟨q, he, ⟨⟨p, m, h1, by omega, by omega⟩, hb.trans (h2.mono hb.size), by omega⟩, h3⟩

def liveR : BreakS := ⟨⟨#[97]⟩, 1, 500, 0, 2, 1000000, 1000000⟩
def lv1 : BrS := bdoneS liveR new0 1 0 true false
def lv2 : BrS := bdoneS liveR lv1 2 0 true false
def lv3 : BrS := enterS lv2 1000002
def lv4 : BrS := enterS lv3 1000003
def lv5 : BrS := bdoneS liveR lv4 1000004 0 false true
set_option maxHeartbeats 3200000 in
set_option maxRecDepth 100000 in
theorem brlive_any (w : World) : Calls Try.prog 23 #[] w fun e w' => e = .returned (.bool true) ∧ Below w.heap.size w w' := by
  have HNW := Lib.hid (bin_new liveR (by decide) (Below.refl w.heap.size w) (by kernel_rfl))
  unfold BreakS.v BreakS.cells at HNW
  rw [show liveR.res = ⟨#[97]⟩ from rfl, show liveR.gr = 1 from rfl, show liveR.cnt = 500 from rfl, show liveR.slow = 0 from rfl, show liveR.least = 2 from rfl, show liveR.win = 1000000 from rfl, show liveR.rec_ = 1000000 from rfl] at HNW
  go_enter Try.func23, Try.ntmps23
  go_wp2_with (fail)
  refine HNW.out.mono ?_
  rintro e w1 ⟨q, rfl, h1, _⟩
  have H1 := Lib.hid (bin_done h1 1 0 true false)
  rw [show bdoneE new0 1 0 false = 0 by kernel_rfl, show bdoneS liveR new0 1 0 true false = lv1 from rfl] at H1
  clear h1 HNW
  go_wp2_with (fail)
  refine H1.out.mono ?_
  rintro e w2 ⟨rfl, h2⟩
  have H2 := Lib.hid (bin_done h2 2 0 true false)
  rw [show bdoneE lv1 2 0 false = 0 by kernel_rfl, show bdoneS liveR lv1 2 0 true false = lv2 from rfl] at H2
  clear h2 H1
  go_wp2_with (fail)
  refine H2.out.mono ?_
  rintro e w3 ⟨rfl, h3⟩
  have H3 := Lib.hid (bin_until h3)
  have H4 := Lib.hid (bin_look h3 1000001)
  have H5 := Lib.hid (bin_enter h3 1000002)
  rw [show untilN lv2 = 1000002 by kernel_rfl, show decide (lv2.st ≠ 1) = true by kernel_rfl] at H3
  rw [show lookW lv2.la 1000001 = 0 by kernel_rfl, show passB lv2 1000001 = false by kernel_rfl, Bool.and_false] at H4
  rw [show lookW lv2.la 1000002 = 0 by kernel_rfl, show enterA lv2 1000002 = true by kernel_rfl, show enterP lv2 1000002 = true by kernel_rfl, show enterS lv2 1000002 = lv3 from rfl] at H5
  clear h3 H2
  go_wp2_with (fail)
  refine H3.out.mono ?_
  rintro e wq ⟨rfl, hq⟩
  subst hq
  go_wp2_with (fail)
  refine H4.out.mono ?_
  rintro e wq2 ⟨rfl, hq⟩
  subst hq
  go_wp2_with (fail)
  refine H5.out.mono ?_
  rintro e w4 ⟨rfl, h4⟩
  have H6 := Lib.hid (bin_enter h4 1000003)
  rw [show lookW lv3.la 1000003 = 0 by kernel_rfl, show enterA lv3 1000003 = false by kernel_rfl, show enterP lv3 1000003 = false by kernel_rfl, show enterS lv3 1000003 = lv4 from rfl] at H6
  clear h4 H3 H4 H5
  go_wp2_with (fail)
  refine H6.out.mono ?_
  rintro e w5 ⟨rfl, h5⟩
  have H7 := Lib.hid (bin_done h5 1000004 0 false true)
  rw [show bdoneE lv4 1000004 0 true = 0 by kernel_rfl, show bdoneS liveR lv4 1000004 0 false true = lv5 from rfl] at H7
  clear h5 H6
  go_wp2_with (fail)
  refine H7.out.mono ?_
  rintro e w6 ⟨rfl, h6⟩
  have H8 := Lib.hid (bin_state h6)
  have H9 := Lib.hid (bin_trips h6)
  have HB := Lib.hid h6.bel
  rw [show lv5.st = 1 by kernel_rfl] at H8
  rw [show lv5.tr = 1 by kernel_rfl] at H9
  clear h6 H7
  go_wp2_with (fail)
  refine H8.out.mono ?_
  rintro e wq3 ⟨rfl, hq⟩
  subst hq
  go_wp2_with (fail)
  refine H9.out.mono ?_
  rintro e wq4 ⟨rfl, hq⟩
  subst hq
  go_wp2_with (fail)
  go_ret
  exact ⟨rfl, HB.out⟩
end Go.Proofs.Ytejkfmepiagabaa
