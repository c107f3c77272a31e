/- BreakerHolds: an open breaker lets nothing through ahead of its time, then one call. -/
import Derived.Test.YtejkfmepiagabaaBrG
namespace Go.Proofs.Ytejkfmepiagabaa
open Go.RowKit
set_option linter.unusedVariables false
set_option linter.unusedSimpArgs false

/-- A breaker of the call's own, beside other blocks of its own. -/
structure BrInX (w wr : World) (q : Nat) (r : BreakS) (s : BrS) (l : List (Nat × Obj)) : Prop where
  ex : ∃ p m, BrAt wr q p m r s ∧ w.heap.size ≤ p ∧ w.heap.size ≤ m ∧ ∀ x, x ∈ l → x.1 ≠ p ∧ x.1 ≠ m
  bel : Below w.heap.size w wr
  qq : w.heap.size ≤ q
  kept : ∀ x, x ∈ l → wr.heap[x.1]? = some x.2 ∧ x.1 ≠ q
theorem BrInX.below {w wr w' : World} {q : Nat} {r : BreakS} {s : BrS} {l : List (Nat × Obj)} (h : BrInX w wr q r s l) (hb : Below wr.heap.size wr w') : BrInX w w' q r s l := by
  obtain ⟨p, m, h1, h2, h3, h4⟩ := h.ex
  exact ⟨⟨p, m, h1.below hb, h2, h3, h4⟩, h.bel.trans (hb.mono h.bel.size), h.qq, fun x hx => ⟨(hb.block x.1 (Array.getElem?_eq_some_iff.1 (h.kept x hx).1).1).trans (h.kept x hx).1, (h.kept x hx).2⟩⟩
theorem BrInX.step {w wr w' : World} {q p m p' m' : Nat} {r : BreakS} {s s' : BrS} {l : List (Nat × Obj)} (h : BrInX w wr q r s l) (h1 : BrAt wr q p m r s) (h2 : w.heap.size ≤ p) (h3 : w.heap.size ≤ m) (h4 : ∀ x, x ∈ l → x.1 ≠ p ∧ x.1 ≠ m)
    (k1 : BrAt w' q p' m' r s') (k2 : Off (BOwn q p m) wr w') (k3 : (p' = p ∧ m' = m) ∨ (wr.heap.size ≤ p' ∧ wr.heap.size ≤ m')) : BrInX w w' q r s' l := by
  have hs := h.bel.size
  refine ⟨⟨p', m', k1, ?_, ?_, fun x hx => ?_⟩, BrIn.off h.bel k2 h.qq h2 h3, h.qq, fun x hx => ⟨?_, (h.kept x hx).2⟩⟩
  · rcases k3 with ⟨k, _⟩ | ⟨k, _⟩ <;> omega
  · rcases k3 with ⟨_, k⟩ | ⟨_, k⟩ <;> omega
  · have hl := (Array.getElem?_eq_some_iff.1 (h.kept x hx).1).1
    have := h4 x hx
    rcases k3 with ⟨rfl, rfl⟩ | ⟨k, k'⟩
    · exact this
    · omega
  · have hl := (Array.getElem?_eq_some_iff.1 (h.kept x hx).1).1
    refine (k2.block x.1 hl (fun e => ?_)).trans (h.kept x hx).1
    rcases e with e | e | e
    · exact (h.kept x hx).2 e
    · exact (h4 x hx).1 e
    · exact (h4 x hx).2 e
theorem BrInX.alloc {w wr : World} {q : Nat} {r : BreakS} {s : BrS} {l : List (Nat × Obj)} (h : BrInX w wr q r s l) (O : Obj) : BrInX w (wr.alloc O) q r s ((wr.heap.size, O) :: l) := by
  have hb : Below wr.heap.size wr (wr.alloc O) := (Below.refl _ _).alloc (Nat.le_refl _) _
  have h' := h.below hb
  obtain ⟨p, m, h1, h2, h3, h4⟩ := h.ex
  have lq := h1.lt (i := q) (Or.inl rfl)
  have lp := h1.lt (i := p) (Or.inr (Or.inl rfl))
  have lm := h1.lt (i := m) (Or.inr (Or.inr rfl))
  refine ⟨⟨p, m, h1.below hb, h2, h3, fun x hx => ?_⟩, h'.bel, h.qq, fun x hx => ?_⟩
  · rcases List.mem_cons.1 hx with rfl | hx
    · exact ⟨by show wr.heap.size ≠ p; omega, by show wr.heap.size ≠ m; omega⟩
    · exact h4 x hx
  · rcases List.mem_cons.1 hx with rfl | hx
    · exact ⟨(get_allocW wr O wr.heap.size).trans (if_pos rfl), by show wr.heap.size ≠ q; omega⟩
    · exact h'.kept x hx
theorem BrInX.tail {w wr : World} {q : Nat} {r : BreakS} {s : BrS} {x : Nat × Obj} {l : List (Nat × Obj)} (h : BrInX w wr q r s (x :: l)) : BrInX w wr q r s l := by
  obtain ⟨p, m, h1, h2, h3, h4⟩ := h.ex
  exact ⟨⟨p, m, h1, h2, h3, fun y hy => h4 y (List.mem_cons_of_mem _ hy)⟩, h.bel, h.qq, fun y hy => h.kept y (List.mem_cons_of_mem _ hy)⟩
theorem bix_done {w wr : World} {q : Nat} {r : BreakS} {s : BrS} {l : List (Nat × Obj)} (h : BrInX w wr q r s l) (at_ rt : Int) (failed probe : Bool) :
    Calls Try.prog 25 #[.pointer (some ⟨q, 0, none⟩), .int .i64 at_, .int .i64 rt, .bool failed, .bool probe] wr fun e w' => e = .returned (.int .i64 (bdoneE s at_ rt probe)) ∧ BrInX w w' q r (bdoneS r s at_ rt failed probe) l := by
  obtain ⟨p, m, h1, h2, h3, h4⟩ := h.ex
  refine (bdone_any h1 at_ rt failed probe).mono fun e w' hd => ⟨hd.e, ?_⟩
  obtain ⟨p', m', k1, k2, k3⟩ := hd.at'
  exact h.step h1 h2 h3 h4 k1 k2 k3
theorem bix_enter {w wr : World} {q : Nat} {r : BreakS} {s : BrS} {l : List (Nat × Obj)} (h : BrInX w wr q r s l) (at_ : Int) :
    Calls Try.prog 28 #[.pointer (some ⟨q, 0, none⟩), .int .i64 at_] wr fun e w' => e = .returned (.tuple #[.bool (enterA s at_), .bool (enterP s at_), .int .i64 (lookW s.la at_)]) ∧ BrInX w w' q r (enterS s at_) l := by
  obtain ⟨p, m, h1, h2, h3, h4⟩ := h.ex
  exact (benter_any h1 at_).mono fun e w' hd => ⟨hd.1, h.step h1 h2 h3 h4 hd.2.1 (off_q hd.2.2) (Or.inl ⟨rfl, rfl⟩)⟩
theorem bix_give {w wr : World} {q : Nat} {r : BreakS} {s : BrS} {l : List (Nat × Obj)} (h : BrInX w wr q r s l) (at_ : Int) :
    Calls Try.prog 29 #[.pointer (some ⟨q, 0, none⟩), .int .i64 at_] wr fun e w' => e = .returned (.int .i64 (giveE s at_)) ∧ BrInX w w' q r (giveS s at_) l := by
  obtain ⟨p, m, h1, h2, h3, h4⟩ := h.ex
  exact (bgive_any h1 at_).mono fun e w' hd => ⟨hd.1, h.step h1 h2 h3 h4 hd.2.1 (off_q hd.2.2) (Or.inl ⟨rfl, rfl⟩)⟩
theorem bix_state {w wr : World} {q : Nat} {r : BreakS} {s : BrS} {l : List (Nat × Obj)} (h : BrInX w wr q r s l) : Calls Try.prog 26 #[.pointer (some ⟨q, 0, none⟩)] wr fun e w' => e = .returned (.int .u8 s.st) ∧ w' = wr := by
  obtain ⟨p, m, h1, h2, h3⟩ := h.ex
  exact bstate_any h1
theorem bix_until {w wr : World} {q : Nat} {r : BreakS} {s : BrS} {l : List (Nat × Obj)} (h : BrInX w wr q r s l) : Calls Try.prog 27 #[.pointer (some ⟨q, 0, none⟩)] wr fun e w' => e = .returned (.tuple #[.int .i64 (untilN s), .bool (decide (s.st ≠ 1))]) ∧ w' = wr := by
  obtain ⟨p, m, h1, h2, h3⟩ := h.ex
  exact buntil_any h1
theorem BrInX.st {w wr : World} {q : Nat} {r : BreakS} {s : BrS} {l : List (Nat × Obj)} (h : BrInX w wr q r s l) : (s.st = 1 ∨ s.st = 2 ∨ s.st = 3) ∧ BreakOk r := by
  obtain ⟨p, m, h1, _⟩ := h.ex
  exact ⟨h1.st, h1.ok⟩
/-- From the breaker that New has made. -/
theorem BrInX.ofNew {w wr : World} {q rb : Nat} {r : BreakS} {s : BrS} {O : Obj} (h : BrIn w wr q r s) (hrb : rb < wr.heap.size) (ho : wr.heap[rb]? = some O) (hp : ∃ p m, BrAt wr q p m r s ∧ w.heap.size ≤ p ∧ w.heap.size ≤ m ∧ rb ≠ p ∧ rb ≠ m) (hq : rb ≠ q) : BrInX w wr q r s [(rb, O)] := by
  obtain ⟨p, m, h1, h2, h3, h4, h5⟩ := hp
  exact ⟨⟨p, m, h1, h2, h3, fun x hx => by obtain rfl := List.mem_singleton.1 hx; exact ⟨h4, h5⟩⟩, h.bel, h.qq, fun x hx => by obtain rfl := List.mem_singleton.1 hx; exact ⟨ho, hq⟩⟩
def probeN (s : BrS) : Int := if s.st = 3 then 1 else 0
theorem probe1 {s : BrS} (h : s.st = 1) : probeN s = 0 := by unfold probeN; rw [if_neg (by omega)]
theorem probe2 {s : BrS} (h : s.st = 2) : probeN s = 0 := by unfold probeN; rw [if_neg (by omega)]
theorem probe3 {s : BrS} (h : s.st = 3) : probeN s = 1 := by unfold probeN; rw [if_pos h]
theorem until1 {s : BrS} (h : s.st = 1) : untilN s = 0 := by unfold untilN; rw [if_pos h]
theorem until2 {s : BrS} (h : s.st = 2) : untilN s = s.un := by unfold untilN; rw [if_neg (by omega)]
theorem until3 {s : BrS} (h : s.st = 3) : untilN s = s.un := by unfold untilN; rw [if_neg (by omega)]
theorem enter_no {s : BrS} {at_ : Int} (h : lookW s.la at_ ≠ 0) : enterS s at_ = s := by unfold enterS; rw [if_neg h]
theorem enter_1 {s : BrS} {at_ : Int} (h : lookW s.la at_ = 0) (hs : s.st = 1) : enterA s at_ = true ∧ enterP s at_ = false ∧ (enterS s at_).st = 1 := by
  unfold enterA enterP enterS passB; rw [h, hs]; simp
theorem enter_2a {s : BrS} {at_ : Int} (h : lookW s.la at_ = 0) (hs : s.st = 2) (hu : s.un ≤ at_) : enterA s at_ = true ∧ enterP s at_ = true ∧ (enterS s at_).st = 3 := by
  unfold enterA enterP enterS passB; rw [h, hs]; simp [hu]
theorem enter_2b {s : BrS} {at_ : Int} (h : lookW s.la at_ = 0) (hs : s.st = 2) (hu : ¬ s.un ≤ at_) : enterA s at_ = false ∧ enterP s at_ = false ∧ (enterS s at_).st = 2 := by
  unfold enterA enterP enterS passB; rw [h, hs, decide_eq_false hu]; simp [hu]
theorem enter_3 {s : BrS} {at_ : Int} (h : lookW s.la at_ = 0) (hs : s.st = 3) : enterA s at_ = false ∧ enterP s at_ = false ∧ (enterS s at_).st = 3 := by
  unfold enterA enterP enterS passB; rw [h, hs]; simp
theorem bdone_no {r : BreakS} {s : BrS} {at_ rt : Int} {f p : Bool} (h : bdoneE s at_ rt p ≠ 0) : bdoneS r s at_ rt f p = s := by unfold bdoneS; rw [if_neg h]
theorem bdone_look {s : BrS} {at_ rt : Int} {p : Bool} (h : bdoneE s at_ rt p = 0) : lookW s.la at_ = 0 ∧ (p = true → s.st = 3) := by
  unfold bdoneE at h
  split at h
  · cases h
  · split at h
    · rename_i h1; exact absurd h h1
    · split at h
      · cases h
      · rename_i h1 h2 h3
        exact ⟨by simpa using h2, fun hp => by
          by_cases hs : s.st = 3
          · exact hs
          · exact absurd ⟨hp, hs⟩ h3⟩
theorem bdone_p {r : BreakS} {s : BrS} {at_ rt : Int} {f : Bool} (h : bdoneE s at_ rt true = 0) : (bdoneS r s at_ rt f true).st = 2 ∨ (bdoneS r s at_ rt f true).st = 1 := by
  unfold bdoneS
  rw [if_pos h, if_pos rfl]
  split
  · exact Or.inl rfl
  · exact Or.inr rfl
theorem bdone_1 {r : BreakS} {s : BrS} {at_ rt : Int} {f : Bool} (h : bdoneE s at_ rt false = 0) (hs : s.st = 1) : (bdoneS r s at_ rt f false).st = 1 ∨ ((bdoneS r s at_ rt f false).st = 2 ∧ (bdoneS r s at_ rt f false).un = at_ + r.rec_) := by
  unfold bdoneS
  rw [if_pos h, if_neg (by simp), if_pos hs]
  split
  · exact Or.inr ⟨rfl, rfl⟩
  · exact Or.inl hs
theorem plus_any (a b : Int) (w : World) (a0 : 0 ≤ a) (a1 : a ≤ 1152921504606846976) (b0 : 0 ≤ b) (b1 : b ≤ 3600000000) : Calls Try.prog 30 #[.int .i64 a, .int .i64 b] w fun e w' => e = .returned (.int .i64 (a + b)) ∧ w' = w := by
  go_enter Try.func30, Try.ntmps30
  go_wp2_with (fail)
  go_ret
  exact ⟨rfl, rfl⟩

set_option maxHeartbeats 25600000 in
set_option maxRecDepth 100000 in
theorem brholds_run (w : World) (r : BreakS) (hz : r.res.size ≤ maxLen) (a : Option Addr) (len cap : Nat) (hm : len ≤ 140737488351232) (K A R : Nat → Int) (F P : Nat → Bool) (hd : DeedsB w a len K A R F P) :
    Calls Try.prog 7 #[r.v, .slice a len cap] w fun e w' => e = .returned (.bool true) ∧ Below w.heap.size w w' := by
  have HD1 := Lib.hid hd
  have hbx : Below w.heap.size w (w.alloc (brkO r)) := (Below.refl _ _).alloc (Nat.le_refl _) _
  have hN : (w.alloc (brkO r)).heap[w.heap.size]? = some (brkO r) := (get_allocW w _ _).trans (if_pos rfl)
  have hnz : w.heap.size < (w.alloc (brkO r)).heap.size := by simp
  have HBX := Lib.hid hbx
  have HN := Lib.hid hN
  have HNZ := Lib.hid hnz
  have HNEW := Lib.hid (fun (wx : World) => bnew_any r hz wx)
  clear hd hz hbx hN hnz
  unfold brkO BreakS.cells at HBX HN HNZ
  unfold BreakS.v BreakS.cells at HNEW
  unfold BreakS.v BreakS.cells
  go_enter Try.func7, Try.ntmps7
  go_wp2_with (fail)
  refine (brlive_any _).mono ?_
  rintro e w1 ⟨rfl, h1⟩
  have hn1 := (h1.block w.heap.size HNZ.out).trans HN.out
  have HN1 := Lib.hid hn1
  have c0 : w1.cell? ⟨w.heap.size, 0, none⟩ = some (.string r.res) := by simp only [World.cell?, hn1]; rfl
  have c1 : w1.cell? ⟨w.heap.size, 1, none⟩ = some (.int .u8 r.gr) := by simp only [World.cell?, hn1]; rfl
  have c2 : w1.cell? ⟨w.heap.size, 2, none⟩ = some (.int .i64 r.cnt) := by simp only [World.cell?, hn1]; rfl
  have c3 : w1.cell? ⟨w.heap.size, 3, none⟩ = some (.int .i64 r.slow) := by simp only [World.cell?, hn1]; rfl
  have c4 : w1.cell? ⟨w.heap.size, 4, none⟩ = some (.int .i64 r.least) := by simp only [World.cell?, hn1]; rfl
  have c5 : w1.cell? ⟨w.heap.size, 5, none⟩ = some (.int .i64 r.win) := by simp only [World.cell?, hn1]; rfl
  have c6 : w1.cell? ⟨w.heap.size, 6, none⟩ = some (.int .i64 r.rec_) := by simp only [World.cell?, hn1]; rfl
  have HNZ1 := Lib.hid (Nat.lt_of_lt_of_le HNZ.out h1.size)
  have HB1 := Lib.hid (HBX.out.trans (h1.mono HBX.out.size))
  clear hn1 h1 HBX HN HNZ
  go_wp2_with (fail)
  clear c0 c1 c2 c3 c4 c5 c6
  by_cases hE : breakE r = 0
  · refine (HNEW.out _).mono ?_
    rintro e w2 hnew
    obtain ⟨q, p, m, rfl, h2, h3, h4, h5, h6⟩ := hnew.yes hE
    have HB2 := Lib.hid (show BrInX w w2 q r new0 [(w.heap.size, .cells #[.string r.res, .int .u8 r.gr, .int .i64 r.cnt, .int .i64 r.slow, .int .i64 r.least, .int .i64 r.win, .int .i64 r.rec_] 50)] from by
      have hs := HB1.out.size
      have hl := HNZ1.out
      exact ⟨⟨p, m, h2, by omega, by omega, fun x hx => by obtain rfl := List.mem_singleton.1 hx; exact ⟨by show w.heap.size ≠ p; omega, by show w.heap.size ≠ m; omega⟩⟩, HB1.out.trans (h3.mono hs), by omega, fun x hx => by obtain rfl := List.mem_singleton.1 hx; exact ⟨(h3.block w.heap.size hl).trans HN1.out, by show w.heap.size ≠ q; omega⟩⟩)
    clear HNEW hE h2 h3 h4 h5 h6 hnew HB1 HN1 HNZ1
    go_wp2_with (fail)
    go_loopw [7, 8] (fun pv iv wr => ∃ (j : Nat) (s : BrS), j ≤ len ∧ iv = .int .i64 j ∧ pv = .int .i64 (probeN s) ∧ Hid (BrInX w wr q r s [(w.heap.size, .cells #[.string r.res, .int .u8 r.gr, .int .i64 r.cnt, .int .i64 r.slow, .int .i64 r.least, .int .i64 r.win, .int .i64 r.rec_] 50)])) (fun _ i _ => len - (intOf i).toNat)
    case atStart => exact ⟨0, _, Nat.zero_le _, rfl, rfl, HB2⟩
    case round =>
      rename World => wy
      clear HB2
      obtain ⟨j, s, hj, rfl, rfl, HB⟩ := hrel
      by_cases hlt : j < len
      · have j0 : (0 : Int) ≤ j := by omega
        have j1 : (j : Int) < len := by omega
        obtain ⟨b0, off, ha, hcc⟩ := HD1.out.of hlt
        subst ha
        have HCC := Lib.hid hcc
        obtain ⟨d0, d1, d2, d3, d4⟩ := HCC.out wy HB.out.bel
        generalize K j = KD at *
        generalize A j = AT at *
        generalize R j = RT at *
        generalize F j = FB at *
        generalize P j = PB at *
        clear hcc HCC
        obtain ⟨hst3, hok⟩ := HB.out.st
        have ro0 := hok.r0
        have ro1 := hok.r1
        have HB1 := Lib.hid (HB.out.alloc (.cells #[.int .i64 KD, .int .i64 AT, .int .i64 RT, .bool FB, .bool PB] 57))
        have HS0 := Lib.hid (bix_state HB1.out)
        have HU0 := Lib.hid (bix_until HB1.out)
        have HSZ := Lib.hid (show wy.heap.size < (wy.alloc (.cells #[.int .i64 KD, .int .i64 AT, .int .i64 RT, .bool FB, .bool PB] 57)).heap.size by simp)
        clear HB hok
        rcases hst3 with hst | hst | hst
        · have HST := Lib.hid hst
          rw [probe1 hst]
          rw [hst] at HS0
          rw [until1 hst, hst, show decide ((1 : Int) ≠ 1) = false from rfl] at HU0
          clear hst
          by_cases hK0 : KD = 0
          · subst hK0
            have HO := Lib.hid (bix_enter HB1.out AT)
            by_cases hE : lookW s.la AT = 0
            · obtain ⟨x1, x2, x3⟩ := enter_1 hE HST.out
              rw [x1, x2, hE] at HO
              have HT3 := Lib.hid x3
              clear x1 x2 x3 hE
              as_aux_lemma =>
                go_wp2_with (fail)
                refine HS0.out.mono ?_
                rintro e wq ⟨rfl, hq⟩
                have hq := hq.symm
                subst hq
                go_wp2_with (fail)
                refine HU0.out.mono ?_
                rintro e wq ⟨rfl, hq⟩
                have hq := hq.symm
                subst hq
                go_wp2_with (fail)
                refine HO.out.mono ?_
                rintro e w3 ⟨rfl, h3⟩
                have H3 := Lib.hid h3
                clear h3 HO HB1 HS0 HU0
                have k0 := (H3.out.kept _ (List.mem_cons_self ..)).1
                have k1 := (H3.out.kept _ (List.mem_cons_of_mem _ (List.mem_cons_self ..))).1
                have y1 : w3.cell? ⟨wy.heap.size, 1, none⟩ = some (.int .i64 AT) := by simp only [World.cell?, k0]; rfl
                have y4 : w3.cell? ⟨wy.heap.size, 4, none⟩ = some (.bool PB) := by simp only [World.cell?, k0]; rfl
                have y6 : w3.cell? ⟨w.heap.size, 6, none⟩ = some (.int .i64 r.rec_) := by simp only [World.cell?, k1]; rfl
                clear k0 k1
                have HS3 := Lib.hid (bix_state H3.out)
                have HU3 := Lib.hid (bix_until H3.out)
                rw [HT3.out] at HS3
                rw [until1 HT3.out, HT3.out, show decide ((1 : Int) ≠ 1) = false from rfl] at HU3
                go_wp2_with (fail)
                refine HS3.out.mono ?_
                rintro e wq ⟨rfl, hq⟩
                have hq := hq.symm
                subst hq
                go_wp2_with (fail)
                refine HU3.out.mono ?_
                rintro e wq ⟨rfl, hq⟩
                have hq := hq.symm
                subst hq
                go_wp2_with (fail)
                refine HS3.out.mono ?_
                rintro e wq ⟨rfl, hq⟩
                have hq := hq.symm
                subst hq
                go_wp2_with (fail)
                exact ⟨⟨j + 1, enterS s AT, by omega, by go_num, by rw [probe1 HT3.out], Lib.hid H3.out.tail⟩, by first | (simp [intOf]; done) | (simp [intOf]; omega)⟩
            · rw [enter_no hE] at HO
              generalize lookW s.la AT = E at *
              have hne : (E != 0) = true := by simpa using hE
              clear hE
              as_aux_lemma =>
                go_wp2_with (fail)
                refine HS0.out.mono ?_
                rintro e wq ⟨rfl, hq⟩
                have hq := hq.symm
                subst hq
                go_wp2_with (fail)
                refine HU0.out.mono ?_
                rintro e wq ⟨rfl, hq⟩
                have hq := hq.symm
                subst hq
                go_wp2_with (fail)
                refine HO.out.mono ?_
                rintro e w3 ⟨rfl, h3⟩
                have H3 := Lib.hid h3
                clear h3 HO HB1 HS0 HU0
                go_wp2_with (fail)
                exact ⟨⟨j + 1, s, by omega, by go_num, by rw [probe1 HST.out], Lib.hid H3.out.tail⟩, by first | (simp [intOf]; done) | (simp [intOf]; omega)⟩
          · by_cases hK1 : KD = 1
            · subst hK1
              have HO := Lib.hid (bix_done HB1.out AT RT FB PB)
              by_cases hE : bdoneE s AT RT PB = 0
              · obtain ⟨hlk, hpb⟩ := bdone_look hE
                obtain ⟨a0, a1, _⟩ := lookW_ok hlk
                have HA0 := Lib.hid a0
                have HA1 := Lib.hid a1
                clear hlk a0 a1
                cases PB with
                | true =>
                  exact absurd (hpb rfl) (by rw [HST.out]; decide)
                | false =>
                  clear hpb
                  rcases bdone_1 (r := r) (f := FB) hE HST.out with x3 | ⟨x3, x4⟩
                  · have HT3 := Lib.hid x3
                    rw [hE] at HO
                    clear x3 hE
                    as_aux_lemma =>
                      go_wp2_with (fail)
                      refine HS0.out.mono ?_
                      rintro e wq ⟨rfl, hq⟩
                      have hq := hq.symm
                      subst hq
                      go_wp2_with (fail)
                      refine HU0.out.mono ?_
                      rintro e wq ⟨rfl, hq⟩
                      have hq := hq.symm
                      subst hq
                      go_wp2_with (fail)
                      refine HO.out.mono ?_
                      rintro e w3 ⟨rfl, h3⟩
                      have H3 := Lib.hid h3
                      clear h3 HO HB1 HS0 HU0
                      have k0 := (H3.out.kept _ (List.mem_cons_self ..)).1
                      have k1 := (H3.out.kept _ (List.mem_cons_of_mem _ (List.mem_cons_self ..))).1
                      have y1 : w3.cell? ⟨wy.heap.size, 1, none⟩ = some (.int .i64 AT) := by simp only [World.cell?, k0]; rfl
                      have y4 : w3.cell? ⟨wy.heap.size, 4, none⟩ = some (.bool false) := by simp only [World.cell?, k0]; rfl
                      have y6 : w3.cell? ⟨w.heap.size, 6, none⟩ = some (.int .i64 r.rec_) := by simp only [World.cell?, k1]; rfl
                      clear k0 k1
                      have HS3 := Lib.hid (bix_state H3.out)
                      have HU3 := Lib.hid (bix_until H3.out)
                      rw [HT3.out] at HS3
                      rw [until1 HT3.out, HT3.out, show decide ((1 : Int) ≠ 1) = false from rfl] at HU3
                      go_wp2_with (fail)
                      refine HS3.out.mono ?_
                      rintro e wq ⟨rfl, hq⟩
                      have hq := hq.symm
                      subst hq
                      go_wp2_with (fail)
                      refine HU3.out.mono ?_
                      rintro e wq ⟨rfl, hq⟩
                      have hq := hq.symm
                      subst hq
                      go_wp2_with (fail)
                      refine HS3.out.mono ?_
                      rintro e wq ⟨rfl, hq⟩
                      have hq := hq.symm
                      subst hq
                      go_wp2_with (fail)
                      exact ⟨⟨j + 1, bdoneS r s AT RT FB false, by omega, by go_num, by rw [probe1 HT3.out], Lib.hid H3.out.tail⟩, by first | (simp [intOf]; done) | (simp [intOf]; omega)⟩
                  · have HT3 := Lib.hid x3
                    have HUN := Lib.hid x4
                    rw [hE] at HO
                    clear x3 x4 hE
                    as_aux_lemma =>
                      go_wp2_with (fail)
                      refine HS0.out.mono ?_
                      rintro e wq ⟨rfl, hq⟩
                      have hq := hq.symm
                      subst hq
                      go_wp2_with (fail)
                      refine HU0.out.mono ?_
                      rintro e wq ⟨rfl, hq⟩
                      have hq := hq.symm
                      subst hq
                      go_wp2_with (fail)
                      refine HO.out.mono ?_
                      rintro e w3 ⟨rfl, h3⟩
                      have H3 := Lib.hid h3
                      clear h3 HO HB1 HS0 HU0
                      have k0 := (H3.out.kept _ (List.mem_cons_self ..)).1
                      have k1 := (H3.out.kept _ (List.mem_cons_of_mem _ (List.mem_cons_self ..))).1
                      have y1 : w3.cell? ⟨wy.heap.size, 1, none⟩ = some (.int .i64 AT) := by simp only [World.cell?, k0]; rfl
                      have y4 : w3.cell? ⟨wy.heap.size, 4, none⟩ = some (.bool false) := by simp only [World.cell?, k0]; rfl
                      have y6 : w3.cell? ⟨w.heap.size, 6, none⟩ = some (.int .i64 r.rec_) := by simp only [World.cell?, k1]; rfl
                      clear k0 k1
                      have HS3 := Lib.hid (bix_state H3.out)
                      have HU3 := Lib.hid (bix_until H3.out)
                      rw [HT3.out] at HS3
                      rw [until2 HT3.out, HT3.out, show decide ((2 : Int) ≠ 1) = true from rfl] at HU3
                      rw [HUN.out] at HU3
                      have HPL := Lib.hid (plus_any AT r.rec_ w3 HA0.out HA1.out (by omega) ro1)
                      go_wp2_with (fail)
                      refine HS3.out.mono ?_
                      rintro e wq ⟨rfl, hq⟩
                      have hq := hq.symm
                      subst hq
                      go_wp2_with (fail)
                      refine HU3.out.mono ?_
                      rintro e wq ⟨rfl, hq⟩
                      have hq := hq.symm
                      subst hq
                      go_wp2_with (fail)
                      refine HS3.out.mono ?_
                      rintro e wq ⟨rfl, hq⟩
                      have hq := hq.symm
                      subst hq
                      go_wp2_with (fail)
                      refine HPL.out.mono ?_
                      rintro e wq ⟨rfl, hq⟩
                      have hq := hq.symm
                      subst hq
                      go_wp2_with (fail)
                      exact ⟨⟨j + 1, bdoneS r s AT RT FB false, by omega, by go_num, by rw [probe2 HT3.out], Lib.hid H3.out.tail⟩, by first | (simp [intOf]; done) | (simp [intOf]; omega)⟩
              · rw [bdone_no (r := r) (f := FB) hE] at HO
                generalize bdoneE s AT RT PB = E at *
                have hne : (E == 0) = false := by simpa using hE
                have HT3 := Lib.hid HST.out
                clear hE
                as_aux_lemma =>
                  go_wp2_with (fail)
                  refine HS0.out.mono ?_
                  rintro e wq ⟨rfl, hq⟩
                  have hq := hq.symm
                  subst hq
                  go_wp2_with (fail)
                  refine HU0.out.mono ?_
                  rintro e wq ⟨rfl, hq⟩
                  have hq := hq.symm
                  subst hq
                  go_wp2_with (fail)
                  refine HO.out.mono ?_
                  rintro e w3 ⟨rfl, h3⟩
                  have H3 := Lib.hid h3
                  clear h3 HO HB1 HS0 HU0
                  have k0 := (H3.out.kept _ (List.mem_cons_self ..)).1
                  have k1 := (H3.out.kept _ (List.mem_cons_of_mem _ (List.mem_cons_self ..))).1
                  have y1 : w3.cell? ⟨wy.heap.size, 1, none⟩ = some (.int .i64 AT) := by simp only [World.cell?, k0]; rfl
                  have y4 : w3.cell? ⟨wy.heap.size, 4, none⟩ = some (.bool PB) := by simp only [World.cell?, k0]; rfl
                  have y6 : w3.cell? ⟨w.heap.size, 6, none⟩ = some (.int .i64 r.rec_) := by simp only [World.cell?, k1]; rfl
                  clear k0 k1
                  have HS3 := Lib.hid (bix_state H3.out)
                  have HU3 := Lib.hid (bix_until H3.out)
                  rw [HT3.out] at HS3
                  rw [until1 HT3.out, HT3.out, show decide ((1 : Int) ≠ 1) = false from rfl] at HU3
                  go_wp2_with (fail)
                  refine HS3.out.mono ?_
                  rintro e wq ⟨rfl, hq⟩
                  have hq := hq.symm
                  subst hq
                  go_wp2_with (fail)
                  refine HU3.out.mono ?_
                  rintro e wq ⟨rfl, hq⟩
                  have hq := hq.symm
                  subst hq
                  go_wp2_with (fail)
                  refine HS3.out.mono ?_
                  rintro e wq ⟨rfl, hq⟩
                  have hq := hq.symm
                  subst hq
                  go_wp2_with (fail)
                  exact ⟨⟨j + 1, s, by omega, by go_num, by rw [probe1 HT3.out], Lib.hid H3.out.tail⟩, by first | (simp [intOf]; done) | (simp [intOf]; omega)⟩
            · by_cases hK2 : KD = 2
              · subst hK2
                have HO := Lib.hid (bix_give HB1.out AT)
                have hE : giveE s AT ≠ 0 := by unfold giveE; split; assumption; rw [if_neg (by rw [HST.out]; decide)]; decide
                rw [show giveS s AT = s by unfold giveS; rw [if_neg hE]] at HO
                generalize giveE s AT = E at *
                have hne : (E == 0) = false := by simpa using hE
                have HT3 := Lib.hid HST.out
                clear hE
                as_aux_lemma =>
                  go_wp2_with (fail)
                  refine HS0.out.mono ?_
                  rintro e wq ⟨rfl, hq⟩
                  have hq := hq.symm
                  subst hq
                  go_wp2_with (fail)
                  refine HU0.out.mono ?_
                  rintro e wq ⟨rfl, hq⟩
                  have hq := hq.symm
                  subst hq
                  go_wp2_with (fail)
                  refine HO.out.mono ?_
                  rintro e w3 ⟨rfl, h3⟩
                  have H3 := Lib.hid h3
                  clear h3 HO HB1 HS0 HU0
                  have k0 := (H3.out.kept _ (List.mem_cons_self ..)).1
                  have k1 := (H3.out.kept _ (List.mem_cons_of_mem _ (List.mem_cons_self ..))).1
                  have y1 : w3.cell? ⟨wy.heap.size, 1, none⟩ = some (.int .i64 AT) := by simp only [World.cell?, k0]; rfl
                  have y4 : w3.cell? ⟨wy.heap.size, 4, none⟩ = some (.bool PB) := by simp only [World.cell?, k0]; rfl
                  have y6 : w3.cell? ⟨w.heap.size, 6, none⟩ = some (.int .i64 r.rec_) := by simp only [World.cell?, k1]; rfl
                  clear k0 k1
                  have HS3 := Lib.hid (bix_state H3.out)
                  have HU3 := Lib.hid (bix_until H3.out)
                  rw [HT3.out] at HS3
                  rw [until1 HT3.out, HT3.out, show decide ((1 : Int) ≠ 1) = false from rfl] at HU3
                  go_wp2_with (fail)
                  refine HS3.out.mono ?_
                  rintro e wq ⟨rfl, hq⟩
                  have hq := hq.symm
                  subst hq
                  go_wp2_with (fail)
                  refine HU3.out.mono ?_
                  rintro e wq ⟨rfl, hq⟩
                  have hq := hq.symm
                  subst hq
                  go_wp2_with (fail)
                  refine HS3.out.mono ?_
                  rintro e wq ⟨rfl, hq⟩
                  have hq := hq.symm
                  subst hq
                  go_wp2_with (fail)
                  exact ⟨⟨j + 1, s, by omega, by go_num, by rw [probe1 HT3.out], Lib.hid H3.out.tail⟩, by first | (simp [intOf]; done) | (simp [intOf]; omega)⟩
              · have q0 : (KD == 0) = false := by simpa using hK0
                have q1 : (KD == 1) = false := by simpa using hK1
                have q2 : (KD == 2) = false := by simpa using hK2
                have HT3 := Lib.hid HST.out
                as_aux_lemma =>
                  go_wp2_with (fail)
                  refine HS0.out.mono ?_
                  rintro e wq ⟨rfl, hq⟩
                  have hq := hq.symm
                  subst hq
                  go_wp2_with (fail)
                  obtain ⟨w3, hw3⟩ : ∃ w3, wy.alloc (.cells #[.int .i64 KD, .int .i64 AT, .int .i64 RT, .bool FB, .bool PB] 57) = w3 := ⟨_, rfl⟩
                  rw [hw3] at HB1 HU0 ⊢
                  clear hw3
                  have H3 := HB1
                  have k0 := (H3.out.kept _ (List.mem_cons_self ..)).1
                  have k1 := (H3.out.kept _ (List.mem_cons_of_mem _ (List.mem_cons_self ..))).1
                  have y0 : w3.cell? ⟨wy.heap.size, 0, none⟩ = some (.int .i64 KD) := by simp only [World.cell?, k0]; rfl
                  have y1 : w3.cell? ⟨wy.heap.size, 1, none⟩ = some (.int .i64 AT) := by simp only [World.cell?, k0]; rfl
                  have y4 : w3.cell? ⟨wy.heap.size, 4, none⟩ = some (.bool PB) := by simp only [World.cell?, k0]; rfl
                  have y6 : w3.cell? ⟨w.heap.size, 6, none⟩ = some (.int .i64 r.rec_) := by simp only [World.cell?, k1]; rfl
                  clear k0 k1
                  have HS3 := Lib.hid (bix_state H3.out)
                  have HU3 := Lib.hid (bix_until H3.out)
                  rw [HT3.out] at HS3
                  rw [until1 HT3.out, HT3.out, show decide ((1 : Int) ≠ 1) = false from rfl] at HU3
                  refine HU0.out.mono ?_
                  rintro e wq ⟨rfl, hq⟩
                  have hq := hq.symm
                  subst hq
                  go_wp2_with (fail)
                  refine HS3.out.mono ?_
                  rintro e wq ⟨rfl, hq⟩
                  have hq := hq.symm
                  subst hq
                  go_wp2_with (fail)
                  refine HU3.out.mono ?_
                  rintro e wq ⟨rfl, hq⟩
                  have hq := hq.symm
                  subst hq
                  go_wp2_with (fail)
                  refine HS3.out.mono ?_
                  rintro e wq ⟨rfl, hq⟩
                  have hq := hq.symm
                  subst hq
                  go_wp2_with (fail)
                  exact ⟨⟨j + 1, s, by omega, by go_num, by rw [probe1 HT3.out], Lib.hid H3.out.tail⟩, by first | (simp [intOf]; done) | (simp [intOf]; omega)⟩
        · have HST := Lib.hid hst
          rw [probe2 hst]
          rw [hst] at HS0
          rw [until2 hst, hst, show decide ((2 : Int) ≠ 1) = true from rfl] at HU0
          have HUL := Lib.hid (show ∀ U, s.un = U → ∀ V, s.un = V → U = V from fun U h V h' => h.symm.trans h')
          clear hst
          by_cases hK0 : KD = 0
          · subst hK0
            have HO := Lib.hid (bix_enter HB1.out AT)
            by_cases hE : lookW s.la AT = 0
            · by_cases hu : s.un ≤ AT
              · obtain ⟨x1, x2, x3⟩ := enter_2a hE HST.out hu
                rw [x1, x2, hE] at HO
                have HT3 := Lib.hid x3
                clear x1 x2 x3 hE
                generalize s.un = UN at HU0 hu
                as_aux_lemma =>
                  go_wp2_with (fail)
                  refine HS0.out.mono ?_
                  rintro e wq ⟨rfl, hq⟩
                  have hq := hq.symm
                  subst hq
                  go_wp2_with (fail)
                  refine HU0.out.mono ?_
                  rintro e wq ⟨rfl, hq⟩
                  have hq := hq.symm
                  subst hq
                  go_wp2_with (fail)
                  refine HO.out.mono ?_
                  rintro e w3 ⟨rfl, h3⟩
                  have H3 := Lib.hid h3
                  clear h3 HO HB1 HS0 HU0
                  have k0 := (H3.out.kept _ (List.mem_cons_self ..)).1
                  have k1 := (H3.out.kept _ (List.mem_cons_of_mem _ (List.mem_cons_self ..))).1
                  have y1 : w3.cell? ⟨wy.heap.size, 1, none⟩ = some (.int .i64 AT) := by simp only [World.cell?, k0]; rfl
                  have y4 : w3.cell? ⟨wy.heap.size, 4, none⟩ = some (.bool PB) := by simp only [World.cell?, k0]; rfl
                  have y6 : w3.cell? ⟨w.heap.size, 6, none⟩ = some (.int .i64 r.rec_) := by simp only [World.cell?, k1]; rfl
                  clear k0 k1
                  have HS3 := Lib.hid (bix_state H3.out)
                  have HU3 := Lib.hid (bix_until H3.out)
                  rw [HT3.out] at HS3
                  rw [until3 HT3.out, HT3.out, show decide ((3 : Int) ≠ 1) = true from rfl] at HU3
                  go_wp2_with (fail)
                  refine HS3.out.mono ?_
                  rintro e wq ⟨rfl, hq⟩
                  have hq := hq.symm
                  subst hq
                  go_wp2_with (fail)
                  refine HU3.out.mono ?_
                  rintro e wq ⟨rfl, hq⟩
                  have hq := hq.symm
                  subst hq
                  go_wp2_with (fail)
                  refine HS3.out.mono ?_
                  rintro e wq ⟨rfl, hq⟩
                  have hq := hq.symm
                  subst hq
                  go_wp2_with (fail)
                  exact ⟨⟨j + 1, enterS s AT, by omega, by go_num, by rw [probe3 HT3.out], Lib.hid H3.out.tail⟩, by first | (simp [intOf]; done) | (simp [intOf]; omega)⟩
              · obtain ⟨x1, x2, x3⟩ := enter_2b hE HST.out hu
                rw [x1, x2, hE] at HO
                have HT3 := Lib.hid x3
                clear x1 x2 x3 hE
                generalize s.un = UN at HU0 hu
                as_aux_lemma =>
                  go_wp2_with (fail)
                  refine HS0.out.mono ?_
                  rintro e wq ⟨rfl, hq⟩
                  have hq := hq.symm
                  subst hq
                  go_wp2_with (fail)
                  refine HU0.out.mono ?_
                  rintro e wq ⟨rfl, hq⟩
                  have hq := hq.symm
                  subst hq
                  go_wp2_with (fail)
                  refine HO.out.mono ?_
                  rintro e w3 ⟨rfl, h3⟩
                  have H3 := Lib.hid h3
                  clear h3 HO HB1 HS0 HU0
                  have k0 := (H3.out.kept _ (List.mem_cons_self ..)).1
                  have k1 := (H3.out.kept _ (List.mem_cons_of_mem _ (List.mem_cons_self ..))).1
                  have y1 : w3.cell? ⟨wy.heap.size, 1, none⟩ = some (.int .i64 AT) := by simp only [World.cell?, k0]; rfl
                  have y4 : w3.cell? ⟨wy.heap.size, 4, none⟩ = some (.bool PB) := by simp only [World.cell?, k0]; rfl
                  have y6 : w3.cell? ⟨w.heap.size, 6, none⟩ = some (.int .i64 r.rec_) := by simp only [World.cell?, k1]; rfl
                  clear k0 k1
                  have HS3 := Lib.hid (bix_state H3.out)
                  have HU3 := Lib.hid (bix_until H3.out)
                  rw [HT3.out] at HS3
                  rw [until2 HT3.out, HT3.out, show decide ((2 : Int) ≠ 1) = true from rfl] at HU3
                  go_wp2_with (fail)
                  refine HS3.out.mono ?_
                  rintro e wq ⟨rfl, hq⟩
                  have hq := hq.symm
                  subst hq
                  go_wp2_with (fail)
                  refine HU3.out.mono ?_
                  rintro e wq ⟨rfl, hq⟩
                  have hq := hq.symm
                  subst hq
                  go_wp2_with (fail)
                  refine HS3.out.mono ?_
                  rintro e wq ⟨rfl, hq⟩
                  have hq := hq.symm
                  subst hq
                  go_wp2_with (fail)
                  exact ⟨⟨j + 1, enterS s AT, by omega, by go_num, by rw [probe2 HT3.out], Lib.hid H3.out.tail⟩, by first | (simp [intOf]; done) | (simp [intOf]; omega)⟩
            · rw [enter_no hE] at HO
              generalize lookW s.la AT = E at *
              have hne : (E != 0) = true := by simpa using hE
              clear hE
              as_aux_lemma =>
                go_wp2_with (fail)
                refine HS0.out.mono ?_
                rintro e wq ⟨rfl, hq⟩
                have hq := hq.symm
                subst hq
                go_wp2_with (fail)
                refine HU0.out.mono ?_
                rintro e wq ⟨rfl, hq⟩
                have hq := hq.symm
                subst hq
                go_wp2_with (fail)
                refine HO.out.mono ?_
                rintro e w3 ⟨rfl, h3⟩
                have H3 := Lib.hid h3
                clear h3 HO HB1 HS0 HU0
                go_wp2_with (fail)
                exact ⟨⟨j + 1, s, by omega, by go_num, by rw [probe2 HST.out], Lib.hid H3.out.tail⟩, by first | (simp [intOf]; done) | (simp [intOf]; omega)⟩
          · by_cases hK1 : KD = 1
            · subst hK1
              have HO := Lib.hid (bix_done HB1.out AT RT FB PB)
              by_cases hE : bdoneE s AT RT PB = 0
              · obtain ⟨hlk, hpb⟩ := bdone_look hE
                obtain ⟨a0, a1, _⟩ := lookW_ok hlk
                have HA0 := Lib.hid a0
                have HA1 := Lib.hid a1
                clear hlk a0 a1
                cases PB with
                | true =>
                  exact absurd (hpb rfl) (by rw [HST.out]; decide)
                | false =>
                  clear hpb
                  have HT3 := Lib.hid ((bdoneS_open (r := r) (s := s) (by rw [HST.out]; decide) AT RT FB).1.trans HST.out)
                  rw [hE] at HO
                  clear hE
                  as_aux_lemma =>
                    go_wp2_with (fail)
                    refine HS0.out.mono ?_
                    rintro e wq ⟨rfl, hq⟩
                    have hq := hq.symm
                    subst hq
                    go_wp2_with (fail)
                    refine HU0.out.mono ?_
                    rintro e wq ⟨rfl, hq⟩
                    have hq := hq.symm
                    subst hq
                    go_wp2_with (fail)
                    refine HO.out.mono ?_
                    rintro e w3 ⟨rfl, h3⟩
                    have H3 := Lib.hid h3
                    clear h3 HO HB1 HS0 HU0
                    have k0 := (H3.out.kept _ (List.mem_cons_self ..)).1
                    have k1 := (H3.out.kept _ (List.mem_cons_of_mem _ (List.mem_cons_self ..))).1
                    have y1 : w3.cell? ⟨wy.heap.size, 1, none⟩ = some (.int .i64 AT) := by simp only [World.cell?, k0]; rfl
                    have y4 : w3.cell? ⟨wy.heap.size, 4, none⟩ = some (.bool false) := by simp only [World.cell?, k0]; rfl
                    have y6 : w3.cell? ⟨w.heap.size, 6, none⟩ = some (.int .i64 r.rec_) := by simp only [World.cell?, k1]; rfl
                    clear k0 k1
                    have HS3 := Lib.hid (bix_state H3.out)
                    have HU3 := Lib.hid (bix_until H3.out)
                    rw [HT3.out] at HS3
                    rw [until2 HT3.out, HT3.out, show decide ((2 : Int) ≠ 1) = true from rfl] at HU3
                    go_wp2_with (fail)
                    refine HS3.out.mono ?_
                    rintro e wq ⟨rfl, hq⟩
                    have hq := hq.symm
                    subst hq
                    go_wp2_with (fail)
                    refine HU3.out.mono ?_
                    rintro e wq ⟨rfl, hq⟩
                    have hq := hq.symm
                    subst hq
                    go_wp2_with (fail)
                    refine HS3.out.mono ?_
                    rintro e wq ⟨rfl, hq⟩
                    have hq := hq.symm
                    subst hq
                    go_wp2_with (fail)
                    exact ⟨⟨j + 1, bdoneS r s AT RT FB false, by omega, by go_num, by rw [probe2 HT3.out], Lib.hid H3.out.tail⟩, by first | (simp [intOf]; done) | (simp [intOf]; omega)⟩
              · rw [bdone_no (r := r) (f := FB) hE] at HO
                generalize bdoneE s AT RT PB = E at *
                have hne : (E == 0) = false := by simpa using hE
                have HT3 := Lib.hid HST.out
                clear hE
                as_aux_lemma =>
                  go_wp2_with (fail)
                  refine HS0.out.mono ?_
                  rintro e wq ⟨rfl, hq⟩
                  have hq := hq.symm
                  subst hq
                  go_wp2_with (fail)
                  refine HU0.out.mono ?_
                  rintro e wq ⟨rfl, hq⟩
                  have hq := hq.symm
                  subst hq
                  go_wp2_with (fail)
                  refine HO.out.mono ?_
                  rintro e w3 ⟨rfl, h3⟩
                  have H3 := Lib.hid h3
                  clear h3 HO HB1 HS0 HU0
                  have k0 := (H3.out.kept _ (List.mem_cons_self ..)).1
                  have k1 := (H3.out.kept _ (List.mem_cons_of_mem _ (List.mem_cons_self ..))).1
                  have y1 : w3.cell? ⟨wy.heap.size, 1, none⟩ = some (.int .i64 AT) := by simp only [World.cell?, k0]; rfl
                  have y4 : w3.cell? ⟨wy.heap.size, 4, none⟩ = some (.bool PB) := by simp only [World.cell?, k0]; rfl
                  have y6 : w3.cell? ⟨w.heap.size, 6, none⟩ = some (.int .i64 r.rec_) := by simp only [World.cell?, k1]; rfl
                  clear k0 k1
                  have HS3 := Lib.hid (bix_state H3.out)
                  have HU3 := Lib.hid (bix_until H3.out)
                  rw [HT3.out] at HS3
                  rw [until2 HT3.out, HT3.out, show decide ((2 : Int) ≠ 1) = true from rfl] at HU3
                  go_wp2_with (fail)
                  refine HS3.out.mono ?_
                  rintro e wq ⟨rfl, hq⟩
                  have hq := hq.symm
                  subst hq
                  go_wp2_with (fail)
                  refine HU3.out.mono ?_
                  rintro e wq ⟨rfl, hq⟩
                  have hq := hq.symm
                  subst hq
                  go_wp2_with (fail)
                  refine HS3.out.mono ?_
                  rintro e wq ⟨rfl, hq⟩
                  have hq := hq.symm
                  subst hq
                  go_wp2_with (fail)
                  exact ⟨⟨j + 1, s, by omega, by go_num, by rw [probe2 HT3.out], Lib.hid H3.out.tail⟩, by first | (simp [intOf]; done) | (simp [intOf]; omega)⟩
            · by_cases hK2 : KD = 2
              · subst hK2
                have HO := Lib.hid (bix_give HB1.out AT)
                have hE : giveE s AT ≠ 0 := by unfold giveE; split; assumption; rw [if_neg (by rw [HST.out]; decide)]; decide
                rw [show giveS s AT = s by unfold giveS; rw [if_neg hE]] at HO
                generalize giveE s AT = E at *
                have hne : (E == 0) = false := by simpa using hE
                have HT3 := Lib.hid HST.out
                clear hE
                as_aux_lemma =>
                  go_wp2_with (fail)
                  refine HS0.out.mono ?_
                  rintro e wq ⟨rfl, hq⟩
                  have hq := hq.symm
                  subst hq
                  go_wp2_with (fail)
                  refine HU0.out.mono ?_
                  rintro e wq ⟨rfl, hq⟩
                  have hq := hq.symm
                  subst hq
                  go_wp2_with (fail)
                  refine HO.out.mono ?_
                  rintro e w3 ⟨rfl, h3⟩
                  have H3 := Lib.hid h3
                  clear h3 HO HB1 HS0 HU0
                  have k0 := (H3.out.kept _ (List.mem_cons_self ..)).1
                  have k1 := (H3.out.kept _ (List.mem_cons_of_mem _ (List.mem_cons_self ..))).1
                  have y1 : w3.cell? ⟨wy.heap.size, 1, none⟩ = some (.int .i64 AT) := by simp only [World.cell?, k0]; rfl
                  have y4 : w3.cell? ⟨wy.heap.size, 4, none⟩ = some (.bool PB) := by simp only [World.cell?, k0]; rfl
                  have y6 : w3.cell? ⟨w.heap.size, 6, none⟩ = some (.int .i64 r.rec_) := by simp only [World.cell?, k1]; rfl
                  clear k0 k1
                  have HS3 := Lib.hid (bix_state H3.out)
                  have HU3 := Lib.hid (bix_until H3.out)
                  rw [HT3.out] at HS3
                  rw [until2 HT3.out, HT3.out, show decide ((2 : Int) ≠ 1) = true from rfl] at HU3
                  go_wp2_with (fail)
                  refine HS3.out.mono ?_
                  rintro e wq ⟨rfl, hq⟩
                  have hq := hq.symm
                  subst hq
                  go_wp2_with (fail)
                  refine HU3.out.mono ?_
                  rintro e wq ⟨rfl, hq⟩
                  have hq := hq.symm
                  subst hq
                  go_wp2_with (fail)
                  refine HS3.out.mono ?_
                  rintro e wq ⟨rfl, hq⟩
                  have hq := hq.symm
                  subst hq
                  go_wp2_with (fail)
                  exact ⟨⟨j + 1, s, by omega, by go_num, by rw [probe2 HT3.out], Lib.hid H3.out.tail⟩, by first | (simp [intOf]; done) | (simp [intOf]; omega)⟩
              · have q0 : (KD == 0) = false := by simpa using hK0
                have q1 : (KD == 1) = false := by simpa using hK1
                have q2 : (KD == 2) = false := by simpa using hK2
                have HT3 := Lib.hid HST.out
                as_aux_lemma =>
                  go_wp2_with (fail)
                  refine HS0.out.mono ?_
                  rintro e wq ⟨rfl, hq⟩
                  have hq := hq.symm
                  subst hq
                  go_wp2_with (fail)
                  obtain ⟨w3, hw3⟩ : ∃ w3, wy.alloc (.cells #[.int .i64 KD, .int .i64 AT, .int .i64 RT, .bool FB, .bool PB] 57) = w3 := ⟨_, rfl⟩
                  rw [hw3] at HB1 HU0 ⊢
                  clear hw3
                  have H3 := HB1
                  have k0 := (H3.out.kept _ (List.mem_cons_self ..)).1
                  have k1 := (H3.out.kept _ (List.mem_cons_of_mem _ (List.mem_cons_self ..))).1
                  have y0 : w3.cell? ⟨wy.heap.size, 0, none⟩ = some (.int .i64 KD) := by simp only [World.cell?, k0]; rfl
                  have y1 : w3.cell? ⟨wy.heap.size, 1, none⟩ = some (.int .i64 AT) := by simp only [World.cell?, k0]; rfl
                  have y4 : w3.cell? ⟨wy.heap.size, 4, none⟩ = some (.bool PB) := by simp only [World.cell?, k0]; rfl
                  have y6 : w3.cell? ⟨w.heap.size, 6, none⟩ = some (.int .i64 r.rec_) := by simp only [World.cell?, k1]; rfl
                  clear k0 k1
                  have HS3 := Lib.hid (bix_state H3.out)
                  have HU3 := Lib.hid (bix_until H3.out)
                  rw [HT3.out] at HS3
                  rw [until2 HT3.out, HT3.out, show decide ((2 : Int) ≠ 1) = true from rfl] at HU3
                  refine HU0.out.mono ?_
                  rintro e wq ⟨rfl, hq⟩
                  have hq := hq.symm
                  subst hq
                  go_wp2_with (fail)
                  refine HS3.out.mono ?_
                  rintro e wq ⟨rfl, hq⟩
                  have hq := hq.symm
                  subst hq
                  go_wp2_with (fail)
                  refine HU3.out.mono ?_
                  rintro e wq ⟨rfl, hq⟩
                  have hq := hq.symm
                  subst hq
                  go_wp2_with (fail)
                  refine HS3.out.mono ?_
                  rintro e wq ⟨rfl, hq⟩
                  have hq := hq.symm
                  subst hq
                  go_wp2_with (fail)
                  exact ⟨⟨j + 1, s, by omega, by go_num, by rw [probe2 HT3.out], Lib.hid H3.out.tail⟩, by first | (simp [intOf]; done) | (simp [intOf]; omega)⟩
        · have HST := Lib.hid hst
          rw [probe3 hst]
          rw [hst] at HS0
          rw [until3 hst, hst, show decide ((3 : Int) ≠ 1) = true from rfl] at HU0
          clear hst
          by_cases hK0 : KD = 0
          · subst hK0
            have HO := Lib.hid (bix_enter HB1.out AT)
            by_cases hE : lookW s.la AT = 0
            · obtain ⟨x1, x2, x3⟩ := enter_3 hE HST.out
              rw [x1, x2, hE] at HO
              have HT3 := Lib.hid x3
              clear x1 x2 x3 hE
              as_aux_lemma =>
                go_wp2_with (fail)
                refine HS0.out.mono ?_
                rintro e wq ⟨rfl, hq⟩
                have hq := hq.symm
                subst hq
                go_wp2_with (fail)
                refine HU0.out.mono ?_
                rintro e wq ⟨rfl, hq⟩
                have hq := hq.symm
                subst hq
                go_wp2_with (fail)
                refine HO.out.mono ?_
                rintro e w3 ⟨rfl, h3⟩
                have H3 := Lib.hid h3
                clear h3 HO HB1 HS0 HU0
                have k0 := (H3.out.kept _ (List.mem_cons_self ..)).1
                have k1 := (H3.out.kept _ (List.mem_cons_of_mem _ (List.mem_cons_self ..))).1
                have y1 : w3.cell? ⟨wy.heap.size, 1, none⟩ = some (.int .i64 AT) := by simp only [World.cell?, k0]; rfl
                have y4 : w3.cell? ⟨wy.heap.size, 4, none⟩ = some (.bool PB) := by simp only [World.cell?, k0]; rfl
                have y6 : w3.cell? ⟨w.heap.size, 6, none⟩ = some (.int .i64 r.rec_) := by simp only [World.cell?, k1]; rfl
                clear k0 k1
                have HS3 := Lib.hid (bix_state H3.out)
                have HU3 := Lib.hid (bix_until H3.out)
                rw [HT3.out] at HS3
                rw [until3 HT3.out, HT3.out, show decide ((3 : Int) ≠ 1) = true from rfl] at HU3
                go_wp2_with (fail)
                refine HS3.out.mono ?_
                rintro e wq ⟨rfl, hq⟩
                have hq := hq.symm
                subst hq
                go_wp2_with (fail)
                refine HU3.out.mono ?_
                rintro e wq ⟨rfl, hq⟩
                have hq := hq.symm
                subst hq
                go_wp2_with (fail)
                refine HS3.out.mono ?_
                rintro e wq ⟨rfl, hq⟩
                have hq := hq.symm
                subst hq
                go_wp2_with (fail)
                exact ⟨⟨j + 1, enterS s AT, by omega, by go_num, by rw [probe3 HT3.out], Lib.hid H3.out.tail⟩, by first | (simp [intOf]; done) | (simp [intOf]; omega)⟩
            · rw [enter_no hE] at HO
              generalize lookW s.la AT = E at *
              have hne : (E != 0) = true := by simpa using hE
              clear hE
              as_aux_lemma =>
                go_wp2_with (fail)
                refine HS0.out.mono ?_
                rintro e wq ⟨rfl, hq⟩
                have hq := hq.symm
                subst hq
                go_wp2_with (fail)
                refine HU0.out.mono ?_
                rintro e wq ⟨rfl, hq⟩
                have hq := hq.symm
                subst hq
                go_wp2_with (fail)
                refine HO.out.mono ?_
                rintro e w3 ⟨rfl, h3⟩
                have H3 := Lib.hid h3
                clear h3 HO HB1 HS0 HU0
                go_wp2_with (fail)
                exact ⟨⟨j + 1, s, by omega, by go_num, by rw [probe3 HST.out], Lib.hid H3.out.tail⟩, by first | (simp [intOf]; done) | (simp [intOf]; omega)⟩
          · by_cases hK1 : KD = 1
            · subst hK1
              have HO := Lib.hid (bix_done HB1.out AT RT FB PB)
              by_cases hE : bdoneE s AT RT PB = 0
              · obtain ⟨hlk, hpb⟩ := bdone_look hE
                obtain ⟨a0, a1, _⟩ := lookW_ok hlk
                have HA0 := Lib.hid a0
                have HA1 := Lib.hid a1
                clear hlk a0 a1
                cases PB with
                | true =>
                  rcases bdone_p (r := r) (f := FB) hE with x3 | x3
                  · have HT3 := Lib.hid x3
                    rw [hE] at HO
                    clear x3 hE hpb
                    as_aux_lemma =>
                      go_wp2_with (fail)
                      refine HS0.out.mono ?_
                      rintro e wq ⟨rfl, hq⟩
                      have hq := hq.symm
                      subst hq
                      go_wp2_with (fail)
                      refine HU0.out.mono ?_
                      rintro e wq ⟨rfl, hq⟩
                      have hq := hq.symm
                      subst hq
                      go_wp2_with (fail)
                      refine HO.out.mono ?_
                      rintro e w3 ⟨rfl, h3⟩
                      have H3 := Lib.hid h3
                      clear h3 HO HB1 HS0 HU0
                      have k0 := (H3.out.kept _ (List.mem_cons_self ..)).1
                      have k1 := (H3.out.kept _ (List.mem_cons_of_mem _ (List.mem_cons_self ..))).1
                      have y1 : w3.cell? ⟨wy.heap.size, 1, none⟩ = some (.int .i64 AT) := by simp only [World.cell?, k0]; rfl
                      have y4 : w3.cell? ⟨wy.heap.size, 4, none⟩ = some (.bool true) := by simp only [World.cell?, k0]; rfl
                      have y6 : w3.cell? ⟨w.heap.size, 6, none⟩ = some (.int .i64 r.rec_) := by simp only [World.cell?, k1]; rfl
                      clear k0 k1
                      have HS3 := Lib.hid (bix_state H3.out)
                      have HU3 := Lib.hid (bix_until H3.out)
                      rw [HT3.out] at HS3
                      rw [until2 HT3.out, HT3.out, show decide ((2 : Int) ≠ 1) = true from rfl] at HU3
                      go_wp2_with (fail)
                      refine HS3.out.mono ?_
                      rintro e wq ⟨rfl, hq⟩
                      have hq := hq.symm
                      subst hq
                      go_wp2_with (fail)
                      refine HU3.out.mono ?_
                      rintro e wq ⟨rfl, hq⟩
                      have hq := hq.symm
                      subst hq
                      go_wp2_with (fail)
                      refine HS3.out.mono ?_
                      rintro e wq ⟨rfl, hq⟩
                      have hq := hq.symm
                      subst hq
                      go_wp2_with (fail)
                      exact ⟨⟨j + 1, bdoneS r s AT RT FB true, by omega, by go_num, by rw [probe2 HT3.out], Lib.hid H3.out.tail⟩, by first | (simp [intOf]; done) | (simp [intOf]; omega)⟩
                  · have HT3 := Lib.hid x3
                    rw [hE] at HO
                    clear x3 hE hpb
                    as_aux_lemma =>
                      go_wp2_with (fail)
                      refine HS0.out.mono ?_
                      rintro e wq ⟨rfl, hq⟩
                      have hq := hq.symm
                      subst hq
                      go_wp2_with (fail)
                      refine HU0.out.mono ?_
                      rintro e wq ⟨rfl, hq⟩
                      have hq := hq.symm
                      subst hq
                      go_wp2_with (fail)
                      refine HO.out.mono ?_
                      rintro e w3 ⟨rfl, h3⟩
                      have H3 := Lib.hid h3
                      clear h3 HO HB1 HS0 HU0
                      have k0 := (H3.out.kept _ (List.mem_cons_self ..)).1
                      have k1 := (H3.out.kept _ (List.mem_cons_of_mem _ (List.mem_cons_self ..))).1
                      have y1 : w3.cell? ⟨wy.heap.size, 1, none⟩ = some (.int .i64 AT) := by simp only [World.cell?, k0]; rfl
                      have y4 : w3.cell? ⟨wy.heap.size, 4, none⟩ = some (.bool true) := by simp only [World.cell?, k0]; rfl
                      have y6 : w3.cell? ⟨w.heap.size, 6, none⟩ = some (.int .i64 r.rec_) := by simp only [World.cell?, k1]; rfl
                      clear k0 k1
                      have HS3 := Lib.hid (bix_state H3.out)
                      have HU3 := Lib.hid (bix_until H3.out)
                      rw [HT3.out] at HS3
                      rw [until1 HT3.out, HT3.out, show decide ((1 : Int) ≠ 1) = false from rfl] at HU3
                      go_wp2_with (fail)
                      refine HS3.out.mono ?_
                      rintro e wq ⟨rfl, hq⟩
                      have hq := hq.symm
                      subst hq
                      go_wp2_with (fail)
                      refine HU3.out.mono ?_
                      rintro e wq ⟨rfl, hq⟩
                      have hq := hq.symm
                      subst hq
                      go_wp2_with (fail)
                      refine HS3.out.mono ?_
                      rintro e wq ⟨rfl, hq⟩
                      have hq := hq.symm
                      subst hq
                      go_wp2_with (fail)
                      exact ⟨⟨j + 1, bdoneS r s AT RT FB true, by omega, by go_num, by rw [probe1 HT3.out], Lib.hid H3.out.tail⟩, by first | (simp [intOf]; done) | (simp [intOf]; omega)⟩
                | false =>
                  clear hpb
                  have HT3 := Lib.hid ((bdoneS_open (r := r) (s := s) (by rw [HST.out]; decide) AT RT FB).1.trans HST.out)
                  rw [hE] at HO
                  clear hE
                  as_aux_lemma =>
                    go_wp2_with (fail)
                    refine HS0.out.mono ?_
                    rintro e wq ⟨rfl, hq⟩
                    have hq := hq.symm
                    subst hq
                    go_wp2_with (fail)
                    refine HU0.out.mono ?_
                    rintro e wq ⟨rfl, hq⟩
                    have hq := hq.symm
                    subst hq
                    go_wp2_with (fail)
                    refine HO.out.mono ?_
                    rintro e w3 ⟨rfl, h3⟩
                    have H3 := Lib.hid h3
                    clear h3 HO HB1 HS0 HU0
                    have k0 := (H3.out.kept _ (List.mem_cons_self ..)).1
                    have k1 := (H3.out.kept _ (List.mem_cons_of_mem _ (List.mem_cons_self ..))).1
                    have y1 : w3.cell? ⟨wy.heap.size, 1, none⟩ = some (.int .i64 AT) := by simp only [World.cell?, k0]; rfl
                    have y4 : w3.cell? ⟨wy.heap.size, 4, none⟩ = some (.bool false) := by simp only [World.cell?, k0]; rfl
                    have y6 : w3.cell? ⟨w.heap.size, 6, none⟩ = some (.int .i64 r.rec_) := by simp only [World.cell?, k1]; rfl
                    clear k0 k1
                    have HS3 := Lib.hid (bix_state H3.out)
                    have HU3 := Lib.hid (bix_until H3.out)
                    rw [HT3.out] at HS3
                    rw [until3 HT3.out, HT3.out, show decide ((3 : Int) ≠ 1) = true from rfl] at HU3
                    go_wp2_with (fail)
                    refine HS3.out.mono ?_
                    rintro e wq ⟨rfl, hq⟩
                    have hq := hq.symm
                    subst hq
                    go_wp2_with (fail)
                    refine HU3.out.mono ?_
                    rintro e wq ⟨rfl, hq⟩
                    have hq := hq.symm
                    subst hq
                    go_wp2_with (fail)
                    refine HS3.out.mono ?_
                    rintro e wq ⟨rfl, hq⟩
                    have hq := hq.symm
                    subst hq
                    go_wp2_with (fail)
                    exact ⟨⟨j + 1, bdoneS r s AT RT FB false, by omega, by go_num, by rw [probe3 HT3.out], Lib.hid H3.out.tail⟩, by first | (simp [intOf]; done) | (simp [intOf]; omega)⟩
              · rw [bdone_no (r := r) (f := FB) hE] at HO
                generalize bdoneE s AT RT PB = E at *
                have hne : (E == 0) = false := by simpa using hE
                have HT3 := Lib.hid HST.out
                clear hE
                as_aux_lemma =>
                  go_wp2_with (fail)
                  refine HS0.out.mono ?_
                  rintro e wq ⟨rfl, hq⟩
                  have hq := hq.symm
                  subst hq
                  go_wp2_with (fail)
                  refine HU0.out.mono ?_
                  rintro e wq ⟨rfl, hq⟩
                  have hq := hq.symm
                  subst hq
                  go_wp2_with (fail)
                  refine HO.out.mono ?_
                  rintro e w3 ⟨rfl, h3⟩
                  have H3 := Lib.hid h3
                  clear h3 HO HB1 HS0 HU0
                  have k0 := (H3.out.kept _ (List.mem_cons_self ..)).1
                  have k1 := (H3.out.kept _ (List.mem_cons_of_mem _ (List.mem_cons_self ..))).1
                  have y1 : w3.cell? ⟨wy.heap.size, 1, none⟩ = some (.int .i64 AT) := by simp only [World.cell?, k0]; rfl
                  have y4 : w3.cell? ⟨wy.heap.size, 4, none⟩ = some (.bool PB) := by simp only [World.cell?, k0]; rfl
                  have y6 : w3.cell? ⟨w.heap.size, 6, none⟩ = some (.int .i64 r.rec_) := by simp only [World.cell?, k1]; rfl
                  clear k0 k1
                  have HS3 := Lib.hid (bix_state H3.out)
                  have HU3 := Lib.hid (bix_until H3.out)
                  rw [HT3.out] at HS3
                  rw [until3 HT3.out, HT3.out, show decide ((3 : Int) ≠ 1) = true from rfl] at HU3
                  go_wp2_with (fail)
                  refine HS3.out.mono ?_
                  rintro e wq ⟨rfl, hq⟩
                  have hq := hq.symm
                  subst hq
                  go_wp2_with (fail)
                  refine HU3.out.mono ?_
                  rintro e wq ⟨rfl, hq⟩
                  have hq := hq.symm
                  subst hq
                  go_wp2_with (fail)
                  refine HS3.out.mono ?_
                  rintro e wq ⟨rfl, hq⟩
                  have hq := hq.symm
                  subst hq
                  go_wp2_with (fail)
                  exact ⟨⟨j + 1, s, by omega, by go_num, by rw [probe3 HT3.out], Lib.hid H3.out.tail⟩, by first | (simp [intOf]; done) | (simp [intOf]; omega)⟩
            · by_cases hK2 : KD = 2
              · subst hK2
                have HO := Lib.hid (bix_give HB1.out AT)
                by_cases hE : giveE s AT = 0
                · have HT3 := Lib.hid (show (giveS s AT).st = 2 by unfold giveS; rw [if_pos hE])
                  rw [hE] at HO
                  clear hE
                  as_aux_lemma =>
                    go_wp2_with (fail)
                    refine HS0.out.mono ?_
                    rintro e wq ⟨rfl, hq⟩
                    have hq := hq.symm
                    subst hq
                    go_wp2_with (fail)
                    refine HU0.out.mono ?_
                    rintro e wq ⟨rfl, hq⟩
                    have hq := hq.symm
                    subst hq
                    go_wp2_with (fail)
                    refine HO.out.mono ?_
                    rintro e w3 ⟨rfl, h3⟩
                    have H3 := Lib.hid h3
                    clear h3 HO HB1 HS0 HU0
                    have k0 := (H3.out.kept _ (List.mem_cons_self ..)).1
                    have k1 := (H3.out.kept _ (List.mem_cons_of_mem _ (List.mem_cons_self ..))).1
                    have y1 : w3.cell? ⟨wy.heap.size, 1, none⟩ = some (.int .i64 AT) := by simp only [World.cell?, k0]; rfl
                    have y4 : w3.cell? ⟨wy.heap.size, 4, none⟩ = some (.bool PB) := by simp only [World.cell?, k0]; rfl
                    have y6 : w3.cell? ⟨w.heap.size, 6, none⟩ = some (.int .i64 r.rec_) := by simp only [World.cell?, k1]; rfl
                    clear k0 k1
                    have HS3 := Lib.hid (bix_state H3.out)
                    have HU3 := Lib.hid (bix_until H3.out)
                    rw [HT3.out] at HS3
                    rw [until2 HT3.out, HT3.out, show decide ((2 : Int) ≠ 1) = true from rfl] at HU3
                    go_wp2_with (fail)
                    refine HS3.out.mono ?_
                    rintro e wq ⟨rfl, hq⟩
                    have hq := hq.symm
                    subst hq
                    go_wp2_with (fail)
                    refine HU3.out.mono ?_
                    rintro e wq ⟨rfl, hq⟩
                    have hq := hq.symm
                    subst hq
                    go_wp2_with (fail)
                    refine HS3.out.mono ?_
                    rintro e wq ⟨rfl, hq⟩
                    have hq := hq.symm
                    subst hq
                    go_wp2_with (fail)
                    exact ⟨⟨j + 1, giveS s AT, by omega, by go_num, by rw [probe2 HT3.out], Lib.hid H3.out.tail⟩, by first | (simp [intOf]; done) | (simp [intOf]; omega)⟩
                · rw [show giveS s AT = s by unfold giveS; rw [if_neg hE]] at HO
                  generalize giveE s AT = E at *
                  have hne : (E == 0) = false := by simpa using hE
                  have HT3 := Lib.hid HST.out
                  clear hE
                  as_aux_lemma =>
                    go_wp2_with (fail)
                    refine HS0.out.mono ?_
                    rintro e wq ⟨rfl, hq⟩
                    have hq := hq.symm
                    subst hq
                    go_wp2_with (fail)
                    refine HU0.out.mono ?_
                    rintro e wq ⟨rfl, hq⟩
                    have hq := hq.symm
                    subst hq
                    go_wp2_with (fail)
                    refine HO.out.mono ?_
                    rintro e w3 ⟨rfl, h3⟩
                    have H3 := Lib.hid h3
                    clear h3 HO HB1 HS0 HU0
                    have k0 := (H3.out.kept _ (List.mem_cons_self ..)).1
                    have k1 := (H3.out.kept _ (List.mem_cons_of_mem _ (List.mem_cons_self ..))).1
                    have y1 : w3.cell? ⟨wy.heap.size, 1, none⟩ = some (.int .i64 AT) := by simp only [World.cell?, k0]; rfl
                    have y4 : w3.cell? ⟨wy.heap.size, 4, none⟩ = some (.bool PB) := by simp only [World.cell?, k0]; rfl
                    have y6 : w3.cell? ⟨w.heap.size, 6, none⟩ = some (.int .i64 r.rec_) := by simp only [World.cell?, k1]; rfl
                    clear k0 k1
                    have HS3 := Lib.hid (bix_state H3.out)
                    have HU3 := Lib.hid (bix_until H3.out)
                    rw [HT3.out] at HS3
                    rw [until3 HT3.out, HT3.out, show decide ((3 : Int) ≠ 1) = true from rfl] at HU3
                    go_wp2_with (fail)
                    refine HS3.out.mono ?_
                    rintro e wq ⟨rfl, hq⟩
                    have hq := hq.symm
                    subst hq
                    go_wp2_with (fail)
                    refine HU3.out.mono ?_
                    rintro e wq ⟨rfl, hq⟩
                    have hq := hq.symm
                    subst hq
                    go_wp2_with (fail)
                    refine HS3.out.mono ?_
                    rintro e wq ⟨rfl, hq⟩
                    have hq := hq.symm
                    subst hq
                    go_wp2_with (fail)
                    exact ⟨⟨j + 1, s, by omega, by go_num, by rw [probe3 HT3.out], Lib.hid H3.out.tail⟩, by first | (simp [intOf]; done) | (simp [intOf]; omega)⟩
              · have q0 : (KD == 0) = false := by simpa using hK0
                have q1 : (KD == 1) = false := by simpa using hK1
                have q2 : (KD == 2) = false := by simpa using hK2
                have HT3 := Lib.hid HST.out
                as_aux_lemma =>
                  go_wp2_with (fail)
                  refine HS0.out.mono ?_
                  rintro e wq ⟨rfl, hq⟩
                  have hq := hq.symm
                  subst hq
                  go_wp2_with (fail)
                  obtain ⟨w3, hw3⟩ : ∃ w3, wy.alloc (.cells #[.int .i64 KD, .int .i64 AT, .int .i64 RT, .bool FB, .bool PB] 57) = w3 := ⟨_, rfl⟩
                  rw [hw3] at HB1 HU0 ⊢
                  clear hw3
                  have H3 := HB1
                  have k0 := (H3.out.kept _ (List.mem_cons_self ..)).1
                  have k1 := (H3.out.kept _ (List.mem_cons_of_mem _ (List.mem_cons_self ..))).1
                  have y0 : w3.cell? ⟨wy.heap.size, 0, none⟩ = some (.int .i64 KD) := by simp only [World.cell?, k0]; rfl
                  have y1 : w3.cell? ⟨wy.heap.size, 1, none⟩ = some (.int .i64 AT) := by simp only [World.cell?, k0]; rfl
                  have y4 : w3.cell? ⟨wy.heap.size, 4, none⟩ = some (.bool PB) := by simp only [World.cell?, k0]; rfl
                  have y6 : w3.cell? ⟨w.heap.size, 6, none⟩ = some (.int .i64 r.rec_) := by simp only [World.cell?, k1]; rfl
                  clear k0 k1
                  have HS3 := Lib.hid (bix_state H3.out)
                  have HU3 := Lib.hid (bix_until H3.out)
                  rw [HT3.out] at HS3
                  rw [until3 HT3.out, HT3.out, show decide ((3 : Int) ≠ 1) = true from rfl] at HU3
                  refine HU0.out.mono ?_
                  rintro e wq ⟨rfl, hq⟩
                  have hq := hq.symm
                  subst hq
                  go_wp2_with (fail)
                  refine HS3.out.mono ?_
                  rintro e wq ⟨rfl, hq⟩
                  have hq := hq.symm
                  subst hq
                  go_wp2_with (fail)
                  refine HU3.out.mono ?_
                  rintro e wq ⟨rfl, hq⟩
                  have hq := hq.symm
                  subst hq
                  go_wp2_with (fail)
                  refine HS3.out.mono ?_
                  rintro e wq ⟨rfl, hq⟩
                  have hq := hq.symm
                  subst hq
                  go_wp2_with (fail)
                  exact ⟨⟨j + 1, s, by omega, by go_num, by rw [probe3 HT3.out], Lib.hid H3.out.tail⟩, by first | (simp [intOf]; done) | (simp [intOf]; omega)⟩
      · have j1 : ¬ (j : Int) < len := by omega
        go_wp2_with (fail)
        go_ret
        exact ⟨rfl, HB.out.bel⟩
  · refine (HNEW.out _).mono ?_
    rintro e w2 hnew
    obtain ⟨rfl, h2⟩ := hnew.no hE
    have HB2 := Lib.hid (HB1.out.trans (h2.mono HB1.out.size))
    generalize breakE r = E at *
    have hne : (E != 0) = true := by simpa using hE
    clear HNEW hE h2 HB1 hnew
    go_wp2_with (fail)
    go_ret
    exact ⟨rfl, HB2.out⟩

theorem brholds_walk (w : World) (res : ByteArray) (hz : res.size ≤ maxLen) (gr : Int) (w1 : (Lit.int .u8 gr).wf = true) (cnt : Int) (w2 : (Lit.int .i64 cnt).wf = true) (slow : Int) (w3 : (Lit.int .i64 slow).wf = true) (least : Int) (w4 : (Lit.int .i64 least).wf = true) (win : Int) (w5 : (Lit.int .i64 win).wf = true) (rec_ : Int) (w6 : (Lit.int .i64 rec_).wf = true)
    (a : Option Addr) (len cap : Nat) (V : Nat → Nat → Value) (hm : len ≤ 140737488351232) (hr : RecsAt w a 5 len V)
    (h0 : ∀ j, j < len → V j 0 = .int .i64 (intOf (V j 0)) ∧ (Lit.int .i64 (intOf (V j 0))).wf = true) (h1 : ∀ j, j < len → V j 1 = .int .i64 (intOf (V j 1)) ∧ (Lit.int .i64 (intOf (V j 1))).wf = true)
    (h2 : ∀ j, j < len → V j 2 = .int .i64 (intOf (V j 2)) ∧ (Lit.int .i64 (intOf (V j 2))).wf = true) (h3 : ∀ j, j < len → V j 3 = .bool (boolOf (V j 3))) (h4 : ∀ j, j < len → V j 4 = .bool (boolOf (V j 4))) :
    Calls Try.prog 7 #[.agg #[.string res, .int .u8 gr, .int .i64 cnt, .int .i64 slow, .int .i64 least, .int .i64 win, .int .i64 rec_], .slice a len cap] w fun e w' => e = .returned (.bool true) ∧ Below w.heap.size w w' :=
  brholds_run w ⟨res, gr, cnt, slow, least, win, rec_⟩ hz a len cap hm _ _ _ _ _ (deedsB hr h0 h1 h2 h3 h4)
end Go.Proofs.Ytejkfmepiagabaa
