/- The reference of the layer warmup: how it lies in memory; Marks, New, wrong, filledAt, rate. -/
import Derived.Test.YtfcmacibblkdkaaWarmD
namespace Go.Proofs.Ytfcmacibblkdkaa
open Go.RowKit
set_option linter.unusedVariables false
set_option linter.unusedSimpArgs false

/-- The reference's warm-up in memory. -/
structure RWarmAt (w : World) (b : Nat) (s : WarmS) : Prop where
  c0 : w.cell? ⟨b, 0, none⟩ = some (.int .i64 s.count)
  c1 : w.cell? ⟨b, 1, none⟩ = some (.int .i64 s.seconds)
  c2 : w.cell? ⟨b, 2, none⟩ = some (.int .i64 s.tokens)
  c3 : w.cell? ⟨b, 3, none⟩ = some (.int .i64 s.filled)
  c4 : w.cell? ⟨b, 4, none⟩ = some (.int .i64 s.last)
  fr : ∀ o, w.frozen? ⟨b, o, none⟩ = false
  lt : b < w.heap.size
theorem RWarmAt.of_block {w w' : World} {b : Nat} {s : WarmS} (h : RWarmAt w b s) (hb : w'.heap[b]? = w.heap[b]?) (hz : w.heap.size ≤ w'.heap.size) : RWarmAt w' b s :=
  ⟨(World.cell?_of_block (a := ⟨b, 0, none⟩) hb).trans h.c0, (World.cell?_of_block (a := ⟨b, 1, none⟩) hb).trans h.c1, (World.cell?_of_block (a := ⟨b, 2, none⟩) hb).trans h.c2, (World.cell?_of_block (a := ⟨b, 3, none⟩) hb).trans h.c3, (World.cell?_of_block (a := ⟨b, 4, none⟩) hb).trans h.c4, fun o => (World.frozen?_of_block (a := ⟨b, o, none⟩) hb).trans (h.fr o), Nat.lt_of_lt_of_le h.lt hz⟩
theorem RWarmAt.below {w w' : World} {b : Nat} {s : WarmS} (h : RWarmAt w b s) (hb : Below w.heap.size w w') : RWarmAt w' b s := h.of_block (hb.block b h.lt) hb.size
theorem RWarmAt.grown {w w' : World} {b : Nat} {s : WarmS} {r : Option Nat} (h : RWarmAt w b s) (hg : w.grownBy w' r) (hne : some b ≠ r) : RWarmAt w' b s := h.of_block (hg.block b h.lt hne) hg.size

def timeB (x : Int) : Bool := decide (0 ≤ x ∧ x ≤ 1152921504606846976)
theorem istime_any (x : Int) (w : World) :
    Calls Try.prog 49 #[.int .i64 x] w fun e w' => e = .returned (.bool (timeB x)) ∧ w = w' := by
  by_cases h1 : x < 0
  · have e : timeB x = false := decide_eq_false (by omega)
    have h2 : ¬ 0 ≤ x := by omega
    rw [e]
    go_enter Try.func49, Try.ntmps49
    go_wp2_with (fail)
    go_ret
    exact ⟨rfl, rfl⟩
  · have h2 : 0 ≤ x := by omega
    by_cases h3 : x ≤ 1152921504606846976
    · have e : timeB x = true := decide_eq_true (by omega)
      rw [e]
      go_enter Try.func49, Try.ntmps49
      go_wp2_with (fail)
      go_ret
      exact ⟨rfl, rfl⟩
    · have e : timeB x = false := decide_eq_false (by omega)
      rw [e]
      go_enter Try.func49, Try.ntmps49
      go_wp2_with (fail)
      go_ret
      exact ⟨rfl, rfl⟩

set_option maxHeartbeats 400000 in
theorem rmarks_any (b : Nat) (s : WarmS) (w : World) (h : RWarmAt w b s) (hok : WarmOk s) :
    Calls Try.prog 34 #[.pointer (some ⟨b, 0, none⟩)] w fun e w' => e = .returned (.tuple #[.int .i64 (warnOf s), .int .i64 (allOf s)]) ∧ ∃ m, w' = w.drewN m := by
  have hb := all_bd hok
  have c0 := h.c0
  have c1 := h.c1
  have hA : s.seconds * s.count = allOf s := rfl
  have hW := Lib.hid (show (allOf s + 1) / 2 = warnOf s from rfl)
  generalize allOf s = AL at *
  generalize warnOf s = WA at *
  obtain ⟨CC, ST, TT, FF, LL⟩ := s
  dsimp only at *
  clear h hok
  go_enter Try.func34, Try.ntmps34
  go_wp2_with (fail)
  first
    | (go_ret2
       exact ⟨by rw [← hW.out]; rfl, 0, rfl⟩)
    | (go_quiet (fail)
       go_wp2_with (fail)
       go_ret2
       exact ⟨by rw [← hW.out]; rfl, _, rfl⟩)
theorem rmarks_nil (w : World) :
    Calls Try.prog 34 #[.pointer none] w fun e w' => e = .returned (.tuple #[.int .i64 0, .int .i64 0]) ∧ w = w' := by
  go_enter Try.func34, Try.ntmps34
  go_wp2_with (fail)
  go_ret2
  exact ⟨rfl, rfl⟩

def RWarmMade (count seconds : Int) (w : World) (e : Ending) (w' : World) : Prop :=
  (mayWarm count seconds ∧ ∃ b, e = .returned (.tuple #[.pointer (some ⟨b, 0, none⟩), .int .i64 0]) ∧ w.heap.size ≤ b ∧ RWarmAt w' b (madeS count seconds) ∧ Below w.heap.size w w') ∨
  (¬ mayWarm count seconds ∧ e = .returned (.tuple #[.pointer none, .int .i64 2]) ∧ Below w.heap.size w w')

set_option maxHeartbeats 800000 in
theorem rwnew_any (count seconds : Int) (w : World) (a0 : -9223372036854775808 ≤ count) (a1 : count ≤ 9223372036854775807) (b0 : -9223372036854775808 ≤ seconds) (b1 : seconds ≤ 9223372036854775807) :
    Calls Try.prog 19 #[.int .i64 count, .int .i64 seconds] w (RWarmMade count seconds w) := by
  by_cases hm : mayWarm count seconds
  · obtain ⟨m1, m2, m3, m4⟩ := hm
    go_enter Try.func19, Try.ntmps19
    go_wp2_with (fail)
    go_ret2
    exact Or.inl ⟨⟨m1, m2, m3, m4⟩, w.heap.size, rfl, Nat.le_refl _, ⟨by simp [go_sem, madeS], by simp [go_sem, madeS], by simp [go_sem, madeS], by simp [go_sem, madeS], by simp [go_sem, madeS], by simp [go_sem], by simp⟩, (Below.refl _ _).alloc (Nat.le_refl _) _⟩
  · have Hm := Lib.hid hm
    have h' : count < 1 ∨ (¬ count < 1 ∧ 1099511627776 < count) ∨ (¬ count < 1 ∧ ¬ 1099511627776 < count ∧ seconds < 1) ∨ (¬ count < 1 ∧ ¬ 1099511627776 < count ∧ ¬ seconds < 1 ∧ 3600 < seconds) := by unfold mayWarm at hm; omega
    clear hm
    rcases h' with p1 | ⟨p1, p2⟩ | ⟨p1, p2, p3⟩ | ⟨p1, p2, p3, p4⟩
    all_goals
      go_enter Try.func19, Try.ntmps19
      go_wp2_with (fail)
      go_ret2
      exact Or.inr ⟨Hm.out, rfl, Below.refl _ _⟩

theorem rwfork_nil (w : World) :
    Calls Try.prog 20 #[.pointer none] w fun e w' => e = .returned (.pointer none) ∧ w = w' := by
  go_enter Try.func20, Try.ntmps20
  go_wp2_with (fail)
  go_ret
  exact ⟨rfl, rfl⟩
theorem rwfork_any (b : Nat) (s : WarmS) (w : World) (h : RWarmAt w b s) :
    Calls Try.prog 20 #[.pointer (some ⟨b, 0, none⟩)] w fun e w' => ∃ b', e = .returned (.pointer (some ⟨b', 0, none⟩)) ∧ w.heap.size ≤ b' ∧ RWarmAt w' b' s ∧ Below w.heap.size w w' := by
  obtain ⟨c0, c1, c2, c3, c4, fr, lt⟩ := h
  go_enter Try.func20, Try.ntmps20
  go_wp2_with (fail)
  go_ret
  exact ⟨w.heap.size, rfl, Nat.le_refl _, ⟨by simp [go_sem], by simp [go_sem], by simp [go_sem], by simp [go_sem], by simp [go_sem], by simp [go_sem], by simp [go_sem]⟩, by repeat (first | exact Below.refl _ _ | apply below_drewN | apply Below.drew | apply Below.alloc | apply Below.setCell | omega | (focus (simp <;> omega)))⟩

set_option maxHeartbeats 1600000 in
theorem rwrong_any (b : Nat) (s : WarmS) (x : Int) (bl off len cap : Nat) (ns : List Int) (w : World) (h : RWarmAt w b s) (hl : ns.length = len) (hm : len ≤ 140737488351232) (hx : I64s ns) (hlt : bl < w.heap.size) (hc : ∀ j, j < ns.length → w.cell? ⟨bl, off + j, none⟩ = some (.int .i64 (ns.getD j 0))) :
    Calls Try.prog 41 #[.pointer (some ⟨b, 0, none⟩), .int .i64 x, .slice (some ⟨bl, off, none⟩) len cap] w fun e w' => e = .returned (.int .i64 (lookE s x ns)) ∧ Below w.heap.size w w' := by
  have H := Lib.hid h
  clear h
  have Hc := Lib.hid (fun (wx : World) (hb : Below w.heap.size w wx) j hj => (hb.cell (p := ⟨bl, off + j, none⟩) hlt).trans (hc j hj))
  have Hl := Lib.hid hl
  clear hc hl
  have Ht := fun w => istime_any x w
  by_cases z : 0 ≤ x ∧ x ≤ 1152921504606846976
  · have e1 : timeB x = true := decide_eq_true z
    rw [e1] at Ht
    have HT := Lib.hid Ht
    clear Ht e1
    have E2 := Lib.hid (fun (hh : ns.all mayB = false) => (show lookE s x ns = 2 by unfold lookE; rw [if_neg (by omega), hh]; rfl))
    have E7 := Lib.hid (fun (hh : ns.all mayB = true) (h7 : x < s.last) => (show lookE s x ns = 7 by unfold lookE; rw [if_neg (by omega), hh, if_pos rfl, if_pos h7]))
    have E0 := Lib.hid (fun (hh : ns.all mayB = true) (h7 : ¬ x < s.last) => (show lookE s x ns = 0 by unfold lookE; rw [if_neg (by omega), hh, if_pos rfl, if_neg h7]))
    have HL := Lib.hid (fun (wx : World) (hb : Below w.heap.size w wx) => (H.out.below hb).c4)
    generalize lookE s x ns = LE at *
    obtain ⟨s0, s1, s2, s3, SL⟩ := s
    dsimp only at E7 E0 HL
    clear z
    go_enter Try.func41, Try.ntmps41
    go_wp2_with (fail)
    refine (HT.out _).mono ?_
    rintro e w1 ⟨rfl, rfl⟩
    go_wp2_with (fail)
    go_loopw [7] (fun i wr => ∃ k : Nat, k ≤ len ∧ i = .int .i64 k ∧ Hid ((ns.take k).all mayB = true) ∧ Below w.heap.size w wr) (fun i _ => len - (intOf i).toNat)
    case atStart => exact ⟨0, Nat.zero_le _, rfl, rfl, Below.refl _ _⟩
    case round =>
      obtain ⟨k, hk, rfl, ha, hbr⟩ := hrel
      by_cases hlt : k < len
      · have hcell := Hc.out _ hbr k (by rw [Hl.out]; exact hlt)
        have Hst := Lib.hid (fun hx => all_take_step (k := k) ha.out (by rw [Hl.out]; exact hlt) hx)
        have Hno := Lib.hid (fun hx => E2.out (all_no (k := k) (by rw [Hl.out]; exact hlt) hx))
        obtain ⟨x0, x1⟩ := getD_bd hx k
        generalize ns.getD k 0 = X at *
        have k0 : (0 : Int) ≤ k := by omega
        have k1 : (k : Int) < len := by omega
        by_cases n0 : X < 0
        · have Hx := Lib.hid (Hno.out (decide_eq_false (by omega)))
          go_wp2_with (fail)
          first
            | (go_ret
               exact ⟨ret_int Hx.out.symm, hbr⟩)
            | (go_quiet (fail)
               go_wp2_with (fail)
               go_ret
               exact ⟨ret_int Hx.out.symm, below_drewN hbr _⟩)
        · by_cases n1 : 4611686018427387904 < X
          · have Hx := Lib.hid (Hno.out (decide_eq_false (by omega)))
            go_wp2_with (fail)
            first
              | (go_ret
                 exact ⟨ret_int Hx.out.symm, hbr⟩)
              | (go_quiet (fail)
                 go_wp2_with (fail)
                 go_ret
                 exact ⟨ret_int Hx.out.symm, below_drewN hbr _⟩)
          · have Hx := Lib.hid (Hst.out (decide_eq_true (by omega)))
            go_wp2_with (fail)
            first
              | exact ⟨⟨k + 1, by omega, by go_num, Hx.out, hbr⟩, by simp [intOf]; omega⟩
              | (go_quiet (fail)
                 go_wp2_with (fail)
                 exact ⟨⟨k + 1, by omega, by go_num, Hx.out, below_drewN hbr _⟩, by simp [intOf]; omega⟩)
      · have hkl : k = len := by omega
        subst hkl
        have hall : ns.all mayB = true := by have := ha.out; rwa [List.take_of_length_le (by rw [Hl.out]; exact Nat.le_refl _)] at this
        have c4 := HL.out _ hbr
        by_cases h7 : x < SL
        · have E := Lib.hid (E7.out hall h7)
          clear hall
          go_wp2_with (fail)
          go_ret
          exact ⟨ret_int E.out.symm, hbr⟩
        · have E := Lib.hid (E0.out hall (by omega))
          clear hall
          go_wp2_with (fail)
          go_ret
          exact ⟨ret_int E.out.symm, hbr⟩
  · have e1 : timeB x = false := decide_eq_false z
    rw [e1] at Ht
    have HT := Lib.hid Ht
    clear Ht e1
    have e2 : lookE s x ns = 2 := by unfold lookE; rw [if_pos (by omega)]
    rw [e2]
    clear e2 z
    go_enter Try.func41, Try.ntmps41
    go_wp2_with (fail)
    refine (HT.out _).mono ?_
    rintro e w1 ⟨rfl, rfl⟩
    go_wp2_with (fail)
    go_ret
    exact ⟨rfl, Below.refl _ _⟩

set_option maxHeartbeats 800000 in
theorem rwrate_any (b : Nat) (s : WarmS) (t : Int) (w : World) (h : RWarmAt w b s) (hok : WarmOk s) (t0 : 0 ≤ t) (t1 : t ≤ allOf s) :
    Calls Try.prog 42 #[.pointer (some ⟨b, 0, none⟩), .int .i64 t] w fun e w' => e = .returned (.int .i64 (rateN s t)) ∧ Below w.heap.size w w' := by
  have hall := all_bd hok
  have hwn := warn_bd hok
  have q0 := hok.c1
  have q1 := hok.c2
  have Hmk := Lib.hid (fun w h => rmarks_any b s w h hok)
  have H := Lib.hid h
  have HC := Lib.hid (fun (m : Nat) => (H.out.below (below_drewN (Below.refl w.heap.size w) m)).c0)
  clear h
  by_cases k : t < warnOf s ∨ warnOf s = allOf s
  · have e1 : rateN s t = s.count := by unfold rateN; rw [if_pos k]
    rw [e1]; clear e1
    by_cases k1 : t < warnOf s
    · clear k
      generalize warnOf s = WA at *
      generalize allOf s = AL at *
      generalize s.count = CC at *
      go_enter Try.func42, Try.ntmps42
      go_wp2_with (fail)
      refine (Hmk.out _ H.out).mono ?_
      rintro e w1 ⟨rfl, m, rfl⟩
      have c0 := HC.out m
      go_wp2_with (fail)
      go_ret
      exact ⟨rfl, below_drewN (Below.refl _ _) _⟩
    · have k2 : warnOf s = allOf s := by omega
      clear k
      generalize warnOf s = WA at *
      generalize allOf s = AL at *
      generalize s.count = CC at *
      go_enter Try.func42, Try.ntmps42
      go_wp2_with (fail)
      refine (Hmk.out _ H.out).mono ?_
      rintro e w1 ⟨rfl, m, rfl⟩
      have c0 := HC.out m
      go_wp2_with (fail)
      go_ret
      exact ⟨rfl, below_drewN (Below.refl _ _) _⟩
  · have e1 : rateN s t = max (mdN (allOf s) s.count (4 * (t - warnOf s) + allOf s) false) 1 := by
      unfold rateN; rw [if_neg k, rate_md hok (by omega) t1]
    rw [e1]; clear e1
    have hmd := fun w => rmuldiv_any (allOf s) s.count (4 * (t - warnOf s) + allOf s) false w (by omega) (by omega) (by omega) (by omega) (by omega) (by omega)
    generalize mdN (allOf s) s.count (4 * (t - warnOf s) + allOf s) false = Q at *
    generalize mdE (allOf s) s.count (4 * (t - warnOf s) + allOf s) false = E at *
    have k1 : ¬ t < warnOf s := by omega
    have k2 : ¬ warnOf s = allOf s := by omega
    clear k
    generalize warnOf s = WA at *
    generalize allOf s = AL at *
    generalize s.count = CC at *
    have Hmd := Lib.hid hmd
    clear hmd
    have k3 : (WA == AL) = false := beq_eq_false_iff_ne.2 k2
    by_cases hq : Q < 1
    · have e2 : max Q 1 = 1 := by omega
      rw [e2]
      go_enter Try.func42, Try.ntmps42
      go_wp2_with (fail)
      refine (Hmk.out _ H.out).mono ?_
      rintro e w1 ⟨rfl, m, rfl⟩
      have c0 := HC.out m
      go_wp2_with (fail)
      refine (Hmd.out _).mono ?_
      rintro e w2 ⟨rfl, hb2⟩
      go_wp2_with (fail)
      go_ret
      exact ⟨rfl, (below_drewN (Below.refl _ _) _).trans hb2⟩
    · have e2 : max Q 1 = Q := by omega
      rw [e2]
      go_enter Try.func42, Try.ntmps42
      go_wp2_with (fail)
      refine (Hmk.out _ H.out).mono ?_
      rintro e w1 ⟨rfl, m, rfl⟩
      have c0 := HC.out m
      go_wp2_with (fail)
      refine (Hmd.out _).mono ?_
      rintro e w2 ⟨rfl, hb2⟩
      go_wp2_with (fail)
      go_ret
      exact ⟨rfl, (below_drewN (Below.refl _ _) _).trans hb2⟩
end Go.Proofs.Ytfcmacibblkdkaa
