/- Texts of one chain, one behind the other: R7B, R14K, BrP, BrQ, BrR. -/
import Derived.Test.YtlipbkpbflgamaaGBrA
import Derived.Test.YtlipbkpbflgamaaGBrD
import Derived.Test.YtlipbkpbflgamaaGR3E

/- guard's references: names and lists. -/
namespace Go.Proofs.Ytlipbkpbflgamaa
open Go.RowKit
set_option linter.unusedVariables false
set_option linter.unusedSimpArgs false

theorem toList_decG (a b : ByteArray) : (a.toList == b.toList) = decide (a = b) := by
  by_cases h : a = b
  · simp [h]
  · have : a.toList ≠ b.toList := fun e => h (by
      rw [ByteArray.toList_eq, ByteArray.toList_eq] at e
      rcases a with ⟨⟨l⟩⟩; rcases b with ⟨⟨l'⟩⟩; simpa using e)
    simp [h, this]
theorem nameB_no {s : ByteArray} (h : ¬ ((1 : Int) ≤ s.size ∧ (s.size : Int) ≤ 64)) : nameB s = false := by
  unfold nameB
  have : (decide ((1 : Int) ≤ (s.size : Int)) && decide ((s.size : Int) ≤ 64)) = false := by
    rw [Bool.and_eq_false_iff, decide_eq_false_iff_not, decide_eq_false_iff_not]; omega
  rw [this, Bool.and_false]
theorem nameB_byte {s : ByteArray} {k : Nat} (hk : k < s.size) (h : byteB s[k] = false) : nameB s = false := by
  unfold nameB
  have : s.data.toList.all byteB = false := by
    rw [List.all_eq_false]
    exact ⟨s[k], by
      have : s[k] = s.data.toList[k]'(by simpa using hk) := rfl
      rw [this]; exact List.getElem_mem _, by rw [h]; simp⟩
  rw [this, Bool.false_and]
theorem take_all {s : ByteArray} {k : Nat} (hk : k < s.size) (h : (s.data.toList.take k).all byteB = true) (hb : byteB s[k] = true) : (s.data.toList.take (k + 1)).all byteB = true := by
  have hl : k < s.data.toList.length := by simpa using hk
  rw [List.take_succ_eq_append_getElem hl, List.all_append, h]
  simp only [List.all_cons, List.all_nil, Bool.and_true, Bool.true_and]
  exact hb

set_option maxHeartbeats 1600000 in
theorem riname_any (s : ByteArray) (hs : s.size ≤ maxLen) (w : World) : Calls Try.prog 42 #[.string s] w fun e w' => e = .returned (.bool (nameB s)) ∧ w' = w := by
  have hsz : (s.size : Int) ≤ 9223372036854775807 := by simp only [maxLen] at hs; omega
  by_cases h1 : (s.size : Int) < 1
  · rw [nameB_no (by omega)]
    go_enter Try.func42, Try.ntmps42
    go_wp2_with (fail)
    go_ret
    exact ⟨rfl, rfl⟩
  · by_cases h2 : (64 : Int) < s.size
    · rw [nameB_no (by omega)]
      go_enter Try.func42, Try.ntmps42
      go_wp2_with (fail)
      go_ret
      exact ⟨rfl, rfl⟩
    · have HNO := Lib.hid (fun k (hk : k < s.size) h => nameB_byte hk h)
      have HYES := Lib.hid (show s.data.toList.all byteB = true → nameB s = true from fun h => by
        unfold nameB
        rw [h, decide_eq_true (show (1 : Int) ≤ s.size by omega), decide_eq_true (show (s.size : Int) ≤ 64 by omega)]; rfl)
      go_enter Try.func42, Try.ntmps42
      go_wp2_with (fail)
      go_loop [3] (fun i => ∃ k : Nat, k ≤ s.size ∧ i = .int .i64 k ∧ Hid ((s.data.toList.take k).all byteB = true)) (fun i => s.size - (intOf i).toNat)
      case atStart => exact ⟨0, Nat.zero_le _, rfl, rfl⟩
      case round =>
        obtain ⟨k, hk, rfl, HA⟩ := hrel
        by_cases hlt : k < s.size
        · have k0 : (0 : Int) ≤ k := by omega
          have k1 : (k : Int) < s.size := by omega
          have HN := Lib.hid (HNO.out k hlt)
          have HT := Lib.hid (take_all hlt HA.out)
          have hbd : byteB s[k] = (decide ((33 : Int) ≤ (s[k].toNat : Int)) && decide ((s[k].toNat : Int) ≤ 126)) := rfl
          by_cases hc1 : (s[k].toNat : Int) < 33
          · have hno := Lib.hid (HN.out (by rw [hbd, decide_eq_false (by omega), Bool.false_and]))
            clear hbd HN HT HA
            go_wp2_with (fail)
            go_ret
            exact ⟨by rw [hno.out]; rfl, rfl⟩
          · by_cases hc2 : (126 : Int) < s[k].toNat
            · have hno := Lib.hid (HN.out (by rw [hbd, decide_eq_false (show ¬ (s[k].toNat : Int) ≤ 126 by omega), Bool.and_false]))
              clear hbd HN HT HA
              go_wp2_with (fail)
              go_ret
              exact ⟨by rw [hno.out]; rfl, rfl⟩
            · have hy := Lib.hid (HT.out (by rw [hbd, decide_eq_true (show (33 : Int) ≤ (s[k].toNat : Int) by omega), decide_eq_true (show (s[k].toNat : Int) ≤ 126 by omega)]; rfl))
              clear hbd HN HT HA
              go_wp2_with (fail)
              exact ⟨⟨k + 1, by omega, by go_num, hy⟩, by first | (simp [intOf]; done) | (simp [intOf]; omega)⟩
        · have k1 : ¬ (k : Int) < s.size := by omega
          have hall := Lib.hid (HYES.out (by
            have := HA.out
            rwa [List.take_of_length_le (by simp; omega)] at this))
          clear HA
          go_wp2_with (fail)
          go_ret
          exact ⟨by rw [hall.out]; rfl, rfl⟩

set_option maxHeartbeats 400000 in
theorem rin_any (n lo hi : Int) (w : World) : Calls Try.prog 43 #[.int .i64 n, .int .i64 lo, .int .i64 hi] w fun e w' => e = .returned (.bool (decide (lo ≤ n) && decide (n ≤ hi))) ∧ w' = w := by
  by_cases h : lo ≤ n
  · go_enter Try.func43, Try.ntmps43
    go_wp2_with (fail)
    go_ret
    exact ⟨by simp [h], rfl⟩
  · go_enter Try.func43, Try.ntmps43
    go_wp2_with (fail)
    go_ret
    exact ⟨by rw [show (decide (lo ≤ n)) = false by simpa using h]; rfl, rfl⟩

def inZ (n lo hi : Int) : Bool := decide (lo ≤ n) && decide (n ≤ hi)
theorem rinZ (n lo hi : Int) (w : World) : Calls Try.prog 43 #[.int .i64 n, .int .i64 lo, .int .i64 hi] w fun e w' => e = .returned (.bool (inZ n lo hi)) ∧ w' = w := rin_any n lo hi w
/-- What the reference tells of a break rule. -/
def rbreakF (A : Bool) (gr : Int) (C S0 Sz L W R : Bool) : Int :=
  bif A then bif decide (gr ≤ 2) then bif C then bif (bif gr == 0 then S0 else Sz) then bif L then bif W then bif R then 0 else 31 else 31 else 31 else 31 else 31 else 31 else 10
theorem cond_and31 (a b : Bool) (x y : Int) : (bif a then (bif b then x else y) else y) = bif a && b then x else y := by cases a <;> rfl
theorem onlyB_cond (a : Bool) (n lo hi : Int) : onlyB a n lo hi = bif a then inZ n lo hi else (n == 0) := by
  unfold onlyB inZ
  have : (n == 0) = decide (n = 0) := rfl
  rw [this]
  cases a <;> simp
theorem rbreakF_eq (r : BreakS) : rbreakF (nameB r.res) r.gr (inZ r.cnt 0 (mostR r)) (inZ r.slow 1 3600000000) (r.slow == 0) (inZ r.least 1 1099511627776) (inZ r.win 1000000 120000000) (inZ r.rec_ 1000000 3600000000) = breakE r := by
  unfold rbreakF breakE lookE
  rw [show namedB r.res [] = nameB r.res by simp [namedB]]
  unfold br1 br2 br3 br4
  rw [onlyB_cond]
  simp only [cond_and31]
  rw [show (decide ((0 : Int) ≤ r.cnt) && decide (r.cnt ≤ mostR r)) = inZ r.cnt 0 (mostR r) from rfl, show (decide ((1 : Int) ≤ r.least) && decide (r.least ≤ 1099511627776)) = inZ r.least 1 1099511627776 from rfl, show (decide ((1000000 : Int) ≤ r.win) && decide (r.win ≤ 120000000)) = inZ r.win 1000000 120000000 from rfl, show (decide ((1000000 : Int) ≤ r.rec_) && decide (r.rec_ ≤ 3600000000)) = inZ r.rec_ 1000000 3600000000 from rfl]
  simp only [Bool.and_assoc]
  cases nameB r.res
  · rfl
  · rw [if_pos rfl, cond_true, Bool.cond_eq_ite]

set_option maxHeartbeats 6400000 in
set_option maxRecDepth 100000 in
theorem r7break_any (r : BreakS) (hz : r.res.size ≤ maxLen) (hg0 : 0 ≤ r.gr) (w : World) : Calls Try.prog 18 #[r.v] w fun e w' => e = .returned (.int .i64 (breakE r)) ∧ Below w.heap.size w w' := by
  rw [← rbreakF_eq r]
  obtain ⟨res, gr, cnt, slow, least, win, rec_⟩ := r
  unfold BreakS.v BreakS.cells mostR
  dsimp only at *
  have HB := Lib.hid (show Below w.heap.size w (w.alloc (.cells #[.string res, .int .u8 gr, .int .i64 cnt, .int .i64 slow, .int .i64 least, .int .i64 win, .int .i64 rec_] 24)) from (Below.refl _ _).alloc (Nat.le_refl _) _)
  have HN := Lib.hid (fun w => riname_any res hz w)
  have HC1 := Lib.hid (fun w => rinZ cnt 0 1000 w)
  have HC2 := Lib.hid (fun w => rinZ cnt 0 1099511627776 w)
  have HS := Lib.hid (fun w => rinZ slow 1 3600000000 w)
  have HL := Lib.hid (fun w => rinZ least 1 1099511627776 w)
  have HW := Lib.hid (fun w => rinZ win 1000000 120000000 w)
  have HR := Lib.hid (fun w => rinZ rec_ 1000000 3600000000 w)
  rcases (show gr = 0 ∨ gr = 1 ∨ gr = 2 ∨ 2 < gr by omega) with h | h | h | h
  · subst h
    obtain ⟨E, hE⟩ : ∃ E, rbreakF (nameB res) (0 : Int) (inZ cnt 0 (if (0 : Int) = 2 then 1099511627776 else 1000)) (inZ slow 1 3600000000) (slow == 0) (inZ least 1 1099511627776) (inZ win 1000000 120000000) (inZ rec_ 1000000 3600000000) = E := ⟨_, rfl⟩
    rw [hE]
    rw [show (if (0 : Int) = 2 then (1099511627776 : Int) else 1000) = 1000 from rfl] at hE
    have HE := Lib.hid hE
    clear hE hz
    generalize nameB res = A at *
    generalize inZ cnt 0 1000 = C at *
    generalize inZ slow 1 3600000000 = S at *
    generalize inZ least 1 1099511627776 = LL at *
    generalize inZ win 1000000 120000000 = WW at *
    generalize inZ rec_ 1000000 3600000000 = RR at *
    go_enter Try.func18, Try.ntmps18
    go_wp2_with (fail)
    refine (HN.out _).mono ?_
    rintro e wq ⟨rfl, hq⟩
    subst hq
    cases A
    · go_wp2_with (fail)
      go_ret
      exact ⟨by rw [← HE.out]; rfl, HB.out⟩
    · go_wp2_with (fail)
      refine (HC1.out _).mono ?_
      rintro e wq ⟨rfl, hq⟩
      subst hq
      cases C
      · go_wp2_with (fail)
        go_ret
        exact ⟨by rw [← HE.out]; rfl, HB.out⟩
      · go_wp2_with (fail)
        refine (HS.out _).mono ?_
        rintro e wq ⟨rfl, hq⟩
        subst hq
        cases S
        · go_wp2_with (fail)
          go_ret
          exact ⟨by rw [← HE.out]; rfl, HB.out⟩
        · go_wp2_with (fail)
          refine (HL.out _).mono ?_
          rintro e wq ⟨rfl, hq⟩
          subst hq
          cases LL
          · go_wp2_with (fail)
            go_ret
            exact ⟨by rw [← HE.out]; rfl, HB.out⟩
          · go_wp2_with (fail)
            refine (HW.out _).mono ?_
            rintro e wq ⟨rfl, hq⟩
            subst hq
            cases WW
            · go_wp2_with (fail)
              go_ret
              exact ⟨by rw [← HE.out]; rfl, HB.out⟩
            · go_wp2_with (fail)
              refine (HR.out _).mono ?_
              rintro e wq ⟨rfl, hq⟩
              subst hq
              cases RR
              · go_wp2_with (fail)
                go_ret
                exact ⟨by rw [← HE.out]; rfl, HB.out⟩
              · go_wp2_with (fail)
                go_ret
                exact ⟨by rw [← HE.out]; rfl, HB.out⟩
  · subst h
    obtain ⟨E, hE⟩ : ∃ E, rbreakF (nameB res) (1 : Int) (inZ cnt 0 (if (1 : Int) = 2 then 1099511627776 else 1000)) (inZ slow 1 3600000000) (slow == 0) (inZ least 1 1099511627776) (inZ win 1000000 120000000) (inZ rec_ 1000000 3600000000) = E := ⟨_, rfl⟩
    rw [hE]
    rw [show (if (1 : Int) = 2 then (1099511627776 : Int) else 1000) = 1000 from rfl] at hE
    have HE := Lib.hid hE
    clear hE hz
    generalize nameB res = A at *
    generalize inZ cnt 0 1000 = C at *
    generalize inZ slow 1 3600000000 = S at *
    generalize inZ least 1 1099511627776 = LL at *
    generalize inZ win 1000000 120000000 = WW at *
    generalize inZ rec_ 1000000 3600000000 = RR at *
    go_enter Try.func18, Try.ntmps18
    go_wp2_with (fail)
    refine (HN.out _).mono ?_
    rintro e wq ⟨rfl, hq⟩
    subst hq
    cases A
    · go_wp2_with (fail)
      go_ret
      exact ⟨by rw [← HE.out]; rfl, HB.out⟩
    · go_wp2_with (fail)
      refine (HC1.out _).mono ?_
      rintro e wq ⟨rfl, hq⟩
      subst hq
      cases C
      · go_wp2_with (fail)
        go_ret
        exact ⟨by rw [← HE.out]; rfl, HB.out⟩
      · by_cases hs : slow = 0
        · subst hs
          go_wp2_with (fail)
          refine (HL.out _).mono ?_
          rintro e wq ⟨rfl, hq⟩
          subst hq
          cases LL
          · go_wp2_with (fail)
            go_ret
            exact ⟨by rw [← HE.out]; rfl, HB.out⟩
          · go_wp2_with (fail)
            refine (HW.out _).mono ?_
            rintro e wq ⟨rfl, hq⟩
            subst hq
            cases WW
            · go_wp2_with (fail)
              go_ret
              exact ⟨by rw [← HE.out]; rfl, HB.out⟩
            · go_wp2_with (fail)
              refine (HR.out _).mono ?_
              rintro e wq ⟨rfl, hq⟩
              subst hq
              cases RR
              · go_wp2_with (fail)
                go_ret
                exact ⟨by rw [← HE.out]; rfl, HB.out⟩
              · go_wp2_with (fail)
                go_ret
                exact ⟨by rw [← HE.out]; rfl, HB.out⟩
        · have hs2 : (slow == 0) = false := beq_eq_false_iff_ne.2 hs
          rw [hs2] at HE
          have hs3 : (slow != 0) = true := by simpa using hs
          go_wp2_with (fail)
          go_ret
          exact ⟨by rw [← HE.out]; rfl, HB.out⟩
  · subst h
    obtain ⟨E, hE⟩ : ∃ E, rbreakF (nameB res) (2 : Int) (inZ cnt 0 (if (2 : Int) = 2 then 1099511627776 else 1000)) (inZ slow 1 3600000000) (slow == 0) (inZ least 1 1099511627776) (inZ win 1000000 120000000) (inZ rec_ 1000000 3600000000) = E := ⟨_, rfl⟩
    rw [hE]
    rw [show (if (2 : Int) = 2 then (1099511627776 : Int) else 1000) = 1099511627776 from rfl] at hE
    have HE := Lib.hid hE
    clear hE hz
    generalize nameB res = A at *
    generalize inZ cnt 0 1099511627776 = C at *
    generalize inZ slow 1 3600000000 = S at *
    generalize inZ least 1 1099511627776 = LL at *
    generalize inZ win 1000000 120000000 = WW at *
    generalize inZ rec_ 1000000 3600000000 = RR at *
    go_enter Try.func18, Try.ntmps18
    go_wp2_with (fail)
    refine (HN.out _).mono ?_
    rintro e wq ⟨rfl, hq⟩
    subst hq
    cases A
    · go_wp2_with (fail)
      go_ret
      exact ⟨by rw [← HE.out]; rfl, HB.out⟩
    · go_wp2_with (fail)
      refine (HC2.out _).mono ?_
      rintro e wq ⟨rfl, hq⟩
      subst hq
      cases C
      · go_wp2_with (fail)
        go_ret
        exact ⟨by rw [← HE.out]; rfl, HB.out⟩
      · by_cases hs : slow = 0
        · subst hs
          go_wp2_with (fail)
          refine (HL.out _).mono ?_
          rintro e wq ⟨rfl, hq⟩
          subst hq
          cases LL
          · go_wp2_with (fail)
            go_ret
            exact ⟨by rw [← HE.out]; rfl, HB.out⟩
          · go_wp2_with (fail)
            refine (HW.out _).mono ?_
            rintro e wq ⟨rfl, hq⟩
            subst hq
            cases WW
            · go_wp2_with (fail)
              go_ret
              exact ⟨by rw [← HE.out]; rfl, HB.out⟩
            · go_wp2_with (fail)
              refine (HR.out _).mono ?_
              rintro e wq ⟨rfl, hq⟩
              subst hq
              cases RR
              · go_wp2_with (fail)
                go_ret
                exact ⟨by rw [← HE.out]; rfl, HB.out⟩
              · go_wp2_with (fail)
                go_ret
                exact ⟨by rw [← HE.out]; rfl, HB.out⟩
        · have hs2 : (slow == 0) = false := beq_eq_false_iff_ne.2 hs
          rw [hs2] at HE
          have hs3 : (slow != 0) = true := by simpa using hs
          go_wp2_with (fail)
          go_ret
          exact ⟨by rw [← HE.out]; rfl, HB.out⟩
  · have h0 : (gr == 0) = false := beq_eq_false_iff_ne.2 (by omega)
    have h2 : (gr == 2) = false := beq_eq_false_iff_ne.2 (by omega)
    have h3 : decide (gr ≤ 2) = false := decide_eq_false (by omega)
    obtain ⟨E, hE⟩ : ∃ E, rbreakF (nameB res) gr (inZ cnt 0 (if gr = 2 then 1099511627776 else 1000)) (inZ slow 1 3600000000) (slow == 0) (inZ least 1 1099511627776) (inZ win 1000000 120000000) (inZ rec_ 1000000 3600000000) = E := ⟨_, rfl⟩
    rw [hE]
    rw [if_neg (by omega)] at hE
    unfold rbreakF at hE
    rw [h3] at hE
    have HE := Lib.hid hE
    clear hE hz
    generalize nameB res = A at *
    generalize inZ cnt 0 1000 = C at *
    generalize inZ slow 1 3600000000 = S at *
    generalize inZ least 1 1099511627776 = LL at *
    generalize inZ win 1000000 120000000 = WW at *
    generalize inZ rec_ 1000000 3600000000 = RR at *
    go_enter Try.func18, Try.ntmps18
    go_wp2_with (fail)
    refine (HN.out _).mono ?_
    rintro e wq ⟨rfl, hq⟩
    subst hq
    cases A
    · go_wp2_with (fail)
      go_ret
      exact ⟨by rw [← HE.out]; rfl, HB.out⟩
    · go_wp2_with (fail)
      go_ret
      exact ⟨by rw [← HE.out]; rfl, HB.out⟩

end Go.Proofs.Ytlipbkpbflgamaa

/- The reference's breaker: New. -/
namespace Go.Proofs.Ytlipbkpbflgamaa
open Go.RowKit
set_option linter.unusedVariables false
set_option linter.unusedSimpArgs false

structure New14Post (w : World) (r : BreakS) (e : Ending) (w' : World) : Prop where
  no : breakE r ≠ 0 → e = .returned (.tuple #[.pointer none, .int .i64 (breakE r)]) ∧ Below w.heap.size w w'
  yes : breakE r = 0 → ∃ q p, e = .returned (.tuple #[.pointer (some ⟨q, 0, none⟩), .int .i64 0]) ∧ R14At w' q p r new0 0 (.slice none 0 0) [] ∧ Below w.heap.size w w' ∧ w.heap.size ≤ q ∧ w.heap.size ≤ p
set_option maxHeartbeats 1600000 in
set_option maxRecDepth 100000 in
theorem r14new_any (r : BreakS) (hz : r.res.size ≤ maxLen) (hg0 : 0 ≤ r.gr) (w : World) : Calls Try.prog 6 #[r.v] w (New14Post w r) := by
  have hbx : Below w.heap.size w (w.alloc (brkO r)) := (Below.refl _ _).alloc (Nat.le_refl _) _
  have hN : (w.alloc (brkO r)).heap[w.heap.size]? = some (brkO r) := (get_allocW w _ _).trans (if_pos rfl)
  have hnz : w.heap.size < (w.alloc (brkO r)).heap.size := by simp
  have HB := Lib.hid (r7break_any r hz hg0 (w.alloc (brkO r)))
  have HBX := Lib.hid hbx
  have HN := Lib.hid hN
  have HNZ := Lib.hid hnz
  obtain ⟨Z, hZ⟩ : ∃ Z, w.heap.size = Z := ⟨_, rfl⟩
  have HZ := Lib.hid hZ
  obtain ⟨r0, hr0⟩ : ∃ r0, r = r0 := ⟨_, rfl⟩
  clear hz hg0 hbx hN hnz
  unfold brkO at HB HBX HN HNZ
  by_cases hE : breakE r = 0
  · have HE := Lib.hid hE
    have HOK := Lib.hid (breakE_ok hE)
    rw [hE] at HB
    have HNW := Lib.hid (fun wx => r3new_any r.win HOK.out.w0 HOK.out.w1 wx)
    clear hE hr0
    obtain ⟨rn, rg, rc, rs, rl, rw_, rr⟩ := r
    unfold BreakS.v BreakS.cells at HB
    unfold BreakS.v BreakS.cells
    unfold BreakS.cells at HBX HN HNZ
    dsimp only at HB HBX HN HNZ HNW ⊢
    go_enter Try.func6, Try.ntmps6
    go_wp2_with (fail)
    refine HB.out.mono ?_
    rintro e w1 ⟨rfl, h1⟩
    have hn1 := (h1.block w.heap.size HNZ.out).trans HN.out
    rw [hZ] at hn1
    have c5 : w1.cell? ⟨Z, 5, none⟩ = some (.int .i64 rw_) := by simp only [World.cell?, hn1]; rfl
    have HB1 := Lib.hid (HBX.out.trans (h1.mono HBX.out.size))
    have HN1 := Lib.hid hn1
    clear hn1 h1 HB HBX HN HNZ hZ
    go_wp2_with (fail)
    refine (HNW.out _).mono ?_
    rintro e w2 ⟨rfl, hq⟩
    obtain ⟨hr3, hb3⟩ := r3_made w1 HOK.out.w0 HOK.out.w1
    dsimp only at hr3 hb3
    rw [← hq] at hr3 hb3
    have hn2 := (hb3.block Z (Array.getElem?_eq_some_iff.1 HN1.out).1).trans HN1.out
    have c0 : w2.cell? ⟨Z, 0, none⟩ = some (.string rn) := by simp only [World.cell?, hn2]; rfl
    have c1 : w2.cell? ⟨Z, 1, none⟩ = some (.int .u8 rg) := by simp only [World.cell?, hn2]; rfl
    have c2 : w2.cell? ⟨Z, 2, none⟩ = some (.int .i64 rc) := by simp only [World.cell?, hn2]; rfl
    have c3 : w2.cell? ⟨Z, 3, none⟩ = some (.int .i64 rs) := by simp only [World.cell?, hn2]; rfl
    have c4 : w2.cell? ⟨Z, 4, none⟩ = some (.int .i64 rl) := by simp only [World.cell?, hn2]; rfl
    have c5 : w2.cell? ⟨Z, 5, none⟩ = some (.int .i64 rw_) := by simp only [World.cell?, hn2]; rfl
    have c6 : w2.cell? ⟨Z, 6, none⟩ = some (.int .i64 rr) := by simp only [World.cell?, hn2]; rfl
    have HR3 := Lib.hid hr3
    have HB3 := Lib.hid hb3
    clear hr3 hb3 hq hn2
    obtain ⟨Y, hY⟩ : ∃ Y, w1.heap.size = Y := ⟨_, rfl⟩
    have HY := Lib.hid hY
    rw [hY] at HR3 ⊢
    clear hY
    go_wp2_with (fail)
    go_ret2
    have hs := HB1.out.size
    have hyz := HR3.out.lt (i := Y) (Or.inl rfl)
    have hal : Below w2.heap.size w2 (w2.alloc (r14O ⟨rn, rg, rc, rs, rl, rw_, rr⟩ Y new0 0)) := (Below.refl _ _).alloc (Nat.le_refl _) _
    refine ⟨fun h => absurd HE.out h, fun _ => ⟨_, Y, rfl, ⟨(get_allocW w2 (r14O ⟨rn, rg, rc, rs, rl, rw_, rr⟩ Y new0 0) w2.heap.size).trans (if_pos rfl), HR3.out.below hal, by omega, by simp [Value.ownBlock], fun e => absurd rfl e, by decide, by decide, by decide⟩, (HB1.out.trans (HB3.out.mono hs)).trans (hal.mono ?_), ?_, ?_⟩⟩
    · have := HB3.out.size; omega
    · have := HB3.out.size; omega
    · have := HY.out; omega
  · have HE := Lib.hid hE
    obtain ⟨E, hEE⟩ : ∃ E, breakE r = E := ⟨_, rfl⟩
    have HEE := Lib.hid hEE
    rw [hEE] at hE HB
    have hne : (E != 0) = true := by simpa using hE
    clear hE hEE hZ hr0
    obtain ⟨rn, rg, rc, rs, rl, rw_, rr⟩ := r
    unfold BreakS.v BreakS.cells at HB
    unfold BreakS.v BreakS.cells
    unfold BreakS.cells at HBX HN HNZ
    dsimp only at HB HBX HN HNZ ⊢
    go_enter Try.func6, Try.ntmps6
    go_wp2_with (fail)
    refine HB.out.mono ?_
    rintro e w1 ⟨rfl, h1⟩
    have HB1 := Lib.hid (HBX.out.trans (h1.mono HBX.out.size))
    clear h1 HB HBX HN HNZ
    go_wp2_with (fail)
    go_ret2
    exact ⟨fun _ => ⟨by rw [HEE.out]; rfl, HB1.out⟩, fun h => absurd h HE.out⟩
end Go.Proofs.Ytlipbkpbflgamaa

/- Of some breakers: what All answers, the program's and the reference's. -/
namespace Go.Proofs.Ytlipbkpbflgamaa
open Go.RowKit
set_option linter.unusedVariables false
set_option linter.unusedSimpArgs false

def ptrV : Option Nat → Value
  | none => .pointer none
  | some q => .pointer (some ⟨q, 0, none⟩)
def PtrRow (w : World) (a : Option Addr) (xs : List (Option Nat)) : Prop := ∀ (j : Nat) (x : Option Nat), xs[j]? = some x → ∃ b, a = some ⟨b, 0, none⟩ ∧ w.cell? ⟨b, j, none⟩ = some (ptrV x)
def BrsAt (w : World) (xs : List (Option Nat)) (ss : List (Option BrS)) : Prop := xs.length = ss.length ∧ ∀ (j : Nat) (x : Option Nat), xs[j]? = some x → (x = none ∧ ss[j]? = some none) ∨ (∃ q p m r s, x = some q ∧ ss[j]? = some (some s) ∧ BrAt w q p m r s)
def RrsAt (w : World) (xs : List (Option Nat)) (ss : List (Option BrS)) : Prop := xs.length = ss.length ∧ ∀ (j : Nat) (x : Option Nat), xs[j]? = some x → (x = none ∧ ss[j]? = some none) ∨ (∃ q p r s un v L, x = some q ∧ ss[j]? = some (some s) ∧ R14At w q p r s un v L)
def allE (at_ : Int) : List (Option BrS) → Int
  | [] => 0
  | none :: l => allE at_ l
  | some s :: l => if lookW s.la at_ ≠ 0 then lookW s.la at_ else allE at_ l
def allN (at_ : Int) : List (Option BrS) → Nat
  | [] => 0
  | none :: l => allN at_ l + 1
  | some s :: l => if passB s at_ then allN at_ l + 1 else 0
def allV (at_ : Int) (ss : List (Option BrS)) : Value := if allE at_ ss ≠ 0 then .tuple #[.int .i64 0, .bool false, .int .i64 (allE at_ ss)] else .tuple #[.int .i64 (allN at_ ss), .bool (decide (allN at_ ss = ss.length)), .int .i64 0]
theorem allN_le (at_ : Int) : ∀ ss : List (Option BrS), allN at_ ss ≤ ss.length
  | [] => Nat.le_refl _
  | none :: l => by have := allN_le at_ l; simp only [allN, List.length_cons]; omega
  | some s :: l => by
    have := allN_le at_ l
    simp only [allN, List.length_cons]
    split <;> omega
theorem drop_at {α : Type} {l : List α} {k : Nat} {x : α} (h : l[k]? = some x) : l.drop k = x :: l.drop (k + 1) := by
  obtain ⟨hk, rfl⟩ := List.getElem?_eq_some_iff.1 h
  exact List.drop_eq_getElem_cons hk
theorem drop_end {α : Type} {l : List α} {k : Nat} (h : l.length ≤ k) : l.drop k = [] := List.drop_of_length_le h
theorem blook_nil (at_ : Int) (w : World) : Calls Try.prog 25 #[.pointer none, .int .i64 at_] w fun e w' => e = .returned (.int .i64 1) ∧ w' = w := by
  go_enter Try.func25, Try.ntmps25
  go_wp2_with (fail)
  go_ret
  exact ⟨rfl, rfl⟩
set_option maxHeartbeats 3200000 in
set_option maxRecDepth 100000 in
theorem ball_any {w : World} {a : Option Addr} {len cap : Nat} {xs : List (Option Nat)} {ss : List (Option BrS)} (hp : PtrRow w a xs) (hb : BrsAt w xs ss) (hl : xs.length = len) (hm : len ≤ 1048576) (at_ : Int) :
    Calls Try.prog 8 #[.int .i64 at_, .slice a len cap] w fun e w' => e = .returned (allV at_ ss) ∧ w' = w := by
  have HP := Lib.hid hp
  have HB := Lib.hid hb
  have HL := Lib.hid hl
  have HSL := Lib.hid (show ss.length = len from hb.1.symm.trans hl)
  clear hp hb hl
  go_enter Try.func8, Try.ntmps8
  go_wp2_with (fail)
  go_loopw [8, 9, 14] (fun b e i wr => ∃ k : Nat, k ≤ len ∧ i = .int .i64 k ∧ Hid (allE at_ ss = allE at_ (ss.drop k)) ∧ wr = w) (fun b e i _ => len - (intOf i).toNat)
  case atStart => exact ⟨0, Nat.zero_le _, rfl, Lib.hid rfl, rfl⟩
  case round =>
    obtain ⟨k, hk, rfl, HE, hwr⟩ := hrel
    subst hwr
    by_cases hlt : k < len
    · have k0 : (0 : Int) ≤ k := by omega
      have k1 : (k : Int) < len := by omega
      obtain ⟨x, hx⟩ : ∃ x, xs[k]? = some x := ⟨_, List.getElem?_eq_getElem (by rw [HL.out]; exact hlt)⟩
      obtain ⟨b, rfl, c0⟩ := HP.out k x hx
      rcases HB.out.2 k x hx with ⟨rfl, hs⟩ | ⟨q, p, m, r, s, rfl, hs, hat⟩
      · have HS := Lib.hid (show allE at_ (ss.drop k) = allE at_ (ss.drop (k + 1)) by rw [drop_at hs]; rfl)
        have HLN := Lib.hid (blook_nil at_ wr)
        clear hs hx
        unfold ptrV at c0
        go_wp2_with (fail)
        refine HLN.out.mono ?_
        rintro e wq ⟨rfl, hq⟩
        rw [hq]
        clear hq
        go_wp2_with (fail)
        exact ⟨⟨k + 1, by omega, by go_num, Lib.hid (HE.out.trans HS.out), by first | trivial | rfl⟩, by first | (simp [intOf]; done) | (simp [intOf]; omega)⟩
      · have HLK := Lib.hid (blook_any hat at_)
        obtain ⟨E, hE⟩ : ∃ E, lookW s.la at_ = E := ⟨_, rfl⟩
        rw [hE] at HLK
        have HEE := Lib.hid hE
        have HS := Lib.hid (show allE at_ (ss.drop k) = if lookW s.la at_ ≠ 0 then lookW s.la at_ else allE at_ (ss.drop (k + 1)) by rw [drop_at hs]; rfl)
        clear hs hx hE hat
        unfold ptrV at c0
        by_cases h0 : E = 0
        · subst h0
          go_wp2_with (fail)
          refine HLK.out.mono ?_
          rintro e wq ⟨rfl, hq⟩
          rw [hq]
          clear hq
          go_wp2_with (fail)
          exact ⟨⟨k + 1, by omega, by go_num, Lib.hid (HE.out.trans (HS.out.trans (if_neg (by rw [HEE.out]; simp)))), by first | trivial | rfl⟩, by first | (simp [intOf]; done) | (simp [intOf]; omega)⟩
        · have hne : (E != 0) = true := by simpa using h0
          have H0 := Lib.hid h0
          clear h0
          go_wp2_with (fail)
          refine HLK.out.mono ?_
          rintro e wq ⟨rfl, hq⟩
          rw [hq]
          clear hq
          go_wp2_with (fail)
          go_ret3
          have hall : allE at_ ss = E := HE.out.trans (HS.out.trans ((if_pos (by rw [HEE.out]; exact H0.out)).trans HEE.out))
          refine ⟨?_, rfl⟩
          unfold allV
          rw [hall, if_pos H0.out]
          rfl
    · have k1 : ¬ (k : Int) < len := by omega
      have HE0 := Lib.hid (show allE at_ ss = 0 by rw [HE.out, drop_end (by rw [HSL.out]; omega)]; rfl)
      go_wp2_with (fail)
      go_loopw [10, 11, 31] (fun b e i wy => ∃ k : Nat, k ≤ len ∧ i = .int .i64 k ∧ Hid (allN at_ ss = k + allN at_ (ss.drop k)) ∧ wy = wr) (fun b e i _ => len - (intOf i).toNat)
      case atStart => exact ⟨0, Nat.zero_le _, rfl, Lib.hid (by simp), rfl⟩
      case round =>
        obtain ⟨k, hk, rfl, HN, hwr⟩ := hrel
        subst hwr
        by_cases hlt : k < len
        · have k0 : (0 : Int) ≤ k := by omega
          have k1 : (k : Int) < len := by omega
          obtain ⟨x, hx⟩ : ∃ x, xs[k]? = some x := ⟨_, List.getElem?_eq_getElem (by rw [HL.out]; exact hlt)⟩
          obtain ⟨b, rfl, c0⟩ := HP.out k x hx
          rcases HB.out.2 k x hx with ⟨rfl, hs⟩ | ⟨q, p, m, r, s, rfl, hs, hat⟩
          · have HS := Lib.hid (show allN at_ (ss.drop k) = allN at_ (ss.drop (k + 1)) + 1 by rw [drop_at hs]; rfl)
            clear hs hx
            unfold ptrV at c0
            go_wp2_with (fail)
            exact ⟨⟨k + 1, by omega, by go_num, Lib.hid (by rw [HN.out, HS.out]; omega), by first | trivial | rfl⟩, by first | (simp [intOf]; done) | (simp [intOf]; omega)⟩
          · have HPS := Lib.hid (bpasses_any hat.cells at_)
            obtain ⟨A, hA⟩ : ∃ A, passB s at_ = A := ⟨_, rfl⟩
            rw [hA] at HPS
            have HAA := Lib.hid hA
            have HS := Lib.hid (show allN at_ (ss.drop k) = if passB s at_ then allN at_ (ss.drop (k + 1)) + 1 else 0 by rw [drop_at hs]; rfl)
            clear hs hx hA hat
            unfold ptrV at c0
            cases A with
            | true =>
              go_wp2_with (fail)
              refine HPS.out.mono ?_
              rintro e wq ⟨rfl, hq⟩
              rw [hq]
              clear hq
              go_wp2_with (fail)
              exact ⟨⟨k + 1, by omega, by go_num, Lib.hid (by rw [HN.out, HS.out, HAA.out, if_pos rfl]; omega), by first | trivial | rfl⟩, by first | (simp [intOf]; done) | (simp [intOf]; omega)⟩
            | false =>
              go_wp2_with (fail)
              refine HPS.out.mono ?_
              rintro e wq ⟨rfl, hq⟩
              rw [hq]
              clear hq
              go_wp2_with (fail)
              go_ret3
              have hall : allN at_ ss = k := by rw [HN.out, HS.out, HAA.out, if_neg (by simp)]; omega
              refine ⟨?_, rfl⟩
              unfold allV
              rw [if_neg (by rw [HE0.out]; simp), hall, HSL.out, decide_eq_false (by omega)]
              rfl
        · have k1 : ¬ (k : Int) < len := by omega
          have hkk : k = len := by omega
          subst hkk
          go_wp2_with (fail)
          go_ret3
          have hall : allN at_ ss = k := by rw [HN.out, drop_end (by rw [HSL.out]; omega)]; rfl
          refine ⟨?_, rfl⟩
          unfold allV
          rw [if_neg (by rw [HE0.out]; simp), hall, HSL.out, decide_eq_true rfl]
          rfl
end Go.Proofs.Ytlipbkpbflgamaa

/- Of some breakers: what the reference's All answers. -/
namespace Go.Proofs.Ytlipbkpbflgamaa
open Go.RowKit
set_option linter.unusedVariables false
set_option linter.unusedSimpArgs false

set_option maxHeartbeats 3200000 in
set_option maxRecDepth 100000 in
theorem r14all_any {w : World} {a : Option Addr} {len cap : Nat} {xs : List (Option Nat)} {ss : List (Option BrS)} (hp : PtrRow w a xs) (hb : RrsAt w xs ss) (hl : xs.length = len) (hm : len ≤ 1048576) (at_ : Int) :
    Calls Try.prog 9 #[.int .i64 at_, .slice a len cap] w fun e w' => e = .returned (allV at_ ss) ∧ w' = w := by
  have HP := Lib.hid hp
  have HB := Lib.hid hb
  have HL := Lib.hid hl
  have HSL := Lib.hid (show ss.length = len from hb.1.symm.trans hl)
  clear hp hb hl
  go_enter Try.func9, Try.ntmps9
  go_wp2_with (fail)
  go_loopw [7, 8, 9] (fun i b e wr => ∃ k : Nat, k ≤ len ∧ i = .int .i64 k ∧ Hid (allE at_ ss = allE at_ (ss.drop k)) ∧ wr = w) (fun i b e _ => len - (intOf i).toNat)
  case atStart => exact ⟨0, Nat.zero_le _, rfl, Lib.hid rfl, rfl⟩
  case round =>
    obtain ⟨k, hk, rfl, HE, hwr⟩ := hrel
    subst hwr
    by_cases hlt : k < len
    · have k0 : (0 : Int) ≤ k := by omega
      have k1 : (k : Int) < len := by omega
      obtain ⟨x, hx⟩ : ∃ x, xs[k]? = some x := ⟨_, List.getElem?_eq_getElem (by rw [HL.out]; exact hlt)⟩
      obtain ⟨b, rfl, c0⟩ := HP.out k x hx
      rcases HB.out.2 k x hx with ⟨rfl, hs⟩ | ⟨q, p, r, s, un, v, L, rfl, hs, hat⟩
      · have HS := Lib.hid (show allE at_ (ss.drop k) = allE at_ (ss.drop (k + 1)) by rw [drop_at hs]; rfl)
        clear hs hx
        unfold ptrV at c0
        go_wp2_with (fail)
        exact ⟨⟨k + 1, by omega, by go_num, Lib.hid (HE.out.trans HS.out), by first | trivial | rfl⟩, by first | (simp [intOf]; done) | (simp [intOf]; omega)⟩
      · have HLK := Lib.hid (r14look_any hat at_)
        generalize enterA s at_ = EA at HLK
        obtain ⟨E, hE⟩ : ∃ E, lookW s.la at_ = E := ⟨_, rfl⟩
        rw [hE] at HLK
        have HEE := Lib.hid hE
        have HS := Lib.hid (show allE at_ (ss.drop k) = if lookW s.la at_ ≠ 0 then lookW s.la at_ else allE at_ (ss.drop (k + 1)) by rw [drop_at hs]; rfl)
        clear hs hx hE hat
        unfold ptrV at c0
        by_cases h0 : E = 0
        · subst h0
          go_wp2_with (fail)
          refine HLK.out.mono ?_
          rintro e wq ⟨rfl, hq⟩
          rw [hq]
          clear hq
          go_wp2_with (fail)
          exact ⟨⟨k + 1, by omega, by go_num, Lib.hid (HE.out.trans (HS.out.trans (if_neg (by rw [HEE.out]; simp)))), by first | trivial | rfl⟩, by first | (simp [intOf]; done) | (simp [intOf]; omega)⟩
        · have hne : (E != 0) = true := by simpa using h0
          have H0 := Lib.hid h0
          clear h0
          go_wp2_with (fail)
          refine HLK.out.mono ?_
          rintro e wq ⟨rfl, hq⟩
          rw [hq]
          clear hq
          go_wp2_with (fail)
          go_ret3
          have hall : allE at_ ss = E := HE.out.trans (HS.out.trans ((if_pos (by rw [HEE.out]; exact H0.out)).trans HEE.out))
          refine ⟨?_, rfl⟩
          unfold allV
          rw [hall, if_pos H0.out]
          rfl
    · have k1 : ¬ (k : Int) < len := by omega
      have HE0 := Lib.hid (show allE at_ ss = 0 by rw [HE.out, drop_end (by rw [HSL.out]; omega)]; rfl)
      go_wp2_with (fail)
      clear k1 hlt hk HE
      go_loopw [10] (fun i wy => ∃ k : Nat, k ≤ len ∧ i = .int .i64 k ∧ Hid (allN at_ ss = k + allN at_ (ss.drop k)) ∧ wy = wr) (fun i _ => len - (intOf i).toNat)
      case atStart => exact ⟨0, Nat.zero_le _, rfl, Lib.hid (by simp), rfl⟩
      case round =>
        obtain ⟨k, hk, rfl, HN, hwr⟩ := hrel
        subst hwr
        by_cases hlt : k < len
        · have k0 : (0 : Int) ≤ k := by omega
          have k1 : (k : Int) < len := by omega
          obtain ⟨x, hx⟩ : ∃ x, xs[k]? = some x := ⟨_, List.getElem?_eq_getElem (by rw [HL.out]; exact hlt)⟩
          obtain ⟨b, rfl, c0⟩ := HP.out k x hx
          rcases HB.out.2 k x hx with ⟨rfl, hs⟩ | ⟨q, p, r, s, un, v, L, rfl, hs, hat⟩
          · have HS := Lib.hid (show allN at_ (ss.drop k) = allN at_ (ss.drop (k + 1)) + 1 by rw [drop_at hs]; rfl)
            clear hs hx
            unfold ptrV at c0
            go_wp2_with (fail)
            exact ⟨⟨k + 1, by omega, by go_num, Lib.hid (by rw [HN.out, HS.out]; omega), by first | trivial | rfl⟩, by first | (simp [intOf]; done) | (simp [intOf]; omega)⟩
          · have HPS := Lib.hid (r14passes_any hat.cells hat.un_ at_)
            obtain ⟨A, hA⟩ : ∃ A, passB s at_ = A := ⟨_, rfl⟩
            rw [hA] at HPS
            have HAA := Lib.hid hA
            have HS := Lib.hid (show allN at_ (ss.drop k) = if passB s at_ then allN at_ (ss.drop (k + 1)) + 1 else 0 by rw [drop_at hs]; rfl)
            clear hs hx hA hat
            unfold ptrV at c0
            cases A with
            | true =>
              go_wp2_with (fail)
              refine HPS.out.mono ?_
              rintro e wq ⟨rfl, hq⟩
              rw [hq]
              clear hq
              go_wp2_with (fail)
              exact ⟨⟨k + 1, by omega, by go_num, Lib.hid (by rw [HN.out, HS.out, HAA.out, if_pos rfl]; omega), by first | trivial | rfl⟩, by first | (simp [intOf]; done) | (simp [intOf]; omega)⟩
            | false =>
              go_wp2_with (fail)
              refine HPS.out.mono ?_
              rintro e wq ⟨rfl, hq⟩
              rw [hq]
              clear hq
              go_wp2_with (fail)
              go_ret3
              have hall : allN at_ ss = k := by rw [HN.out, HS.out, HAA.out, if_neg (by simp)]; omega
              refine ⟨?_, rfl⟩
              unfold allV
              rw [if_neg (by rw [HE0.out]; simp), hall, HSL.out, decide_eq_false (by omega)]
              rfl
        · have k1 : ¬ (k : Int) < len := by omega
          have hkk : k = len := by omega
          subst hkk
          go_wp2_with (fail)
          go_ret3
          have hall : allN at_ ss = k := by rw [HN.out, drop_end (by rw [HSL.out]; omega)]; rfl
          refine ⟨?_, rfl⟩
          unfold allV
          rw [if_neg (by rw [HE0.out]; simp), hall, HSL.out, decide_eq_true rfl]
          rfl
end Go.Proofs.Ytlipbkpbflgamaa

/- The law's pair: the program's breaker and the reference's stand alike. -/
namespace Go.Proofs.Ytlipbkpbflgamaa
open Go.RowKit
set_option linter.unusedVariables false
set_option linter.unusedSimpArgs false

structure BothK where
  q : Nat
  p : Nat
  m : Nat
  q' : Nat
  p' : Nat
  un : Int
  v : Value
  L : List Bk3
def BothK.own (k : BothK) (i : Nat) : Prop := BOwn k.q k.p k.m i ∨ R14Own k.q' k.p' k.v i
structure BothAt (w : World) (k : BothK) (r : BreakS) (s : BrS) (n : Nat) : Prop where
  br : BrAt w k.q k.p k.m r s
  rr : R14At w k.q' k.p' r s k.un k.v k.L
  dis : ∀ i, BOwn k.q k.p k.m i → ¬ R14Own k.q' k.p' k.v i
  one : OneL s.notes
  len : s.notes.length ≤ n
theorem BothAt.lt {w : World} {k : BothK} {r : BreakS} {s : BrS} {n : Nat} (h : BothAt w k r s n) {i : Nat} (hi : k.own i) : i < w.heap.size := by
  rcases hi with hi | hi
  · exact h.br.lt hi
  · exact h.rr.lt hi
theorem BothAt.kept {w w' : World} {k : BothK} {r : BreakS} {s : BrS} {n : Nat} (h : BothAt w k r s n) (hk : ∀ i, k.own i → w'.heap[i]? = w.heap[i]?) : BothAt w' k r s n :=
  ⟨h.br.kept (fun i hi => hk i (Or.inl hi)), h.rr.kept (fun i hi => hk i (Or.inr hi)), h.dis, h.one, h.len⟩
theorem BothAt.below {w w' : World} {k : BothK} {r : BreakS} {s : BrS} {n : Nat} (h : BothAt w k r s n) (hb : Below w.heap.size w w') : BothAt w' k r s n := h.kept (fun i hi => hb.block i (h.lt hi))
def bothV (k : BothK) : Value := .agg #[.pointer (some ⟨k.q, 0, none⟩), .pointer (some ⟨k.q', 0, none⟩)]
def bothO (k : BothK) : Obj := .cells #[.pointer (some ⟨k.q, 0, none⟩), .pointer (some ⟨k.q', 0, none⟩)] 39
set_option maxHeartbeats 6400000 in
set_option maxRecDepth 100000 in
theorem alike14_any {w : World} {k : BothK} {r : BreakS} {s : BrS} {n : Nat} (h : BothAt w k r s n) (at_ : Int) :
    Calls Try.prog 24 #[bothV k, .int .i64 at_] w fun e w' => e = .returned (.bool true) ∧ Below w.heap.size w w' := by
  obtain ⟨N, hN⟩ : ∃ N, w.heap.size = N := ⟨_, rfl⟩
  have HN := Lib.hid hN
  have hB : Below w.heap.size w (w.alloc (bothO k)) := (Below.refl _ _).alloc (Nat.le_refl _) _
  have HNW := Lib.hid (show (w.alloc (bothO k)).heap[w.heap.size]? = some (bothO k) from (get_allocW w _ w.heap.size).trans (if_pos rfl))
  have HB := Lib.hid hB
  have HH0 := Lib.hid (h.below hB)
  have HST := Lib.hid h.br.st
  have HSC := Lib.hid (fun wx (hx : BothAt wx k r s n) => bsum_any hx.br at_)
  have HSR := Lib.hid (fun wx (hx : BothAt wx k r s n) => r14sum_any hx.rr at_)
  clear h hB
  generalize hC : sumS r s at_ = C at HSC HSR
  clear hC
  obtain ⟨xp, xb, xd, xe, xr, xm⟩ := C
  unfold ctV at HSC HSR
  unfold bothV
  unfold bothO at HNW HB HH0
  dsimp only at HSC HSR
  go_enter Try.func24, Try.ntmps24
  go_wp2_with (fail)
  obtain ⟨w0, hw0⟩ : ∃ w0, w.alloc (.cells #[.pointer (some ⟨k.q, 0, none⟩), .pointer (some ⟨k.q', 0, none⟩)] 39) = w0 := ⟨_, rfl⟩
  rw [hw0] at HNW HB HH0 ⊢
  rw [hN] at HNW
  clear hw0 hN
  refine (HSC.out _ HH0.out).mono ?_
  rintro e w1 ⟨rfl, h1⟩
  have hb2 : Below w1.heap.size w1 (w1.alloc (ctO ⟨xp, xb, xd, xe, xr, xm⟩ 71)) := (Below.refl _ _).alloc (Nat.le_refl _) _
  have h2 := h1.trans (hb2.mono h1.size)
  have HH2 := Lib.hid (HH0.out.below h2)
  have HN2 := Lib.hid ((h2.block N (Array.getElem?_eq_some_iff.1 HNW.out).1).trans HNW.out)
  have HB2 := Lib.hid (HB.out.trans (h2.mono HB.out.size))
  have HC2 := Lib.hid ((get_allocW w1 (ctO ⟨xp, xb, xd, xe, xr, xm⟩ 71) w1.heap.size).trans (if_pos rfl))
  obtain ⟨N1, hN1⟩ : ∃ N1, w1.heap.size = N1 := ⟨_, rfl⟩
  rw [hN1] at HC2
  have d0 : (w1.alloc (ctO ⟨xp, xb, xd, xe, xr, xm⟩ 71)).cell? ⟨N, 0, none⟩ = some (.pointer (some ⟨k.q, 0, none⟩)) := by simp only [World.cell?, HN2.out]; rfl
  have d1 : (w1.alloc (ctO ⟨xp, xb, xd, xe, xr, xm⟩ 71)).cell? ⟨N, 1, none⟩ = some (.pointer (some ⟨k.q', 0, none⟩)) := by simp only [World.cell?, HN2.out]; rfl
  clear h1 hb2 h2 HNW HB HH0
  unfold ctO at HH2 HN2 HB2 HC2 d0 d1
  dsimp only at HH2 HN2 HB2 HC2 d0 d1
  go_wp2_with (fail)
  obtain ⟨w2, hw2⟩ : ∃ w2, w1.alloc (.cells #[.int .i64 xp, .int .i64 xb, .int .i64 xd, .int .i64 xe, .int .i64 xr, .int .i64 xm] 71) = w2 := ⟨_, rfl⟩
  rw [hw2] at HH2 HN2 HB2 HC2 ⊢
  clear hw2 d0 d1 hN1
  refine (HSR.out _ HH2.out).mono ?_
  rintro e w3 ⟨rfl, h3⟩
  have hb4 : Below w3.heap.size w3 (w3.alloc (ctO ⟨xp, xb, xd, xe, xr, xm⟩ 71)) := (Below.refl _ _).alloc (Nat.le_refl _) _
  have h4 := h3.trans (hb4.mono h3.size)
  have HH4 := Lib.hid (HH2.out.below h4)
  have HN4 := Lib.hid ((h4.block N (Array.getElem?_eq_some_iff.1 HN2.out).1).trans HN2.out)
  have HB4 := Lib.hid (HB2.out.trans (h4.mono HB2.out.size))
  have HC4 := Lib.hid ((h4.block N1 (Array.getElem?_eq_some_iff.1 HC2.out).1).trans HC2.out)
  have HD4 := Lib.hid ((get_allocW w3 (ctO ⟨xp, xb, xd, xe, xr, xm⟩ 71) w3.heap.size).trans (if_pos rfl))
  obtain ⟨N3, hN3⟩ : ∃ N3, w3.heap.size = N3 := ⟨_, rfl⟩
  rw [hN3] at HD4
  have d0 : (w3.alloc (ctO ⟨xp, xb, xd, xe, xr, xm⟩ 71)).cell? ⟨N, 0, none⟩ = some (.pointer (some ⟨k.q, 0, none⟩)) := by simp only [World.cell?, HN4.out]; rfl
  have d1 : (w3.alloc (ctO ⟨xp, xb, xd, xe, xr, xm⟩ 71)).cell? ⟨N, 1, none⟩ = some (.pointer (some ⟨k.q', 0, none⟩)) := by simp only [World.cell?, HN4.out]; rfl
  clear h3 hb4 h4 HN2 HB2 HH2 HC2 HSC HSR
  unfold ctO at HH4 HN4 HB4 HC4 HD4 d0 d1
  dsimp only at HH4 HN4 HB4 HC4 HD4 d0 d1
  have HU := Lib.hid (buntil_any HH4.out.br)
  have HU2 := Lib.hid (r14until_any HH4.out.rr)
  have HLK := Lib.hid (blookp_any HH4.out.br at_)
  have HLK2 := Lib.hid (r14look_any HH4.out.rr at_)
  rw [show enterA s at_ = (decide (lookW s.la at_ = 0) && passB s at_) from rfl] at HLK2
  generalize (decide (lookW s.la at_ = 0) && passB s at_) = EA at HLK HLK2
  generalize lookW s.la at_ = LW at *
  generalize untilN s = UN at HU HU2
  generalize decide (s.st ≠ 1) = OPN at HU HU2
  go_wp2_with (fail)
  refine HU.out.mono ?_
  rintro e wq ⟨rfl, hq⟩
  rw [hq]
  clear hq HU
  go_wp2_with (fail)
  refine HU2.out.mono ?_
  rintro e wq ⟨rfl, hq⟩
  rw [hq]
  clear hq HU2
  go_wp2_with (fail)
  refine HLK.out.mono ?_
  rintro e wq ⟨rfl, hq⟩
  rw [hq]
  clear hq HLK
  go_wp2_with (fail)
  refine HLK2.out.mono ?_
  rintro e wq ⟨rfl, hq⟩
  rw [hq]
  clear hq HLK2
  go_wp2_with (fail)
  obtain ⟨w4, hw4⟩ : ∃ w4, w3.alloc (.cells #[.int .i64 xp, .int .i64 xb, .int .i64 xd, .int .i64 xe, .int .i64 xr, .int .i64 xm] 71) = w4 := ⟨_, rfl⟩
  rw [hw4] at HH4 HN4 HB4 HC4 HD4 d0 d1 ⊢
  clear hw4 hN3
  obtain ⟨⟨y0, y1, y2, y3, y4, y5⟩, yf⟩ := ct_cells (c := ⟨xp, xb, xd, xe, xr, xm⟩) HC4.out
  obtain ⟨⟨z0, z1, z2, z3, z4, z5⟩, zf⟩ := ct_cells (c := ⟨xp, xb, xd, xe, xr, xm⟩) HD4.out
  dsimp only at y0 y1 y2 y3 y4 y5 z0 z1 z2 z3 z4 z5
  have t8 := HH4.out.rr.cells.c8
  have t10 := HH4.out.rr.cells.c10
  have t11 := HH4.out.rr.cells.c11
  have hcv : IntKind.i64.wrap s.st = s.st := wrap_small _ (by rcases HST.out with h | h | h <;> omega) (by rcases HST.out with h | h | h <;> omega)
  have HS1 := Lib.hid (fun n => bstate_any (HH4.out.below (below_drewN (Below.refl _ w4) n)).br)
  have HS2 := Lib.hid (fun n => btrips_any (HH4.out.below (below_drewN (Below.refl _ w4) n)).br)
  have HS3 := Lib.hid (fun n => blast_any (HH4.out.below (below_drewN (Below.refl _ w4) n)).br)
  generalize s.st = T at *
  generalize s.tr = TR at *
  generalize s.la = LA at *
  clear yf zf
  go_quiet (first | (go_at_call 14; exact Calls.quiet_of_same (HS1.out _)) | (go_at_call 15; exact Calls.quiet_of_same (HS2.out _)) | (go_at_call 53; exact Calls.quiet_of_same (HS3.out _)))
  go_wp2_with (fail)
  go_ret
  exact ⟨rfl, below_drewN HB4.out _⟩
end Go.Proofs.Ytlipbkpbflgamaa
