/- NumKept: the walk. -/
import Derived.Test.YtdglclgjiilfkaaLawLists
namespace Go.Proofs.Ytdglclgjiilfkaa
open Go.RowKit
set_option linter.unusedVariables false
set_option linter.unusedSimpArgs false

theorem foldl_from (l : List Int) : ∀ s : Int, l.foldl (fun s n => s + n) s = s + l.foldl (fun s n => s + n) 0 := by
  induction l with
  | nil => intro s; simp
  | cons x l ih => intro s; simp only [List.foldl_cons]; rw [ih (s + x), ih (0 + x)]; omega
theorem sumI_cons (x : Int) (l : List Int) : sumI (x :: l) = x + sumI l := by
  simp only [sumI, List.foldl_cons]; rw [foldl_from]; omega
theorem sumI_ge (xs : List Int) (c : Int) (h : ∀ x ∈ xs, c ≤ x) : (xs.length : Int) * c ≤ sumI xs := by
  induction xs with
  | nil => simp [sumI]
  | cons x l ih =>
    rw [sumI_cons, List.length_cons]
    have h1 := ih (fun y hy => h y (by simp [hy]))
    have h2 := h x (by simp)
    rw [Int.natCast_add, Int.add_mul]; simp; omega
theorem sumI_le (xs : List Int) (c : Int) (h : ∀ x ∈ xs, x ≤ c) : sumI xs ≤ (xs.length : Int) * c := by
  induction xs with
  | nil => simp [sumI]
  | cons x l ih =>
    rw [sumI_cons, List.length_cons]
    have h1 := ih (fun y hy => h y (by simp [hy]))
    have h2 := h x (by simp)
    rw [Int.natCast_add, Int.add_mul]; simp; omega

/-- The mean of a list lies between the least and the greatest, and fits. -/
theorem mean_between (xs : List Int) (hx : I64s xs) (h0 : 0 < xs.length) :
    fitB ((sumI xs).fdiv xs.length) = true ∧ xs.any (fun x => decide (x ≤ (sumI xs).fdiv xs.length)) = true ∧ xs.any (fun x => decide ((sumI xs).fdiv xs.length ≤ x)) = true := by
  rw [Int.fdiv_eq_ediv_of_nonneg _ (by omega)]
  have a1 := Int.mul_ediv_add_emod (sumI xs) xs.length
  have a2 := Int.emod_nonneg (sumI xs) (show (xs.length : Int) ≠ 0 by omega)
  have a3 := Int.emod_lt_of_pos (sumI xs) (show (0 : Int) < xs.length by omega)
  generalize hm : sumI xs / (xs.length : Int) = m at *
  have b1 := sumI_ge xs (-9223372036854775808) (fun x h => (hx x h).1)
  have b2 := sumI_le xs 9223372036854775807 (fun x h => (hx x h).2)
  refine ⟨?_, ?_, ?_⟩
  · apply fitB_yes
    · rw [← hm]; apply Int.le_ediv_of_mul_le (by omega); rw [Int.mul_comm]; exact b1
    · have : m < 9223372036854775808 := by
        rw [← hm]; apply Int.ediv_lt_of_lt_mul (by omega); rw [Int.mul_comm]; omega
      omega
  · apply Classical.byContradiction; intro hn
    have hall : ∀ x ∈ xs, m + 1 ≤ x := by
      intro x hxm
      apply Classical.byContradiction; intro hlt
      exact hn (List.any_eq_true.2 ⟨x, hxm, by simp; omega⟩)
    have c1 := sumI_ge xs (m + 1) hall
    rw [Int.mul_add, Int.mul_one] at c1
    omega
  · apply Classical.byContradiction; intro hn
    have hall : ∀ x ∈ xs, x ≤ m - 1 := by
      intro x hxm
      apply Classical.byContradiction; intro hlt
      exact hn (List.any_eq_true.2 ⟨x, hxm, by simp; omega⟩)
    have c1 := sumI_le xs (m - 1) hall
    rw [Int.mul_sub, Int.mul_one] at c1
    omega
theorem any_step (xs : List Int) (f : Int → Bool) (k : Nat) (h : k < xs.length) : (xs.take (k + 1)).any f = ((xs.take k).any f || f (xs.getD k 0)) := by
  rw [take_snoc_getD xs k h, List.any_append]; simp
theorem keepSum_two (a b : Int) (h : -9223372036854775808 ≤ a ∧ a ≤ 9223372036854775807) : keepSum [a, b] = keep (a + b) := by
  simp only [keepSum, List.foldl_cons, List.foldl_nil, Int.zero_add]
  rw [keep_fit (fitB_yes h.1 h.2)]

/-- Two int64 behind each other in a new block read as a list. -/
theorem two_at (w : World) (a b : Int) : IntsAt (w.alloc (.cells #[.int .i64 a, .int .i64 b] 3)) (some ⟨w.heap.size, 0, none⟩) [a, b] :=
  Or.inr ⟨_, 0, rfl, by simp, fun j hj => by
    have : j = 0 ∨ j = 1 := by simp at hj; omega
    rcases this with rfl | rfl <;> simp [go_sem]⟩

set_option maxHeartbeats 1600000 in
theorem fit_or (v : Int) : ((fitE v == 0) = true ∧ fitN v = keep v) ∨ (fitE v == 0) = false := by
  cases h : fitB v with
  | true => left; rw [fitE_yes h, fitN_yes h, keep_fit h]; exact ⟨rfl, rfl⟩
  | false => right; rw [fitE_no h]; rfl

set_option maxHeartbeats 3200000 in
theorem kept_walk (w : World) (p : Option Addr) (len cap : Nat) (xs : List Int) (hl : xs.length = len) (hm : len * 8 ≤ 140737488351232) (hx : I64s xs) (hr : IntsAt w p xs) (h0 : 0 < len → p ≠ none) (hn : p = none → cap = 0) (a : Int) (wa : (Lit.int .i64 a).wf = true) (b : Int) (wb : (Lit.int .i64 b).wf = true) :
    Calls Try.prog 8 #[.slice p len cap, .int .i64 a, .int .i64 b] w fun e w' => e = .returned (.bool true) ∧ Below w.heap.size w w' := by
  obtain ⟨a0, a1⟩ := wf64 wa
  obtain ⟨b0, b1⟩ := wf64 wb
  clear wa wb h0 hn
  have hm' : len ≤ 140737488355328 := by omega
  have Hl := Lib.hid hl
  have Hr := Lib.hid hr
  have hT := keepSum_two a b ⟨a0, a1⟩
  have hS : I64s [a, b] := by intro x hx; simp at hx; rcases hx with rfl | rfl <;> omega
  have hadd := fun w => add_any a b w a0 a1 b0 b1
  have hmul := fun w => mul_any a b w a0 a1 b0 b1
  have fa := fit_or (a + b)
  have fm := fit_or (a * b)
  have hpl := fun (w : World) hr => plusl_any (some ⟨w.heap.size, 0, none⟩) 2 2 [a, b] (w.alloc (.cells #[.int .i64 a, .int .i64 b] 3)) hS rfl (by omega) hr
  have htm := fun w => times_any a b w a0 a1 b0 b1
  rw [hT] at hpl
  generalize fitN (a + b) = X at *
  generalize fitE (a + b) = E at *
  generalize fitN (a * b) = Y at *
  generalize fitE (a * b) = F at *
  generalize keep (a + b) = KX at *
  generalize keep (a * b) = KY at *
  have Hadd := Lib.hid hadd
  have Hmul := Lib.hid hmul
  have Fa := Lib.hid fa
  have Fm := Lib.hid fm
  have Hpl := Lib.hid hpl
  have Htm := Lib.hid htm
  clear hl hr hT hS hadd hmul fa fm hpl htm
  go_enter Try.func8, Try.ntmps8
  go_wp2_with (fail)
  refine (Hadd.out _).mono ?_
  rintro e w1 ⟨rfl, rfl⟩
  go_wp2_with (fail)
  refine (Hmul.out _).mono ?_
  rintro e w2 ⟨rfl, hb2⟩
  go_upto_region 3 with (fail)
  go_cut [48] from 28 to 47 (fun v wx => v = .bool false ∧ Below w.heap.size w wx)
  case first =>
    rcases Fa.out with ⟨e1, e2⟩ | e1
    · have n1 : (KX != X) = false := by rw [e2]; simp
      clear e2
      go_wp2_with (fail)
      refine (Hpl.out _ (two_at _ a b)).mono ?_
      rintro e w3 ⟨rfl, rfl⟩
      rcases Fm.out with ⟨f1, f2⟩ | f1
      · have n2 : (KY != Y) = false := by rw [f2]; simp
        clear f2
        go_wp2_with (fail)
        refine (Htm.out _).mono ?_
        rintro e w4 ⟨rfl, hb4⟩
        go_wp2_with (fail)
        go_meet
        exact ⟨rfl, (hb2.alloc hb2.size _).trans (hb4.mono (by have := hb2.size; simp; omega))⟩
      · go_wp2_with (fail)
        go_meet
        exact ⟨rfl, hb2.alloc hb2.size _⟩
    · rcases Fm.out with ⟨f1, f2⟩ | f1
      · have n2 : (KY != Y) = false := by rw [f2]; simp
        clear f2
        go_wp2_with (fail)
        refine (Htm.out _).mono ?_
        rintro e w4 ⟨rfl, hb4⟩
        go_wp2_with (fail)
        go_meet
        exact ⟨rfl, hb2.trans (hb4.mono hb2.size)⟩
      · go_wp2_with (fail)
        go_meet
        exact ⟨rfl, hb2⟩
  case rest =>
    obtain ⟨rfl, hbel⟩ := hcut
    by_cases hz : 0 < len
    · have hmb := mean_between xs hx (by rw [Hl.out]; exact hz)
      have e1 : mnN xs = (sumI xs).fdiv xs.length := by unfold mnN; rw [if_neg (by have := Hl.out; omega), fitN_yes hmb.1]
      have e2 : mnE xs = 0 := by unfold mnE; rw [if_neg (by have := Hl.out; omega), fitE_yes hmb.1]
      obtain ⟨m, hmm⟩ : ∃ m : Int, (sumI xs).fdiv xs.length = m := ⟨_, rfl⟩
      rw [hmm] at e1 hmb
      have Hu := Lib.hid hmb.2.1
      have Ho := Lib.hid hmb.2.2
      have E1 := Lib.hid e1
      have E2 := Lib.hid e2
      clear hmb hmm e1 e2
      go_wp2_with (fail)
      refine (mean_any p len cap xs _ hx Hl.out hm' (Hr.out.below hbel)).mono ?_
      rintro e w5 ⟨rfl, hb5⟩
      rw [E1.out, E2.out]
      have B5 := hbel.trans (hb5.mono hbel.size)
      have hr5 := Lib.hid (Hr.out.below B5)
      go_wp2_with (fail)
      go_loop [13, 14, 15] (fun u o i => ∃ k : Nat, k ≤ len ∧ i = .int .i64 k ∧ u = .bool ((xs.take k).any (fun x => decide (x ≤ m))) ∧ o = .bool ((xs.take k).any (fun x => decide (m ≤ x)))) (fun _ _ i => len - (intOf i).toNat)
      case atStart => exact ⟨0, Nat.zero_le _, rfl, rfl, rfl⟩
      case round =>
        obtain ⟨k, hk, rfl, rfl, rfl⟩ := hrel
        by_cases hlt : k < len
        · have s1 := Lib.hid (any_step xs (fun x => decide (x ≤ m)) k (by rw [Hl.out]; exact hlt))
          have s2 := Lib.hid (any_step xs (fun x => decide (m ≤ x)) k (by rw [Hl.out]; exact hlt))
          rcases hr5.out with h | ⟨b1, o1, rfl, hlt1, hc1⟩
          · exfalso; have := Hl.out; subst h; simp at this; omega
          · have d1 := hc1 k (by rw [Hl.out]; exact hlt)
            generalize hU : (xs.take k).any (fun x => decide (x ≤ m)) = U at *
            generalize hO : (xs.take k).any (fun x => decide (m ≤ x)) = O at *
            generalize xs.getD k 0 = Z at *
            clear hU hO hc1
            have k0 : (0 : Int) ≤ k := by omega
            have k1 : (k : Int) < len := by omega
            cases U <;> cases O
            all_goals
              go_wp2_with (fail)
              go_round
              case rel => exact ⟨k + 1, by omega, by go_num, by rw [s1.out]; simp, by rw [s2.out]; simp⟩
              case measure => simp [intOf]; omega
        · have hkl : k = len := by omega
          subst hkl
          have tk : xs.take k = xs := List.take_of_length_le (by rw [Hl.out]; exact Nat.le_refl _)
          rw [tk, Hu.out, Ho.out]
          clear tk
          go_wp2_with (fail)
          refine (live_any _).mono ?_
          rintro e w6 ⟨rfl, hb6⟩
          go_wp2_with (fail)
          go_ret
          exact ⟨rfl, B5.trans (hb6.mono B5.size)⟩
    · obtain rfl : len = 0 := by omega
      have E1 := Lib.hid (show mnE xs = 4 by simp [mnE, Hl.out])
      go_wp2_with (fail)
      refine (mean_any p 0 cap xs _ hx Hl.out hm' (Hr.out.below hbel)).mono ?_
      rintro e w5 ⟨rfl, hb5⟩
      rw [E1.out]
      go_wp2_with (fail)
      refine (live_any _).mono ?_
      rintro e w6 ⟨rfl, hb6⟩
      go_wp2_with (fail)
      go_ret
      have B5 := hbel.trans (hb5.mono hbel.size)
      exact ⟨rfl, B5.trans (hb6.mono B5.size)⟩
end Go.Proofs.Ytdglclgjiilfkaa
