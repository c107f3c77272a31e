/- guard: numbers of 192 bits; too many; the most that are not. -/
import Derived.Test.YtnobfmlfhaaghaaShelf
import Derived.Test.YtnobfmlfhaaghaaBits
import Derived.WalkKit
import Derived.WalkSpells
import Derived.WalkLawsBesides
import Derived.BigQuiet
import Derived.Deep.QuietTactic
import Derived.Deep.DeepCutAuto
import Derived.Deep.CutBlock
import Derived.Lib.Hide
import Derived.Below
import Derived.Laws.Rows
namespace Go.Proofs.Ytnobfmlfhaaghaa
open Go.RowKit
set_option linter.unusedVariables false
set_option linter.unusedSimpArgs false

/-- A number that is not below 0. -/
def up (n : Int) : Int := max n 0
theorem size_any (n : Int) (h0 : -9223372036854775808 ≤ n) (h1 : n ≤ 9223372036854775807) (w : World) : Calls Try.prog 44 #[.int .i64 n] w fun e w' => e = .returned (.int .u64 (up n)) ∧ w' = w := by
  unfold up
  by_cases h : 0 ≤ n
  · have hm : max n 0 = n := by omega
    have hm' : max 0 n = n := by omega
    go_enter Try.func44, Try.ntmps44
    go_wp2_with (fail)
    go_ret
    exact ⟨by first | rfl | (simp [hm]; done) | (simp [hm]; omega), rfl⟩
  · have hm : max n 0 = 0 := by omega
    go_enter Try.func44, Try.ntmps44
    go_wp2_with (fail)
    go_ret
    exact ⟨by first | rfl | (simp [hm]; done) | (simp [hm]; omega), rfl⟩

theorem words (a b c : Nat) (ha : a < 18446744073709551616) (hb : b < 18446744073709551616) (hc : c < 18446744073709551616) :
    let H := a * b / 18446744073709551616
    let L := a * b % 18446744073709551616
    let p1 := L * c / 18446744073709551616
    let p0 := L * c % 18446744073709551616
    let q1 := H * c / 18446744073709551616
    let q0 := H * c % 18446744073709551616
    q1 + (p1 + q0) / 18446744073709551616 < 18446744073709551616 ∧ (q1 + (p1 + q0) / 18446744073709551616) * 340282366920938463463374607431768211456 + (p1 + q0) % 18446744073709551616 * 18446744073709551616 + p0 = a * b * c := by
  intro H L p1 p0 q1 q0
  have e1 : a * b = H * 18446744073709551616 + L := by omega
  have e2 : L * c = p1 * 18446744073709551616 + p0 := by omega
  have e3 : H * c = q1 * 18446744073709551616 + q0 := by omega
  have e4 : a * b * c = H * c * 18446744073709551616 + L * c := by rw [e1, Nat.add_mul, Nat.mul_right_comm]
  have e5 : a * b * c < 340282366920938463463374607431768211456 * 18446744073709551616 := by
    have h1 : a * b < 340282366920938463463374607431768211456 := by
      calc a * b ≤ 18446744073709551615 * 18446744073709551615 := Nat.mul_le_mul (by omega) (by omega)
        _ < _ := by decide
    calc a * b * c ≤ 340282366920938463463374607431768211455 * 18446744073709551615 := Nat.mul_le_mul (by omega) (by omega)
      _ < _ := by decide
  generalize a * b * c = X at *
  generalize H * c = Y at *
  generalize L * c = Z at *
  clear_value H L p1 p0 q1 q0
  omega

/-- What the words of a product of three are. -/
def Words (a b c : Nat) (e : Ending) : Prop :=
  ∃ w2 w1 w0 : Nat, e = .returned (.agg #[.int .u64 w2, .int .u64 w1, .int .u64 w0]) ∧ w2 < 18446744073709551616 ∧ w1 < 18446744073709551616 ∧ w0 < 18446744073709551616 ∧ w2 * 340282366920938463463374607431768211456 + w1 * 18446744073709551616 + w0 = a * b * c

set_option maxHeartbeats 3200000 in
theorem product_any (a b c : Nat) (ha : a < 18446744073709551616) (hb : b < 18446744073709551616) (hc : c < 18446744073709551616) (w : World) :
    Calls Try.prog 43 #[.int .u64 a, .int .u64 b, .int .u64 c] w fun e w' => Words a b c e ∧ Below w.heap.size w w' := by
  obtain ⟨hlt, hsum⟩ := words a b c ha hb hc
  have hL : a * b % 18446744073709551616 < 18446744073709551616 := by omega
  have hH : a * b / 18446744073709551616 < 18446744073709551616 := by
    apply Nat.div_lt_of_lt_mul
    calc a * b ≤ 18446744073709551615 * 18446744073709551615 := Nat.mul_le_mul (by omega) (by omega)
      _ < _ := by decide
  have HM1 := Lib.hid (fun w => Try.bits_Mul64 a b ha hb w)
  generalize a * b / 18446744073709551616 = H at *
  generalize a * b % 18446744073709551616 = L at *
  have HM2 := Lib.hid (fun w => Try.bits_Mul64 L c hL hc w)
  have HM3 := Lib.hid (fun w => Try.bits_Mul64 H c hH hc w)
  have hp0 : L * c % 18446744073709551616 < 18446744073709551616 := by omega
  have hq0 : H * c % 18446744073709551616 < 18446744073709551616 := by omega
  have hp1 : L * c / 18446744073709551616 < 18446744073709551616 := by
    apply Nat.div_lt_of_lt_mul
    calc L * c ≤ 18446744073709551615 * 18446744073709551615 := Nat.mul_le_mul (by omega) (by omega)
      _ < _ := by decide
  generalize L * c / 18446744073709551616 = p1 at *
  generalize L * c % 18446744073709551616 = p0 at *
  generalize H * c / 18446744073709551616 = q1 at *
  generalize H * c % 18446744073709551616 = q0 at *
  have hA := fun w => add64 p1 q0 0 (by omega) (by omega) (by omega) (by omega) w
  obtain ⟨M, hM⟩ : ∃ M : Nat, (p1 + q0) % 18446744073709551616 = M := ⟨_, rfl⟩
  obtain ⟨C, hC⟩ : ∃ C : Nat, (p1 + q0) / 18446744073709551616 = C := ⟨_, rfl⟩
  have hM' : ((p1 : Int) + q0 + 0) % 18446744073709551616 = (M : Int) := by omega
  have hC' : ((p1 : Int) + q0 + 0) / 18446744073709551616 = (C : Int) := by omega
  rw [hM', hC'] at hA
  rw [hM, hC] at hsum
  rw [hC] at hlt
  have hMl : M < 18446744073709551616 := by omega
  have hwr : ((q1 : Int) + C) % 18446744073709551616 = ((q1 + C : Nat) : Int) := by omega
  have HX := Lib.hid hsum
  clear hM hC hM' hC' hsum hL hH ha hb hc
  go_enter Try.func43, Try.ntmps43
  go_wp2_with (fail)
  refine (HM1.out _).mono ?_
  rintro e w1 ⟨rfl, rfl⟩
  go_wp2_with (fail)
  refine (HM2.out _).mono ?_
  rintro e w1 ⟨rfl, rfl⟩
  go_wp2_with (fail)
  refine (HM3.out _).mono ?_
  rintro e w1 ⟨rfl, rfl⟩
  go_wp2_with (fail)
  (try simp only [Exit.inBlock, Exit.then])
  refine bodyPost_ret (results_cell_row (P := Try.prog) rfl _ _ w.heap.size 78 #[.int .u64 ((q1 : Int) + C), .int .u64 M, .int .u64 p0] (0, 0) (.array 3 76) (by rfl) (heap_alloc_new w _) (by kernel_rfl) rfl (by kernel_rfl)) rfl ?_
  exact ⟨⟨q1 + C, M, p0, rfl, hlt, hMl, hp0, HX.out⟩, (Below.refl _ _).alloc (Nat.le_refl _) _⟩

theorem cmp_any (x y : Int) (w : World) : Calls Try.prog 73 #[.int .u64 x, .int .u64 y] w fun e w' => e = .returned (.int .i64 (if x < y then -1 else if y < x then 1 else 0)) ∧ w' = w := by
  have HN : Hid (∀ (x : Int) (w : World), Calls Try.prog 80 #[.int .u64 x] w fun e w' => e = .returned (.bool false) ∧ w' = w) := by
    intro x w
    have hx : (x != x) = false := by simp
    go_enter Try.func80, Try.ntmps80
    go_wp2_with (fail)
    go_ret
    exact ⟨by first | rfl | simp, rfl⟩
  by_cases h1 : x < y
  · go_enter Try.func73, Try.ntmps73
    go_wp2_with (fail)
    refine (HN.out _ _).mono ?_
    rintro e w1 ⟨rfl, rfl⟩
    go_wp2_with (fail)
    refine (HN.out _ _).mono ?_
    rintro e w1 ⟨rfl, rfl⟩
    go_wp2_with (fail)
    go_ret
    exact ⟨by simp [h1], rfl⟩
  · by_cases h2 : y < x
    · go_enter Try.func73, Try.ntmps73
      go_wp2_with (fail)
      refine (HN.out _ _).mono ?_
      rintro e w1 ⟨rfl, rfl⟩
      go_wp2_with (fail)
      refine (HN.out _ _).mono ?_
      rintro e w1 ⟨rfl, rfl⟩
      go_wp2_with (fail)
      go_ret
      exact ⟨by simp [h1, h2], rfl⟩
    · go_enter Try.func73, Try.ntmps73
      go_wp2_with (fail)
      refine (HN.out _ _).mono ?_
      rintro e w1 ⟨rfl, rfl⟩
      go_wp2_with (fail)
      refine (HN.out _ _).mono ?_
      rintro e w1 ⟨rfl, rfl⟩
      go_wp2_with (fail)
      go_ret
      exact ⟨by simp [h1, h2], rfl⟩

def cmp1 (x y : Int) : Int := if x < y then -1 else if y < x then 1 else 0
def cmpW : List Int → List Int → Int
  | x :: xs, y :: ys => if cmp1 x y = 0 then cmpW xs ys else cmp1 x y
  | _, _ => 0

set_option maxHeartbeats 1600000 in
theorem compare_any {w : World} (p q c d : Nat) (xs ys : List Int) (n : Nat) (hx : xs.length = n) (hy : ys.length = n) (hn : n ≤ 100)
    (cx : ∀ j, j < n → w.cell? ⟨p, j, none⟩ = some (.int .u64 (xs.getD j 0))) (cy : ∀ j, j < n → w.cell? ⟨q, j, none⟩ = some (.int .u64 (ys.getD j 0))) :
    Calls Try.prog 45 #[.slice (some ⟨p, 0, none⟩) n c, .slice (some ⟨q, 0, none⟩) n d] w fun e w' => e = .returned (.int .i64 (cmpW xs ys)) ∧ w' = w := by
  have HX := Lib.hid hx
  have HY := Lib.hid hy
  have CX := Lib.hid cx
  have CY := Lib.hid cy
  have HC := Lib.hid (fun x y w => cmp_any x y w)
  clear hx hy cx cy
  go_enter Try.func45, Try.ntmps45
  go_wp2_with (fail)
  go_loop [5, 6, 7, 8, 11] (fun x5 x6 x7 x8 i => ∃ k : Nat, k ≤ n ∧ i = .int .i64 k ∧ Hid (cmpW xs ys = cmpW (xs.drop k) (ys.drop k))) (fun _ _ _ _ i => n - (intOf i).toNat)
  case atStart => exact ⟨0, Nat.zero_le _, rfl, rfl⟩
  case round =>
    obtain ⟨k, hk, rfl, HA⟩ := hrel
    by_cases hlt : k < n
    · have d1 := CX.out k hlt
      have d2 := CY.out k hlt
      have hxk : k < xs.length := by rw [HX.out]; exact hlt
      have hyk : k < ys.length := by rw [HY.out]; exact hlt
      have hs : cmpW (xs.drop k) (ys.drop k) = if cmp1 (xs.getD k 0) (ys.getD k 0) = 0 then cmpW (xs.drop (k + 1)) (ys.drop (k + 1)) else cmp1 (xs.getD k 0) (ys.getD k 0) := by
        rw [List.drop_eq_getElem_cons hxk, List.drop_eq_getElem_cons hyk, cmpW]
        simp [List.getD, List.getElem?_eq_getElem hxk, List.getElem?_eq_getElem hyk]
      generalize xs.getD k 0 = X at d1 hs
      generalize ys.getD k 0 = Y at d2 hs
      have HCC := Lib.hid (HC.out X Y w)
      rw [show (if X < Y then (-1 : Int) else if Y < X then 1 else 0) = cmp1 X Y from rfl] at HCC
      have k0 : (0 : Int) ≤ k := by omega
      have k1 : (k : Int) < n := by omega
      have k2 : ¬ (n : Int) ≤ k := by omega
      have HS := Lib.hid hs
      clear hs
      generalize cmp1 X Y = C at HCC HS
      by_cases h0 : C = 0
      · subst h0
        have HT : Hid (cmpW xs ys = cmpW (xs.drop (k + 1)) (ys.drop (k + 1))) := by
          have := HA.out.trans HS.out
          rwa [if_pos rfl] at this
        go_wp2_with (fail)
        refine HCC.out.mono ?_
        rintro e w1 ⟨rfl, rfl⟩
        go_wp2_with (fail)
        exact ⟨⟨k + 1, by omega, by go_num, HT⟩, by first | (simp [intOf]; done) | (simp [intOf]; omega)⟩
      · have hne : (C != 0) = true := by simpa using h0
        have HT : Hid (cmpW xs ys = C) := by
          have := HA.out.trans HS.out
          rwa [if_neg h0] at this
        go_wp2_with (fail)
        refine HCC.out.mono ?_
        rintro e w1 ⟨rfl, rfl⟩
        go_wp2_with (fail)
        go_ret
        exact ⟨by rw [HT.out]; rfl, rfl⟩
    · have hkn : k = n := by omega
      have HT : Hid (cmpW xs ys = 0) := by
        have := HA.out
        rw [List.drop_eq_nil_of_le (by rw [HX.out]; omega)] at this
        simp only [cmpW] at this
        exact this
      have k1 : ¬ (k : Int) < n := by omega
      clear HA hkn
      go_wp2_with (fail)
      go_ret
      exact ⟨by rw [HT.out]; rfl, rfl⟩
end Go.Proofs.Ytnobfmlfhaaghaa
