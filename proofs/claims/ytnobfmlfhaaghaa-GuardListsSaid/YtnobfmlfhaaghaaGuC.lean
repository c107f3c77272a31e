/- guard: the most that are not too many; above. -/
import Derived.Test.YtnobfmlfhaaghaaGuB
import Derived.Test.YtnobfmlfhaaghaaRuC
namespace Go.Proofs.Ytnobfmlfhaaghaa
open Go.RowKit
set_option linter.unusedVariables false
set_option linter.unusedSimpArgs false

theorem get_allocG (w : World) (o : Obj) (i : Nat) : (w.alloc o).heap[i]? = if i = w.heap.size then some o else w.heap[i]? := by
  show (Array.push w.heap o)[i]? = _
  rw [Array.getElem?_push]

/-- The most that are not too many. -/
def capN (m l : Int) : Int := max 1 (min 4611686018427387904 (up m * 10 * up l / 1000000))
theorem up_nonneg (m l : Int) : 0 ≤ up m * 10 * up l := Int.mul_nonneg (Int.mul_nonneg (by unfold up; omega) (by omega)) (by unfold up; omega)
theorem too_cap (x m l : Int) (h1 : 1 ≤ x) (h2 : x ≤ 4611686018427387904) : tooB x m l = decide (capN m l < x) := by
  unfold tooB capN
  have h0 := up_nonneg m l
  generalize up m * 10 * up l = X at *
  by_cases h : 1 < x ∧ X < x * 1000000
  · rw [decide_eq_true h.1, decide_eq_true h.2, decide_eq_true (by omega)]; rfl
  · rw [decide_eq_false (show ¬ max 1 (min 4611686018427387904 (X / 1000000)) < x by omega)]
    by_cases h3 : 1 < x
    · rw [decide_eq_true h3, decide_eq_false (show ¬ X < x * 1000000 by omega)]; rfl
    · rw [decide_eq_false h3]; rfl

set_option maxHeartbeats 3200000 in
theorem capacity_any (m l : Int) (m0 : -9223372036854775808 ≤ m) (m1 : m ≤ 9223372036854775807) (l0 : -9223372036854775808 ≤ l) (l1 : l ≤ 9223372036854775807) (w : World) :
    Calls Try.prog 19 #[.int .i64 m, .int .i64 l] w fun e w' => e = .returned (.int .i64 (capN m l)) ∧ Below w.heap.size w w' := by
  have HT := Lib.hid (fun (x : Int) (x0 : 1 ≤ x) (x1 : x ≤ 4611686018427387904) (w : World) => toomany_any x m l (by omega) (by omega) m0 m1 l0 l1 w)
  have HTC := Lib.hid (fun x => too_cap x m l)
  have hC0 : 1 ≤ capN m l := by unfold capN; omega
  have hC1 : capN m l ≤ 4611686018427387904 := by unfold capN; omega
  generalize capN m l = C at *
  go_enter Try.func19, Try.ntmps19
  go_wp2_with (fail)
  go_loopw [5, 6, 7] (fun x y z wr => ∃ lo hi : Int, x = .int .i64 lo ∧ y = .int .i64 hi ∧ 1 ≤ lo ∧ lo ≤ C ∧ C ≤ hi ∧ hi ≤ 4611686018427387904 ∧ Hid (Below w.heap.size w wr)) (fun x y _ _ => (intOf y - intOf x).toNat)
  case atStart => exact ⟨1, 4611686018427387904, rfl, rfl, by omega, by omega, by omega, by omega, Below.refl _ _⟩
  case round =>
    rename World => wy
    obtain ⟨lo, hi, rfl, rfl, h1, h2, h3, h4, HB⟩ := hrel
    by_cases hlt : lo < hi
    · obtain ⟨D, hD⟩ : ∃ D, (hi - lo + 1).tdiv 2 = D := ⟨_, rfl⟩
      have hq : (hi - lo + 1).tdiv 2 = (hi - lo + 1) / 2 := Int.tdiv_eq_ediv_of_nonneg (by omega)
      obtain ⟨mid, hM⟩ : ∃ mid, lo + D = mid := ⟨_, rfl⟩
      have hml : lo < mid := by omega
      have hmh : mid ≤ hi := by omega
      have hD0 : 0 ≤ D := by omega
      have hD1 : D ≤ hi := by omega
      have HX := Lib.hid (HT.out mid (by omega) (by omega) wy)
      rw [HTC.out mid (by omega) (by omega)] at HX
      have hbz := HB.out.size
      clear hq
      by_cases hc : C < mid
      · rw [decide_eq_true hc] at HX
        go_wp2_with (fail)
        refine HX.out.mono ?_
        rintro e wb ⟨rfl, hb⟩
        have HB2 := Lib.hid (HB.out.trans (hb.mono HB.out.size))
        clear hb
        go_wp2_with (fail)
        exact ⟨⟨lo, mid - 1, rfl, rfl, by omega, by omega, by omega, by omega, HB2⟩, by simp only [intOf]; omega⟩
      · rw [decide_eq_false hc] at HX
        go_wp2_with (fail)
        refine HX.out.mono ?_
        rintro e wb ⟨rfl, hb⟩
        have HB2 := Lib.hid (HB.out.trans (hb.mono HB.out.size))
        clear hb
        go_wp2_with (fail)
        exact ⟨⟨mid, hi, rfl, rfl, by omega, by omega, by omega, by omega, HB2⟩, by simp only [intOf]; omega⟩
    · have hC : Hid (C = lo) := by show C = lo; omega
      go_wp2_with (fail)
      go_ret
      exact ⟨by rw [hC.out]; rfl, HB.out⟩

def aboveB (a b limit : Int) : Bool := (limit != -1) && decide (limit - b < a)
theorem above_any (a b l : Int) (b0 : 0 ≤ b) (b1 : b ≤ 1099511627776) (l0 : -1 ≤ l) (l1 : l ≤ 1099511627776) (w : World) : Calls Try.prog 56 #[.int .i64 a, .int .i64 b, .int .i64 l] w fun e w' => e = .returned (.bool (aboveB a b l)) ∧ w' = w := by
  unfold aboveB
  by_cases h : l = -1
  · subst h
    go_enter Try.func56, Try.ntmps56
    go_wp2_with (fail)
    go_ret
    exact ⟨rfl, rfl⟩
  · have hn : (l != -1) = true := by simpa using h
    rw [hn]
    by_cases h2 : l - b < a
    · go_enter Try.func56, Try.ntmps56
      go_wp2_with (fail)
      go_ret
      exact ⟨by rw [decide_eq_true h2]; rfl, rfl⟩
    · go_enter Try.func56, Try.ntmps56
      go_wp2_with (fail)
      go_ret
      exact ⟨by rw [show decide (l - b < a) = false from decide_eq_false (by omega)]; rfl, rfl⟩

/-- A system rule; what is so now. -/
structure SysS where
  qps : Int
  thr : Int
  rt : Int
  load : Int
  cpu : Int
structure NowS where
  qps : Int
  thr : Int
  rt : Int
  load : Int
  cpu : Int
  most : Int
  least : Int
def SysS.l (r : SysS) : List Int := [r.qps, r.thr, r.rt, r.load, r.cpu]
def NowS.l (n : NowS) : List Int := [n.qps, n.thr, n.rt, n.load, n.cpu, n.most, n.least]
def SysS.c (r : SysS) : Array Value := #[.int .i64 r.qps, .int .i64 r.thr, .int .i64 r.rt, .int .i64 r.load, .int .i64 r.cpu]
def NowS.c (n : NowS) : Array Value := #[.int .i64 n.qps, .int .i64 n.thr, .int .i64 n.rt, .int .i64 n.load, .int .i64 n.cpu, .int .i64 n.most, .int .i64 n.least]
def sysOne (n : Int) : Bool := decide (-1 ≤ n) && decide (n ≤ 1099511627776)
def sysOk (r : SysS) : Bool := r.l.all sysOne
def sysE (r : SysS) : Int := if sysOk r then 0 else 33
def nowOne (n : Int) : Bool := !(decide (n < 0) || decide (4611686018427387904 < n))
def allN (xs : List Int) : Bool := xs.all nowOne
def nowOk (n : NowS) : Bool := allN n.l

theorem all_step {p : Int → Bool} {xs : List Int} {k : Nat} (hk : k < xs.length) (h : (xs.take k).all p = true) : (xs.take (k + 1)).all p = p (xs.getD k 0) := by
  rw [List.take_add_one, List.getElem?_eq_getElem hk, Option.toList_some, List.all_append, h]
  simp [List.getD, List.getElem?_eq_getElem hk]
theorem all_false {p : Int → Bool} {xs : List Int} {k : Nat} (h : (xs.take k).all p = false) : xs.all p = false := by
  rw [← List.take_append_drop k xs, List.all_append, h]; rfl

set_option maxHeartbeats 3200000 in
theorem sysrule_any (r : SysS) (w : World) : Calls Try.prog 49 #[.agg r.c] w fun e w' => e = .returned (.int .i64 (sysE r)) ∧ Below w.heap.size w w' := by
  have HW := Lib.hid (fun n w => within_any n (-1) 1099511627776 w)
  have hL : r.l.length = 5 := rfl
  have hb : Below w.heap.size w ((w.alloc (.cells r.c 23)).alloc (.cells r.c 3)) := ((Below.refl _ _).alloc (Nat.le_refl _) _).alloc (by simp) _
  have HB := Lib.hid hb
  have hg : ((w.alloc (.cells r.c 23)).alloc (.cells r.c 3)).heap[w.heap.size + 1]? = some (.cells r.c 3) := by simp only [get_allocG, World.size_alloc, if_true]
  have hc : ∀ j, j < 5 → ((w.alloc (.cells r.c 23)).alloc (.cells r.c 3)).cell? ⟨w.heap.size + 1, j, none⟩ = some (.int .i64 (r.l.getD j 0)) := by
    intro j hj
    simp only [World.cell?, hg]
    match j, hj with
    | 0, _ => rfl
    | 1, _ => rfl
    | 2, _ => rfl
    | 3, _ => rfl
    | 4, _ => rfl
  have HC := Lib.hid hc
  have hOK : sysOk r = r.l.all sysOne := rfl
  have HOK := Lib.hid hOK
  obtain ⟨RC, hRC⟩ : ∃ RC, r.l = RC := ⟨_, rfl⟩
  rw [hRC] at HC HOK hL
  have HL := Lib.hid hL
  clear hb hg hc hOK hRC hL
  obtain ⟨q, t, rt, lo, cp⟩ := r
  unfold SysS.c at *
  dsimp only at *
  go_enter Try.func49, Try.ntmps49
  go_wp2_with (fail)
  go_loop [4, 17] (fun x i => ∃ k : Nat, k ≤ 5 ∧ i = .int .i64 k ∧ Hid ((RC.take k).all sysOne = true)) (fun _ i => 5 - (intOf i).toNat)
  case atStart => exact ⟨0, Nat.zero_le _, rfl, rfl⟩
  case round =>
    obtain ⟨k, hk, rfl, HA⟩ := hrel
    by_cases hlt : k < 5
    · have d1 := HC.out k hlt
      have hs := all_step (p := sysOne) (xs := RC) (k := k) (by rw [HL.out]; exact hlt) HA.out
      have k0 : (0 : Int) ≤ k := by omega
      have k1 : (k : Int) < 5 := by omega
      generalize RC.getD k 0 = X at d1 hs
      have HX := Lib.hid (HW.out X ((w.alloc (.cells #[.int .i64 q, .int .i64 t, .int .i64 rt, .int .i64 lo, .int .i64 cp] 23)).alloc (.cells #[.int .i64 q, .int .i64 t, .int .i64 rt, .int .i64 lo, .int .i64 cp] 3)))
      have hso : (decide (-1 ≤ X) && decide (X ≤ 1099511627776)) = sysOne X := rfl
      rw [hso] at HX
      clear hso
      cases hx : sysOne X
      · rw [hx] at HX hs
        have HF := Lib.hid (all_false hs)
        clear hs hx
        go_wp2_with (fail)
        refine HX.out.mono ?_
        rintro e wq ⟨rfl, hq⟩
        subst hq
        go_wp2_with (fail)
        go_ret
        exact ⟨by unfold sysE; rw [HOK.out, HF.out]; rfl, HB.out⟩
      · rw [hx] at HX hs
        have HS := Lib.hid hs
        clear hs hx
        go_wp2_with (fail)
        refine HX.out.mono ?_
        rintro e wq ⟨rfl, hq⟩
        subst hq
        go_wp2_with (fail)
        exact ⟨⟨k + 1, by omega, by go_num, HS⟩, by first | (simp [intOf]; done) | (simp [intOf]; omega)⟩
    · have hall : Hid (RC.all sysOne = true) := by
        have h1 := HA.out
        rw [List.take_of_length_le (by rw [HL.out]; omega)] at h1
        exact h1
      have k1 : ¬ (k : Int) < 5 := by omega
      clear HA
      go_wp2_with (fail)
      go_ret
      exact ⟨by unfold sysE; rw [HOK.out, hall.out]; rfl, HB.out⟩

theorem right1_any (n : Int) (w : World) : Calls Try.prog 78 #[.int .i64 n] w fun e w' => e = .returned (.bool (!nowOne n)) ∧ w' = w := by
  unfold nowOne
  by_cases h : n < 0
  · go_enter Try.func78, Try.ntmps78
    go_wp2_with (fail)
    go_ret
    exact ⟨by first | rfl | (rw [decide_eq_true h]; rfl), rfl⟩
  · by_cases h2 : 4611686018427387904 < n
    · go_enter Try.func78, Try.ntmps78
      go_wp2_with (fail)
      go_ret
      exact ⟨by first | rfl | (rw [show decide (n < 0) = false from decide_eq_false (by omega), decide_eq_true h2]; rfl), rfl⟩
    · go_enter Try.func78, Try.ntmps78
      go_wp2_with (fail)
      go_ret
      exact ⟨by first | rfl | (rw [show decide (n < 0) = false from decide_eq_false (by omega), show decide (4611686018427387904 < n) = false from decide_eq_false (by omega)]; rfl), rfl⟩

set_option maxHeartbeats 1600000 in
theorem indexnow_any {w : World} (g len cap : Nat) (xs : List Int) (hl : xs.length = len) (hm : len ≤ 1000) (hc : ∀ j, j < len → w.cell? ⟨g, j, none⟩ = some (.int .i64 (xs.getD j 0))) :
    Calls Try.prog 86 #[.slice (some ⟨g, 0, none⟩) len cap, .func (.func 78) #[] #[]] w fun e w' => (∃ n : Int, e = .returned (.int .i64 n) ∧ ((n = -1 ∧ allN xs = true) ∨ (0 ≤ n ∧ allN xs = false))) ∧ w' = w := by
  have Hl := Lib.hid hl
  have HC := Lib.hid hc
  clear hl hc
  go_enter Try.func86, Try.ntmps86
  go_wp2_with (fail)
  go_loop [5, 8] (fun x i => ∃ k : Nat, k ≤ len ∧ i = .int .i64 k ∧ Hid ((xs.take k).all nowOne = true)) (fun _ i => len - (intOf i).toNat)
  case atStart => exact ⟨0, Nat.zero_le _, rfl, rfl⟩
  case round =>
    obtain ⟨k, hk, rfl, HA⟩ := hrel
    by_cases hlt : k < len
    · have d1 := HC.out k hlt
      have hs := all_step (p := nowOne) (xs := xs) (k := k) (by rw [Hl.out]; exact hlt) HA.out
      generalize xs.getD k 0 = X at d1 hs
      have HX := Lib.hid (right1_any X w)
      have k0 : (0 : Int) ≤ k := by omega
      have k1 : (k : Int) < len := by omega
      cases hx : nowOne X
      · rw [hx] at HX hs
        have HF := Lib.hid (all_false hs)
        clear hs hx
        go_wp2_with (fail)
        refine HX.out.mono ?_
        rintro e w1 ⟨rfl, rfl⟩
        go_wp2_with (fail)
        go_ret
        exact ⟨⟨k, rfl, Or.inr ⟨k0, HF.out⟩⟩, rfl⟩
      · rw [hx] at HX hs
        have HS := Lib.hid hs
        clear hs hx
        go_wp2_with (fail)
        refine HX.out.mono ?_
        rintro e w1 ⟨rfl, rfl⟩
        go_wp2_with (fail)
        exact ⟨⟨k + 1, by omega, by go_num, HS⟩, by first | (simp [intOf]; done) | (simp [intOf]; omega)⟩
    · have hall : Hid (xs.all nowOne = true) := by
        have h1 := HA.out
        rw [List.take_of_length_le (by rw [Hl.out]; omega)] at h1
        exact h1
      have k1 : ¬ (k : Int) < len := by omega
      go_wp2_with (fail)
      go_ret
      exact ⟨⟨-1, rfl, Or.inl ⟨rfl, hall.out⟩⟩, rfl⟩

set_option maxHeartbeats 1600000 in
theorem containsnow_any {w : World} (g len cap : Nat) (xs : List Int) (hl : xs.length = len) (hm : len ≤ 1000) (hc : ∀ j, j < len → w.cell? ⟨g, j, none⟩ = some (.int .i64 (xs.getD j 0))) :
    Calls Try.prog 77 #[.slice (some ⟨g, 0, none⟩) len cap, .func (.func 78) #[] #[]] w fun e w' => e = .returned (.bool (!allN xs)) ∧ w' = w := by
  have HI := Lib.hid (indexnow_any g len cap xs hl hm hc)
  clear hl hc
  generalize allN xs = A at *
  go_enter Try.func77, Try.ntmps77
  go_wp2_with (fail)
  refine HI.out.mono ?_
  rintro e w1 ⟨⟨n, rfl, (⟨rfl, rfl⟩ | ⟨n0, rfl⟩)⟩, rfl⟩
  · go_wp2_with (fail)
    go_ret
    exact ⟨rfl, rfl⟩
  · go_wp2_with (fail)
    go_ret
    exact ⟨rfl, rfl⟩

set_option maxHeartbeats 3200000 in
theorem right_any (r : NowS) (w : World) : Calls Try.prog 50 #[.agg r.c] w fun e w' => e = .returned (.bool (nowOk r)) ∧ Below w.heap.size w w' := by
  have hb : Below w.heap.size w ((w.alloc (.cells r.c 29)).alloc (.cells r.c 3)) := ((Below.refl _ _).alloc (Nat.le_refl _) _).alloc (by simp) _
  have HB := Lib.hid hb
  have hg : ((w.alloc (.cells r.c 29)).alloc (.cells r.c 3)).heap[w.heap.size + 1]? = some (.cells r.c 3) := by simp only [get_allocG, World.size_alloc, if_true]
  have hc : ∀ j, j < 7 → ((w.alloc (.cells r.c 29)).alloc (.cells r.c 3)).cell? ⟨w.heap.size + 1, j, none⟩ = some (.int .i64 (r.l.getD j 0)) := by
    intro j hj
    simp only [World.cell?, hg]
    match j, hj with
    | 0, _ => rfl
    | 1, _ => rfl
    | 2, _ => rfl
    | 3, _ => rfl
    | 4, _ => rfl
    | 5, _ => rfl
    | 6, _ => rfl
  have HC := Lib.hid (containsnow_any (w := (w.alloc (.cells r.c 29)).alloc (.cells r.c 3)) (w.heap.size + 1) 7 7 r.l rfl (by omega) hc)
  have hOK : nowOk r = allN r.l := rfl
  rw [← hOK] at HC
  clear hb hg hc hOK
  generalize nowOk r = OK at *
  obtain ⟨q, t, rt, lo, cp, mo, le⟩ := r
  unfold NowS.c at *
  dsimp only at *
  cases OK
  · go_enter Try.func50, Try.ntmps50
    go_wp2_with (fail)
    refine HC.out.mono ?_
    rintro e wq ⟨rfl, hq⟩
    subst hq
    go_wp2_with (fail)
    go_ret
    exact ⟨rfl, HB.out⟩
  · go_enter Try.func50, Try.ntmps50
    go_wp2_with (fail)
    refine HC.out.mono ?_
    rintro e wq ⟨rfl, hq⟩
    subst hq
    go_wp2_with (fail)
    go_ret
    exact ⟨rfl, HB.out⟩
end Go.Proofs.Ytnobfmlfhaaghaa
