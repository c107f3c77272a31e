/- guard: too many; the most that are not. -/
import Derived.Test.YtnobfmlfhaaghaaGuA
import Derived.Deep.RegionHeld3
namespace Go.Proofs.Ytnobfmlfhaaghaa
open Go.RowKit
set_option linter.unusedVariables false
set_option linter.unusedSimpArgs false

theorem cmp3 (a2 a1 a0 b2 b1 b0 : Nat) (ha1 : a1 < 18446744073709551616) (ha0 : a0 < 18446744073709551616) (hb1 : b1 < 18446744073709551616) (hb0 : b0 < 18446744073709551616) :
    (0 < cmpW [(a2 : Int), a1, a0] [(b2 : Int), b1, b0]) ↔ b2 * 340282366920938463463374607431768211456 + b1 * 18446744073709551616 + b0 < a2 * 340282366920938463463374607431768211456 + a1 * 18446744073709551616 + a0 := by
  simp only [cmpW, cmp1]
  repeat' split
  all_goals omega

/-- Are too many in flight? -/
def tooB (t m l : Int) : Bool := decide (1 < t) && decide (up m * 10 * up l < t * 1000000)

set_option maxHeartbeats 3200000 in
theorem toomany_any (t m l : Int) (t0 : -9223372036854775808 ≤ t) (t1 : t ≤ 9223372036854775807) (m0 : -9223372036854775808 ≤ m) (m1 : m ≤ 9223372036854775807) (l0 : -9223372036854775808 ≤ l) (l1 : l ≤ 9223372036854775807) (w : World) :
    Calls Try.prog 20 #[.int .i64 t, .int .i64 m, .int .i64 l] w fun e w' => e = .returned (.bool (tooB t m l)) ∧ Below w.heap.size w w' := by
  by_cases h : 1 < t
  · have hnt : ¬ t ≤ 1 := by omega
    obtain ⟨T, hT⟩ : ∃ T : Nat, up t = T := ⟨(up t).toNat, by unfold up; omega⟩
    obtain ⟨M, hM⟩ : ∃ M : Nat, up m = M := ⟨(up m).toNat, by unfold up; omega⟩
    obtain ⟨L, hL⟩ : ∃ L : Nat, up l = L := ⟨(up l).toNat, by unfold up; omega⟩
    have hTt : (T : Int) = t := by rw [← hT]; unfold up; omega
    have hTb : T < 18446744073709551616 := by omega
    have hMb : M < 18446744073709551616 := by have : (M : Int) ≤ 9223372036854775807 := by rw [← hM]; unfold up; omega
                                              omega
    have hLb : L < 18446744073709551616 := by have : (L : Int) ≤ 9223372036854775807 := by rw [← hL]; unfold up; omega
                                              omega
    have S1 := Lib.hid (fun w => size_any t t0 t1 w)
    have S2 := Lib.hid (fun w => size_any m m0 m1 w)
    have S3 := Lib.hid (fun w => size_any l l0 l1 w)
    rw [hT] at S1
    rw [hM] at S2
    rw [hL] at S3
    have P1 := Lib.hid (fun w => product_any T 1000000 1 hTb (by omega) (by omega) w)
    have P2 := Lib.hid (fun w => product_any M 10 L hMb (by omega) hLb w)
    have hB : tooB t m l = decide (M * 10 * L < T * 1000000 * 1) := by
      unfold tooB
      rw [hM, hL, ← hTt]
      have h1 : decide (1 < (T : Int)) = true := by rw [hTt]; simpa using h
      rw [h1, Bool.true_and]
      have e1 : ((M * 10 * L : Nat) : Int) = (M : Int) * 10 * L := by rw [Int.natCast_mul, Int.natCast_mul]; rfl
      rw [← e1]
      generalize M * 10 * L = X
      by_cases hx : X < T * 1000000 * 1
      · rw [decide_eq_true hx, decide_eq_true (by omega)]
      · rw [decide_eq_false hx, decide_eq_false (by omega)]
    have HBE := Lib.hid hB
    clear hT hM hL hTt hTb hMb hLb hB
    go_enter Try.func20, Try.ntmps20
    go_wp2_with (fail)
    refine (S1.out _).mono ?_
    rintro e w ⟨rfl, rfl⟩
    go_wp2_with (fail)
    refine (P1.out _).mono ?_
    rintro e w2 ⟨⟨a2, a1, a0, rfl, hx2, hx1, hx0, hxs⟩, hb1⟩
    have HB1 := Lib.hid hb1
    have HX := Lib.hid hxs
    clear hb1 hxs
    go_wp2_with (fail)
    refine (S2.out _).mono ?_
    rintro e wq ⟨rfl, hq⟩
    subst hq
    go_wp2_with (fail)
    refine (S3.out _).mono ?_
    rintro e wq ⟨rfl, hq⟩
    subst hq
    go_wp2_with (fail)
    refine (P2.out _).mono ?_
    rintro e w3 ⟨⟨b2, b1, b0, rfl, hy2, hy1, hy0, hys⟩, hb3⟩
    have HY := Lib.hid hys
    have hz2 : (w2.alloc (Obj.cells #[.int .u64 a2, .int .u64 a1, .int .u64 a0] 78)).heap.size = w2.heap.size + 1 := by simp
    have h2 : w3.heap[w2.heap.size]? = some (Obj.cells #[.int .u64 a2, .int .u64 a1, .int .u64 a0] 78) := (hb3.block _ (by omega)).trans (heap_alloc_new w2 _)
    have hb2' := HB1.out.alloc HB1.out.size (Obj.cells #[.int .u64 a2, .int .u64 a1, .int .u64 a0] 78)
    have hbw3 : Below w.heap.size w w3 := hb2'.trans (hb3.mono hb2'.size)
    have hp3 : w2.heap.size < w3.heap.size := by have := hb3.size; omega
    have HP3 := Lib.hid hp3
    have H2 := Lib.hid h2
    have HB3 := Lib.hid hbw3
    clear hys hz2 h2 hb2' hbw3 hp3 hb3
    go_wp2_with (fail)
    have h4 : (w3.alloc (Obj.cells #[.int .u64 b2, .int .u64 b1, .int .u64 b0] 78)).heap[w3.heap.size]? = some (Obj.cells #[.int .u64 b2, .int .u64 b1, .int .u64 b0] 78) := heap_alloc_new w3 _
    have h3 : (w3.alloc (Obj.cells #[.int .u64 b2, .int .u64 b1, .int .u64 b0] 78)).heap[w2.heap.size]? = some (Obj.cells #[.int .u64 a2, .int .u64 a1, .int .u64 a0] 78) := (Below.heap_alloc _ _ _ HP3.out).trans H2.out
    have HB4 := Lib.hid (HB3.out.alloc HB3.out.size (Obj.cells #[.int .u64 b2, .int .u64 b1, .int .u64 b0] 78))
    generalize (w3.alloc (Obj.cells #[.int .u64 b2, .int .u64 b1, .int .u64 b0] 78)) = w4 at *
    generalize w2.heap.size = p at *
    generalize w3.heap.size = q at *
    have SH := Lib.hid (show ∀ wx : World, Below w4.heap.size w4 wx → (fun wx => (wx.cell? ⟨p, 0, none⟩ = some (.int .u64 ((a2 : Nat) : Int)) ∧ wx.cell? ⟨p, 1, none⟩ = some (.int .u64 ((a1 : Nat) : Int)) ∧ wx.cell? ⟨p, 2, none⟩ = some (.int .u64 ((a0 : Nat) : Int)) ∧ wx.cell? ⟨q, 0, none⟩ = some (.int .u64 ((b2 : Nat) : Int)) ∧ wx.cell? ⟨q, 1, none⟩ = some (.int .u64 ((b1 : Nat) : Int)) ∧ wx.cell? ⟨q, 2, none⟩ = some (.int .u64 ((b0 : Nat) : Int))) ∧ Below w4.heap.size w4 wx) wx from fun wx hb => by
      have g1 := (hb.block p (Array.getElem?_eq_some_iff.1 h3).1).trans h3
      have g2 := (hb.block q (Array.getElem?_eq_some_iff.1 h4).1).trans h4
      refine ⟨?_, hb⟩
      simp only [World.cell?, g1, g2]
      exact ⟨rfl, rfl, rfl, rfl, rfl, rfl⟩)
    have HS0 := Lib.hid (SH.out _ (Below.refl _ _).drew)
    have HCM := Lib.hid (fun wx (hS : (fun wx => (wx.cell? ⟨p, 0, none⟩ = some (.int .u64 ((a2 : Nat) : Int)) ∧ wx.cell? ⟨p, 1, none⟩ = some (.int .u64 ((a1 : Nat) : Int)) ∧ wx.cell? ⟨p, 2, none⟩ = some (.int .u64 ((a0 : Nat) : Int)) ∧ wx.cell? ⟨q, 0, none⟩ = some (.int .u64 ((b2 : Nat) : Int)) ∧ wx.cell? ⟨q, 1, none⟩ = some (.int .u64 ((b1 : Nat) : Int)) ∧ wx.cell? ⟨q, 2, none⟩ = some (.int .u64 ((b0 : Nat) : Int))) ∧ Below w4.heap.size w4 wx) wx) => compare_any (w := wx) p q 3 3 [(a2 : Int), a1, a0] [(b2 : Int), b1, b0] 3 rfl rfl (by omega)
      (fun j hj => by match j, hj with
        | 0, _ => exact hS.1.1
        | 1, _ => exact hS.1.2.1
        | 2, _ => exact hS.1.2.2.1)
      (fun j hj => by match j, hj with
        | 0, _ => exact hS.1.2.2.2.1
        | 1, _ => exact hS.1.2.2.2.2.1
        | 2, _ => exact hS.1.2.2.2.2.2))
    have hfin := cmp3 a2 a1 a0 b2 b1 b0 hx1 hx0 hy1 hy0
    rw [HX.out, HY.out] at hfin
    generalize cmpW [(a2 : Int), a1, a0] [(b2 : Int), b1, b0] = CV at *
    have HFIN := Lib.hid (show tooB t m l = decide (0 < CV) from by rw [HBE.out]; exact decide_eq_decide.2 hfin.symm)
    clear HX HY HBE hfin S1 S2 S3 P1 P2 HB1 H2 HB3 HP3
    go_wp2_with (fail)
    refine wp_region_held_drew (S := fun wx => (wx.cell? ⟨p, 0, none⟩ = some (.int .u64 ((a2 : Nat) : Int)) ∧ wx.cell? ⟨p, 1, none⟩ = some (.int .u64 ((a1 : Nat) : Int)) ∧ wx.cell? ⟨p, 2, none⟩ = some (.int .u64 ((a0 : Nat) : Int)) ∧ wx.cell? ⟨q, 0, none⟩ = some (.int .u64 ((b2 : Nat) : Int)) ∧ wx.cell? ⟨q, 1, none⟩ = some (.int .u64 ((b1 : Nat) : Int)) ∧ wx.cell? ⟨q, 2, none⟩ = some (.int .u64 ((b0 : Nat) : Int))) ∧ Below w4.heap.size w4 wx) (by kernel_rfl) ?_ (fun hHeld => ?_)
    · exact HS0.out
    refine wpAnyH_take (i := 0) (v := ?_) rfl (by kernel_rfl) (by kernel_rfl) (by kernel_rfl) (fun _ _ _ h => h) (Or.inl ⟨by rfl, ?hy⟩) (by assumption) ?_
    case hy => intro w hSw; (try dsimp only at hSw); go_simp; try with_reducible rfl
    try simp only [Act.put, List.getElem_toArray, List.getElem_cons_succ, List.getElem_cons_zero, List.setIfInBounds_toArray, List.set_cons_zero, List.set_cons_succ]
    refine wpAnyH_take (i := 1) (v := ?_) rfl (by kernel_rfl) (by kernel_rfl) (by kernel_rfl) (fun _ _ _ h => h) (Or.inl ⟨by rfl, ?hy⟩) (by assumption) ?_
    case hy => intro w hSw; (try dsimp only at hSw); go_simp; try with_reducible rfl
    try simp only [Act.put, List.getElem_toArray, List.getElem_cons_succ, List.getElem_cons_zero, List.setIfInBounds_toArray, List.set_cons_zero, List.set_cons_succ]
    refine wpAnyH_ready (rs := [2]) (by kernel_rfl) (by simp) (AllReadyH.cons rfl (fun K hK => ?_) AllReadyH.nil)
    go_simp
    go_at_call 45; obtain ⟨⟨q0, q1, q2, q3, q4, q5⟩, hbs⟩ := HS0.out; refine (HCM.out _ (by first | exact HS0.out | exact hHeld)).mono ?_; rintro e w5 ⟨rfl, rfl⟩
    try (go_wp2_with fail)
    refine hK.out _ _ ?_ (fun hHeld => ?_)
    · first | exact HS0.out | exact hHeld
    clear hK K
    try simp only [Act.put, List.getElem_toArray, List.getElem_cons_succ, List.getElem_cons_zero, List.setIfInBounds_toArray, List.set_cons_zero, List.set_cons_succ]
    refine wpAnyH_take (i := 3) (v := ?_) rfl (by kernel_rfl) (by kernel_rfl) (by kernel_rfl) (fun _ _ _ h => h) (Or.inl ⟨by rfl, ?hy⟩) (by assumption) ?_
    case hy => intro w hSw; (try dsimp only at hSw); go_simp; try with_reducible rfl
    try simp only [Act.put, List.getElem_toArray, List.getElem_cons_succ, List.getElem_cons_zero, List.setIfInBounds_toArray, List.set_cons_zero, List.set_cons_succ]
    refine wpAnyH_take (i := 4) (v := ?_) rfl (by kernel_rfl) (by kernel_rfl) (by kernel_rfl) (fun _ _ _ h => h) (Or.inl ⟨by rfl, ?hy⟩) (by assumption) ?_
    case hy => intro w hSw; (try dsimp only at hSw); go_simp; try with_reducible rfl
    try simp only [Act.put, List.getElem_toArray, List.getElem_cons_succ, List.getElem_cons_zero, List.setIfInBounds_toArray, List.set_cons_zero, List.set_cons_succ]
    refine wpAnyH_done (by kernel_rfl) ?_ _
    have HZ := Lib.hid (HB4.out.trans (hHeld.2.mono HB4.out.size))
    clear hHeld HS0 SH
    go_wp2_with (fail)
    go_ret
    exact ⟨by rw [HFIN.out]; rfl, HZ.out⟩
  · have hnt : t ≤ 1 := by omega
    go_enter Try.func20, Try.ntmps20
    go_wp2_with (fail)
    go_ret
    exact ⟨by rw [show tooB t m l = false from by unfold tooB; rw [show decide (1 < t) = false by simpa using hnt]; rfl]; rfl, Below.refl _ _⟩
end Go.Proofs.Ytnobfmlfhaaghaa
