/- the reference's sketch: total. -/
import Derived.Test.YtogdnacambjhpaaRsC
namespace Go.Proofs.Ytogdnacambjhpaa
open Go.RowKit
set_option linter.unusedVariables false
set_option linter.unusedSimpArgs false

set_option maxHeartbeats 6400000 in
set_option maxRecDepth 100000 in
theorem r6tot_any {w : World} {q : Nat} {h : ShapeS} {b last : Int} {v : Value} {ns : List NoteS} (k : R6At w q h last v ns) (hb : ShapeOk h b) (at_ : Int) :
    Calls Try.prog 48 #[.pointer (some ⟨q, 0, none⟩), .int .i64 at_] w fun e w' => e = .returned (.tuple #[.int .i64 (if lookS last at_ = 0 then totN h b at_ ns else 0), .int .i64 (lookS last at_)]) ∧ ∃ m, w' = w.drewN m := by
  obtain ⟨c0, c1, c2, c3, c4, c5, c6⟩ := k.cells
  have HWR := Lib.hid (r6wrong_any q last at_ w c6)
  have K := Lib.hid k
  by_cases hE : lookS last at_ = 0
  · obtain ⟨a0, a1, a2⟩ := lookS_ok hE
    rw [hE] at HWR ⊢
    rw [if_pos rfl]
    obtain ⟨aS, capS', hv⟩ := k.slice
    obtain ⟨nB, hnB⟩ : ∃ nB, ns.length = nB := ⟨_, rfl⟩
    rw [hnB] at hv
    subst hv
    have HNB := Lib.hid hnB
    have HIN := Lib.hid (fun (wx : World) (t : Int) (t0 : 0 ≤ t) (t1 : t ≤ 1152921504606846976) => r6in_any h b hb q t at_ t0 t1 a0 a1 wx)
    have HB := Lib.hid hb
    obtain ⟨p, hp⟩ : ∃ p : NoteS → Bool, (fun y => decide (beginS b at_ - h.W < beginS b y.at_) && true) = p := ⟨_, rfl⟩
    have HP := Lib.hid hp
    have HTOT := Lib.hid (show totN h b at_ ns = capS (sumP p ns) by unfold totN; rw [hp])
    have HC := Lib.hid (And.intro c0 (And.intro c1 (And.intro c2 (And.intro c3 (And.intro c4 c5)))))
    clear hE hnB hb hp
    go_enter Try.func48, Try.ntmps48
    go_wp2_with (fail)
    refine HWR.out.mono ?_
    rintro e w2 ⟨rfl, hq⟩
    have hq := hq.symm
    subst hq
    go_wp2_with (fail)
    go_loopw [7, 8] (fun x8 x9 wy => ∃ (i : Nat), i ≤ nB ∧ x9 = .int .i64 i ∧ x8 = .int .i64 (capS (sumP p (ns.take i))) ∧ Hid (∃ m, wy = w.drewN m)) (fun _ x9 _ => nB - (intOf x9).toNat)
    case atStart => exact ⟨0, Nat.zero_le _, rfl, by simp [sumP, capS_zero], Lib.hid ⟨0, rfl⟩⟩
    case round =>
      rename World => wy
      obtain ⟨i, hi, rfl, rfl, HM⟩ := hrel
      have d5 : wy.cell? ⟨q, 5, none⟩ = some (.slice aS nB capS') := by obtain ⟨m, rfl⟩ := HM.out; exact HC.out.2.2.2.2.2
      by_cases hli : i < nB
      · have i0 : (0 : Int) ≤ i := by omega
        have i1 : (i : Int) < nB := by omega
        have i9 : nB ≤ 4611686018427387904 := by rw [← HNB.out]; exact K.out.few
        obtain ⟨x, hx⟩ : ∃ x, ns[i]? = some x := ⟨_, List.getElem?_eq_getElem (by rw [HNB.out]; exact hli)⟩
        obtain ⟨g, cp, hvg, hgl, e0, e1, e2⟩ := K.out.get hx
        injection hvg with hag hvl hvc
        subst hag
        clear hvl hvc
        obtain ⟨xf0, xf1, xf2, xf3, xf4⟩ := K.out.fine x (List.mem_of_getElem? hx)
        have d0 : wy.cell? ⟨q, 0, none⟩ = some (.int .i64 h.W) := by obtain ⟨m, rfl⟩ := HM.out; exact HC.out.1
        have d1 : wy.cell? ⟨q, 1, none⟩ = some (.int .i64 h.B) := by obtain ⟨m, rfl⟩ := HM.out; exact HC.out.2.1
        have d3 : wy.cell? ⟨q, 3, none⟩ = some (.int .i64 h.C) := by obtain ⟨m, rfl⟩ := HM.out; exact HC.out.2.2.2.1
        have d4 : wy.cell? ⟨q, 4, none⟩ = some (.int .u64 h.seed) := by obtain ⟨m, rfl⟩ := HM.out; exact HC.out.2.2.2.2.1
        have e0 : wy.cell? ⟨g, i * 3, none⟩ = some (.int .i64 x.at_) := by obtain ⟨m, rfl⟩ := HM.out; exact e0
        have e1 : wy.cell? ⟨g, i * 3 + 1, none⟩ = some (.int .i64 x.n) := by obtain ⟨m, rfl⟩ := HM.out; exact e1
        have e2 : wy.cell? ⟨g, i * 3 + 2, none⟩ = some (.string x.key) := by obtain ⟨m, rfl⟩ := HM.out; exact e2
        have HINX := Lib.hid (HIN.out wy x.at_ xf0 (by omega) d0 d1)
        have HHX := Lib.hid hx
        have HE1 := Lib.hid e1
        have HE2 := Lib.hid e2
        have HPX := Lib.hid (show p x = inR b h.B at_ x.at_ by rw [← HP.out, inR_eq HB.out.b1 HB.out.bW (by omega)]; simp)
        have hT := sumP_take1 p hx
        have HT := Lib.hid hT
        have hs0 : 0 ≤ sumP p (ns.take i) := sumP_nonneg (fun y hy => (K.out.fine y (List.mem_of_mem_take hy)).2.2.1)
        have HS0 := Lib.hid hs0
        clear hx hT hs0 hli
        generalize hII : inR b h.B at_ x.at_ = II at *
        clear hII
        go_wp2_with (fail)
        refine HINX.out.mono ?_
        rintro e w4 ⟨rfl, hm4⟩
        have HM4 : Hid (∃ m, w4 = w.drewN m) := Lib.hid (by obtain ⟨m, rfl⟩ := HM.out; obtain ⟨m2, rfl⟩ := hm4; exact ⟨m + m2, by rw [World.drewN_drewN]⟩)
        have HD4 := Lib.hid (show w4.cell? ⟨q, 3, none⟩ = some (.int .i64 h.C) ∧ w4.cell? ⟨q, 4, none⟩ = some (.int .u64 h.seed) ∧ w4.cell? ⟨q, 5, none⟩ = some (.slice (some ⟨g, 0, none⟩) nB capS') ∧ w4.cell? ⟨g, i * 3 + 1, none⟩ = some (.int .i64 x.n) ∧ w4.cell? ⟨g, i * 3 + 2, none⟩ = some (.string x.key) from by obtain ⟨m2, rfl⟩ := hm4; exact ⟨d3, d4, d5, e1, e2⟩)
        clear hm4 HM d0 d1 d3 d4 d5 e0 e1 e2 HINX
        cases II with
        | false =>
         as_aux_lemma =>
          have HTK := Lib.hid (show sumP p (ns.take (i + 1)) = sumP p (ns.take i) by rw [HT.out, HPX.out]; simp)
          clear HT HPX
          go_wp2_with (fail)
          exact ⟨⟨i + 1, by omega, by go_num, by rw [HTK.out], HM4⟩, by first | (simp [intOf]; done) | (simp [intOf]; omega)⟩
        | true =>
         as_aux_lemma =>
          obtain ⟨d3, d4, d5, e1, e2⟩ := HD4.out
          clear d3 d4 e2
          have HTK := Lib.hid (show capS (sumP p (ns.take (i + 1))) = plusS (capS (sumP p (ns.take i))) x.n by
            have hcx : capS x.n = x.n := capS_small (by omega)
            have h1 := plusS_cap HS0.out xf2
            rw [hcx] at h1
            rw [h1, HT.out, HPX.out]; simp)
          have hsc : 0 ≤ capS (sumP p (ns.take i)) ∧ capS (sumP p (ns.take i)) ≤ 4611686018427387904 := ⟨capS_nonneg HS0.out, capS_le _⟩
          generalize capS (sumP p (ns.take i)) = SM at *
          have HPL := Lib.hid (rplusS_any SM x.n hsc.1 hsc.2 xf2 (by omega) w4)
          clear HT HPX hsc
          go_wp2_with (fail)
          refine HPL.out.mono ?_
          rintro e w6 ⟨rfl, hq6⟩
          have hq6 := hq6.symm
          subst hq6
          go_wp2_with (fail)
          exact ⟨⟨i + 1, by omega, by go_num, by rw [HTK.out], HM4⟩, by first | (simp [intOf]; done) | (simp [intOf]; omega)⟩
      · have i1 : ¬ (i : Int) < nB := by omega
        rw [List.take_of_length_le (by rw [HNB.out]; omega)]
        go_wp2_with (fail)
        go_ret2
        exact ⟨by rw [HTOT.out]; rfl, HM.out⟩
  · rw [if_neg hE]
    generalize lookS last at_ = E at *
    have hne : (E != 0) = true := by simpa using hE
    clear hE k
    go_enter Try.func48, Try.ntmps48
    go_wp2_with (fail)
    refine HWR.out.mono ?_
    rintro e w2 ⟨rfl, hq⟩
    have hq := hq.symm
    subst hq
    go_wp2_with (fail)
    go_ret2
    exact ⟨rfl, 0, rfl⟩
end Go.Proofs.Ytogdnacambjhpaa
