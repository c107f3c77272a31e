/- The reference's Where: the loops. -/
import Derived.Test.YtpgjaaekpaeajaaROne
import Derived.Test.YtpgjaaekpaeajaaRuOi
namespace Go.Proofs.Ytpgjaaekpaeajaa
open Go.RowKit
set_option linter.unusedVariables false
set_option linter.unusedSimpArgs false

def gsR (r : RulesS) : List GroupS := groupL 0 r.n0 r.n1 r.n2 r.n3 r.n4 (fun i => match r.fl[i]? with | some f => flowE f | none => 0) (fun i => match r.br[i]? with | some f => breakE f | none => 0) (fun i => match r.ho[i]? with | some f => hotE f | none => 0) (fun i => match r.sy[i]? with | some f => sysRE f | none => 0) (fun i => match r.au[i]? with | some f => listE f.res f.orig | none => 0)
theorem gsR_len (r : RulesS) : (gsR r).length = 5 := rfl
theorem gsR_get (r : RulesS) (kk : Int) (h0 : 1 ≤ kk) (h1 : kk ≤ 5) : ∃ (k : Nat) (hk : k < (gsR r).length), kk = k + 1 ∧ ((gsR r)[k]'hk).kind = kk ∧ ((gsR r)[k]'hk).n = cntR r kk ∧ ((gsR r)[k]'hk).err = oneE r kk := by
  rcases (show kk = 1 ∨ kk = 2 ∨ kk = 3 ∨ kk = 4 ∨ kk = 5 by omega) with rfl | rfl | rfl | rfl | rfl
  · exact ⟨0, (by show (0 : Nat) < 5; decide), rfl, rfl, rfl, rfl⟩
  · exact ⟨1, (by show (1 : Nat) < 5; decide), rfl, rfl, rfl, rfl⟩
  · exact ⟨2, (by show (2 : Nat) < 5; decide), rfl, rfl, rfl, rfl⟩
  · exact ⟨3, (by show (3 : Nat) < 5; decide), rfl, rfl, rfl, rfl⟩
  · exact ⟨4, (by show (4 : Nat) < 5; decide), rfl, rfl, rfl, rfl⟩
def bigP (g : GroupS) : Bool := decide (256 < g.n)
theorem where_big {r : RulesS} {kk : Int} (h0 : 1 ≤ kk) (h1 : kk ≤ 5) (hn : ((gsR r).take (kk - 1).toNat).find? bigP = none) (hb : 256 < cntR r kk) : whereS r = (kk, 0, 5) := by
  obtain ⟨k, hk, e, e1, e2, e3⟩ := gsR_get r kk h0 h1
  have ek : (kk - 1).toNat = k := by omega
  rw [ek] at hn
  have hf := find_none_take hk hn
  have hb' : bigP ((gsR r)[k]'hk) = true := by unfold bigP; rw [e2]; simpa using hb
  rw [if_pos hb'] at hf
  have hg : (gsR r).find? bigP = some ((gsR r)[k]'hk) := find_take_some hf
  have : whereS r = whereR (gsR r) := rfl
  rw [this]
  unfold whereR
  rw [show (gsR r).find? (fun g => decide (256 < g.n)) = some ((gsR r)[k]'hk) from hg]
  simp only [e1]
theorem where_small {r : RulesS} {kk : Int} (h0 : 1 ≤ kk) (h1 : kk ≤ 5) (hn : ((gsR r).take (kk - 1).toNat).find? bigP = none) (hb : ¬ 256 < cntR r kk) : ((gsR r).take (kk + 1 - 1).toNat).find? bigP = none := by
  obtain ⟨k, hk, e, e1, e2, e3⟩ := gsR_get r kk h0 h1
  rw [show (kk - 1).toNat = k by omega] at hn
  have hf := find_none_take hk hn
  have hb' : bigP ((gsR r)[k]'hk) = false := by unfold bigP; rw [e2]; simpa using hb
  rw [hb', if_neg (by simp)] at hf
  rw [show (kk + 1 - 1).toNat = k + 1 by omega]
  exact hf
theorem where_from {r : RulesS} (hn : ((gsR r).take 5).find? bigP = none) : whereS r = whereFrom ((gsR r).drop 0) := by
  have : whereS r = whereR (gsR r) := rfl
  rw [this]
  unfold whereR
  rw [List.take_of_length_le (by rw [gsR_len]; omega)] at hn
  rw [show (gsR r).find? (fun g => decide (256 < g.n)) = none from hn]
  rfl
theorem where_err {r : RulesS} {kk : Int} (h0 : 1 ≤ kk) (h1 : kk ≤ 5) {i : Nat} (hw : whereS r = whereFrom ((gsR r).drop (kk - 1).toNat)) (hi : i < cntR r kk) (hz : ∀ j, j < i → oneE r kk j = 0) (hne : oneE r kk i ≠ 0) : whereS r = (kk, (i : Int), oneE r kk i) := by
  obtain ⟨k, hk, e, e1, e2, e3⟩ := gsR_get r kk h0 h1
  rw [hw, show (kk - 1).toNat = k by omega, whereFrom_drop hk, errIn_some (i := i) (by rw [e2]; exact hi) (by rw [e3]; exact hz) (by rw [e3]; exact hne)]
  simp only [e1, e3]
theorem where_next {r : RulesS} {kk : Int} (h0 : 1 ≤ kk) (h1 : kk ≤ 5) (hw : whereS r = whereFrom ((gsR r).drop (kk - 1).toNat)) (hz : ∀ j, j < cntR r kk → oneE r kk j = 0) : whereS r = whereFrom ((gsR r).drop (kk + 1 - 1).toNat) := by
  obtain ⟨k, hk, e, e1, e2, e3⟩ := gsR_get r kk h0 h1
  rw [hw, show (kk - 1).toNat = k by omega, whereFrom_drop hk, errIn_none (by rw [e2, e3]; exact hz), show (kk + 1 - 1).toNat = k + 1 by omega]
theorem wrap_u8 {kk : Int} (h0 : 1 ≤ kk) (h1 : kk ≤ 5) : IntKind.u8.wrap (kk + 1) = kk + 1 := by
  rcases (show kk = 1 ∨ kk = 2 ∨ kk = 3 ∨ kk = 4 ∨ kk = 5 by omega) with rfl | rfl | rfl | rfl | rfl <;> decide

set_option maxHeartbeats 12800000 in
set_option maxRecDepth 100000 in
theorem r7where_any {w : World} {r : RulesS} (h : RulesAt w r) : Calls Try.prog 10 #[r.v] w fun e w' => e = .returned (tri (whereS r)) ∧ Below w.heap.size w w' := by
  have hv : r.v = .agg #[.slice r.a0 r.n0 r.c0, .slice r.a1 r.n1 r.c1, .slice r.a2 r.n2 r.c2, .slice r.a3 r.n3 r.c3, .slice r.a4 r.n4 r.c4] := rfl
  have HB := Lib.hid (show Below w.heap.size w (w.alloc (boxR r)) from (Below.refl _ _).alloc (Nat.le_refl _) _)
  have hzW : (w.alloc (boxR r)).heap.size = w.heap.size + 1 := by simp
  have HBX : Hid (∀ wx, Below (w.heap.size + 1) (w.alloc (boxR r)) wx → wx.cell? ⟨w.heap.size, 0, none⟩ = some (.slice r.a0 r.n0 r.c0) ∧ wx.cell? ⟨w.heap.size, 1, none⟩ = some (.slice r.a1 r.n1 r.c1) ∧ wx.cell? ⟨w.heap.size, 2, none⟩ = some (.slice r.a2 r.n2 r.c2) ∧ wx.cell? ⟨w.heap.size, 3, none⟩ = some (.slice r.a3 r.n3 r.c3) ∧ wx.cell? ⟨w.heap.size, 4, none⟩ = some (.slice r.a4 r.n4 r.c4)) := fun wx hb => by
    have hc : wx.heap[w.heap.size]? = some (boxR r) := (hb.block _ (Nat.lt_succ_self _)).trans (by rw [get_allocB, if_pos rfl])
    unfold boxR at hc
    simp only [World.cell?, hc]
    exact ⟨rfl, rfl, rfl, rfl, rfl⟩
  have HC : Hid (∀ kind wx, Calls Try.prog 26 #[.agg #[.slice r.a0 r.n0 r.c0, .slice r.a1 r.n1 r.c1, .slice r.a2 r.n2 r.c2, .slice r.a3 r.n3 r.c3, .slice r.a4 r.n4 r.c4], .int .u8 kind] wx fun e w' => e = .returned (.int .i64 (cntR r kind)) ∧ Below wx.heap.size wx w') := fun kind wx => rcount_any r kind wx
  have HO : Hid (∀ kind, 1 ≤ kind → kind ≤ 5 → ∀ i : Nat, i < cntR r kind → ∀ wx, Below (w.heap.size + 1) (w.alloc (boxR r)) wx → Calls Try.prog 27 #[.agg #[.slice r.a0 r.n0 r.c0, .slice r.a1 r.n1 r.c1, .slice r.a2 r.n2 r.c2, .slice r.a3 r.n3 r.c3, .slice r.a4 r.n4 r.c4], .int .u8 kind, .int .i64 i] wx fun e w' => e = .returned (.int .i64 (oneE r kind i)) ∧ Below wx.heap.size wx w') :=
    fun kind k0 k1 i hi wx hb => one_any (h.below (Nat.le_refl _) (HB.out.trans (hb.mono (Nat.le_succ _)))) kind k0 k1 i hi
  have HLE := Lib.hid (fun kind => cntR_le h kind)
  rw [hv]
  unfold boxR at HB HBX HO hzW
  clear hv h
  go_enter Try.func10, Try.ntmps10
  go_wp2_with (fail)
  generalize (w.alloc _) = W at *
  go_loopw [5] (fun s wr => ∃ kk : Int, 1 ≤ kk ∧ kk ≤ 6 ∧ s = .int .u8 kk ∧ Hid (((gsR r).take (kk - 1).toNat).find? bigP = none) ∧ Hid (Below (w.heap.size + 1) W wr)) (fun s _ => 6 - (intOf s).toNat)
  case atStart => exact ⟨1, by decide, by decide, rfl, Lib.hid rfl, Lib.hid (Below.refl _ _)⟩
  case round =>
    rename World => wy
    obtain ⟨kk, k0, k1, rfl, HP, HY⟩ := hrel
    obtain ⟨e0, e1, e2, e3, e4⟩ := HBX.out _ HY.out
    by_cases hk : kk ≤ 5
    · have hcl := HLE.out kk
      have HBIG := Lib.hid (fun hb => where_big k0 hk HP.out hb)
      have HSM := Lib.hid (fun hb => where_small k0 hk HP.out hb)
      have hwr := wrap_u8 k0 hk
      go_wp2_with (fail)
      refine (HC.out _ _).mono ?_
      rintro e w1 ⟨rfl, hb1⟩
      have HY1 := Lib.hid (HY.out.trans (hb1.mono (by have := HY.out.size; omega)))
      clear hb1
      generalize cntR r kk = n at *
      by_cases hbg : 256 < n
      · have HF := Lib.hid (HBIG.out hbg)
        have hbg2 : (256 : Int) < n := by omega
        clear HBIG HSM
        go_wp2_with (fail)
        go_ret3
        exact ⟨by rw [HF.out]; rfl, HB.out.trans (HY1.out.mono (Nat.le_succ _))⟩
      · have HF := Lib.hid (HSM.out hbg)
        have hbg2 : ¬ (256 : Int) < n := by omega
        clear HBIG HSM
        go_wp2_with (fail)
        exact ⟨⟨kk + 1, by omega, by omega, by go_num, HF, HY1⟩, by first | (simp [intOf]; done) | (simp [intOf]; omega)⟩
    · have hk6 : kk = 6 := by omega
      subst hk6
      have HW0 := Lib.hid (where_from HP.out)
      clear HP
      go_wp2_with (fail)
      go_loopw [6, 7, 8] (fun s _ _ wr => ∃ kk : Int, 1 ≤ kk ∧ kk ≤ 6 ∧ s = .int .u8 kk ∧ Hid (whereS r = whereFrom ((gsR r).drop (kk - 1).toNat)) ∧ Hid (Below (w.heap.size + 1) W wr)) (fun s _ _ _ => 6 - (intOf s).toNat)
      case atStart => exact ⟨1, by decide, by decide, rfl, HW0, HY⟩
      case round =>
        rename World => wz
        clear e0 e1 e2 e3 e4
        obtain ⟨kk, k0, k1, rfl, HP, HZ⟩ := hrel
        by_cases hk : kk ≤ 5
        · have hcl := HLE.out kk
          have HNX := Lib.hid (fun hz => where_next k0 hk HP.out hz)
          have HER := Lib.hid (fun (i : Nat) hi hz hne => where_err k0 hk (i := i) HP.out hi hz hne)
          have HCK := Lib.hid (HC.out kk)
          have HOK := Lib.hid (HO.out kk k0 hk)
          have hwr := wrap_u8 k0 hk
          clear HP
          generalize oneE r kk = ee at *
          generalize cntR r kk = n at *
          go_wp2_with (fail)
          go_loopw [7, 8] (fun s _ wr => ∃ i : Nat, i ≤ n ∧ s = .int .i64 i ∧ Hid (∀ j, j < i → ee j = 0) ∧ Hid (Below (w.heap.size + 1) W wr)) (fun s _ _ => n - (intOf s).toNat)
          case atStart => exact ⟨0, Nat.zero_le _, rfl, Lib.hid (fun j hj => by omega), HZ⟩
          case round =>
            rename World => wu
            obtain ⟨i, hi, rfl, HE, HU⟩ := hrel
            obtain ⟨e0, e1, e2, e3, e4⟩ := HBX.out _ HU.out
            have i0 : (0 : Int) ≤ i := by omega
            have HC1 := Lib.hid (HCK.out wu)
            by_cases hlt : i < n
            · have i1 : (i : Int) < n := by omega
              go_wp2_with (fail)
              refine HC1.out.mono ?_
              rintro e w1 ⟨rfl, hb1⟩
              have hU1 := HU.out.trans (hb1.mono (by have := HU.out.size; omega))
              have HU1 := Lib.hid hU1
              clear hb1 e0 e1 e2 e3 e4
              obtain ⟨e0, e1, e2, e3, e4⟩ := HBX.out _ hU1
              have HO1 := Lib.hid (HOK.out i hlt w1 hU1)
              have HER1 := Lib.hid (HER.out i hlt HE.out)
              have HEN := Lib.hid (show ee i = 0 → ∀ j, j < i + 1 → ee j = 0 from fun hz j hj => by
                rcases Nat.lt_succ_iff_lt_or_eq.1 hj with h | h
                · exact HE.out j h
                · rw [h]; exact hz)
              clear hU1
              generalize ee i = E at *
              go_wp2_with (fail)
              refine HO1.out.mono ?_
              rintro e w2 ⟨rfl, hb2⟩
              have HU2 := Lib.hid (HU1.out.trans (hb2.mono (by have := HU1.out.size; omega)))
              clear hb2
              by_cases hE : E = 0
              · have HS := Lib.hid (HEN.out hE)
                subst hE
                clear HEN HER1
                go_wp2_with (fail)
                exact ⟨⟨i + 1, by omega, by go_num, HS, HU2⟩, by first | (simp [intOf]; done) | (simp [intOf]; omega)⟩
              · have HF := Lib.hid (HER1.out hE)
                have hE2 : (E != 0) = true := by simpa using hE
                clear HEN HER1
                go_wp2_with (fail)
                go_ret3
                exact ⟨by rw [HF.out]; rfl, HB.out.trans (HU2.out.mono (Nat.le_succ _))⟩
            · have i1 : ¬ (i : Int) < n := by omega
              have HN := Lib.hid (HNX.out (fun j hj => HE.out j (by omega)))
              go_wp2_with (fail)
              refine HC1.out.mono ?_
              rintro e w1 ⟨rfl, hb1⟩
              have HU1 := Lib.hid (HU.out.trans (hb1.mono (by have := HU.out.size; omega)))
              clear hb1
              go_wp2_with (fail)
              exact ⟨⟨kk + 1, by omega, by omega, by go_num, HN, HU1⟩, by first | (simp [intOf]; done) | (simp [intOf]; omega)⟩
        · have hk6 : kk = 6 := by omega
          subst hk6
          have HF := Lib.hid (show whereS r = (0, 0, 0) by rw [HP.out]; rfl)
          clear HP
          go_wp2_with (fail)
          go_ret3
          exact ⟨by rw [HF.out]; rfl, HB.out.trans (HZ.out.mono (Nat.le_succ _))⟩
end Go.Proofs.Ytpgjaaekpaeajaa
