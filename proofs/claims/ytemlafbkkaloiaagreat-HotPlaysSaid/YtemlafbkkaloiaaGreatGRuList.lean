import Derived.Test.YtemlafbkkaloiaaGreatGBrA
namespace Go.Proofs.YtemlafbkkaloiaaGreat
open Go.RowKit
set_option linter.unusedVariables false
set_option linter.unusedSimpArgs false
theorem below_drewG {n : Nat} {a w : World} (h : Below n a w) (q : Nat) : Below n a (w.drewN q) := ⟨h.os, h.tape, h.output, h.size, h.block⟩
def twiceAt (ss : List ByteArray) (i : Nat) : Bool := Lib.containsS (ss.take i) (ss.getD i ⟨#[]⟩)
def twiceB (ss : List ByteArray) : Bool := (List.range ss.length).any (twiceAt ss)
theorem range_step {p : Nat → Bool} {k : Nat} (h : (List.range k).any p = false) : (List.range (k + 1)).any p = p k := by
  rw [List.range_succ, List.any_append, h]; simp
theorem twice_yes {ss : List ByteArray} {k : Nat} (hk : k < ss.length) (h : twiceAt ss k = true) : twiceB ss = true := by
  unfold twiceB
  rw [List.any_eq_true]
  exact ⟨k, List.mem_range.2 hk, h⟩
set_option maxHeartbeats 1600000 in
theorem twice_any {w : World} (a : Option Addr) (len cap : Nat) (ss : List ByteArray) (hl : ss.length = len) (hm : len ≤ 9223372036854775807) (hcp : len ≤ cap) (hs : TextsAt w a ss) :
    Calls Tryz.prog 55 #[.slice a len cap] w fun e w' => e = .returned (.bool (twiceB ss)) ∧ w' = w := by
  have Hs := Lib.hid hs
  have Hl := Lib.hid hl
  have HT := Lib.hid (fun k hk h => twice_yes (ss := ss) (k := k) hk h)
  have HD := Lib.hid (show twiceB ss = (List.range ss.length).any (twiceAt ss) from rfl)
  clear hs hl
  go_enter Tryz.func55, Tryz.ntmps55
  go_wp2_with (fail)
  go_loop [3, 4, 7] (fun x y i => ∃ k : Nat, k ≤ len ∧ i = .int .i64 k ∧ Hid ((List.range k).any (twiceAt ss) = false)) (fun _ _ i => len - (intOf i).toNat)
  case atStart => exact ⟨0, Nat.zero_le _, rfl, rfl⟩
  case round =>
    obtain ⟨k, hk, rfl, HA⟩ := hrel
    by_cases hlt : k < len
    · rcases Hs.out with h | ⟨b, off, rfl, hbl, hcell⟩
      · exfalso; have := Hl.out; subst h; simp at this; omega
      · have hkl : k < ss.length := by rw [Hl.out]; exact hlt
        have d1 := hcell k hkl
        have hst := range_step HA.out
        have HX := Lib.hid (Tryz.slices_Contains_string b off k cap ss (ss.getD k ⟨#[]⟩) w (by omega) (by omega) hcell)
        rw [show Lib.containsS (ss.take k) (ss.getD k ⟨#[]⟩) = twiceAt ss k from rfl] at HX
        have HY := Lib.hid (HT.out k hkl)
        generalize ss.getD k ⟨#[]⟩ = s at d1 HX
        generalize twiceAt ss k = TA at hst HX HY
        have k0 : (0 : Int) ≤ k := by omega
        have k1 : (k : Int) < len := by omega
        have k2 : k ≤ cap := by omega
        have k3 : (k : Int) ≤ cap := by omega
        clear hcell
        cases TA
        · have HS := Lib.hid hst
          clear hst
          go_wp2_with (fail)
          refine HX.out.mono ?_
          rintro e wq ⟨rfl, hq⟩
          subst hq
          go_wp2_with (fail)
          exact ⟨⟨k + 1, by omega, by go_num, HS⟩, by first | (simp [intOf]; done) | (simp [intOf]; omega)⟩
        · have HS := Lib.hid (HY.out rfl)
          clear hst
          go_wp2_with (fail)
          refine HX.out.mono ?_
          rintro e wq ⟨rfl, hq⟩
          subst hq
          go_wp2_with (fail)
          go_ret
          exact ⟨by rw [HS.out]; rfl, rfl⟩
    · have k1 : ¬ (k : Int) < len := by omega
      have hall : Hid (twiceB ss = false) := by
        have h1 := HA.out
        rw [show k = ss.length by rw [Hl.out]; omega] at h1
        exact HD.out.trans h1
      go_wp2_with (fail)
      go_ret
      exact ⟨by rw [hall.out]; rfl, rfl⟩
end Go.Proofs.YtemlafbkkaloiaaGreat
