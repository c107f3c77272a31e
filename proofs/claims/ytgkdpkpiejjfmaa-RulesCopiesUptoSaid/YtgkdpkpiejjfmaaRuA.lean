/- rules: within, only, IsName. -/
import Derived.Test.YtgkdpkpiejjfmaaShelf
import Derived.WalkKit
import Derived.WalkSpells
import Derived.WalkLawsBesides
import Derived.BigQuiet
import Derived.Deep.QuietTactic
import Derived.Deep.DeepCutAuto
import Derived.Deep.CutBlock
import Derived.Lib.Hide
import Derived.Below
namespace Go.Proofs.Ytgkdpkpiejjfmaa
open Go.RowKit
set_option linter.unusedVariables false
set_option linter.unusedSimpArgs false

set_option maxHeartbeats 800000 in
theorem within_any (n lo hi : Int) (w : World) : Calls Try.prog 35 #[.int .i64 n, .int .i64 lo, .int .i64 hi] w fun e w' => e = .returned (.bool (decide (lo ≤ n) && decide (n ≤ hi))) ∧ w' = w := by
  by_cases h : lo ≤ n
  · go_enter Try.func35, Try.ntmps35
    go_wp2_with (fail)
    go_ret
    exact ⟨by simp [h], rfl⟩
  · go_enter Try.func35, Try.ntmps35
    go_wp2_with (fail)
    go_ret
    exact ⟨by rw [show (decide (lo ≤ n)) = false by simpa using h]; rfl, rfl⟩

def onlyB (asked : Bool) (n lo hi : Int) : Bool := asked && (decide (lo ≤ n) && decide (n ≤ hi)) || !asked && decide (n = 0)

set_option maxHeartbeats 800000 in
theorem only_any (asked : Bool) (n lo hi : Int) (w : World) : Calls Try.prog 40 #[.bool asked, .int .i64 n, .int .i64 lo, .int .i64 hi] w fun e w' => e = .returned (.bool (onlyB asked n lo hi)) ∧ w' = w := by
  cases asked
  · by_cases h0 : n = 0
    · subst h0
      go_enter Try.func40, Try.ntmps40
      go_wp2_with (fail)
      go_ret
      exact ⟨by simp [onlyB], rfl⟩
    · go_enter Try.func40, Try.ntmps40
      go_wp2_with (fail)
      go_ret
      exact ⟨by simp [onlyB, h0], rfl⟩
  · have HW := Lib.hid (within_any n lo hi w)
    by_cases h1 : lo ≤ n ∧ n ≤ hi
    · have hd : (decide (lo ≤ n) && decide (n ≤ hi)) = true := by simp [h1.1, h1.2]
      rw [hd] at HW
      rw [onlyB, hd]
      clear h1 hd
      go_enter Try.func40, Try.ntmps40
      go_wp2_with (fail)
      refine HW.out.mono ?_
      rintro e w1 ⟨rfl, rfl⟩
      go_wp2_with (fail)
      go_ret
      exact ⟨rfl, rfl⟩
    · have hd : (decide (lo ≤ n) && decide (n ≤ hi)) = false := by
        rw [Bool.and_eq_false_iff, decide_eq_false_iff_not, decide_eq_false_iff_not]; omega
      rw [hd] at HW
      rw [onlyB, hd]
      clear h1 hd
      go_enter Try.func40, Try.ntmps40
      go_wp2_with (fail)
      refine HW.out.mono ?_
      rintro e w1 ⟨rfl, rfl⟩
      go_wp2_with (fail)
      go_ret
      exact ⟨rfl, rfl⟩

/-- Is a text a name? -/
def byteB (c : UInt8) : Bool := decide (33 ≤ (c.toNat : Int)) && decide ((c.toNat : Int) ≤ 126)
def nameB (s : ByteArray) : Bool := s.data.toList.all byteB && (decide (1 ≤ (s.size : Int)) && decide ((s.size : Int) ≤ 64))

set_option maxHeartbeats 1600000 in
theorem isname_any (s : ByteArray) (hs : s.size ≤ maxLen) (w : World) : Calls Try.prog 18 #[.string s] w fun e w' => e = .returned (.bool (nameB s)) ∧ w' = w := by
  have hsz : (s.size : Int) ≤ 9223372036854775807 := by simp only [maxLen] at hs; omega
  go_enter Try.func18, Try.ntmps18
  go_wp2_with (fail)
  go_loop [3, 6] (fun x i => ∃ k : Nat, k ≤ s.size ∧ i = .int .i64 k ∧ Hid ((s.data.toList.take k).all byteB = true)) (fun _ i => s.size - (intOf i).toNat)
  case atStart => exact ⟨0, Nat.zero_le _, rfl, rfl⟩
  case round =>
    obtain ⟨k, hk, rfl, HA⟩ := hrel
    by_cases hlt : k < s.size
    · have k0 : (0 : Int) ≤ k := by omega
      have k1 : (k : Int) < s.size := by omega
      go_wp2_with (fail)
      have hbyte : (s[k].toNat : Int) ≤ 255 := by have := s[k].toNat_lt; omega
      rw [IntWalk.wrap64_in _ (by omega)]
      refine (within_any _ 33 126 w).mono ?_
      rintro e w1 ⟨rfl, rfl⟩
      have htk : (s.data.toList.take (k + 1)).all byteB = ((s.data.toList.take k).all byteB && byteB s[k]) := by
        have hl : k < s.data.toList.length := by simpa using hlt
        rw [List.take_add_one, List.getElem?_eq_getElem hl]
        simp [List.all_append]
        rfl
      have hbd : (decide ((33 : Int) ≤ (s[k].toNat : Int)) && decide ((s[k].toNat : Int) ≤ 126)) = byteB s[k] := rfl
      rw [hbd]
      cases hb : byteB s[k]
      · rw [hb] at htk
        have hno : nameB s = false := by
          have : s.data.toList.all byteB = false := by
            rw [← List.take_append_drop (k + 1) s.data.toList, List.all_append, htk]; simp
          rw [nameB, this]; rfl
        have HN := Lib.hid hno
        clear htk hbd hb hno hbyte
        go_wp2_with (fail)
        go_ret
        exact ⟨by rw [HN.out]; rfl, rfl⟩
      · rw [hb, HA.out] at htk
        have HT := Lib.hid htk
        clear htk hbd hb hbyte
        go_wp2_with (fail)
        exact ⟨⟨k + 1, by omega, by go_num, HT⟩, by first | (simp [intOf]; done) | (simp [intOf]; omega)⟩
    · go_wp2_with (fail)
      refine (within_any _ 1 64 w).mono ?_
      rintro e w1 ⟨rfl, rfl⟩
      have hall : s.data.toList.all byteB = true := by
        have h1 := HA.out
        rw [List.take_of_length_le] at h1
        · exact h1
        · have : s.data.toList.length = s.size := rfl
          omega
      have hn : nameB s = (decide (1 ≤ (s.size : Int)) && decide ((s.size : Int) ≤ 64)) := by rw [nameB, hall]; rfl
      rw [← hn]
      have HN := Lib.hid hn
      clear hn hall
      go_wp2_with (fail)
      go_ret
      exact ⟨rfl, rfl⟩
end Go.Proofs.Ytgkdpkpiejjfmaa
