/- rules: names, and what a look finds. -/
import Derived.Test.YtgkdpkpiejjfmaaRuA
namespace Go.Proofs.Ytgkdpkpiejjfmaa
open Go.RowKit
set_option linter.unusedVariables false
set_option linter.unusedSimpArgs false

/-- Where a slice of texts reads. -/
def TextsAt (w : World) (a : Option Addr) (ss : List ByteArray) : Prop :=
  ss = [] ∨ ∃ b off, a = some ⟨b, off, none⟩ ∧ b < w.heap.size ∧ ∀ j, j < ss.length → w.cell? ⟨b, off + j, none⟩ = some (.string (ss.getD j ⟨#[]⟩))
theorem TextsAt.below {w w' : World} {a : Option Addr} {ss : List ByteArray} (h : TextsAt w a ss) (hb : Below w.heap.size w w') : TextsAt w' a ss := by
  rcases h with h | ⟨b, off, rfl, hl, hc⟩
  · exact Or.inl h
  · exact Or.inr ⟨b, off, rfl, Nat.lt_of_lt_of_le hl hb.size, fun j hj => (hb.cell (p := ⟨b, off + j, none⟩) hl).trans (hc j hj)⟩

set_option maxHeartbeats 800000 in
theorem notname_any (s : ByteArray) (hs : s.size ≤ maxLen) (w : World) : Calls Try.prog 68 #[.string s] w fun e w' => e = .returned (.bool (!nameB s)) ∧ w' = w := by
  have HN := Lib.hid (isname_any s hs w)
  go_enter Try.func68, Try.ntmps68
  go_wp2_with (fail)
  refine HN.out.mono ?_
  rintro e w1 ⟨rfl, rfl⟩
  go_wp2_with (fail)
  go_ret
  exact ⟨rfl, rfl⟩

def idxS (p : ByteArray → Bool) : List ByteArray → Nat → Int
  | [], _ => -1
  | s :: ss, k => if p s then (k : Int) else idxS p ss (k + 1)
theorem idxS_at {p : ByteArray → Bool} : ∀ {ss : List ByteArray} {k i : Nat} (hi : i < ss.length), (ss.take i).any p = false → p (ss.getD i ⟨#[]⟩) = true → idxS p ss k = ((k + i : Nat) : Int)
  | s :: ss, k, 0, hi, _, h => by
    simp only [List.getD_cons_zero] at h
    simp [idxS, h]
  | s :: ss, k, i + 1, hi, h1, h => by
    simp only [List.take_succ_cons, List.any_cons, Bool.or_eq_false_iff] at h1
    rw [idxS, h1.1, if_neg (by simp), idxS_at (k := k + 1) (i := i) (by simpa using hi) h1.2 (by simpa using h)]
    omega
theorem idxS_no {p : ByteArray → Bool} : ∀ {ss : List ByteArray} {k : Nat}, ss.any p = false → idxS p ss k = -1
  | [], _, _ => rfl
  | s :: ss, k, h => by
    simp only [List.any_cons, Bool.or_eq_false_iff] at h
    rw [idxS, h.1, if_neg (by simp), idxS_no h.2]

set_option maxHeartbeats 1600000 in
theorem indexnn_any {w : World} (a : Option Addr) (len cap : Nat) (ss : List ByteArray) (hl : ss.length = len) (hm : len ≤ 9223372036854775807) (hs : TextsAt w a ss) (hsz : ∀ s, s ∈ ss → s.size ≤ maxLen) :
    Calls Try.prog 70 #[.slice a len cap, .func (.func 68) #[] #[]] w fun e w' => e = .returned (.int .i64 (idxS (fun s => !nameB s) ss 0)) ∧ w' = w := by
  have Hs := Lib.hid hs
  have Hl := Lib.hid hl
  have Hz := Lib.hid hsz
  clear hs hl hsz
  go_enter Try.func70, Try.ntmps70
  go_wp2_with (fail)
  go_loop [5, 8] (fun x i => ∃ k : Nat, k ≤ len ∧ i = .int .i64 k ∧ Hid ((ss.take k).any (fun s => !nameB s) = false)) (fun _ i => len - (intOf i).toNat)
  case atStart => exact ⟨0, Nat.zero_le _, rfl, rfl⟩
  case round =>
    obtain ⟨k, hk, rfl, HA⟩ := hrel
    by_cases hlt : k < len
    · rcases Hs.out with h | ⟨b, off, rfl, hbl, hcell⟩
      · exfalso; have := Hl.out; subst h; simp at this; omega
      · have hkl : k < ss.length := by rw [Hl.out]; exact hlt
        have d1 := hcell k hkl
        have hz := Hz.out (ss.getD k ⟨#[]⟩) (by simp [List.getD, hkl])
        have HX := Lib.hid (notname_any (ss.getD k ⟨#[]⟩) hz w)
        have hat := idxS_at (p := fun s => !nameB s) (k := 0) hkl HA.out
        have htk : (ss.take (k + 1)).any (fun s => !nameB s) = ((ss.take k).any (fun s => !nameB s) || !nameB (ss.getD k ⟨#[]⟩)) := by
          rw [List.take_add_one, List.getElem?_eq_getElem hkl, Option.toList_some, List.any_append]
          simp [List.getD, hkl]
        rw [HA.out, Bool.false_or] at htk
        generalize ss.getD k ⟨#[]⟩ = s at d1 HX hat htk
        have k0 : (0 : Int) ≤ k := by omega
        have k1 : (k : Int) < len := by omega
        clear hcell hz
        cases hn : nameB s
        · rw [hn] at HX
          have HT := Lib.hid (hat (by rw [hn]; rfl))
          clear hat htk hn
          go_wp2_with (fail)
          refine HX.out.mono ?_
          rintro e w1 ⟨rfl, rfl⟩
          go_wp2_with (fail)
          go_ret
          exact ⟨by rw [HT.out, Nat.zero_add]; rfl, rfl⟩
        · rw [hn] at HX htk
          have HT := Lib.hid htk
          clear hat htk hn
          go_wp2_with (fail)
          refine HX.out.mono ?_
          rintro e w1 ⟨rfl, rfl⟩
          go_wp2_with (fail)
          exact ⟨⟨k + 1, by omega, by go_num, HT⟩, by first | (simp [intOf]; done) | (simp [intOf]; omega)⟩
    · have hall : ss.any (fun s => !nameB s) = false := by
        have h1 := HA.out
        rw [List.take_of_length_le (by rw [Hl.out]; omega)] at h1
        exact h1
      go_wp2_with (fail)
      go_ret
      exact ⟨by rw [idxS_no hall]; rfl, rfl⟩

set_option maxHeartbeats 1600000 in
theorem containsnn_any {w : World} (a : Option Addr) (len cap : Nat) (ss : List ByteArray) (hl : ss.length = len) (hm : len ≤ 9223372036854775807) (hs : TextsAt w a ss) (hsz : ∀ s, s ∈ ss → s.size ≤ maxLen) :
    Calls Try.prog 67 #[.slice a len cap, .func (.func 68) #[] #[]] w fun e w' => e = .returned (.bool (ss.any (fun s => !nameB s))) ∧ w' = w := by
  have HI := Lib.hid (indexnn_any a len cap ss hl hm hs hsz)
  cases hany : ss.any (fun s => !nameB s)
  · rw [idxS_no hany] at HI
    clear hs hsz hany
    go_enter Try.func67, Try.ntmps67
    go_wp2_with (fail)
    refine HI.out.mono ?_
    rintro e w1 ⟨rfl, rfl⟩
    go_wp2_with (fail)
    go_ret
    exact ⟨rfl, rfl⟩
  · obtain ⟨i, hi, h0, h1⟩ : ∃ i, i < ss.length ∧ (ss.take i).any (fun s => !nameB s) = false ∧ (!nameB (ss.getD i ⟨#[]⟩)) = true := by
      clear HI hl hs hsz
      induction ss with
      | nil => simp at hany
      | cons s ss ih =>
        cases hs : nameB s
        · exact ⟨0, by simp, rfl, by simp [hs]⟩
        · simp only [List.any_cons, hs, Bool.not_true, Bool.false_or] at hany
          obtain ⟨i, a1, a2, a3⟩ := ih hany
          exact ⟨i + 1, by simpa using a1, by simp [hs]; simpa using a2, by simpa using a3⟩
    rw [idxS_at hi h0 h1] at HI
    have i0 : (0 : Int) ≤ ((0 + i : Nat) : Int) := by omega
    clear hs hsz hany h0 h1
    go_enter Try.func67, Try.ntmps67
    go_wp2_with (fail)
    refine HI.out.mono ?_
    rintro e w1 ⟨rfl, rfl⟩
    go_wp2_with (fail)
    go_ret
    exact ⟨rfl, rfl⟩

def namedB (res : ByteArray) (ss : List ByteArray) : Bool := nameB res && !ss.any (fun s => !nameB s)

set_option maxHeartbeats 1600000 in
theorem named_any {w : World} (res : ByteArray) (hr : res.size ≤ maxLen) (a : Option Addr) (len cap : Nat) (ss : List ByteArray) (hl : ss.length = len) (hm : len ≤ 9223372036854775807) (hs : TextsAt w a ss) (hsz : ∀ s, s ∈ ss → s.size ≤ maxLen) :
    Calls Try.prog 55 #[.agg #[.string res, .slice a len cap]] w fun e w' => e = .returned (.bool (namedB res ss)) ∧ Below w.heap.size w w' := by
  have hb : Below w.heap.size w (w.alloc (.cells #[.string res, .slice a len cap] 78)) := (Below.refl _ _).alloc (Nat.le_refl _) _
  have HB := Lib.hid hb
  have HI := Lib.hid (isname_any res hr (w.alloc (.cells #[.string res, .slice a len cap] 78)))
  have HC := Lib.hid (containsnn_any a len cap ss hl hm (hs.below hb) hsz)
  clear hs hsz hb
  unfold namedB
  cases hn : nameB res
  · rw [hn] at HI
    go_enter Try.func55, Try.ntmps55
    go_wp2_with (fail)
    refine HI.out.mono ?_
    rintro e w1 ⟨rfl, rfl⟩
    go_wp2_with (fail)
    go_ret
    exact ⟨rfl, HB.out⟩
  · rw [hn] at HI
    go_enter Try.func55, Try.ntmps55
    go_wp2_with (fail)
    refine HI.out.mono ?_
    rintro e w1 ⟨rfl, rfl⟩
    go_wp2_with (fail)
    refine HC.out.mono ?_
    rintro e w1 ⟨rfl, rfl⟩
    go_wp2_with (fail)
    go_ret
    exact ⟨rfl, HB.out⟩
end Go.Proofs.Ytgkdpkpiejjfmaa
