import Derived.WalkKit
import Derived.WalkSpells
import Derived.WalkLawsBesides
import Derived.BigQuiet
import Derived.Deep.QuietTactic
import Derived.Deep.DeepCutAuto
import Derived.Deep.CutBlock
import Derived.Lib.Hide
import Derived.Below
import Derived.Test.YtemlafbkkaloiaaGreatShelf
set_option linter.unusedVariables false
set_option linter.unusedSimpArgs false
namespace Go.Proofs.YtemlafbkkaloiaaGreat
open Go.RowKit
set_option maxHeartbeats 800000 in
theorem within_any (n lo hi : Int) (w : World) : Calls Tryz.prog 53 #[.int .i64 n, .int .i64 lo, .int .i64 hi] w fun e w' => e = .returned (.bool (decide (lo ≤ n) && decide (n ≤ hi))) ∧ w' = w := by
  by_cases h : lo ≤ n
  · go_enter Tryz.func53, Tryz.ntmps53
    go_wp2_with (fail)
    go_ret
    exact ⟨by simp [h], rfl⟩
  · go_enter Tryz.func53, Tryz.ntmps53
    go_wp2_with (fail)
    go_ret
    exact ⟨by rw [show (decide (lo ≤ n)) = false by simpa using h]; rfl, rfl⟩
def byteB (c : UInt8) : Bool := decide (33 ≤ (c.toNat : Int)) && decide ((c.toNat : Int) ≤ 126)
def nameB (s : ByteArray) : Bool := s.data.toList.all byteB && (decide (1 ≤ (s.size : Int)) && decide ((s.size : Int) ≤ 64))
set_option maxHeartbeats 1600000 in
theorem isname_any (s : ByteArray) (hs : s.size ≤ maxLen) (w : World) : Calls Tryz.prog 111 #[.string s] w fun e w' => e = .returned (.bool (nameB s)) ∧ w' = w := by
  have hsz : (s.size : Int) ≤ 9223372036854775807 := by simp only [maxLen] at hs; omega
  go_enter Tryz.func111, Tryz.ntmps111
  go_wp2_with (fail)
  go_loop [3, 6] (fun x i => ∃ k : Nat, k ≤ s.size ∧ i = .int .i64 k ∧ Hid ((s.data.toList.take k).all byteB = true)) (fun _ i => s.size - (intOf i).toNat)
  case atStart => exact ⟨0, Nat.zero_le _, rfl, rfl⟩
  case round =>
    obtain ⟨k, hk, rfl, HA⟩ := hrel
    by_cases hlt : k < s.size
    · have k0 : (0 : Int) ≤ k := by omega
      have k1 : (k : Int) < s.size := by omega
      go_wp2_with (fail)
      have hbyte : (s[k].toNat : Int) ≤ 255 := by have := s[k].toNat_lt; omega
      rw [IntWalk.wrap64_in _ (by omega)]
      refine (within_any _ 33 126 w).mono ?_
      rintro e w1 ⟨rfl, rfl⟩
      have htk : (s.data.toList.take (k + 1)).all byteB = ((s.data.toList.take k).all byteB && byteB s[k]) := by
        have hl : k < s.data.toList.length := by simpa using hlt
        rw [List.take_add_one, List.getElem?_eq_getElem hl]
        simp [List.all_append]
        rfl
      have hbd : (decide ((33 : Int) ≤ (s[k].toNat : Int)) && decide ((s[k].toNat : Int) ≤ 126)) = byteB s[k] := rfl
      rw [hbd]
      cases hb : byteB s[k]
      · rw [hb] at htk
        have hno : nameB s = false := by
          have : s.data.toList.all byteB = false := by
            rw [← List.take_append_drop (k + 1) s.data.toList, List.all_append, htk]; simp
          rw [nameB, this]; rfl
        have HN := Lib.hid hno
        clear htk hbd hb hno hbyte
        go_wp2_with (fail)
        go_ret
        exact ⟨by rw [HN.out]; rfl, rfl⟩
      · rw [hb, HA.out] at htk
        have HT := Lib.hid htk
        clear htk hbd hb hbyte
        go_wp2_with (fail)
        exact ⟨⟨k + 1, by omega, by go_num, HT⟩, by first | (simp [intOf]; done) | (simp [intOf]; omega)⟩
    · go_wp2_with (fail)
      refine (within_any _ 1 64 w).mono ?_
      rintro e w1 ⟨rfl, rfl⟩
      have hall : s.data.toList.all byteB = true := by
        have h1 := HA.out
        rw [List.take_of_length_le] at h1
        · exact h1
        · have : s.data.toList.length = s.size := rfl
          omega
      have hn : nameB s = (decide (1 ≤ (s.size : Int)) && decide ((s.size : Int) ≤ 64)) := by rw [nameB, hall]; rfl
      rw [← hn]
      have HN := Lib.hid hn
      clear hn hall
      go_wp2_with (fail)
      go_ret
      exact ⟨rfl, rfl⟩
end Go.Proofs.YtemlafbkkaloiaaGreat
namespace Go.Proofs.YtemlafbkkaloiaaGreat
open Go.RowKit
def TextsAt (w : World) (a : Option Addr) (ss : List ByteArray) : Prop :=
  ss = [] ∨ ∃ b off, a = some ⟨b, off, none⟩ ∧ b < w.heap.size ∧ ∀ j, j < ss.length → w.cell? ⟨b, off + j, none⟩ = some (.string (ss.getD j ⟨#[]⟩))
theorem TextsAt.below {w w' : World} {a : Option Addr} {ss : List ByteArray} (h : TextsAt w a ss) (hb : Below w.heap.size w w') : TextsAt w' a ss := by
  rcases h with h | ⟨b, off, rfl, hl, hc⟩
  · exact Or.inl h
  · exact Or.inr ⟨b, off, rfl, Nat.lt_of_lt_of_le hl hb.size, fun j hj => (hb.cell (p := ⟨b, off + j, none⟩) hl).trans (hc j hj)⟩
set_option maxHeartbeats 800000 in
theorem notname_any (s : ByteArray) (hs : s.size ≤ maxLen) (w : World) : Calls Tryz.prog 113 #[.string s] w fun e w' => e = .returned (.bool (!nameB s)) ∧ w' = w := by
  have HN := Lib.hid (isname_any s hs w)
  go_enter Tryz.func113, Tryz.ntmps113
  go_wp2_with (fail)
  refine HN.out.mono ?_
  rintro e w1 ⟨rfl, rfl⟩
  go_wp2_with (fail)
  go_ret
  exact ⟨rfl, rfl⟩
def idxS (p : ByteArray → Bool) : List ByteArray → Nat → Int
  | [], _ => -1
  | s :: ss, k => if p s then (k : Int) else idxS p ss (k + 1)
theorem idxS_at {p : ByteArray → Bool} : ∀ {ss : List ByteArray} {k i : Nat} (hi : i < ss.length), (ss.take i).any p = false → p (ss.getD i ⟨#[]⟩) = true → idxS p ss k = ((k + i : Nat) : Int)
  | s :: ss, k, 0, hi, _, h => by
    simp only [List.getD_cons_zero] at h
    simp [idxS, h]
  | s :: ss, k, i + 1, hi, h1, h => by
    simp only [List.take_succ_cons, List.any_cons, Bool.or_eq_false_iff] at h1
    rw [idxS, h1.1, if_neg (by simp), idxS_at (k := k + 1) (i := i) (by simpa using hi) h1.2 (by simpa using h)]
    omega
theorem idxS_no {p : ByteArray → Bool} : ∀ {ss : List ByteArray} {k : Nat}, ss.any p = false → idxS p ss k = -1
  | [], _, _ => rfl
  | s :: ss, k, h => by
    simp only [List.any_cons, Bool.or_eq_false_iff] at h
    rw [idxS, h.1, if_neg (by simp), idxS_no h.2]
set_option maxHeartbeats 1600000 in
theorem indexnn_any {w : World} (a : Option Addr) (len cap : Nat) (ss : List ByteArray) (hl : ss.length = len) (hm : len ≤ 9223372036854775807) (hs : TextsAt w a ss) (hsz : ∀ s, s ∈ ss → s.size ≤ maxLen) :
    Calls Tryz.prog 121 #[.slice a len cap, .func (.func 113) #[] #[]] w fun e w' => e = .returned (.int .i64 (idxS (fun s => !nameB s) ss 0)) ∧ w' = w := by
  have Hs := Lib.hid hs
  have Hl := Lib.hid hl
  have Hz := Lib.hid hsz
  clear hs hl hsz
  go_enter Tryz.func121, Tryz.ntmps121
  go_wp2_with (fail)
  go_loop [5, 8] (fun x i => ∃ k : Nat, k ≤ len ∧ i = .int .i64 k ∧ Hid ((ss.take k).any (fun s => !nameB s) = false)) (fun _ i => len - (intOf i).toNat)
  case atStart => exact ⟨0, Nat.zero_le _, rfl, rfl⟩
  case round =>
    obtain ⟨k, hk, rfl, HA⟩ := hrel
    by_cases hlt : k < len
    · rcases Hs.out with h | ⟨b, off, rfl, hbl, hcell⟩
      · exfalso; have := Hl.out; subst h; simp at this; omega
      · have hkl : k < ss.length := by rw [Hl.out]; exact hlt
        have d1 := hcell k hkl
        have hz := Hz.out (ss.getD k ⟨#[]⟩) (by simp [List.getD, hkl])
        have HX := Lib.hid (notname_any (ss.getD k ⟨#[]⟩) hz w)
        have hat := idxS_at (p := fun s => !nameB s) (k := 0) hkl HA.out
        have htk : (ss.take (k + 1)).any (fun s => !nameB s) = ((ss.take k).any (fun s => !nameB s) || !nameB (ss.getD k ⟨#[]⟩)) := by
          rw [List.take_add_one, List.getElem?_eq_getElem hkl, Option.toList_some, List.any_append]
          simp [List.getD, hkl]
        rw [HA.out, Bool.false_or] at htk
        generalize ss.getD k ⟨#[]⟩ = s at d1 HX hat htk
        have k0 : (0 : Int) ≤ k := by omega
        have k1 : (k : Int) < len := by omega
        clear hcell hz
        cases hn : nameB s
        · rw [hn] at HX
          have HT := Lib.hid (hat (by rw [hn]; rfl))
          clear hat htk hn
          go_wp2_with (fail)
          refine HX.out.mono ?_
          rintro e w1 ⟨rfl, rfl⟩
          go_wp2_with (fail)
          go_ret
          exact ⟨by rw [HT.out, Nat.zero_add]; rfl, rfl⟩
        · rw [hn] at HX htk
          have HT := Lib.hid htk
          clear hat htk hn
          go_wp2_with (fail)
          refine HX.out.mono ?_
          rintro e w1 ⟨rfl, rfl⟩
          go_wp2_with (fail)
          exact ⟨⟨k + 1, by omega, by go_num, HT⟩, by first | (simp [intOf]; done) | (simp [intOf]; omega)⟩
    · have hall : ss.any (fun s => !nameB s) = false := by
        have h1 := HA.out
        rw [List.take_of_length_le (by rw [Hl.out]; omega)] at h1
        exact h1
      go_wp2_with (fail)
      go_ret
      exact ⟨by rw [idxS_no hall]; rfl, rfl⟩
set_option maxHeartbeats 1600000 in
theorem containsnn_any {w : World} (a : Option Addr) (len cap : Nat) (ss : List ByteArray) (hl : ss.length = len) (hm : len ≤ 9223372036854775807) (hs : TextsAt w a ss) (hsz : ∀ s, s ∈ ss → s.size ≤ maxLen) :
    Calls Tryz.prog 112 #[.slice a len cap, .func (.func 113) #[] #[]] w fun e w' => e = .returned (.bool (ss.any (fun s => !nameB s))) ∧ w' = w := by
  have HI := Lib.hid (indexnn_any a len cap ss hl hm hs hsz)
  cases hany : ss.any (fun s => !nameB s)
  · rw [idxS_no hany] at HI
    clear hs hsz hany
    go_enter Tryz.func112, Tryz.ntmps112
    go_wp2_with (fail)
    refine HI.out.mono ?_
    rintro e w1 ⟨rfl, rfl⟩
    go_wp2_with (fail)
    go_ret
    exact ⟨rfl, rfl⟩
  · obtain ⟨i, hi, h0, h1⟩ : ∃ i, i < ss.length ∧ (ss.take i).any (fun s => !nameB s) = false ∧ (!nameB (ss.getD i ⟨#[]⟩)) = true := by
      clear HI hl hs hsz
      induction ss with
      | nil => simp at hany
      | cons s ss ih =>
        cases hs : nameB s
        · exact ⟨0, by simp, rfl, by simp [hs]⟩
        · simp only [List.any_cons, hs, Bool.not_true, Bool.false_or] at hany
          obtain ⟨i, a1, a2, a3⟩ := ih hany
          exact ⟨i + 1, by simpa using a1, by simp [hs]; simpa using a2, by simpa using a3⟩
    rw [idxS_at hi h0 h1] at HI
    have i0 : (0 : Int) ≤ ((0 + i : Nat) : Int) := by omega
    clear hs hsz hany h0 h1
    go_enter Tryz.func112, Tryz.ntmps112
    go_wp2_with (fail)
    refine HI.out.mono ?_
    rintro e w1 ⟨rfl, rfl⟩
    go_wp2_with (fail)
    go_ret
    exact ⟨rfl, rfl⟩
def namedB (res : ByteArray) (ss : List ByteArray) : Bool := nameB res && !ss.any (fun s => !nameB s)
set_option maxHeartbeats 1600000 in
theorem named_any {w : World} (res : ByteArray) (hr : res.size ≤ maxLen) (a : Option Addr) (len cap : Nat) (ss : List ByteArray) (hl : ss.length = len) (hm : len ≤ 9223372036854775807) (hs : TextsAt w a ss) (hsz : ∀ s, s ∈ ss → s.size ≤ maxLen) :
    Calls Tryz.prog 92 #[.agg #[.string res, .slice a len cap]] w fun e w' => e = .returned (.bool (namedB res ss)) ∧ Below w.heap.size w w' := by
  have hb : Below w.heap.size w (w.alloc (.cells #[.string res, .slice a len cap] 106)) := (Below.refl _ _).alloc (Nat.le_refl _) _
  have HB := Lib.hid hb
  have HI := Lib.hid (isname_any res hr (w.alloc (.cells #[.string res, .slice a len cap] 106)))
  have HC := Lib.hid (containsnn_any a len cap ss hl hm (hs.below hb) hsz)
  clear hs hsz hb
  unfold namedB
  cases hn : nameB res
  · rw [hn] at HI
    go_enter Tryz.func92, Tryz.ntmps92
    go_wp2_with (fail)
    refine HI.out.mono ?_
    rintro e w1 ⟨rfl, rfl⟩
    go_wp2_with (fail)
    go_ret
    exact ⟨rfl, HB.out⟩
  · rw [hn] at HI
    go_enter Tryz.func92, Tryz.ntmps92
    go_wp2_with (fail)
    refine HI.out.mono ?_
    rintro e w1 ⟨rfl, rfl⟩
    go_wp2_with (fail)
    refine HC.out.mono ?_
    rintro e w1 ⟨rfl, rfl⟩
    go_wp2_with (fail)
    go_ret
    exact ⟨rfl, HB.out⟩
end Go.Proofs.YtemlafbkkaloiaaGreat
namespace Go.Proofs.YtemlafbkkaloiaaGreat
open Go.RowKit
def lookE (nm al : Bool) (err : Int) : Int := if nm then (if al then 0 else err) else 10
structure Must where
  id : FuncId
  caps : Array Value
  b : Bool
set_option maxHeartbeats 3200000 in
set_option maxRecDepth 100000 in
theorem lookof_any {w : World} (res : ByteArray) (hr : res.size ≤ maxLen) (a : Option Addr) (len cap : Nat) (ss : List ByteArray) (hl : ss.length = len) (hm : len ≤ 9223372036854775807) (hs : TextsAt w a ss) (hsz : ∀ s, s ∈ ss → s.size ≤ maxLen) (err : Int)
    (g n c : Nat) (ms : List Must) (hn : ms.length = n) (hn2 : n ≤ 100) (hg : g < w.heap.size) (hc : ∀ j (hj : j < ms.length), w.cell? ⟨g, j, none⟩ = some (.func (.func (ms[j]'hj).id) #[] (ms[j]'hj).caps))
    (he : ∀ j (hj : j < ms.length), ∀ wx, (callFunc (ms[j]'hj).id (ms[j]'hj).caps).run Tryz.prog wx = .ok (.enter (ms[j]'hj).id (ms[j]'hj).caps) wx)
    (hf : ∀ j (hj : j < ms.length), ∀ wx, Below w.heap.size w wx → Calls Tryz.prog (ms[j]'hj).id (ms[j]'hj).caps wx fun e w' => e = .returned (.bool (ms[j]'hj).b) ∧ Below wx.heap.size wx w') :
    Calls Tryz.prog 51 #[.agg #[.string res, .slice a len cap, .int .i64 err], .slice (some ⟨g, 0, none⟩) n c] w fun e w' => e = .returned (.int .i64 (lookE (namedB res ss) (ms.all (·.b)) err)) ∧ Below w.heap.size w w' := by
  have hb : Below w.heap.size w (w.alloc (.cells #[.string res, .slice a len cap, .int .i64 err] 108)) := (Below.refl _ _).alloc (Nat.le_refl _) _
  have HNM := Lib.hid (named_any res hr a len cap ss hl hm (hs.below hb) hsz)
  have HB := Lib.hid hb
  have HC := Lib.hid hc
  have HF := Lib.hid hf
  have HEN := Lib.hid he
  have HN := Lib.hid hn
  have hz : (w.alloc (.cells #[.string res, .slice a len cap, .int .i64 err] 108)).heap[w.heap.size]? = some (.cells #[.string res, .slice a len cap, .int .i64 err] 108) := by
    show (Array.push w.heap _)[_]? = _
    rw [Array.getElem?_push, if_pos rfl]
  have c2 : (w.alloc (.cells #[.string res, .slice a len cap, .int .i64 err] 108)).cell? ⟨w.heap.size, 2, none⟩ = some (.int .i64 err) := by simp only [World.cell?, hz]; rfl
  have HC2 := Lib.hid c2
  clear hs hsz hb hc hf he hn hz c2
  cases hnm : namedB res ss
  · rw [hnm] at HNM
    go_enter Tryz.func51, Tryz.ntmps51
    go_wp2_with (fail)
    refine HNM.out.mono ?_
    rintro e w1 ⟨rfl, hb1⟩
    have HB1 := Lib.hid (HB.out.trans (hb1.mono HB.out.size))
    clear hb1
    go_wp2_with (fail)
    go_ret
    exact ⟨rfl, HB1.out⟩
  · rw [hnm] at HNM
    go_enter Tryz.func51, Tryz.ntmps51
    go_wp2_with (fail)
    refine HNM.out.mono ?_
    rintro e w1 ⟨rfl, hb1⟩
    have hsz1 : (w.alloc (.cells #[.string res, .slice a len cap, .int .i64 err] 108)).heap.size = w.heap.size + 1 := by simp
    have hb1' : Below (w.heap.size + 1) (w.alloc (.cells #[.string res, .slice a len cap, .int .i64 err] 108)) w1 := hsz1 ▸ hb1
    have HB1 := Lib.hid (HB.out.trans (hb1'.mono (Nat.le_succ _)))
    have HE1 := Lib.hid ((hb1'.cell (p := ⟨w.heap.size, 2, none⟩) (Nat.lt_succ_self _)).trans HC2.out)
    have hz1 : w.heap.size + 1 ≤ w1.heap.size := by have := hb1.size; omega
    clear hb1 hb1' hsz1
    go_wp2_with (fail)
    go_loopw [6, 13] (fun x i wr => ∃ k : Nat, k ≤ n ∧ i = .int .i64 k ∧ Hid ((ms.take k).all (·.b) = true) ∧ Hid (Below (w.heap.size + 1) w1 wr)) (fun _ i _ => n - (intOf i).toNat)
    case atStart => exact ⟨0, Nat.zero_le _, rfl, rfl, Below.refl _ _⟩
    case round =>
      obtain ⟨k, hk, rfl, HA, HBR⟩ := hrel
      have hbw : Below w.heap.size w wr := HB1.out.trans (HBR.out.mono (Nat.le_succ _))
      by_cases hlt : k < n
      · have hkl : k < ms.length := by rw [HN.out]; exact hlt
        have d1 := (hbw.cell (p := ⟨g, k, none⟩) hg).trans (HC.out k hkl)
        have HX := Lib.hid (HF.out k hkl wr hbw)
        have hen := HEN.out k hkl wr
        have htk : (ms.take (k + 1)).all (·.b) = ((ms.take k).all (·.b) && (ms[k]'hkl).b) := by
          rw [List.take_add_one, List.getElem?_eq_getElem hkl, Option.toList_some, List.all_append]
          simp
        rw [HA.out, Bool.true_and] at htk
        have hsplit : ms.all (·.b) = ((ms.take (k + 1)).all (·.b) && (ms.drop (k + 1)).all (·.b)) := by
          rw [← List.all_append, List.take_append_drop]
        have e1 := HE1.out
        have e2 := (HBR.out.cell (p := ⟨w.heap.size, 2, none⟩) (Nat.lt_succ_self _)).trans e1
        generalize hmk : ms[k]'hkl = mk at d1 HX htk hen
        obtain ⟨id, caps, b⟩ := mk
        dsimp only at d1 HX htk hen
        have k0 : (0 : Int) ≤ k := by omega
        have k1 : (k : Int) < n := by omega
        have HS := Lib.hid hsplit
        have HT := Lib.hid htk
        have hz2 := HBR.out.size
        clear hmk hsplit htk
        cases b
        · go_wp2_with (fail)
          refine HX.out.mono ?_
          rintro e w2 ⟨rfl, hb2⟩
          have hb2' : Below (w.heap.size + 1) wr w2 := hb2.mono (by omega)
          have e3 := (hb2'.cell (p := ⟨w.heap.size, 2, none⟩) (Nat.lt_succ_self _)).trans e2
          have HB2 := Lib.hid (hbw.trans (hb2'.mono (Nat.le_succ _)))
          clear hb2 hb2'
          go_wp2_with (fail)
          go_ret
          exact ⟨by rw [HS.out, HT.out]; rfl, HB2.out⟩
        · go_wp2_with (fail)
          refine HX.out.mono ?_
          rintro e w2 ⟨rfl, hb2⟩
          have hb2' : Below (w.heap.size + 1) w1 w2 := HBR.out.trans (hb2.mono (by omega))
          have HB2 := Lib.hid hb2'
          clear hb2 hb2'
          go_wp2_with (fail)
          exact ⟨⟨k + 1, by omega, by go_num, HT, HB2⟩, by first | (simp [intOf]; done) | (simp [intOf]; omega)⟩
      · have hall : ms.all (·.b) = true := by
          have h1 := HA.out
          rw [List.take_of_length_le (by rw [HN.out]; omega)] at h1
          exact h1
        have HAL := Lib.hid hall
        clear hall
        go_wp2_with (fail)
        go_ret
        exact ⟨by rw [HAL.out]; rfl, hbw⟩
end Go.Proofs.YtemlafbkkaloiaaGreat
