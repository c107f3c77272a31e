/- guard's reference: List. -/
import Derived.Test.YtnobfmlfhaaghaaGuH
namespace Go.Proofs.Ytnobfmlfhaaghaa
open Go.RowKit
set_option linter.unusedVariables false
set_option linter.unusedSimpArgs false

theorem listB_no {res : ByteArray} {white : Bool} {ss : List ByteArray} {o : ByteArray} (h : listE res ss ≠ 0) : listB res white ss o = false := by unfold listB; rw [decide_eq_false h]; rfl
theorem listB_yes {res : ByteArray} {white : Bool} {ss : List ByteArray} {o : ByteArray} (h : listE res ss = 0) : listB res white ss o = ((o.toList == []) || (Lib.containsS ss o == white)) := by unfold listB; rw [decide_eq_true h]; rfl

set_option maxHeartbeats 3200000 in
theorem r16list_any {w : World} (res : ByteArray) (white : Bool) (hr : res.size ≤ maxLen) (a : Option Addr) (len cap : Nat) (ss : List ByteArray) (hl : ss.length = len) (hm : len ≤ 9223372036854775807) (hs : TextsAt w a ss) (hsz : ∀ s, s ∈ ss → s.size ≤ maxLen) (origin : ByteArray) :
    Calls Try.prog 14 #[.agg #[.string res, .bool white, .slice a len cap], .string origin] w fun e w' => e = .returned (.bool (listB res white ss origin)) ∧ Below w.heap.size w w' := by
  have hb : Below w.heap.size w (w.alloc (.cells #[.string res, .bool white, .slice a len cap] 37)) := (Below.refl _ _).alloc (Nat.le_refl _) _
  have hz : (w.alloc (.cells #[.string res, .bool white, .slice a len cap] 37)).heap[w.heap.size]? = some (.cells #[.string res, .bool white, .slice a len cap] 37) := by rw [get_allocG, if_pos rfl]
  have hsz1 : (w.alloc (.cells #[.string res, .bool white, .slice a len cap] 37)).heap.size = w.heap.size + 1 := by simp
  have HB := Lib.hid hb
  have HTX := Lib.hid (hs.below hb)
  have HL := Lib.hid hl
  have HR := Lib.hid (r7list_any (w := w.alloc (.cells #[.string res, .bool white, .slice a len cap] 37)) res white hr a len cap ss hl hm (hs.below hb) hsz)
  clear hs hl hsz hb
  go_enter Try.func14, Try.ntmps14
  go_wp2_with (fail)
  refine HR.out.mono ?_
  rintro e wq ⟨rfl, hq⟩
  obtain ⟨B, hBe⟩ : ∃ B, w.heap.size = B := ⟨_, rfl⟩
  rw [hBe] at hz hsz1
  simp only [hBe]
  have hz2 := (hq.block B (by omega)).trans hz
  have HT2 := Lib.hid (HTX.out.below hq)
  have HB2 := Lib.hid (HB.out.trans (hq.mono HB.out.size))
  clear hq hz HB HTX HR hsz1
  have c1 : wq.cell? ⟨B, 1, none⟩ = some (.bool white) := by simp only [World.cell?, hz2]; rfl
  have c2 : wq.cell? ⟨B, 2, none⟩ = some (.slice a len cap) := by simp only [World.cell?, hz2]; rfl
  clear hz2
  by_cases hE : listE res ss = 0
  · have HYES := Lib.hid (listB_yes (white := white) (o := origin) hE)
    have hE0 : (listE res ss != 0) = false := by simp [hE]
    clear hE
    generalize listE res ss = LE at *
    cases ho : (origin.toList == []) with
    | true =>
      have HR2 := Lib.hid (HYES.out.trans (by rw [ho, Bool.true_or]))
      go_wp2_with (fail)
      go_ret
      exact ⟨by rw [HR2.out]; rfl, by first | exact HB2.out | (rw [← hBe]; exact HB2.out)⟩
    | false =>
      have HR2 := Lib.hid (HYES.out.trans (by rw [ho, Bool.false_or]))
      clear HYES
      go_wp2_with (fail)
      go_loopw [5] (fun i wr => ∃ k : Nat, k ≤ len ∧ i = .int .i64 k ∧ Hid (Lib.containsS (ss.take k) origin = false) ∧ wr = wq) (fun i _ => len - (intOf i).toNat)
      case atStart => exact ⟨0, Nat.zero_le _, rfl, Lib.hid (containsS_nil origin), rfl⟩
      case round =>
        obtain ⟨k, hk, rfl, HA, rfl⟩ := hrel
        by_cases hlt : k < len
        · have hkl : k < ss.length := by rw [HL.out]; exact hlt
          rcases HT2.out with h | ⟨b, off, rfl, hbl, hcell⟩
          · exfalso; rw [h] at hkl; simp at hkl
          have k0 : (0 : Int) ≤ k := by omega
          have k1 : (k : Int) < len := by omega
          have d1 := hcell k hkl
          have hsn := contains_snoc hkl HA.out
          rw [← toList_decG] at hsn
          have HM := Lib.hid (fun h => contains_more (ss := ss) (k := k + 1) (i := ss.length) (by omega) (x := origin) h)
          clear hcell
          generalize ss.getD k ⟨#[]⟩ = Y at *
          cases he : (Y.toList == origin.toList) with
          | true =>
            rw [he] at hsn
            have HF := Lib.hid (show listB res white ss origin = white by
              rw [HR2.out]
              have := HM.out hsn
              rw [List.take_length] at this
              rw [this]; cases white <;> rfl)
            clear hsn
            go_wp2_with (fail)
            go_ret
            exact ⟨by rw [HF.out]; rfl, by first | exact HB2.out | (rw [← hBe]; exact HB2.out)⟩
          | false =>
            rw [he] at hsn
            have HS := Lib.hid hsn
            clear hsn
            go_wp2_with (fail)
            exact ⟨⟨k + 1, by omega, by go_num, HS, by first | rfl | trivial⟩, by first | (simp [intOf]; done) | (simp [intOf]; omega)⟩
        · have k1 : ¬ (k : Int) < len := by omega
          have HF := Lib.hid (show listB res white ss origin = !white by
            rw [HR2.out]
            have h1 := HA.out
            rw [List.take_of_length_le (by rw [HL.out]; omega)] at h1
            rw [h1]; cases white <;> rfl)
          clear HA
          go_wp2_with (fail)
          go_ret
          exact ⟨by rw [HF.out]; rfl, by first | exact HB2.out | (rw [← hBe]; exact HB2.out)⟩
  · have HNO := Lib.hid (listB_no (white := white) (o := origin) hE)
    have hE0 : (listE res ss != 0) = true := by simpa using hE
    clear hE
    generalize listE res ss = LE at *
    go_wp2_with (fail)
    go_ret
    exact ⟨by rw [HNO.out]; rfl, by first | exact HB2.out | (rw [← hBe]; exact HB2.out)⟩
end Go.Proofs.Ytnobfmlfhaaghaa
