/- rules: what a look finds: the first thing that must be and is not. -/
import Derived.Test.YtgkdpkpiejjfmaaRuB
namespace Go.Proofs.Ytgkdpkpiejjfmaa
open Go.RowKit
set_option linter.unusedVariables false
set_option linter.unusedSimpArgs false

/-- What a look's error is. -/
def lookE (nm al : Bool) (err : Int) : Int := if nm then (if al then 0 else err) else 10
/-- A closure in a cell, and what it answers. -/
structure Must where
  id : FuncId
  caps : Array Value
  b : Bool

set_option maxHeartbeats 3200000 in
set_option maxRecDepth 100000 in
theorem lookof_any {w : World} (res : ByteArray) (hr : res.size ≤ maxLen) (a : Option Addr) (len cap : Nat) (ss : List ByteArray) (hl : ss.length = len) (hm : len ≤ 9223372036854775807) (hs : TextsAt w a ss) (hsz : ∀ s, s ∈ ss → s.size ≤ maxLen) (err : Int)
    (g n c : Nat) (ms : List Must) (hn : ms.length = n) (hn2 : n ≤ 100) (hg : g < w.heap.size) (hc : ∀ j (hj : j < ms.length), w.cell? ⟨g, j, none⟩ = some (.func (.func (ms[j]'hj).id) #[] (ms[j]'hj).caps))
    (he : ∀ j (hj : j < ms.length), ∀ wx, (callFunc (ms[j]'hj).id (ms[j]'hj).caps).run Try.prog wx = .ok (.enter (ms[j]'hj).id (ms[j]'hj).caps) wx)
    (hf : ∀ j (hj : j < ms.length), ∀ wx, Below w.heap.size w wx → Calls Try.prog (ms[j]'hj).id (ms[j]'hj).caps wx fun e w' => e = .returned (.bool (ms[j]'hj).b) ∧ Below wx.heap.size wx w') :
    Calls Try.prog 33 #[.agg #[.string res, .slice a len cap, .int .i64 err], .slice (some ⟨g, 0, none⟩) n c] w fun e w' => e = .returned (.int .i64 (lookE (namedB res ss) (ms.all (·.b)) err)) ∧ Below w.heap.size w w' := by
  have hb : Below w.heap.size w (w.alloc (.cells #[.string res, .slice a len cap, .int .i64 err] 80)) := (Below.refl _ _).alloc (Nat.le_refl _) _
  have HNM := Lib.hid (named_any res hr a len cap ss hl hm (hs.below hb) hsz)
  have HB := Lib.hid hb
  have HC := Lib.hid hc
  have HF := Lib.hid hf
  have HEN := Lib.hid he
  have HN := Lib.hid hn
  have hz : (w.alloc (.cells #[.string res, .slice a len cap, .int .i64 err] 80)).heap[w.heap.size]? = some (.cells #[.string res, .slice a len cap, .int .i64 err] 80) := by
    show (Array.push w.heap _)[_]? = _
    rw [Array.getElem?_push, if_pos rfl]
  have c2 : (w.alloc (.cells #[.string res, .slice a len cap, .int .i64 err] 80)).cell? ⟨w.heap.size, 2, none⟩ = some (.int .i64 err) := by simp only [World.cell?, hz]; rfl
  have HC2 := Lib.hid c2
  clear hs hsz hb hc hf he hn hz c2
  cases hnm : namedB res ss
  · rw [hnm] at HNM
    go_enter Try.func33, Try.ntmps33
    go_wp2_with (fail)
    refine HNM.out.mono ?_
    rintro e w1 ⟨rfl, hb1⟩
    have HB1 := Lib.hid (HB.out.trans (hb1.mono HB.out.size))
    clear hb1
    go_wp2_with (fail)
    go_ret
    exact ⟨rfl, HB1.out⟩
  · rw [hnm] at HNM
    go_enter Try.func33, Try.ntmps33
    go_wp2_with (fail)
    refine HNM.out.mono ?_
    rintro e w1 ⟨rfl, hb1⟩
    have hsz1 : (w.alloc (.cells #[.string res, .slice a len cap, .int .i64 err] 80)).heap.size = w.heap.size + 1 := by simp
    have hb1' : Below (w.heap.size + 1) (w.alloc (.cells #[.string res, .slice a len cap, .int .i64 err] 80)) w1 := hsz1 ▸ hb1
    have HB1 := Lib.hid (HB.out.trans (hb1'.mono (Nat.le_succ _)))
    have HE1 := Lib.hid ((hb1'.cell (p := ⟨w.heap.size, 2, none⟩) (Nat.lt_succ_self _)).trans HC2.out)
    have hz1 : w.heap.size + 1 ≤ w1.heap.size := by have := hb1.size; omega
    clear hb1 hb1' hsz1
    go_wp2_with (fail)
    go_loopw [6, 13] (fun x i wr => ∃ k : Nat, k ≤ n ∧ i = .int .i64 k ∧ Hid ((ms.take k).all (·.b) = true) ∧ Hid (Below (w.heap.size + 1) w1 wr)) (fun _ i _ => n - (intOf i).toNat)
    case atStart => exact ⟨0, Nat.zero_le _, rfl, rfl, Below.refl _ _⟩
    case round =>
      obtain ⟨k, hk, rfl, HA, HBR⟩ := hrel
      have hbw : Below w.heap.size w wr := HB1.out.trans (HBR.out.mono (Nat.le_succ _))
      by_cases hlt : k < n
      · have hkl : k < ms.length := by rw [HN.out]; exact hlt
        have d1 := (hbw.cell (p := ⟨g, k, none⟩) hg).trans (HC.out k hkl)
        have HX := Lib.hid (HF.out k hkl wr hbw)
        have hen := HEN.out k hkl wr
        have htk : (ms.take (k + 1)).all (·.b) = ((ms.take k).all (·.b) && (ms[k]'hkl).b) := by
          rw [List.take_add_one, List.getElem?_eq_getElem hkl, Option.toList_some, List.all_append]
          simp
        rw [HA.out, Bool.true_and] at htk
        have hsplit : ms.all (·.b) = ((ms.take (k + 1)).all (·.b) && (ms.drop (k + 1)).all (·.b)) := by
          rw [← List.all_append, List.take_append_drop]
        have e1 := HE1.out
        have e2 := (HBR.out.cell (p := ⟨w.heap.size, 2, none⟩) (Nat.lt_succ_self _)).trans e1
        generalize hmk : ms[k]'hkl = mk at d1 HX htk hen
        obtain ⟨id, caps, b⟩ := mk
        dsimp only at d1 HX htk hen
        have k0 : (0 : Int) ≤ k := by omega
        have k1 : (k : Int) < n := by omega
        have HS := Lib.hid hsplit
        have HT := Lib.hid htk
        have hz2 := HBR.out.size
        clear hmk hsplit htk
        cases b
        · go_wp2_with (fail)
          refine HX.out.mono ?_
          rintro e w2 ⟨rfl, hb2⟩
          have hb2' : Below (w.heap.size + 1) wr w2 := hb2.mono (by omega)
          have e3 := (hb2'.cell (p := ⟨w.heap.size, 2, none⟩) (Nat.lt_succ_self _)).trans e2
          have HB2 := Lib.hid (hbw.trans (hb2'.mono (Nat.le_succ _)))
          clear hb2 hb2'
          go_wp2_with (fail)
          go_ret
          exact ⟨by rw [HS.out, HT.out]; rfl, HB2.out⟩
        · go_wp2_with (fail)
          refine HX.out.mono ?_
          rintro e w2 ⟨rfl, hb2⟩
          have hb2' : Below (w.heap.size + 1) w1 w2 := HBR.out.trans (hb2.mono (by omega))
          have HB2 := Lib.hid hb2'
          clear hb2 hb2'
          go_wp2_with (fail)
          exact ⟨⟨k + 1, by omega, by go_num, HT, HB2⟩, by first | (simp [intOf]; done) | (simp [intOf]; omega)⟩
      · have hall : ms.all (·.b) = true := by
          have h1 := HA.out
          rw [List.take_of_length_le (by rw [HN.out]; omega)] at h1
          exact h1
        have HAL := Lib.hid hall
        clear hall
        go_wp2_with (fail)
        go_ret
        exact ⟨by rw [HAL.out]; rfl, hbw⟩

theorem enter63 (a b : Nat) (wx : World) : (callFunc 34 #[.pointer (some ⟨a, 0, none⟩), .pointer (some ⟨b, 0, none⟩)]).run Try.prog wx = .ok (.enter 34 #[.pointer (some ⟨a, 0, none⟩), .pointer (some ⟨b, 0, none⟩)]) wx := by kernel_rfl
end Go.Proofs.Ytgkdpkpiejjfmaa
