/- rules: twice, List (as XGuE has them, for seats without the guard). -/
import Derived.Test.YtgkdpkpiejjfmaaBrA
namespace Go.Proofs.Ytgkdpkpiejjfmaa
open Go.RowKit
set_option linter.unusedVariables false
set_option linter.unusedSimpArgs false

theorem get_allocG (w : World) (o : Obj) (i : Nat) : (w.alloc o).heap[i]? = if i = w.heap.size then some o else w.heap[i]? := by
  show (Array.push w.heap o)[i]? = _
  rw [Array.getElem?_push]
theorem below_drewG {n : Nat} {a w : World} (h : Below n a w) (q : Nat) : Below n a (w.drewN q) := ⟨h.os, h.tape, h.output, h.size, h.block⟩
def twiceAt (ss : List ByteArray) (i : Nat) : Bool := Lib.containsS (ss.take i) (ss.getD i ⟨#[]⟩)
def twiceB (ss : List ByteArray) : Bool := (List.range ss.length).any (twiceAt ss)
theorem range_step {p : Nat → Bool} {k : Nat} (h : (List.range k).any p = false) : (List.range (k + 1)).any p = p k := by
  rw [List.range_succ, List.any_append, h]; simp
theorem twice_yes {ss : List ByteArray} {k : Nat} (hk : k < ss.length) (h : twiceAt ss k = true) : twiceB ss = true := by
  unfold twiceB
  rw [List.any_eq_true]
  exact ⟨k, List.mem_range.2 hk, h⟩

set_option maxHeartbeats 1600000 in
theorem twice_any {w : World} (a : Option Addr) (len cap : Nat) (ss : List ByteArray) (hl : ss.length = len) (hm : len ≤ 9223372036854775807) (hcp : len ≤ cap) (hs : TextsAt w a ss) :
    Calls Try.prog 62 #[.slice a len cap] w fun e w' => e = .returned (.bool (twiceB ss)) ∧ w' = w := by
  have Hs := Lib.hid hs
  have Hl := Lib.hid hl
  have HT := Lib.hid (fun k hk h => twice_yes (ss := ss) (k := k) hk h)
  have HD := Lib.hid (show twiceB ss = (List.range ss.length).any (twiceAt ss) from rfl)
  clear hs hl
  go_enter Try.func62, Try.ntmps62
  go_wp2_with (fail)
  go_loop [3, 4, 7] (fun x y i => ∃ k : Nat, k ≤ len ∧ i = .int .i64 k ∧ Hid ((List.range k).any (twiceAt ss) = false)) (fun _ _ i => len - (intOf i).toNat)
  case atStart => exact ⟨0, Nat.zero_le _, rfl, rfl⟩
  case round =>
    obtain ⟨k, hk, rfl, HA⟩ := hrel
    by_cases hlt : k < len
    · rcases Hs.out with h | ⟨b, off, rfl, hbl, hcell⟩
      · exfalso; have := Hl.out; subst h; simp at this; omega
      · have hkl : k < ss.length := by rw [Hl.out]; exact hlt
        have d1 := hcell k hkl
        have hst := range_step HA.out
        have HX := Lib.hid (Try.slices_Contains_string b off k cap ss (ss.getD k ⟨#[]⟩) w (by omega) (by omega) hcell)
        rw [show Lib.containsS (ss.take k) (ss.getD k ⟨#[]⟩) = twiceAt ss k from rfl] at HX
        have HY := Lib.hid (HT.out k hkl)
        generalize ss.getD k ⟨#[]⟩ = s at d1 HX
        generalize twiceAt ss k = TA at hst HX HY
        have k0 : (0 : Int) ≤ k := by omega
        have k1 : (k : Int) < len := by omega
        have k2 : k ≤ cap := by omega
        have k3 : (k : Int) ≤ cap := by omega
        clear hcell
        cases TA
        · have HS := Lib.hid hst
          clear hst
          go_wp2_with (fail)
          refine HX.out.mono ?_
          rintro e wq ⟨rfl, hq⟩
          subst hq
          go_wp2_with (fail)
          exact ⟨⟨k + 1, by omega, by go_num, HS⟩, by first | (simp [intOf]; done) | (simp [intOf]; omega)⟩
        · have HS := Lib.hid (HY.out rfl)
          clear hst
          go_wp2_with (fail)
          refine HX.out.mono ?_
          rintro e wq ⟨rfl, hq⟩
          subst hq
          go_wp2_with (fail)
          go_ret
          exact ⟨by rw [HS.out]; rfl, rfl⟩
    · have k1 : ¬ (k : Int) < len := by omega
      have hall : Hid (twiceB ss = false) := by
        have h1 := HA.out
        rw [show k = ss.length by rw [Hl.out]; omega] at h1
        exact HD.out.trans h1
      go_wp2_with (fail)
      go_ret
      exact ⟨by rw [hall.out]; rfl, rfl⟩

def l1B (ss : List ByteArray) : Bool := (decide (1 ≤ (ss.length : Int)) && decide ((ss.length : Int) ≤ 32)) && !twiceB ss
def listE (res : ByteArray) (ss : List ByteArray) : Int := lookE (namedB res ss) (l1B ss) 34

set_option maxHeartbeats 1600000 in
theorem list1_any {w : World} (b : Nat) (a : Option Addr) (len cap : Nat) (ss : List ByteArray) (hl : ss.length = len) (hm : len ≤ 9223372036854775807) (hcp : len ≤ cap) (hs : TextsAt w a ss) (hc : w.cell? ⟨b, 2, none⟩ = some (.slice a len cap)) :
    Calls Try.prog 66 #[.pointer (some ⟨b, 0, none⟩)] w fun e w' => e = .returned (.bool (l1B ss)) ∧ w' = w := by
  have HW := Lib.hid (within_any len 1 32 w)
  have HT := Lib.hid (twice_any a len cap ss hl hm hcp hs)
  unfold l1B
  rw [hl]
  generalize (decide (1 ≤ (len : Int)) && decide ((len : Int) ≤ 32)) = IN at *
  generalize twiceB ss = TW at *
  clear hl hs
  cases IN
  · go_enter Try.func66, Try.ntmps66
    go_wp2_with (fail)
    refine HW.out.mono ?_
    rintro e wq ⟨rfl, hq⟩
    subst hq
    go_wp2_with (fail)
    go_ret
    exact ⟨rfl, rfl⟩
  · go_enter Try.func66, Try.ntmps66
    go_wp2_with (fail)
    refine HW.out.mono ?_
    rintro e wq ⟨rfl, hq⟩
    subst hq
    go_wp2_with (fail)
    refine HT.out.mono ?_
    rintro e wq ⟨rfl, hq⟩
    subst hq
    go_wp2_with (fail)
    go_ret
    exact ⟨rfl, rfl⟩

theorem enL1 (b : Nat) (wx : World) : (callFunc 66 #[.pointer (some ⟨b, 0, none⟩)]).run Try.prog wx = .ok (.enter 66 #[.pointer (some ⟨b, 0, none⟩)]) wx := by kernel_rfl

set_option maxHeartbeats 1600000 in
theorem rlist_any {w : World} (res : ByteArray) (white : Bool) (hr : res.size ≤ maxLen) (a : Option Addr) (len cap : Nat) (ss : List ByteArray) (hl : ss.length = len) (hm : len ≤ 9223372036854775807) (hcp : len ≤ cap) (hs : TextsAt w a ss) (hsz : ∀ s, s ∈ ss → s.size ≤ maxLen) :
    Calls Try.prog 54 #[.agg #[.string res, .bool white, .slice a len cap]] w fun e w' => e = .returned (.int .i64 (listE res ss)) ∧ Below w.heap.size w w' := by
  obtain ⟨W, hW⟩ : ∃ W, (w.alloc (.cells #[.string res, .bool white, .slice a len cap] 48)).alloc (.cells #[.func (.func 66) #[] #[.pointer (some ⟨w.heap.size, 0, none⟩)]] 31) = W := ⟨_, rfl⟩
  have hb : Below w.heap.size w W := by rw [← hW]; exact ((Below.refl _ _).alloc (Nat.le_refl _) _).alloc (by simp) _
  have h0 : W.heap[w.heap.size]? = some (.cells #[.string res, .bool white, .slice a len cap] 48) := by
    rw [← hW]; simp only [get_allocG, World.size_alloc, if_true]; rw [if_neg (by omega)]
  have h1 : W.heap[w.heap.size + 1]? = some (.cells #[.func (.func 66) #[] #[.pointer (some ⟨w.heap.size, 0, none⟩)]] 31) := by
    rw [← hW]; simp only [get_allocG, World.size_alloc, if_true]
  have hlt := (Array.getElem?_eq_some_iff.1 h0).1
  have HO := Lib.hid (lookof_any (w := W) res hr a len cap ss hl hm (hs.below hb) hsz 34 (w.heap.size + 1) 1 1 [⟨66, #[.pointer (some ⟨w.heap.size, 0, none⟩)], l1B ss⟩] rfl (by omega) (Array.getElem?_eq_some_iff.1 h1).1
    (fun j hj => by
      match j, hj with
      | 0, _ => simp only [World.cell?, h1]; rfl)
    (fun j hj wx => by
      match j, hj with
      | 0, _ => exact enL1 _ wx)
    (fun j hj wx hx => by
      match j, hj with
      | 0, _ =>
        refine (list1_any (w := wx) w.heap.size a len cap ss hl hm hcp ((hs.below hb).below hx) ((hx.cell (p := ⟨w.heap.size, 2, none⟩) hlt).trans (by simp only [World.cell?, h0]; rfl))).mono ?_
        rintro e w' ⟨rfl, rfl⟩
        exact ⟨rfl, Below.refl _ _⟩))
  have HB := Lib.hid hb
  have hE : lookE (namedB res ss) (([⟨66, #[.pointer (some ⟨w.heap.size, 0, none⟩)], l1B ss⟩] : List Must).all (·.b)) 34 = listE res ss := by
    unfold listE; simp
  rw [hE] at HO
  clear hE h0 h1 hlt hs hsz hl hb
  generalize listE res ss = LE at *
  subst hW
  go_enter Try.func54, Try.ntmps54
  go_wp2_with (fail)
  refine HO.out.mono ?_
  rintro e wq ⟨rfl, hbq⟩
  have HB2 := Lib.hid (HB.out.trans (hbq.mono HB.out.size))
  clear hbq
  go_wp2_with (fail)
  go_ret
  exact ⟨rfl, HB2.out⟩

def listB (res : ByteArray) (white : Bool) (ss : List ByteArray) (origin : ByteArray) : Bool := decide (listE res ss = 0) && ((origin.toList == []) || (Lib.containsS ss origin == white))

theorem contains_texts {w : World} (a : Option Addr) (len cap : Nat) (ss : List ByteArray) (hl : ss.length = len) (hm : len ≤ 9223372036854775807) (hs : TextsAt w a ss) (x : ByteArray) :
    Calls Try.prog 30 #[.slice a len cap, .string x] w fun e w' => e = .returned (.bool (Lib.containsS ss x)) ∧ w' = w := by
  rcases hs with rfl | ⟨b, off, rfl, hbl, hcell⟩
  · simp at hl
    subst hl
    exact Try.slices_Contains_string_empty a cap x w
  · have := Try.slices_Contains_string b off len cap ss x w (by omega) hm hcell
    rwa [List.take_of_length_le (by omega)] at this

end Go.Proofs.Ytgkdpkpiejjfmaa
