/- The laws of the layer guard: GuardOther. -/
import Derived.Test.YtnobfmlfhaaghaaGuI
import Derived.Deep.RegionHeld3
namespace Go.Proofs.Ytnobfmlfhaaghaa
open Go.RowKit
set_option linter.unusedVariables false
set_option linter.unusedSimpArgs false

theorem new_blockG (w : World) (o : Obj) : (w.alloc o).heap[w.heap.size]? = some o := by rw [get_allocG, if_pos rfl]
theorem other_law {ss : List ByteArray} {res o : ByteArray} {white : Bool} : (listE res ss = 0 → (o.toList == []) = false → (listB res white ss o == listB res (!white) ss o) = false) ∧ (listE res ss = 0 → (o.toList == []) = true → (listB res white ss o == listB res (!white) ss o) = true) := by
  constructor
  · intro h ho
    rw [listB_yes h, listB_yes h, ho]
    cases white <;> cases Lib.containsS ss o <;> rfl
  · intro h ho
    rw [listB_yes h, listB_yes h, ho]; rfl
theorem listE_nil {res : ByteArray} : listE res [] ≠ 0 := by
  unfold listE lookE
  have : l1B [] = false := rfl
  rw [this]
  split <;> simp

set_option maxHeartbeats 3200000 in
set_option maxRecDepth 100000 in
theorem gother_law {w : World} (res : ByteArray) (hr : res.size ≤ maxLen) (white : Bool) (a : Option Addr) (len cap : Nat) (ss : List ByteArray) (hl : ss.length = len) (hm : len ≤ 9223372036854775807) (hcp : len ≤ cap) (hs : TextsAt w a ss) (hsz : ∀ s, s ∈ ss → s.size ≤ maxLen) (origin : ByteArray) (wo : origin.size ≤ maxLen) :
    Calls Try.prog 4 #[.agg #[.string res, .bool white, .slice a len cap], .string origin] w fun e w' => e = .returned (.bool true) ∧ Below w.heap.size w w' := by
  have HLV := Lib.hid (fun (w : World) => glive_any w)
  have hb0 : Below w.heap.size w (w.alloc (.cells #[.string res, .bool white, .slice a len cap] 37)) := (Below.refl _ _).alloc (Nat.le_refl _) _
  have hz0 : (w.alloc (.cells #[.string res, .bool white, .slice a len cap] 37)).heap[w.heap.size]? = some (.cells #[.string res, .bool white, .slice a len cap] 37) := by rw [get_allocG, if_pos rfl]
  have hs0 : (w.alloc (.cells #[.string res, .bool white, .slice a len cap] 37)).heap.size = w.heap.size + 1 := by simp
  have HA := Lib.hid (fun (wx : World) (h : Below w.heap.size w wx) => glist_any res white hr a len cap ss hl hm hcp (hs.below h) hsz origin)
  have HBL := Lib.hid (fun (wx : World) (h : Below w.heap.size w wx) => glist_any res (!white) hr a len cap ss hl hm hcp (hs.below h) hsz origin)
  have HC := Lib.hid (fun (wx : World) (h : Below w.heap.size w wx) => r16list_any res white hr a len cap ss hl hm (hs.below h) hsz ⟨#[]⟩)
  have HOT := Lib.hid (other_law (ss := ss) (res := res) (o := origin) (white := white))
  have HNO1 := Lib.hid (fun h => listB_no (res := res) (ss := ss) (white := white) (o := origin) h)
  have HNO2 := Lib.hid (fun h => listB_no (res := res) (ss := ss) (white := !white) (o := origin) h)
  have HNO3 := Lib.hid (fun h => listB_no (res := res) (ss := ss) (white := white) (o := ⟨#[]⟩) h)
  have HNIL := Lib.hid (show len = 0 → listE res ss ≠ 0 from fun h0 => by
    have : ss = [] := List.length_eq_zero_iff.1 (by omega)
    rw [this]; exact listE_nil)
  clear hs hl hsz hm hcp
  go_enter Try.func4, Try.ntmps4
  go_wp2_with (fail)
  refine (HLV.out _).mono ?_
  rintro e w2 ⟨rfl, h2⟩
  have hz2 := (h2.block w.heap.size (by omega)).trans hz0
  have hb2 := hb0.trans (h2.mono (by omega))
  have hs2 := h2.size
  obtain ⟨B, hBe⟩ : ∃ B, w.heap.size = B := ⟨_, rfl⟩
  have HBE := Lib.hid hBe
  rw [hBe] at hz2
  simp only [hBe]
  have c0 : w2.cell? ⟨B, 0, none⟩ = some (.string res) := by simp only [World.cell?, hz2]; rfl
  have c1 : w2.cell? ⟨B, 1, none⟩ = some (.bool white) := by simp only [World.cell?, hz2]; rfl
  have c2 : w2.cell? ⟨B, 2, none⟩ = some (.slice a len cap) := by simp only [World.cell?, hz2]; rfl
  have hBl : B < w2.heap.size := by omega
  have hnew := new_blockG w2 (.cells #[.string res, .bool white, .slice a len cap] 37)
  have hfr : (w2.alloc (.cells #[.string res, .bool white, .slice a len cap] 37)).frozen? ⟨w2.heap.size, 1, none⟩ = false := frozen_of_row _ _ 1 _ _ hnew
  clear hb0 hz0 hs0 h2 hBe
  go_wp2_with (fail)
  have hn1 := new_blockG w2 (.cells #[.string res, .bool (!white), .slice a len cap] 37)
  have hal : Below w2.heap.size w2 (w2.alloc (.cells #[.string res, .bool (!white), .slice a len cap] 37)) := (Below.refl _ _).alloc (Nat.le_refl _) _
  have hzB := (hal.block B hBl).trans hz2
  have hb3 := hb2.trans (hal.mono (by have := hb2.size; omega))
  obtain ⟨D, hD⟩ : ∃ D, w2.heap.size = D := ⟨_, rfl⟩
  rw [hD] at hn1
  simp only [hD]
  generalize w2.alloc (.cells #[.string res, .bool (!white), .slice a len cap] 37) = W1 at *
  clear hnew hfr c0 c1 c2 hal hz2 hs2 hb2 hBl hD
  have hBl := (Array.getElem?_eq_some_iff.1 hzB).1
  have hDl := (Array.getElem?_eq_some_iff.1 hn1).1
  have HSB := Lib.hid (show ∀ wx : World, Below W1.heap.size W1 wx → (fun wx => (wx.cell? ⟨B, 0, none⟩ = some (.string res) ∧ wx.cell? ⟨B, 1, none⟩ = some (.bool white) ∧ wx.cell? ⟨B, 2, none⟩ = some (.slice a len cap) ∧ wx.cell? ⟨D, 0, none⟩ = some (.string res) ∧ wx.cell? ⟨D, 1, none⟩ = some (.bool (!white)) ∧ wx.cell? ⟨D, 2, none⟩ = some (.slice a len cap)) ∧ Below w.heap.size w wx ∧ Below W1.heap.size W1 wx) wx from fun wx hb => by
    have e1 := (hb.block B hBl).trans hzB
    have e2 := (hb.block D hDl).trans hn1
    refine ⟨⟨?_, ?_, ?_, ?_, ?_, ?_⟩, hb3.trans (hb.mono hb3.size), hb⟩
    · simp only [World.cell?, e1]; rfl
    · simp only [World.cell?, e1]; rfl
    · simp only [World.cell?, e1]; rfl
    · simp only [World.cell?, e2]; rfl
    · simp only [World.cell?, e2]; rfl
    · simp only [World.cell?, e2]; rfl)
  have HSS := Lib.hid (show ∀ wa wb : World, (fun wx => (wx.cell? ⟨B, 0, none⟩ = some (.string res) ∧ wx.cell? ⟨B, 1, none⟩ = some (.bool white) ∧ wx.cell? ⟨B, 2, none⟩ = some (.slice a len cap) ∧ wx.cell? ⟨D, 0, none⟩ = some (.string res) ∧ wx.cell? ⟨D, 1, none⟩ = some (.bool (!white)) ∧ wx.cell? ⟨D, 2, none⟩ = some (.slice a len cap)) ∧ Below w.heap.size w wx ∧ Below W1.heap.size W1 wx) wa → Below wa.heap.size wa wb → (fun wx => (wx.cell? ⟨B, 0, none⟩ = some (.string res) ∧ wx.cell? ⟨B, 1, none⟩ = some (.bool white) ∧ wx.cell? ⟨B, 2, none⟩ = some (.slice a len cap) ∧ wx.cell? ⟨D, 0, none⟩ = some (.string res) ∧ wx.cell? ⟨D, 1, none⟩ = some (.bool (!white)) ∧ wx.cell? ⟨D, 2, none⟩ = some (.slice a len cap)) ∧ Below w.heap.size w wx ∧ Below W1.heap.size W1 wx) wb from fun wa wb hs hb => HSB.out wb (hs.2.2.trans (hb.mono hs.2.2.size)))
  have HX1 := Lib.hid (show (listE res ss = 0 → (origin.toList == []) = false → (listB res white ss origin == listB res (!white) ss origin) = false) ∧ (listE res ss = 0 → (origin.toList == []) = true → (listB res white ss origin == listB res (!white) ss origin) = true) from HOT.out)
  clear HOT hzB hn1 hb3 hBl hDl
  generalize hX : listB res white ss origin = X at *
  generalize hY : listB res (!white) ss origin = Y at *
  generalize hZ : listB res white ss ⟨#[]⟩ = Z at *
  clear hX hY hZ
  refine wp_region_held_drew (S := fun wx => (wx.cell? ⟨B, 0, none⟩ = some (.string res) ∧ wx.cell? ⟨B, 1, none⟩ = some (.bool white) ∧ wx.cell? ⟨B, 2, none⟩ = some (.slice a len cap) ∧ wx.cell? ⟨D, 0, none⟩ = some (.string res) ∧ wx.cell? ⟨D, 1, none⟩ = some (.bool (!white)) ∧ wx.cell? ⟨D, 2, none⟩ = some (.slice a len cap)) ∧ Below w.heap.size w wx ∧ Below W1.heap.size W1 wx) (by kernel_rfl) ?_ (fun hHeld => ?_)
  · exact HSB.out _ (Below.refl _ _).drew
  refine wpAnyH_take (i := 0) (v := ?_) rfl (by kernel_rfl) (by kernel_rfl) (by kernel_rfl) (fun _ _ _ h => h) (Or.inl ⟨by rfl, ?hy⟩) (by assumption) ?_
  case hy => intro w hSw; (try dsimp only at hSw); go_simp; try with_reducible rfl
  try simp only [Act.put, List.getElem_toArray, List.getElem_cons_succ, List.getElem_cons_zero, List.setIfInBounds_toArray, List.set_cons_zero, List.set_cons_succ]
  refine wpAnyH_take (i := 1) (v := ?_) rfl (by kernel_rfl) (by kernel_rfl) (by kernel_rfl) (fun _ _ _ h => h) (Or.inl ⟨by rfl, ?hy⟩) (by assumption) ?_
  case hy => intro w hSw; (try dsimp only at hSw); go_simp; try with_reducible rfl
  try simp only [Act.put, List.getElem_toArray, List.getElem_cons_succ, List.getElem_cons_zero, List.setIfInBounds_toArray, List.set_cons_zero, List.set_cons_succ]
  refine wpAnyH_take (i := 3) (v := ?_) rfl (by kernel_rfl) (by kernel_rfl) (by kernel_rfl) (fun _ _ _ h => h) (Or.inl ⟨by rfl, ?hy⟩) (by assumption) ?_
  case hy => intro w hSw; (try dsimp only at hSw); go_simp; try with_reducible rfl
  try simp only [Act.put, List.getElem_toArray, List.getElem_cons_succ, List.getElem_cons_zero, List.setIfInBounds_toArray, List.set_cons_zero, List.set_cons_succ]
  refine wpAnyH_take (i := 4) (v := ?_) rfl (by kernel_rfl) (by kernel_rfl) (by kernel_rfl) (fun _ _ _ h => h) (Or.inl ⟨by rfl, ?hy⟩) (by assumption) ?_
  case hy => intro w hSw; (try dsimp only at hSw); go_simp; try with_reducible rfl
  try simp only [Act.put, List.getElem_toArray, List.getElem_cons_succ, List.getElem_cons_zero, List.setIfInBounds_toArray, List.set_cons_zero, List.set_cons_succ]
  refine wpAnyH_ready (rs := [2]) (by kernel_rfl) (by simp) (AllReadyH.cons rfl (fun K hK => ?_) AllReadyH.nil)
  go_simp
  refine (HA.out _ hHeld.2.1).mono ?_
  rintro e wa ⟨rfl, ha⟩
  try (go_wp2_with fail)
  refine hK.out _ _ ?_ (fun hHeld => ?_)
  · exact HSS.out _ _ hHeld ha
  clear hK K
  try simp only [Act.put, List.getElem_toArray, List.getElem_cons_succ, List.getElem_cons_zero, List.setIfInBounds_toArray, List.set_cons_zero, List.set_cons_succ]
  refine wpAnyH_ready (rs := [5]) (by kernel_rfl) (by simp) (AllReadyH.cons rfl (fun K hK => ?_) AllReadyH.nil)
  go_simp
  refine (HBL.out _ hHeld.2.1).mono ?_
  rintro e wb ⟨rfl, hb⟩
  try (go_wp2_with fail)
  refine hK.out _ _ ?_ (fun hHeld => ?_)
  · exact HSS.out _ _ hHeld hb
  clear hK K
  try simp only [Act.put, List.getElem_toArray, List.getElem_cons_succ, List.getElem_cons_zero, List.setIfInBounds_toArray, List.set_cons_zero, List.set_cons_succ]
  refine wpAnyH_take (i := 6) (v := ?_) rfl (by kernel_rfl) (by kernel_rfl) (by kernel_rfl) (fun _ _ _ h => h) (Or.inl ⟨by rfl, ?hy⟩) (by assumption) ?_
  case hy => intro w hSw; (try dsimp only at hSw); go_simp; try with_reducible rfl
  try simp only [Act.put, List.getElem_toArray, List.getElem_cons_succ, List.getElem_cons_zero, List.setIfInBounds_toArray, List.set_cons_zero, List.set_cons_succ]
  refine wpAnyH_take (i := 7) (v := ?_) rfl (by kernel_rfl) (by kernel_rfl) (by kernel_rfl) (fun _ _ _ h => h) (Or.inl ⟨by rfl, ?hy⟩) (by assumption) ?_
  case hy => intro w hSw; (try dsimp only at hSw); go_simp; try with_reducible rfl
  try simp only [Act.put, List.getElem_toArray, List.getElem_cons_succ, List.getElem_cons_zero, List.setIfInBounds_toArray, List.set_cons_zero, List.set_cons_succ]
  refine wpAnyH_done (by kernel_rfl) ?_ _
  have HBF := Lib.hid hHeld.2.1
  obtain ⟨⟨d0, d1, d2, _⟩, _⟩ := hHeld
  have HX2 := HX1.out
  have HN1 := HNO1.out
  have HN2 := HNO2.out
  have HN3 := HNO3.out
  have HNL := HNIL.out
  clear HX1 HNO1 HNO2 HNO3 HNIL HSB HSS HA HBL
  cases ho : (origin.toList == []) with
  | true =>
    have ho2 : origin.toList.isEmpty = true := by simpa using ho
    have hxy : (X == Y) = true := by
      by_cases hE : listE res ss = 0
      · exact HX2.2 hE ho
      · rw [HN1 hE, HN2 hE]; rfl
    clear HX2 HN1 HN2 HN3 HNL
    go_wp2_with (fail)
    go_ret
    exact ⟨by first | (rw [hxy]; rfl) | rfl | simp [hxy], HBF.out⟩
  | false =>
    have ho2 : origin.toList.isEmpty = false := by simpa using ho
    by_cases hl0 : len = 0
    · have hX := HN1 (HNL hl0)
      have hY := HN2 (HNL hl0)
      subst hX
      subst hY
      have hz : ((len : Int) == 0) = true := by simp [hl0]
      clear HX2 HN1 HN2 HN3 HNL hl0
      go_wp2_with (fail)
      go_ret
      exact ⟨rfl, HBF.out⟩
    · have hz : ((len : Int) == 0) = false := by rw [beq_eq_false_iff_ne]; omega
      by_cases hE : listE res ss = 0
      · have hxy : (X == Y) = false := HX2.1 hE ho
        have hxy2 : (X != Y) = true := by rw [bne, hxy]; rfl
        clear HX2 HN1 HN2 HN3 HNL hl0 hE
        go_wp2_with (fail)
        go_ret
        exact ⟨by first | rfl | simp [hxy2], HBF.out⟩
      · have hX := HN1 hE
        have hY := HN2 hE
        have hZ := HN3 hE
        subst hX
        subst hY
        subst hZ
        clear HX2 HN1 HN2 HN3 HNL hl0 hE
        go_wp2_with (fail)
        refine (HC.out _ HBF.out).mono ?_
        rintro e wz ⟨rfl, hbz⟩
        have HBZ := Lib.hid (HBF.out.trans (hbz.mono HBF.out.size))
        clear hbz
        go_wp2_with (fail)
        go_ret
        exact ⟨rfl, HBZ.out⟩
end Go.Proofs.Ytnobfmlfhaaghaa
