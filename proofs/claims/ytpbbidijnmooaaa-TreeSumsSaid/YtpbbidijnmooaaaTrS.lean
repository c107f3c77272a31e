/- tree: live. -/
import Derived.Test.YtpbbidijnmooaaaTrR
namespace Go.Proofs.Ytpbbidijnmooaaa
open Go.RowKit
set_option linter.unusedVariables false
set_option linter.unusedSimpArgs false

/-- A tree of the call's own (w: ahead of the call), behind deeds: s. -/
structure TRes (w wx : World) (s : TreeS) (t : TreeV) : Prop where
  at_ : TreeAt wx t
  m : t.M = s.1
  last : t.last = s.2
  top : t.top = t.last
  own : ∀ i, TOwn t i → w.heap.size ≤ i
  bel : Below w.heap.size w wx
theorem TRes.below {w wx wy : World} {s : TreeS} {t : TreeV} (h : TRes w wx s t) (hb : Below wx.heap.size wx wy) : TRes w wy s t := ⟨h.at_.below hb, h.m, h.last, h.top, h.own, h.bel.trans (hb.mono h.bel.size)⟩
theorem TRes.step {w wx wy : World} {s s' : TreeS} {t t' : TreeV} (h : TRes w wx s t) (g : TGo wx t wy t') (hm : t'.M = s'.1) (hl : t'.last = s'.2) (ht : t'.top = t'.last) : TRes w wy s' t' :=
  ⟨g.at_, hm, hl, ht, fun i hi => by
    rcases g.own i hi with h1 | h1
    · exact h.own i h1
    · have := h.bel.size; omega, h.bel.trans (g.off.below h.bel.size (fun i hi ho => by have := h.own i ho; omega))⟩
theorem tres_new (w : World) : TRes w (newT w) ([], 0) (newV w) := ⟨(tree_made w).1, rfl, rfl, rfl, (tree_made w).2.2, (tree_made w).2.1⟩
theorem TRes.note {w wx wy : World} {s : TreeS} {t : TreeV} {c : CallS} {full : Bool} {F : NodeM → NodeM} {e : Ending} (h : TRes w wx s t) (hp : NotePost wx t c full F e wy) :
    e = .returned (.int .i64 (noteE s.1 s.2 c full)) ∧ ∃ t', t'.tb = t.tb ∧ TRes w wy (if noteE s.1 s.2 c full = 0 then (noteM s.1 (keysL c) F, c.at_) else s) t' ∧ TGo wx t wy t' := by
  have he := hp.e
  rw [h.m, h.last] at he
  refine ⟨he, ?_⟩
  by_cases hE : noteE s.1 s.2 c full = 0
  · rw [if_pos hE]
    obtain ⟨t', g1, g2, g3, g4⟩ := hp.yes (by rw [h.m, h.last]; exact hE)
    exact ⟨t', g1.tb, h.step g1 (by rw [g2, h.m]) g3 (g4.trans g3.symm), g1⟩
  · rw [if_neg hE]
    have hb := hp.no (by rw [h.m, h.last]; exact hE)
    exact ⟨t, rfl, h.below hb, TGo.belowR (TGo.refl h.at_) hb⟩
theorem szS (s : ByteArray) (h : s.size ≤ 1) : s.size ≤ maxLen := by unfold maxLen; omega
theorem keysAt_one {w : World} {g : Nat} {q : KeyS} (h : w.heap[g]? = some (.cells #[.int .u8 q.kind, .string q.ctx, .string q.res, .string q.org] 30)) : KeysAt w (some ⟨g, 0, none⟩) [q] := by
  refine Or.inr ⟨g, rfl, (Array.getElem?_eq_some_iff.1 h).1, fun j x hx => ?_⟩
  have hj : j = 0 := by have := (List.getElem?_eq_some_iff.1 hx).1; simp at this; omega
  subst hj
  obtain rfl : q = x := by simpa using hx
  exact four_box h
theorem tres_call {w wx : World} {s : TreeS} {t : TreeV} (h : TRes w wx s t) {TB : Nat} (ht : t.tb = TB) (c : CallS) (z1 : c.res.size ≤ maxLen) (z2 : c.ctx.size ≤ maxLen) (z3 : c.org.size ≤ maxLen) :
    Calls Try.prog 17 #[.pointer (some ⟨TB, 0, none⟩), .agg c.c] wx fun e wy => e = .returned (.int .i64 (noteE s.1 s.2 c true)) ∧ ∃ t', t'.tb = TB ∧ TRes w wy (if noteE s.1 s.2 c true = 0 then (noteM s.1 (keysL c) (passF c), c.at_) else s) t' ∧ TGo wx t wy t' := by
  subst ht
  exact (tPass_any h.at_ h.top c z1 z2 z3).mono (fun e wy hp => h.note hp)
theorem tres_all {w wx : World} {s : TreeS} {t : TreeV} (h : TRes w wx s t) {TB : Nat} (ht : t.tb = TB) : Calls Try.prog 9 #[.pointer (some ⟨TB, 0, none⟩)] wx (ClPost wx s.1.length (keysM s.1)) := by
  subst ht
  have := tall_any h.at_
  rw [h.m, ← M_len, h.m] at this
  exact this
theorem tres_sum {w wx : World} {s : TreeS} {t : TreeV} (h : TRes w wx s t) {TB : Nat} (ht : t.tb = TB) (at_ : Int) (a : Option Addr) (len cap : Nat) (L : List KeyS) (hl : L.length = len) (hm : len ≤ 1048576) (hk : KeysAt wx a L) (hok : ∀ q, q ∈ L → KeyOk q) : Calls Try.prog 10 #[.pointer (some ⟨TB, 0, none⟩), .int .i64 at_, .slice a len cap] wx (SumPost wx s.1 s.2 at_ L) := by
  subst ht
  have := tsum_any h.at_ h.top at_ a len cap L hl hm hk hok
  rw [h.m, h.last] at this
  exact this

set_option maxHeartbeats 6400000 in
set_option maxRecDepth 100000 in
theorem trlive_any (w : World) : Calls Try.prog 7 #[] w fun e w' => e = .returned (.bool true) ∧ Below w.heap.size w w' := by
  have h0 := tres_new w
  obtain ⟨TB, hTB⟩ : ∃ TB, w.heap.size + 1 = TB := ⟨_, rfl⟩
  have ht0 : (newV w).tb = TB := hTB
  have HNW := Lib.hid (show Calls Try.prog 16 #[] w fun e w' => e = .returned (.pointer (some ⟨TB, 0, none⟩)) ∧ w' = newT w by rw [← hTB]; exact tnew_any w)
  obtain ⟨t0, ht⟩ : ∃ t0, newV w = t0 := ⟨_, rfl⟩
  rw [ht] at h0 ht0
  obtain ⟨w1, hw1⟩ : ∃ w1, newT w = w1 := ⟨_, rfl⟩
  rw [hw1] at h0 HNW
  have halA : Below w1.heap.size w1 (w1.alloc (.cells cA.c 40)) := (Below.refl _ _).alloc (Nat.le_refl _) _
  have hzA : (w1.alloc (.cells cA.c 40)).heap.size = w1.heap.size + 1 := by simp
  have hnA := new_blockS w1 (.cells cA.c 40)
  obtain ⟨wA, hwA⟩ : ∃ wA, w1.alloc (.cells cA.c 40) = wA := ⟨_, rfl⟩
  rw [hwA] at halA hzA hnA
  have halB : Below wA.heap.size wA (wA.alloc (.cells cB.c 40)) := (Below.refl _ _).alloc (Nat.le_refl _) _
  have hnB := new_blockS wA (.cells cB.c 40)
  obtain ⟨wB, hwB⟩ : ∃ wB, wA.alloc (.cells cB.c 40) = wB := ⟨_, rfl⟩
  rw [hwB] at halB hnB
  have hzB : wB.heap.size = w1.heap.size + 2 := by rw [← hwB]; simp; omega
  have hnA2 := (halB.block w1.heap.size (by omega)).trans hnA
  have h2 := (h0.below halA).below halB
  have HP := Lib.hid (show Calls Try.prog 17 #[.pointer (some ⟨TB, 0, none⟩), .agg #[.int .i64 0, .string ⟨#[114]⟩, .string ⟨#[99]⟩, .string ⟨#[111]⟩, .bool true, .int .i64 1, .slice none 0 0]] wB fun e wy => e = .returned (.int .i64 0) ∧ ∃ t', t'.tb = TB ∧ TRes w wy (MA, 0) t' ∧ TGo wB t0 wy t' from
    (tres_call h2 ht0 cA (szS _ (by decide)) (szS _ (by decide)) (szS _ (by decide))).mono (fun e wy h => by
      rw [show noteE ([], 0).1 ([], 0).2 cA true = 0 from errA, if_pos rfl, keysA] at h
      exact h))
  have HP2 := Lib.hid (fun (wx : World) (t : TreeV) (h : TRes w wx (MA, 0) t) (ht : t.tb = TB) => (show Calls Try.prog 17 #[.pointer (some ⟨TB, 0, none⟩), .agg #[.int .i64 0, .string ⟨#[114]⟩, .string ⟨#[99]⟩, .string ⟨#[]⟩, .bool false, .int .i64 2, .slice none 0 0]] wx fun e wy => e = .returned (.int .i64 0) ∧ ∃ t', t'.tb = TB ∧ TRes w wy (MB, 0) t' from
    (tres_call h ht cB (szS _ (by decide)) (szS _ (by decide)) (szS _ (by decide))).mono (fun e wy h => by
      rw [show noteE (MA, (0 : Int)).1 (MA, (0 : Int)).2 cB true = 0 from errAB, if_pos rfl, keysB] at h
      obtain ⟨he, t', g1, g2, _⟩ := h
      exact ⟨he, t', g1, g2⟩)))
  have HS := Lib.hid (fun (wx : World) (t : TreeV) (h : TRes w wx (MB, 0) t) (ht : t.tb = TB) (g : Nat) (hg : wx.heap[g]? = some (.cells #[.int .u8 4, .string ⟨#[]⟩, .string ⟨#[114]⟩, .string ⟨#[]⟩] 30)) => (show Calls Try.prog 10 #[.pointer (some ⟨TB, 0, none⟩), .int .i64 5, .slice (some ⟨g, 0, none⟩) 1 1] wx fun e wy => e = .returned (.tuple #[.agg #[.int .i64 3, .int .i64 0, .int .i64 0, .int .i64 0, .int .i64 0, .int .i64 0], .int .i64 2, .int .i64 0]) ∧ Below wx.heap.size wx wy from
    (tres_sum h ht 5 (some ⟨g, 0, none⟩) 1 1 [⟨4, noT, ⟨#[114]⟩, noT⟩] rfl (by omega) (keysAt_one (q := ⟨4, noT, ⟨#[114]⟩, noT⟩) hg) (fun q hq => by obtain rfl := List.mem_singleton.1 hq; exact ⟨by simp, by simp, noT_ok, szS _ (by decide), noT_ok⟩)).mono (fun e wy h => by
      have h2 := h.yes errB1
      rw [sumB1.1, sumB1.2] at h2
      exact ⟨h2, h.bel⟩)))
  have HS2 := Lib.hid (fun (wx : World) (t : TreeV) (h : TRes w wx (MB, 0) t) (ht : t.tb = TB) (g : Nat) (hg : wx.heap[g]? = some (.cells #[.int .u8 5, .string ⟨#[]⟩, .string ⟨#[114]⟩, .string ⟨#[111]⟩] 30)) => (show Calls Try.prog 10 #[.pointer (some ⟨TB, 0, none⟩), .int .i64 5, .slice (some ⟨g, 0, none⟩) 1 1] wx fun e wy => e = .returned (.tuple #[.agg #[.int .i64 1, .int .i64 0, .int .i64 0, .int .i64 0, .int .i64 0, .int .i64 0], .int .i64 1, .int .i64 0]) ∧ Below wx.heap.size wx wy from
    (tres_sum h ht 5 (some ⟨g, 0, none⟩) 1 1 [⟨5, noT, ⟨#[114]⟩, ⟨#[111]⟩⟩] rfl (by omega) (keysAt_one (q := ⟨5, noT, ⟨#[114]⟩, ⟨#[111]⟩⟩) hg) (fun q hq => by obtain rfl := List.mem_singleton.1 hq; exact ⟨by simp, by simp, noT_ok, szS _ (by decide), szS _ (by decide)⟩)).mono (fun e wy h => by
      have h2 := h.yes errB2
      rw [sumB2.1, sumB2.2] at h2
      exact ⟨h2, h.bel⟩)))
  have HNB := Lib.hid (And.intro hnB (show wA.heap.size = w1.heap.size + 1 from hzA))
  have HOB := Lib.hid (show ∀ i, w1.heap.size ≤ i → ¬ TOwn t0 i from fun i hi ho => by have := h0.at_.lt ho; omega)
  unfold cA CallS.c at hwA hnA2
  unfold cB CallS.c at hwB HNB
  dsimp only at hwA hwB hnA2 HNB
  obtain ⟨q0, q1, q2, q3, q4, q5, q6⟩ := call_cells hnA2
  have HWA := Lib.hid hwA
  have HWB := Lib.hid hwB
  rw [← hwB, ← hwA] at q0 q1 q2 q3 q4 q5 q6
  clear h0 ht ht0 hw1 halA hnA halB hnB h2 hnA2 hTB hwA hwB hzA hzB
  go_enter Try.func7, Try.ntmps7
  go_wp2_with (fail)
  refine HNW.out.mono ?_
  rintro e wq ⟨rfl, hq⟩
  subst hq
  go_wp2_with (fail)
  rw [HWA.out, HWB.out]
  refine HP.out.mono ?_
  rintro e w2 ⟨rfl, t2, ht2, h2, hg2⟩
  have hb2 := (hg2.off.block wA.heap.size (Array.getElem?_eq_some_iff.1 HNB.out.1).1 (HOB.out _ (by have := HNB.out.2; omega))).trans HNB.out.1
  rw [HNB.out.2] at hb2
  obtain ⟨r0, r1, r2, r3, r4, r5, r6⟩ := call_cells hb2
  have HPB := Lib.hid (HP2.out w2 t2 h2 ht2)
  clear q0 q1 q2 q3 q4 q5 q6 hb2 hg2 ht2 h2 HP HP2
  go_wp2_with (fail)
  refine HPB.out.mono ?_
  rintro e w3 ⟨rfl, t3, ht3, h3⟩
  have HAL := Lib.hid (tres_all h3 ht3)
  have H3 := Lib.hid (And.intro h3 ht3)
  have hl5 : (MB, (0 : Int)).1.length = 5 := lenB
  rw [hl5] at HAL
  clear r0 r1 r2 r3 r4 r5 r6 h3 ht3 hl5 HPB
  go_wp2_with (fail)
  refine HAL.out.mono ?_
  rintro e w4 ⟨a4, c4, rfl, ho4, hb4⟩
  have hk4 := keysAt_row ho4 (by rw [keys_len]; exact lenB)
  obtain ⟨g4, rfl, hg4, hcell, _⟩ := hk4.get keyB1
  dsimp only at hcell
  have H4 := Lib.hid (H3.out.1.below hb4)
  have HC4 := Lib.hid hcell
  have hn5 := new_blockS w4 (.cells #[.int .u8 4, .string ⟨#[]⟩, .string ⟨#[114]⟩, .string ⟨#[]⟩] 30)
  have hal5 : Below w4.heap.size w4 (w4.alloc (.cells #[.int .u8 4, .string ⟨#[]⟩, .string ⟨#[114]⟩, .string ⟨#[]⟩] 30)) := (Below.refl _ _).alloc (Nat.le_refl _) _
  have HS5 := Lib.hid (HS.out _ t3 (H4.out.below hal5) H3.out.2 w4.heap.size hn5)
  have HAL5 := Lib.hid hal5
  clear ho4 hb4 hk4 hcell hn5 hal5 HAL
  go_wp2_with (fail)
  obtain ⟨w5, hw5⟩ : ∃ w5, w4.alloc (.cells #[.int .u8 4, .string ⟨#[]⟩, .string ⟨#[114]⟩, .string ⟨#[]⟩] 30) = w5 := ⟨_, rfl⟩
  rw [hw5] at HS5 HAL5 ⊢
  clear hw5
  refine HS5.out.mono ?_
  rintro e w6 ⟨rfl, hb6⟩
  have HB6 := Lib.hid (HAL5.out.trans (hb6.mono HAL5.out.size))
  have hn7 := new_blockS w6 (.cells #[.int .i64 3, .int .i64 0, .int .i64 0, .int .i64 0, .int .i64 0, .int .i64 0] 32)
  have hal7 : Below w6.heap.size w6 (w6.alloc (.cells #[.int .i64 3, .int .i64 0, .int .i64 0, .int .i64 0, .int .i64 0, .int .i64 0] 32)) := (Below.refl _ _).alloc (Nat.le_refl _) _
  have HW7 := Lib.hid (show ∃ w7, w6.alloc (.cells #[.int .i64 3, .int .i64 0, .int .i64 0, .int .i64 0, .int .i64 0, .int .i64 0] 32) = w7 from ⟨_, rfl⟩)
  have hn8 := new_blockS (w6.alloc (.cells #[.int .i64 3, .int .i64 0, .int .i64 0, .int .i64 0, .int .i64 0, .int .i64 0] 32)) (.cells #[.int .u8 5, .string ⟨#[]⟩, .string ⟨#[114]⟩, .string ⟨#[111]⟩] 30)
  have hal8 := hal7.alloc hal7.size (.cells #[.int .u8 5, .string ⟨#[]⟩, .string ⟨#[114]⟩, .string ⟨#[111]⟩] 30)
  have h78 := (Below.heap_alloc (w6.alloc (.cells #[.int .i64 3, .int .i64 0, .int .i64 0, .int .i64 0, .int .i64 0, .int .i64 0] 32)) (.cells #[.int .u8 5, .string ⟨#[]⟩, .string ⟨#[114]⟩, .string ⟨#[111]⟩] 30) w6.heap.size (by simp)).trans hn7
  have hz7 : (w6.alloc (.cells #[.int .i64 3, .int .i64 0, .int .i64 0, .int .i64 0, .int .i64 0, .int .i64 0] 32)).heap.size = w6.heap.size + 1 := by simp
  rw [hz7] at hn8
  have hr6 := H4.out.below HB6.out
  have HS9 := Lib.hid (HS2.out _ t3 (hr6.below hal8) H3.out.2 (w6.heap.size + 1) hn8)
  have HAL8 := Lib.hid (And.intro hal8 h78)
  clear hb6 HS5 hn7 hal7 hn8 hal8 h78 hz7 hr6 HW7
  go_wp2_with (fail)
  obtain ⟨w8, hw8⟩ : ∃ w8, (w6.alloc (.cells #[.int .i64 3, .int .i64 0, .int .i64 0, .int .i64 0, .int .i64 0, .int .i64 0] 32)).alloc (.cells #[.int .u8 5, .string ⟨#[]⟩, .string ⟨#[114]⟩, .string ⟨#[111]⟩] 30) = w8 := ⟨_, rfl⟩
  rw [hw8] at HS9 HAL8 ⊢
  clear hw8
  refine HS9.out.mono ?_
  rintro e w9 ⟨rfl, hb9⟩
  have h9 := (hb9.block w6.heap.size (Array.getElem?_eq_some_iff.1 HAL8.out.2).1).trans HAL8.out.2
  have HB9 := Lib.hid (HAL8.out.1.trans (hb9.mono HAL8.out.1.size))
  have hal10 : Below w9.heap.size w9 (w9.alloc (.cells #[.int .i64 1, .int .i64 0, .int .i64 0, .int .i64 0, .int .i64 0, .int .i64 0] 32)) := (Below.refl _ _).alloc (Nat.le_refl _) _
  have x3 : (w9.alloc (.cells #[.int .i64 1, .int .i64 0, .int .i64 0, .int .i64 0, .int .i64 0, .int .i64 0] 32)).cell? ⟨w6.heap.size, 0, none⟩ = some (.int .i64 3) := by
    have h := (hal10.block w6.heap.size (Array.getElem?_eq_some_iff.1 h9).1).trans h9
    simp only [World.cell?, h]; rfl
  have x1 : (w9.alloc (.cells #[.int .i64 1, .int .i64 0, .int .i64 0, .int .i64 0, .int .i64 0, .int .i64 0] 32)).cell? ⟨w9.heap.size, 0, none⟩ = some (.int .i64 1) := by
    have h := new_blockS w9 (.cells #[.int .i64 1, .int .i64 0, .int .i64 0, .int .i64 0, .int .i64 0, .int .i64 0] 32)
    simp only [World.cell?, h]; rfl
  have hb49 : Below w4.heap.size w4 (w9.alloc (.cells #[.int .i64 1, .int .i64 0, .int .i64 0, .int .i64 0, .int .i64 0, .int .i64 0] 32)) := HB6.out.trans ((HB9.out.trans (hal10.mono HB9.out.size)).mono HB6.out.size)
  have xk : (w9.alloc (.cells #[.int .i64 1, .int .i64 0, .int .i64 0, .int .i64 0, .int .i64 0, .int .i64 0] 32)).cell? ⟨g4, 4, none⟩ = some (.int .u8 4) := (hb49.cell (p := ⟨g4, 4, none⟩) hg4).trans HC4.out
  have HFIN := Lib.hid (H4.out.bel.trans (hb49.mono H4.out.bel.size))
  clear hb9 h9 HS9 hal10 hb49 hg4
  go_wp2_with (fail)
  go_ret
  exact ⟨rfl, HFIN.out⟩
end Go.Proofs.Ytpbbidijnmooaaa
