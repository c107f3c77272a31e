/- The laws of the layer reject: RejectMine. -/
import Derived.Test.YtalpilahemajoaaLawRejA
import Derived.Test.YtalpilahemajoaaRMine
import Derived.Test.YtalpilahemajoaaLeast
import Derived.Test.YtalpilahemajoaaRecs2
namespace Go.Proofs.Ytalpilahemajoaa
open Go.RowKit
set_option linter.unusedVariables false
set_option linter.unusedSimpArgs false

def flowsOf (V : Nat → Nat → Value) (len : Nat) : List FlowS := (List.range len).map fun j => ⟨strOf (V j 0), strOf (V j 1), boolOf (V j 2), intOf (V j 3), intOf (V j 4), strOf (V j 5), intOf (V j 6), intOf (V j 7), intOf (V j 8), boolOf (V j 9), intOf (V j 10), boolOf (V j 11)⟩
theorem flowsOf_length (V : Nat → Nat → Value) (len : Nat) : (flowsOf V len).length = len := by simp [flowsOf]
theorem flows_at {w : World} {a : Option Addr} {len : Nat} {V : Nat → Nat → Value} (h : RecsAt w a 12 len V)
    (f0 : ∀ j, j < len → V j 0 = .string (strOf (V j 0))) (f1 : ∀ j, j < len → V j 1 = .string (strOf (V j 1))) (f2 : ∀ j, j < len → V j 2 = .bool (boolOf (V j 2)))
    (f3 : ∀ j, j < len → V j 3 = .int .i64 (intOf (V j 3)) ∧ (Lit.int .i64 (intOf (V j 3))).wf = true) (f4 : ∀ j, j < len → V j 4 = .int .u8 (intOf (V j 4)) ∧ (Lit.int .u8 (intOf (V j 4))).wf = true)
    (f5 : ∀ j, j < len → V j 5 = .string (strOf (V j 5))) (f6 : ∀ j, j < len → V j 6 = .int .u8 (intOf (V j 6)) ∧ (Lit.int .u8 (intOf (V j 6))).wf = true)
    (f7 : ∀ j, j < len → V j 7 = .int .i64 (intOf (V j 7)) ∧ (Lit.int .i64 (intOf (V j 7))).wf = true) (f8 : ∀ j, j < len → V j 8 = .int .i64 (intOf (V j 8)) ∧ (Lit.int .i64 (intOf (V j 8))).wf = true)
    (f9 : ∀ j, j < len → V j 9 = .bool (boolOf (V j 9))) (f10 : ∀ j, j < len → V j 10 = .int .i64 (intOf (V j 10)) ∧ (Lit.int .i64 (intOf (V j 10))).wf = true) (f11 : ∀ j, j < len → V j 11 = .bool (boolOf (V j 11))) :
    FlowsAt w a (flowsOf V len) := by
  rcases h with h | ⟨b, off, rfl, hlt, hc⟩
  · subst h; exact Or.inl rfl
  · refine Or.inr ⟨b, off, rfl, hlt, fun j f hj => ?_⟩
    have hjl : j < len := by have := (List.getElem?_eq_some_iff.1 hj).1; rwa [flowsOf_length] at this
    simp only [flowsOf, List.getElem?_map, List.getElem?_range hjl, Option.map_some, Option.some.injEq] at hj
    subst hj
    have g := fun k hk => hc j hjl k hk
    have s : ∀ k, off + (j * 12 + k) = off + j * 12 + k := fun k => by omega
    simp only [s] at g
    exact ⟨(g 0 (by decide)).trans (congrArg some (f0 j hjl)), (g 1 (by decide)).trans (congrArg some (f1 j hjl)), (g 2 (by decide)).trans (congrArg some (f2 j hjl)), (g 3 (by decide)).trans (congrArg some (f3 j hjl).1), (g 4 (by decide)).trans (congrArg some (f4 j hjl).1), (g 5 (by decide)).trans (congrArg some (f5 j hjl)), (g 6 (by decide)).trans (congrArg some (f6 j hjl).1), (g 7 (by decide)).trans (congrArg some (f7 j hjl).1), (g 8 (by decide)).trans (congrArg some (f8 j hjl).1), (g 9 (by decide)).trans (congrArg some (f9 j hjl)), (g 10 (by decide)).trans (congrArg some (f10 j hjl).1), (g 11 (by decide)).trans (congrArg some (f11 j hjl))⟩

theorem IntsAt.own {w : World} {base : Nat} {v : Value} {n : Nat} {xs : List Int} (h : w.ownsRow base 3 1 v n (xs.map (Value.int .i64))) : ∃ a cap, v = .slice a n cap ∧ IntsAt w a xs ∧ n = xs.length := by
  have hn : xs.length = n := by have := h.1; simpa using this
  rcases h.2 with ⟨rfl, rfl⟩ | ⟨g, cap, cur, rfl, hb, hh, hc, hm, hs, ht⟩
  · exact ⟨none, 0, rfl, Or.inl (List.length_eq_zero_iff.1 hn), hn.symm⟩
  · refine ⟨_, cap, rfl, ?_, hn.symm⟩
    right
    have hlt : g < w.heap.size := by
      apply Classical.byContradiction; intro hge
      rw [Array.getElem?_eq_none (by omega)] at hh; simp at hh
    refine ⟨g, 0, rfl, hlt, fun j hj => ?_⟩
    have h1 : (cur.toList.take (n * 1))[j]? = some (Value.int .i64 (xs.getD j 0)) := by
      rw [ht]; simp [List.getD, hj]
    have h2 : cur.toList[j]? = some (Value.int .i64 (xs.getD j 0)) := by
      rw [List.getElem?_take] at h1
      split at h1
      · exact h1
      · simp at h1
    simp only [World.cell?, hh]
    simpa using h2
theorem IntsAt.below' {w w' : World} {a : Option Addr} {xs : List Int} (h : IntsAt w a xs) (hb : Below w.heap.size w w') : IntsAt w' a xs := by
  rcases h with h | ⟨b, off, rfl, hlt, hc⟩
  · exact Or.inl h
  · exact Or.inr ⟨b, off, rfl, Nat.lt_of_lt_of_le hlt hb.size, fun j hj => (hb.cell (p := ⟨b, off + j, none⟩) hlt).trans (hc j hj)⟩

set_option maxHeartbeats 1600000 in
theorem rsame_ints (a b : Option Addr) (len ca cb : Nat) (xs : List Int) (w : World) (hl : xs.length = len) (hm : len * 8 ≤ 140737488351232) (ha : IntsAt w a xs) (hb : IntsAt w b xs) :
    Calls Try.prog 12 #[.slice a len ca, .slice b len cb] w fun e w' => e = .returned (.bool true) ∧ Below w.heap.size w w' := by
  have Ha := Lib.hid ha
  have Hb := Lib.hid hb
  have Hl := Lib.hid hl
  clear hl ha hb
  go_enter Try.func12, Try.ntmps12
  go_wp2_with (fail)
  go_loopw [5] (fun i wr => ∃ k : Nat, k ≤ len ∧ i = .int .i64 k ∧ Below w.heap.size w wr) (fun i _ => len - (intOf i).toNat)
  case atStart => exact ⟨0, Nat.zero_le _, rfl, Below.refl _ _⟩
  case round =>
    obtain ⟨k, hk, rfl, hbr⟩ := hrel
    by_cases hlt : k < len
    · rcases Ha.out.below' hbr with h | ⟨b1, o1, rfl, hlt1, hc1⟩
      · exfalso; have := Hl.out; subst h; simp at this; omega
      · rcases Hb.out.below' hbr with h | ⟨b2, o2, rfl, hlt2, hc2⟩
        · exfalso; have := Hl.out; subst h; simp at this; omega
        · have d1 := hc1 k (by rw [Hl.out]; exact hlt)
          have d2 := hc2 k (by rw [Hl.out]; exact hlt)
          generalize xs.getD k 0 = X at *
          clear hc1 hc2
          have k0 : (0 : Int) ≤ k := by omega
          have k1 : (k : Int) < len := by omega
          have hne : (X != X) = false := by simp
          go_wp2_with (fail)
          go_quiet (fail)
          go_wp2_with (fail)
          go_roundw
          case rel => exact ⟨k + 1, by omega, by go_num, below_drewF hbr _⟩
          case measure => simp [intOf]; omega
    · have hkl : k = len := by omega
      subst hkl
      go_wp2_with (fail)
      go_ret
      exact ⟨rfl, hbr⟩

set_option maxHeartbeats 6400000 in
set_option maxRecDepth 100000 in
theorem rejmine_law (w : World) (fs : List FlowS) (a : Option Addr) (len cap : Nat) (hl : fs.length = len) (hm : len * 8 ≤ 140737488351232) (hf : FlowsAt w a fs) (c : CallS) (hargs : c.args.oneCell' = true)
    (an : Option Addr) (ln cn : Nat) (ns : List Int) (hln : ns.length = ln) (hmn0 : ln * 8 ≤ 140737488351232) (hn : IntsAt w an ns) :
    Calls Try.prog 5 #[.slice a len cap, c.v, .slice an ln cn] w fun e w' => e = .returned (.bool true) ∧ Below w.heap.size w w' := by
  have CV : c.v = .agg #[.int .i64 c.at_, .string c.res, .string c.ctx, .string c.org, .bool c.inb, .int .i64 c.cnt, c.args] := rfl
  have HLV := Lib.hid (fun (w : World) => rejlive_any w)
  have HM := Lib.hid (fun (wx : World) (hb : Below w.heap.size w wx) => mine_call a len cap fs c hargs wx hl hm (hf.below (Nat.le_refl _) hb))
  have HR := Lib.hid (fun (wx : World) (hb : Below w.heap.size w wx) => rmine_any a len cap fs c hargs wx hl hm (hf.below (Nat.le_refl _) hb))
  have HA := Lib.hid (fun (wx : World) (hb : Below w.heap.size w wx) => least_any a len cap fs an ln cn ns wx hl hm (hf.below (Nat.le_refl _) hb) hln hmn0 (hn.below' hb))
  have HB := Lib.hid (fun (wx : World) (hb : Below w.heap.size w wx) => rleast_any a len cap fs an ln cn ns wx hl hm (hf.below (Nat.le_refl _) hb) hln hmn0 (hn.below' hb))
  have hmn : (mineN fs c).length * 8 ≤ 140737488351232 := by
    have h1 := outN_le c (came fs c fs.length)
    have h2 := came_le fs c fs.length
    unfold mineN
    omega
  rw [CV] at HM HR ⊢
  generalize leastN fs ns = L at *
  obtain ⟨L1, L2⟩ := L
  dsimp only at HA HB
  have B1 := (Below.refl w.heap.size w).alloc (Nat.le_refl _) (.cells #[.int .i64 c.at_, .string c.res, .string c.ctx, .string c.org, .bool c.inb, .int .i64 c.cnt, c.args] 34)
  have H1 := Lib.hid (World.alloc_heap_new w (.cells #[.int .i64 c.at_, .string c.res, .string c.ctx, .string c.org, .bool c.inb, .int .i64 c.cnt, c.args] 34))
  have SK := Lib.hid (show ∀ wx : World, wx.heap[w.heap.size]? = some (.cells #[.int .i64 c.at_, .string c.res, .string c.ctx, .string c.org, .bool c.inb, .int .i64 c.cnt, c.args] 34) → Below w.heap.size w wx → (fun wx => (wx.cell? ⟨w.heap.size, 0, none⟩ = some (.int .i64 c.at_) ∧ wx.cell? ⟨w.heap.size, 1, none⟩ = some (.string c.res) ∧ wx.cell? ⟨w.heap.size, 2, none⟩ = some (.string c.ctx) ∧ wx.cell? ⟨w.heap.size, 3, none⟩ = some (.string c.org) ∧ wx.cell? ⟨w.heap.size, 4, none⟩ = some (.bool c.inb) ∧ wx.cell? ⟨w.heap.size, 5, none⟩ = some (.int .i64 c.cnt) ∧ wx.cell? ⟨w.heap.size, 6, none⟩ = some (c.args)) ∧ (wx.heap[w.heap.size]? = some (.cells #[.int .i64 c.at_, .string c.res, .string c.ctx, .string c.org, .bool c.inb, .int .i64 c.cnt, c.args] 34)) ∧ Below w.heap.size w wx) wx from fun wx hx hb => by
    refine ⟨?_, hx, hb⟩
    simp only [World.cell?, hx]
    repeat' apply And.intro
    all_goals rfl)
  have SS := Lib.hid (show ∀ wa wb : World, (fun wx => (wx.cell? ⟨w.heap.size, 0, none⟩ = some (.int .i64 c.at_) ∧ wx.cell? ⟨w.heap.size, 1, none⟩ = some (.string c.res) ∧ wx.cell? ⟨w.heap.size, 2, none⟩ = some (.string c.ctx) ∧ wx.cell? ⟨w.heap.size, 3, none⟩ = some (.string c.org) ∧ wx.cell? ⟨w.heap.size, 4, none⟩ = some (.bool c.inb) ∧ wx.cell? ⟨w.heap.size, 5, none⟩ = some (.int .i64 c.cnt) ∧ wx.cell? ⟨w.heap.size, 6, none⟩ = some (c.args)) ∧ (wx.heap[w.heap.size]? = some (.cells #[.int .i64 c.at_, .string c.res, .string c.ctx, .string c.org, .bool c.inb, .int .i64 c.cnt, c.args] 34)) ∧ Below w.heap.size w wx) wa → Below wa.heap.size wa wb → (fun wx => (wx.cell? ⟨w.heap.size, 0, none⟩ = some (.int .i64 c.at_) ∧ wx.cell? ⟨w.heap.size, 1, none⟩ = some (.string c.res) ∧ wx.cell? ⟨w.heap.size, 2, none⟩ = some (.string c.ctx) ∧ wx.cell? ⟨w.heap.size, 3, none⟩ = some (.string c.org) ∧ wx.cell? ⟨w.heap.size, 4, none⟩ = some (.bool c.inb) ∧ wx.cell? ⟨w.heap.size, 5, none⟩ = some (.int .i64 c.cnt) ∧ wx.cell? ⟨w.heap.size, 6, none⟩ = some (c.args)) ∧ (wx.heap[w.heap.size]? = some (.cells #[.int .i64 c.at_, .string c.res, .string c.ctx, .string c.org, .bool c.inb, .int .i64 c.cnt, c.args] 34)) ∧ Below w.heap.size w wx) wb from fun wa wb hs hb => by
    obtain ⟨_, h1, hz⟩ := hs
    exact SK.out wb ((hb.block _ (Array.getElem?_eq_some_iff.1 h1).1).trans h1) (hz.trans (hb.mono hz.size)))
  clear CV hf hn hln
  go_enter Try.func5, Try.ntmps5
  go_wp2_with (fail)
  generalize (w.alloc (.cells #[.int .i64 c.at_, .string c.res, .string c.ctx, .string c.org, .bool c.inb, .int .i64 c.cnt, c.args] 34)) = w1 at *
  refine (HA.out _ B1).mono ?_
  rintro e w2 ⟨rfl, hb2⟩
  go_wp2_with (fail)
  refine (HB.out _ (B1.trans (hb2.mono B1.size))).mono ?_
  rintro e w3 ⟨rfl, hb3⟩
  have hS3 := SS.out _ _ (SS.out _ _ (SK.out _ H1.out B1) hb2) hb3
  have hSd := SS.out _ _ hS3 (Below.refl _ _).drew
  have HS0 := Lib.hid hSd
  clear hS3 hSd hb2 hb3 B1 H1
  go_wp2_with (fail)
  refine wp_region_held_drew (S := fun wx => (wx.cell? ⟨w.heap.size, 0, none⟩ = some (.int .i64 c.at_) ∧ wx.cell? ⟨w.heap.size, 1, none⟩ = some (.string c.res) ∧ wx.cell? ⟨w.heap.size, 2, none⟩ = some (.string c.ctx) ∧ wx.cell? ⟨w.heap.size, 3, none⟩ = some (.string c.org) ∧ wx.cell? ⟨w.heap.size, 4, none⟩ = some (.bool c.inb) ∧ wx.cell? ⟨w.heap.size, 5, none⟩ = some (.int .i64 c.cnt) ∧ wx.cell? ⟨w.heap.size, 6, none⟩ = some (c.args)) ∧ (wx.heap[w.heap.size]? = some (.cells #[.int .i64 c.at_, .string c.res, .string c.ctx, .string c.org, .bool c.inb, .int .i64 c.cnt, c.args] 34)) ∧ Below w.heap.size w wx) (by kernel_rfl) ?_ (fun hHeld => ?_)
  · exact HS0.out
  refine wpAnyH_ready (rs := [0]) (by kernel_rfl) (by simp) (AllReadyH.cons rfl (fun K hK => ?_) AllReadyH.nil)
  go_simp
  go_at_call 8; refine (HLV.out _).mono ?_; rintro e wa ⟨rfl, ha⟩
  try (go_wp2_with fail)
  refine hK.out _ _ ?_ (fun hHeld => ?_)
  · exact SS.out _ _ HS0.out ha
  clear hK K
  try simp only [Act.put, List.getElem_toArray, List.getElem_cons_succ, List.getElem_cons_zero, List.setIfInBounds_toArray, List.set_cons_zero, List.set_cons_succ]
  refine wpAnyH_take (i := 1) (v := ?_) rfl (by kernel_rfl) (by kernel_rfl) (by kernel_rfl) (fun _ _ _ h => h) (Or.inl ⟨by rfl, ?hy⟩) (by assumption) ?_
  case hy => intro w hSw; (try dsimp only at hSw); go_simp; try with_reducible rfl
  try simp only [Act.put, List.getElem_toArray, List.getElem_cons_succ, List.getElem_cons_zero, List.setIfInBounds_toArray, List.set_cons_zero, List.set_cons_succ]
  refine wpAnyH_take (i := 2) (v := ?_) rfl (by kernel_rfl) (by kernel_rfl) (by kernel_rfl) (fun _ _ _ h => h) (Or.inl ⟨by rfl, ?hy⟩) (by assumption) ?_
  case hy => intro w hSw; (try dsimp only at hSw); go_simp; try with_reducible rfl
  try simp only [Act.put, List.getElem_toArray, List.getElem_cons_succ, List.getElem_cons_zero, List.setIfInBounds_toArray, List.set_cons_zero, List.set_cons_succ]
  refine wpAnyH_take (i := 3) (v := ?_) rfl (by kernel_rfl) (by kernel_rfl) (by kernel_rfl) (fun _ _ _ h => h) (Or.inl ⟨by rfl, ?hy⟩) (by assumption) ?_
  case hy => intro w hSw; (try dsimp only at hSw); go_simp; try with_reducible rfl
  try simp only [Act.put, List.getElem_toArray, List.getElem_cons_succ, List.getElem_cons_zero, List.setIfInBounds_toArray, List.set_cons_zero, List.set_cons_succ]
  refine wpAnyH_take (i := 5) (v := ?_) rfl (by kernel_rfl) (by kernel_rfl) (by kernel_rfl) (fun _ _ _ h => h) (Or.inl ⟨by rfl, ?hy⟩) (by assumption) ?_
  case hy => intro w hSw; (try dsimp only at hSw); go_simp; try with_reducible rfl
  try simp only [Act.put, List.getElem_toArray, List.getElem_cons_succ, List.getElem_cons_zero, List.setIfInBounds_toArray, List.set_cons_zero, List.set_cons_succ]
  refine wpAnyH_take (i := 6) (v := ?_) rfl (by kernel_rfl) (by kernel_rfl) (by kernel_rfl) (fun _ _ _ h => h) (Or.inl ⟨by rfl, ?hy⟩) (by assumption) ?_
  case hy => intro w hSw; (try dsimp only at hSw); go_simp; try with_reducible rfl
  try simp only [Act.put, List.getElem_toArray, List.getElem_cons_succ, List.getElem_cons_zero, List.setIfInBounds_toArray, List.set_cons_zero, List.set_cons_succ]
  refine wpAnyH_ready (rs := [4]) (by kernel_rfl) (by simp) (AllReadyH.cons rfl (fun K hK => ?_) AllReadyH.nil)
  go_simp
  go_at_call 9; refine (HM.out _ hHeld.2.2).mono ?_; rintro e wb ⟨⟨v1, rfl, hr1⟩, hb⟩
  try (go_wp2_with fail)
  refine hK.out _ _ ?_ (fun hHeld => ?_)
  · exact SS.out _ _ hHeld hb
  clear hK K
  try simp only [Act.put, List.getElem_toArray, List.getElem_cons_succ, List.getElem_cons_zero, List.setIfInBounds_toArray, List.set_cons_zero, List.set_cons_succ]
  refine wpAnyH_ready (rs := [7]) (by kernel_rfl) (by simp) (AllReadyH.cons rfl (fun K hK => ?_) AllReadyH.nil)
  go_simp
  go_at_call 13; refine (HR.out _ hHeld.2.2).mono ?_; rintro e wc ⟨⟨v2, rfl, hr2⟩, hc⟩
  try (go_wp2_with fail)
  refine hK.out _ _ ?_ (fun hHeld => ?_)
  · exact SS.out _ _ hHeld hc
  clear hK K
  try simp only [Act.put, List.getElem_toArray, List.getElem_cons_succ, List.getElem_cons_zero, List.setIfInBounds_toArray, List.set_cons_zero, List.set_cons_succ]
  refine wpAnyH_ready (rs := [8]) (by kernel_rfl) (by simp) (AllReadyH.cons rfl (fun K hK => ?_) AllReadyH.nil)
  go_simp
  obtain ⟨a1, c1, rfl, hi1, hn1⟩ := IntsAt.own hr1
  obtain ⟨a2, c2, rfl, hi2, hn2⟩ := IntsAt.own hr2
  go_at_call 12; refine (rsame_ints a1 a2 _ c1 c2 (mineN fs c) _ rfl hmn (hi1.below' hc) hi2).mono ?_; rintro e wd ⟨rfl, hd⟩
  try (go_wp2_with fail)
  refine hK.out _ _ ?_ (fun hHeld => ?_)
  · exact SS.out _ _ hHeld hd
  clear hK K
  try simp only [Act.put, List.getElem_toArray, List.getElem_cons_succ, List.getElem_cons_zero, List.setIfInBounds_toArray, List.set_cons_zero, List.set_cons_succ]
  refine wpAnyH_take (i := 9) (v := ?_) rfl (by kernel_rfl) (by kernel_rfl) (by kernel_rfl) (fun _ _ _ h => h) (Or.inl ⟨by rfl, ?hy⟩) (by assumption) ?_
  case hy => intro w hSw; (try dsimp only at hSw); go_simp; try with_reducible rfl
  try simp only [Act.put, List.getElem_toArray, List.getElem_cons_succ, List.getElem_cons_zero, List.setIfInBounds_toArray, List.set_cons_zero, List.set_cons_succ]
  refine wpAnyH_take (i := 10) (v := ?_) rfl (by kernel_rfl) (by kernel_rfl) (by kernel_rfl) (fun _ _ _ h => h) (Or.inl ⟨by rfl, ?hy⟩) (by assumption) ?_
  case hy => intro w hSw; (try dsimp only at hSw); go_simp; try with_reducible rfl
  try simp only [Act.put, List.getElem_toArray, List.getElem_cons_succ, List.getElem_cons_zero, List.setIfInBounds_toArray, List.set_cons_zero, List.set_cons_succ]
  refine wpAnyH_take (i := 11) (v := ?_) rfl (by kernel_rfl) (by kernel_rfl) (by kernel_rfl) (fun _ _ _ h => h) (Or.inl ⟨by rfl, ?hy⟩) (by assumption) ?_
  case hy => intro w hSw; (try dsimp only at hSw); go_simp; try with_reducible rfl
  try simp only [Act.put, List.getElem_toArray, List.getElem_cons_succ, List.getElem_cons_zero, List.setIfInBounds_toArray, List.set_cons_zero, List.set_cons_succ]
  refine wpAnyH_take (i := 12) (v := ?_) rfl (by kernel_rfl) (by kernel_rfl) (by kernel_rfl) (fun _ _ _ h => h) (Or.inl ⟨by rfl, ?hy⟩) (by assumption) ?_
  case hy => intro w hSw; (try dsimp only at hSw); go_simp; try with_reducible rfl
  try simp only [Act.put, List.getElem_toArray, List.getElem_cons_succ, List.getElem_cons_zero, List.setIfInBounds_toArray, List.set_cons_zero, List.set_cons_succ]
  refine wpAnyH_take (i := 13) (v := ?_) rfl (by kernel_rfl) (by kernel_rfl) (by kernel_rfl) (fun _ _ _ h => h) (Or.inl ⟨by rfl, ?hy⟩) (by assumption) ?_
  case hy => intro w hSw; (try dsimp only at hSw); go_simp; try with_reducible rfl
  try simp only [Act.put, List.getElem_toArray, List.getElem_cons_succ, List.getElem_cons_zero, List.setIfInBounds_toArray, List.set_cons_zero, List.set_cons_succ]
  refine wpAnyH_take (i := 14) (v := ?_) rfl (by kernel_rfl) (by kernel_rfl) (by kernel_rfl) (fun _ _ _ h => h) (Or.inl ⟨by rfl, ?hy⟩) (by assumption) ?_
  case hy => intro w hSw; (try dsimp only at hSw); go_simp; try with_reducible rfl
  try simp only [Act.put, List.getElem_toArray, List.getElem_cons_succ, List.getElem_cons_zero, List.setIfInBounds_toArray, List.set_cons_zero, List.set_cons_succ]
  refine wpAnyH_take (i := 15) (v := ?_) rfl (by kernel_rfl) (by kernel_rfl) (by kernel_rfl) (fun _ _ _ h => h) (Or.inl ⟨by rfl, ?hy⟩) (by assumption) ?_
  case hy => intro w hSw; (try dsimp only at hSw); go_simp; try with_reducible rfl
  try simp only [Act.put, List.getElem_toArray, List.getElem_cons_succ, List.getElem_cons_zero, List.setIfInBounds_toArray, List.set_cons_zero, List.set_cons_succ]
  refine wpAnyH_take (i := 16) (v := ?_) rfl (by kernel_rfl) (by kernel_rfl) (by kernel_rfl) (fun _ _ _ h => h) (Or.inl ⟨by rfl, ?hy⟩) (by assumption) ?_
  case hy => intro w hSw; (try dsimp only at hSw); go_simp; try with_reducible rfl
  try simp only [Act.put, List.getElem_toArray, List.getElem_cons_succ, List.getElem_cons_zero, List.setIfInBounds_toArray, List.set_cons_zero, List.set_cons_succ]
  refine wpAnyH_take (i := 17) (v := ?_) rfl (by kernel_rfl) (by kernel_rfl) (by kernel_rfl) (fun _ _ _ h => h) (Or.inl ⟨by rfl, ?hy⟩) (by assumption) ?_
  case hy => intro w hSw; (try dsimp only at hSw); go_simp; try with_reducible rfl
  try simp only [Act.put, List.getElem_toArray, List.getElem_cons_succ, List.getElem_cons_zero, List.setIfInBounds_toArray, List.set_cons_zero, List.set_cons_succ]
  refine wpAnyH_take (i := 18) (v := ?_) rfl (by kernel_rfl) (by kernel_rfl) (by kernel_rfl) (fun _ _ _ h => h) (Or.inl ⟨by rfl, ?hy⟩) (by assumption) ?_
  case hy => intro w hSw; (try dsimp only at hSw); go_simp; try with_reducible rfl
  try simp only [Act.put, List.getElem_toArray, List.getElem_cons_succ, List.getElem_cons_zero, List.setIfInBounds_toArray, List.set_cons_zero, List.set_cons_succ]
  refine wpAnyH_take (i := 19) (v := ?_) rfl (by kernel_rfl) (by kernel_rfl) (by kernel_rfl) (fun _ _ _ h => h) (Or.inl ⟨by rfl, ?hy⟩) (by assumption) ?_
  case hy => intro w hSw; (try dsimp only at hSw); go_simp; try with_reducible rfl
  try simp only [Act.put, List.getElem_toArray, List.getElem_cons_succ, List.getElem_cons_zero, List.setIfInBounds_toArray, List.set_cons_zero, List.set_cons_succ]
  refine wpAnyH_take (i := 20) (v := ?_) rfl (by kernel_rfl) (by kernel_rfl) (by kernel_rfl) (fun _ _ _ h => h) (Or.inl ⟨by rfl, ?hy⟩) (by assumption) ?_
  case hy => intro w hSw; (try dsimp only at hSw); go_simp; try with_reducible rfl
  try simp only [Act.put, List.getElem_toArray, List.getElem_cons_succ, List.getElem_cons_zero, List.setIfInBounds_toArray, List.set_cons_zero, List.set_cons_succ]
  refine wpAnyH_done (by kernel_rfl) ?_ _
  go_wp2_with (fail)
  go_ret
  exact ⟨rfl, hHeld.2.2⟩
set_option maxHeartbeats 1600000 in
theorem rejmine_walk (w : World) (a : Option Addr) (len cap : Nat) (V : Nat → Nat → Value) (hm : len ≤ 140737488351232) (hr : RecsAt w a 12 len V) (hB : len * 120 ≤ 140737488351232)
    (f0 : ∀ j, j < len → V j 0 = .string (strOf (V j 0))) (f1 : ∀ j, j < len → V j 1 = .string (strOf (V j 1))) (f2 : ∀ j, j < len → V j 2 = .bool (boolOf (V j 2)))
    (f3 : ∀ j, j < len → V j 3 = .int .i64 (intOf (V j 3)) ∧ (Lit.int .i64 (intOf (V j 3))).wf = true) (f4 : ∀ j, j < len → V j 4 = .int .u8 (intOf (V j 4)) ∧ (Lit.int .u8 (intOf (V j 4))).wf = true)
    (f5 : ∀ j, j < len → V j 5 = .string (strOf (V j 5))) (f6 : ∀ j, j < len → V j 6 = .int .u8 (intOf (V j 6)) ∧ (Lit.int .u8 (intOf (V j 6))).wf = true)
    (f7 : ∀ j, j < len → V j 7 = .int .i64 (intOf (V j 7)) ∧ (Lit.int .i64 (intOf (V j 7))).wf = true) (f8 : ∀ j, j < len → V j 8 = .int .i64 (intOf (V j 8)) ∧ (Lit.int .i64 (intOf (V j 8))).wf = true)
    (f9 : ∀ j, j < len → V j 9 = .bool (boolOf (V j 9))) (f10 : ∀ j, j < len → V j 10 = .int .i64 (intOf (V j 10)) ∧ (Lit.int .i64 (intOf (V j 10))).wf = true) (f11 : ∀ j, j < len → V j 11 = .bool (boolOf (V j 11)))
    (at_ : Int) (y0 : (Lit.int .i64 at_).wf = true) (res ctx org : ByteArray) (inb : Bool) (cnt : Int) (y5 : (Lit.int .i64 cnt).wf = true) (ba : Option Addr) (bl bc : Nat)
    (an : Option Addr) (ln cn : Nat) (ns : List Int) (hln : ns.length = ln) (hmn : ln * 8 ≤ 140737488351232) (hx : I64s ns) (hn : IntsAt w an ns) (hnn : 0 < ln → an ≠ none) (hc : an = none → cn = 0) :
    Calls Try.prog 5 #[.slice a len cap, .agg #[.int .i64 at_, .string res, .string ctx, .string org, .bool inb, .int .i64 cnt, .slice ba bl bc], .slice an ln cn] w fun e w' => e = .returned (.bool true) ∧ Below w.heap.size w w' :=
  rejmine_law w (flowsOf V len) a len cap (flowsOf_length V len) (by omega) (flows_at hr f0 f1 f2 f3 f4 f5 f6 f7 f8 f9 f10 f11) ⟨at_, res, ctx, org, inb, cnt, .slice ba bl bc⟩ rfl an ln cn ns hln hmn hn
end Go.Proofs.Ytalpilahemajoaa
