/- spillwaymem: SameHot, SameAuthority, SameRules. -/
import Derived.Test.YtnobfmlfhaaghaaHandR
namespace Go.Proofs.Ytnobfmlfhaaghaa
open Go.RowKit
set_option linter.unusedVariables false
set_option linter.unusedSimpArgs false

theorem own_rowsK {w : World} {base m n c : Nat} {e : TypeId} {a : Option Addr} {rs : List (List Value)} (hL : ∀ r ∈ rs, r.length = n) (hm : rs.length = m) (h : w.ownsRow base e n (.slice a m c) m rs.flatten) : RowsAt w a n rs := by
  rcases h.2 with ⟨h1, h2⟩ | ⟨g, cap, cur, h1, hb, hg, hnc, _⟩
  · subst h2
    exact Or.inl (List.length_eq_zero_iff.1 hm)
  · injection h1 with e1 e2 e3
    refine Or.inr ⟨g, 0, e1, (Array.getElem?_eq_some_iff.1 hg).1, fun j r hj k u hk hu => ?_⟩
    rw [e1] at h
    rw [Nat.zero_add, rows_cell hL hm h hj k hk]
    exact hu
theorem rowsAt_leftK {w : World} {a : Option Addr} {n : Nat} {xs ys : List (List Value)} (h : RowsAt w a n (xs ++ ys)) : RowsAt w a n xs := by
  rcases h with h | ⟨b, off, e, hl, hc⟩
  · exact Or.inl (List.append_eq_nil_iff.1 h).1
  · refine Or.inr ⟨b, off, e, hl, fun j r hj => hc j r ?_⟩
    have hjl : j < xs.length := (List.getElem?_eq_some_iff.1 hj).1
    rw [List.getElem?_append_left hjl]; exact hj
theorem rowFl_of {w : World} {b g len : Nat} {xs : List FlowS} (hl : xs.length = len) (h : w.ownsRow b 101 12 (.slice (some ⟨g, 0, none⟩) (len + 9) (len + 9)) (len + 9) (fullFl (xs.map FlowS.cs)).flatten) : RowsAt w (some ⟨g, 0, none⟩) 12 (xs.map FlowS.cs) := by
  refine rowsAt_leftK (own_rowsK (rs := fullFl (xs.map FlowS.cs)) (m := len + 9) ?_ ?_ h)
  · intro r hr
    rcases List.mem_append.1 hr with h | h
    · exact lenFl xs r h
    · obtain ⟨q, _, rfl⟩ := List.mem_map.1 h; rfl
  · unfold fullFl; rw [List.length_append, List.length_map, List.length_map, List.length_range, hl]
theorem rowBr_of {w : World} {b g len : Nat} {xs : List BreakS} (hl : xs.length = len) (h : w.ownsRow b 104 7 (.slice (some ⟨g, 0, none⟩) (len + 9) (len + 9)) (len + 9) (fullBr (xs.map BreakS.cs)).flatten) : RowsAt w (some ⟨g, 0, none⟩) 7 (xs.map BreakS.cs) := by
  refine rowsAt_leftK (own_rowsK (rs := fullBr (xs.map BreakS.cs)) (m := len + 9) ?_ ?_ h)
  · intro r hr
    rcases List.mem_append.1 hr with h | h
    · exact lenBr xs r h
    · obtain ⟨q, _, rfl⟩ := List.mem_map.1 h; rfl
  · unfold fullBr; rw [List.length_append, List.length_map, List.length_map, List.length_range, hl]
theorem rowSy_of {w : World} {b g len : Nat} {xs : List SysR} (hl : xs.length = len) (h : w.ownsRow b 23 5 (.slice (some ⟨g, 0, none⟩) (len + 9) (len + 9)) (len + 9) (fullSy (xs.map SysR.cs)).flatten) : RowsAt w (some ⟨g, 0, none⟩) 5 (xs.map SysR.cs) := by
  refine rowsAt_leftK (own_rowsK (rs := fullSy (xs.map SysR.cs)) (m := len + 9) ?_ ?_ h)
  · intro r hr
    rcases List.mem_append.1 hr with h | h
    · exact lenSy xs r h
    · obtain ⟨q, _, rfl⟩ := List.mem_map.1 h; rfl
  · unfold fullSy; rw [List.length_append, List.length_map, List.length_map, List.length_range, hl]
theorem rowIt_of {w : World} {b g len : Nat} {xs : List ItemS} (hl : xs.length = len) (h : w.ownsRow b 106 2 (.slice (some ⟨g, 0, none⟩) (len + 9) (len + 9)) (len + 9) (fullIt (xs.map ItemS.cs)).flatten) : RowsAt w (some ⟨g, 0, none⟩) 2 (xs.map ItemS.cs) := by
  refine rowsAt_leftK (own_rowsK (rs := fullIt (xs.map ItemS.cs)) (m := len + 9) ?_ ?_ h)
  · intro r hr
    rcases List.mem_append.1 hr with h | h
    · exact lenIt xs r h
    · obtain ⟨q, _, rfl⟩ := List.mem_map.1 h; rfl
  · unfold fullIt; rw [List.length_append, List.length_map, List.length_map, List.length_range, hl]
theorem rowTx_of {w : World} {b g len : Nat} {xs : List ByteArray} (hl : xs.length = len) (h : w.ownsRow b 9 1 (.slice (some ⟨g, 0, none⟩) (len + 9) (len + 9)) (len + 9) (fullTx (xs.map strR)).flatten) : RowsAt w (some ⟨g, 0, none⟩) 1 (xs.map strR) := by
  refine rowsAt_leftK (own_rowsK (rs := fullTx (xs.map strR)) (m := len + 9) ?_ ?_ h)
  · intro r hr
    rcases List.mem_append.1 hr with h | h
    · exact lenTx xs r h
    · obtain ⟨q, _, rfl⟩ := List.mem_map.1 h; rfl
  · unfold fullTx; rw [List.length_append, List.length_map, List.length_map, List.length_range, hl]

theorem lenHo (xs : List HotS) : ∀ r ∈ xs.map HotS.cs, r.length = 5 := by intro r hr; obtain ⟨x, _, rfl⟩ := List.mem_map.1 hr; rfl
theorem lenAu (xs : List AuthS) : ∀ r ∈ xs.map AuthS.cs, r.length = 3 := by intro r hr; obtain ⟨x, _, rfl⟩ := List.mem_map.1 hr; rfl
theorem kernH_get {xs ys : List HotS} (h : xs.map HotS.kern = ys.map HotS.kern) {j : Nat} {y : HotS} (hy : ys[j]? = some y) : ∃ z, xs[j]? = some z ∧ z.res = y.res ∧ z.idx = y.idx ∧ z.cnt = y.cnt ∧ z.secs = y.secs ∧ z.items = y.items := by
  have h1 := congrArg (fun l : List HotS => l[j]?) h
  simp only [List.getElem?_map, hy, Option.map_some] at h1
  cases hz : xs[j]? with
  | none => rw [hz] at h1; cases h1
  | some z =>
    rw [hz] at h1
    have h2 := Option.some.inj h1
    injection h2 with e1 e2 e3 e4 e5 e6 e7 e8
    exact ⟨z, rfl, e1, e2, e3, e4, e8⟩
theorem kernA_get {xs ys : List AuthS} (h : xs.map AuthS.kern = ys.map AuthS.kern) {j : Nat} {y : AuthS} (hy : ys[j]? = some y) : ∃ z, xs[j]? = some z ∧ z.res = y.res ∧ z.white = y.white ∧ z.orig = y.orig := by
  have h1 := congrArg (fun l : List AuthS => l[j]?) h
  simp only [List.getElem?_map, hy, Option.map_some] at h1
  cases hz : xs[j]? with
  | none => rw [hz] at h1; cases h1
  | some z =>
    rw [hz] at h1
    have h2 := Option.some.inj h1
    injection h2 with e1 e2 e3 e4 e5 e6
    exact ⟨z, rfl, e1, e2, e6⟩
/-- What HandRules gave, in pieces. -/
structure HandV (w : World) (r : RulesS) (gF gB gS : Nat) (a2 : Option Addr) (c2 : Nat) (a4 : Option Addr) (c4 : Nat) (ho : List HotS) (au : List AuthS) : Prop where
  oF : ∃ b, w.ownsRow b 101 12 (.slice (some ⟨gF, 0, none⟩) (r.n0 + 9) (r.n0 + 9)) (r.n0 + 9) (fullFl (r.fl.map FlowS.cs)).flatten
  oB : ∃ b, w.ownsRow b 104 7 (.slice (some ⟨gB, 0, none⟩) (r.n1 + 9) (r.n1 + 9)) (r.n1 + 9) (fullBr (r.br.map BreakS.cs)).flatten
  oS : ∃ b, w.ownsRow b 23 5 (.slice (some ⟨gS, 0, none⟩) (r.n3 + 9) (r.n3 + 9)) (r.n3 + 9) (fullSy (r.sy.map SysR.cs)).flatten
  rh : RowsAt w a2 5 (ho.map HotS.cs)
  ra : RowsAt w a4 3 (au.map AuthS.cs)
  hk : ho.map HotS.kern = r.ho.map HotS.kern
  ak : au.map AuthS.kern = r.au.map AuthS.kern
  hh : ∀ y ∈ ho, ∃ b, HotHand w b y
  ha : ∀ y ∈ au, ∃ b, AuthHand w b y
theorem HandV.below {w w' : World} {r : RulesS} {gF gB gS : Nat} {a2 : Option Addr} {c2 : Nat} {a4 : Option Addr} {c4 : Nat} {ho : List HotS} {au : List AuthS} (h : HandV w r gF gB gS a2 c2 a4 c4 ho au) (hb : Below w.heap.size w w') : HandV w' r gF gB gS a2 c2 a4 c4 ho au := by
  obtain ⟨⟨b0, h0⟩, ⟨b1, h1⟩, ⟨b2, h2⟩, rh, ra, hk, ak, hh, ha⟩ := h
  exact ⟨⟨b0, below_ownT h0 hb⟩, ⟨b1, below_ownT h1 hb⟩, ⟨b2, below_ownT h2 hb⟩, rh.below (Nat.le_refl _) hb, ra.below (Nat.le_refl _) hb, hk, ak, fun y hy => by obtain ⟨b, h⟩ := hh y hy; exact ⟨b, h.below hb⟩, fun y hy => by obtain ⟨b, h⟩ := ha y hy; exact ⟨b, h.below hb⟩⟩
theorem HandedR.pieces {w : World} {r x : RulesS} (h : HandedR w r x) : ∃ (gF gB gS : Nat) (a2 : Option Addr) (c2 : Nat) (a4 : Option Addr) (c4 : Nat) (ho : List HotS) (au : List AuthS), x.cs = #[.slice (some ⟨gF, 0, none⟩) r.n0 (r.n0 + 9), .slice (some ⟨gB, 0, none⟩) r.n1 (r.n1 + 9), .slice a2 r.n2 c2, .slice (some ⟨gS, 0, none⟩) r.n3 (r.n3 + 9), .slice a4 r.n4 c4] ∧ HandV w r gF gB gS a2 c2 a4 c4 ho au := by
  obtain ⟨⟨g0, b0, p1, p2, p3, p4, p5⟩, ⟨g1, b1, q1, q2, q3, q4, q5⟩, ⟨g2, b2, s1, s2, s3, s4, s5⟩, n2, n4, l2, l4, hk, ak, ⟨ba, h1, h2⟩, ⟨bb, a1, a2⟩⟩ := h
  refine ⟨g0, g1, g2, x.a2, x.c2, x.a4, x.c4, x.ho, x.au, ?_, ⟨b0, p5⟩, ⟨b1, q5⟩, ⟨b2, s5⟩, own_rowsK (lenHo x.ho) (by rw [List.length_map]; exact l2) h1, own_rowsK (lenAu x.au) (by rw [List.length_map]; exact l4) a1, hk, ak, fun y hy => ⟨ba, h2 y hy⟩, fun y hy => ⟨bb, a2 y hy⟩⟩
  unfold RulesS.cs
  rw [p1, p2, p3, q1, q2, q3, s1, s2, s3, n2, n4]

set_option maxHeartbeats 3200000 in
set_option maxRecDepth 100000 in
theorem sameHot_any {w : World} (res : ByteArray) (idx cnt secs : Int) (a b : Option Addr) (len ca cb : Nat) (xs : List ItemS) (hl : xs.length = len) (hb : len * 24 ≤ 140737488351232) (ha : RowsAt w a 2 (xs.map ItemS.cs)) (hb2 : RowsAt w b 2 (xs.map ItemS.cs)) :
    Calls Try.prog 67 #[.agg #[.string res, .int .i64 idx, .int .i64 cnt, .int .i64 secs, .slice a len ca], .agg #[.string res, .int .i64 idx, .int .i64 cnt, .int .i64 secs, .slice b len cb]] w fun e w' => e = .returned (.bool true) ∧ Below w.heap.size w w' := by
  have hal : Below w.heap.size w ((w.alloc (.cells #[.string res, .int .i64 idx, .int .i64 cnt, .int .i64 secs, .slice a len ca] 69)).alloc (.cells #[.string res, .int .i64 idx, .int .i64 cnt, .int .i64 secs, .slice b len cb] 69)) := ((Below.refl _ _).alloc (Nat.le_refl _) _).alloc (by simp) _
  have HB := Lib.hid hal
  have HC := Lib.hid (fun wx (hx : Below w.heap.size w wx) => sameIt_any (w := wx) a b len ca cb xs hl hb (ha.below (Nat.le_refl _) hx) (hb2.below (Nat.le_refl _) hx))
  clear hal ha hb2 hl
  go_enter Try.func67, Try.ntmps67
  go_wp2_with (fail)
  refine (HC.out _ HB.out).mono ?_
  rintro e w1 ⟨rfl, hb1⟩
  have HB1 := Lib.hid (HB.out.trans (hb1.mono HB.out.size))
  clear hb1
  go_wp2_with (fail)
  go_ret
  exact ⟨rfl, HB1.out⟩
set_option maxHeartbeats 3200000 in
set_option maxRecDepth 100000 in
theorem sameAu_any {w : World} (res : ByteArray) (white : Bool) (a b : Option Addr) (len ca cb : Nat) (xs : List ByteArray) (hl : xs.length = len) (hb : len * 16 ≤ 140737488351232) (ha : RowsAt w a 1 (xs.map strR)) (hb2 : RowsAt w b 1 (xs.map strR)) :
    Calls Try.prog 68 #[.agg #[.string res, .bool white, .slice a len ca], .agg #[.string res, .bool white, .slice b len cb]] w fun e w' => e = .returned (.bool true) ∧ Below w.heap.size w w' := by
  have hal : Below w.heap.size w ((w.alloc (.cells #[.string res, .bool white, .slice a len ca] 37)).alloc (.cells #[.string res, .bool white, .slice b len cb] 37)) := ((Below.refl _ _).alloc (Nat.le_refl _) _).alloc (by simp) _
  have HB := Lib.hid hal
  have HC := Lib.hid (fun wx (hx : Below w.heap.size w wx) => sameTx_any (w := wx) a b len ca cb xs hl hb (ha.below (Nat.le_refl _) hx) (hb2.below (Nat.le_refl _) hx))
  clear hal ha hb2 hl
  cases white
  all_goals
    go_enter Try.func68, Try.ntmps68
    go_wp2_with (fail)
    refine (HC.out _ HB.out).mono ?_
    rintro e w1 ⟨rfl, hb1⟩
    have HB1 := Lib.hid (HB.out.trans (hb1.mono HB.out.size))
    clear hb1
    go_wp2_with (fail)
    go_ret
    exact ⟨rfl, HB1.out⟩

set_option maxHeartbeats 25600000 in
set_option maxRecDepth 100000 in
theorem sameR_any {w : World} (r x : RulesS) (hr : RulesAt w r) (hx : HandedR w r x) : Calls Try.prog 38 #[.agg x.cs, .agg r.cs] w fun e w' => e = .returned (.bool true) ∧ Below w.heap.size w w' := by
  obtain ⟨gF, gB, gS, a2, cc2, a4, cc4, ho, au, hxc, hv⟩ := hx.pieces
  rw [hxc]
  unfold RulesS.cs at *
  generalize hA2 : r.a2 = A2 at *
  generalize hA4 : r.a4 = A4 at *
  have HA2 := Lib.hid hA2
  have HA4 := Lib.hid hA4
  clear hA2 hA4 hxc hx
  have hb0 : Below w.heap.size w ((w.alloc (.cells #[.slice (some ⟨gF, 0, none⟩) r.n0 (r.n0 + 9), .slice (some ⟨gB, 0, none⟩) r.n1 (r.n1 + 9), .slice a2 r.n2 cc2, .slice (some ⟨gS, 0, none⟩) r.n3 (r.n3 + 9), .slice a4 r.n4 cc4] 45)).alloc (.cells #[.slice r.a0 r.n0 r.c0, .slice r.a1 r.n1 r.c1, .slice A2 r.n2 r.c2, .slice r.a3 r.n3 r.c3, .slice A4 r.n4 r.c4] 45)) := ((Below.refl _ _).alloc (Nat.le_refl _) _).alloc (by simp) _
  have h0 : ((w.alloc (.cells #[.slice (some ⟨gF, 0, none⟩) r.n0 (r.n0 + 9), .slice (some ⟨gB, 0, none⟩) r.n1 (r.n1 + 9), .slice a2 r.n2 cc2, .slice (some ⟨gS, 0, none⟩) r.n3 (r.n3 + 9), .slice a4 r.n4 cc4] 45)).alloc (.cells #[.slice r.a0 r.n0 r.c0, .slice r.a1 r.n1 r.c1, .slice A2 r.n2 r.c2, .slice r.a3 r.n3 r.c3, .slice A4 r.n4 r.c4] 45)).heap[w.heap.size]? = some (.cells #[.slice (some ⟨gF, 0, none⟩) r.n0 (r.n0 + 9), .slice (some ⟨gB, 0, none⟩) r.n1 (r.n1 + 9), .slice a2 r.n2 cc2, .slice (some ⟨gS, 0, none⟩) r.n3 (r.n3 + 9), .slice a4 r.n4 cc4] 45) := by rw [get_allocJ, if_neg (by simp), get_allocJ, if_pos rfl]
  have h1 : ((w.alloc (.cells #[.slice (some ⟨gF, 0, none⟩) r.n0 (r.n0 + 9), .slice (some ⟨gB, 0, none⟩) r.n1 (r.n1 + 9), .slice a2 r.n2 cc2, .slice (some ⟨gS, 0, none⟩) r.n3 (r.n3 + 9), .slice a4 r.n4 cc4] 45)).alloc (.cells #[.slice r.a0 r.n0 r.c0, .slice r.a1 r.n1 r.c1, .slice A2 r.n2 r.c2, .slice r.a3 r.n3 r.c3, .slice A4 r.n4 r.c4] 45)).heap[w.heap.size + 1]? = some (.cells #[.slice r.a0 r.n0 r.c0, .slice r.a1 r.n1 r.c1, .slice A2 r.n2 r.c2, .slice r.a3 r.n3 r.c3, .slice A4 r.n4 r.c4] 45) := by rw [get_allocJ, if_pos (by simp)]
  have hz : ((w.alloc (.cells #[.slice (some ⟨gF, 0, none⟩) r.n0 (r.n0 + 9), .slice (some ⟨gB, 0, none⟩) r.n1 (r.n1 + 9), .slice a2 r.n2 cc2, .slice (some ⟨gS, 0, none⟩) r.n3 (r.n3 + 9), .slice a4 r.n4 cc4] 45)).alloc (.cells #[.slice r.a0 r.n0 r.c0, .slice r.a1 r.n1 r.c1, .slice A2 r.n2 r.c2, .slice r.a3 r.n3 r.c3, .slice A4 r.n4 r.c4] 45)).heap.size = w.heap.size + 2 := by simp
  have hr1 := hr.below (Nat.le_refl _) hb0
  have hv1 := hv.below hb0
  go_enter Try.func38, Try.ntmps38
  go_wp2_with (fail)
  generalize ((w.alloc (.cells #[.slice (some ⟨gF, 0, none⟩) r.n0 (r.n0 + 9), .slice (some ⟨gB, 0, none⟩) r.n1 (r.n1 + 9), .slice a2 r.n2 cc2, .slice (some ⟨gS, 0, none⟩) r.n3 (r.n3 + 9), .slice a4 r.n4 cc4] 45)).alloc (.cells #[.slice r.a0 r.n0 r.c0, .slice r.a1 r.n1 r.c1, .slice A2 r.n2 r.c2, .slice r.a3 r.n3 r.c3, .slice A4 r.n4 r.c4] 45)) = W at *
  have HB0 := Lib.hid hb0
  have HRW := Lib.hid hr1
  have HVW := Lib.hid hv1
  have HBX : Hid (∀ wx, Below W.heap.size W wx → (wx.cell? ⟨w.heap.size, 0, none⟩ = some (.slice (some ⟨gF, 0, none⟩) r.n0 (r.n0 + 9)) ∧ wx.cell? ⟨w.heap.size, 1, none⟩ = some (.slice (some ⟨gB, 0, none⟩) r.n1 (r.n1 + 9)) ∧ wx.cell? ⟨w.heap.size, 2, none⟩ = some (.slice a2 r.n2 cc2) ∧ wx.cell? ⟨w.heap.size, 3, none⟩ = some (.slice (some ⟨gS, 0, none⟩) r.n3 (r.n3 + 9)) ∧ wx.cell? ⟨w.heap.size, 4, none⟩ = some (.slice a4 r.n4 cc4)) ∧ wx.cell? ⟨w.heap.size + 1, 0, none⟩ = some (.slice r.a0 r.n0 r.c0) ∧ wx.cell? ⟨w.heap.size + 1, 1, none⟩ = some (.slice r.a1 r.n1 r.c1) ∧ wx.cell? ⟨w.heap.size + 1, 2, none⟩ = some (.slice A2 r.n2 r.c2) ∧ wx.cell? ⟨w.heap.size + 1, 3, none⟩ = some (.slice r.a3 r.n3 r.c3) ∧ wx.cell? ⟨w.heap.size + 1, 4, none⟩ = some (.slice A4 r.n4 r.c4)) := Lib.hid (fun wx hb => by
    have g0 := (hb.block w.heap.size (by omega)).trans h0
    have g1 := (hb.block (w.heap.size + 1) (by omega)).trans h1
    simp only [World.cell?, g0, g1]
    exact ⟨⟨rfl, rfl, rfl, rfl, rfl⟩, rfl, rfl, rfl, rfl, rfl⟩)
  have HCF : Hid (∀ wx, Below W.heap.size W wx → Calls Try.prog 65 #[.slice (some ⟨gF, 0, none⟩) r.n0 (r.n0 + 9), .slice r.a0 r.n0 r.c0] wx fun e w' => e = .returned (.bool true) ∧ Below wx.heap.size wx w') := Lib.hid (fun wx hx => by obtain ⟨b, ho⟩ := HVW.out.oF; exact sameFl_any (some ⟨gF, 0, none⟩) r.a0 r.n0 (r.n0 + 9) r.c0 r.fl HRW.out.l0 HRW.out.s0 (rowFl_of HRW.out.l0 (below_ownT ho hx)) (flows_rows (HRW.out.fl.below (Nat.le_refl _) hx)))
  have HCB : Hid (∀ wx, Below W.heap.size W wx → Calls Try.prog 66 #[.slice (some ⟨gB, 0, none⟩) r.n1 (r.n1 + 9), .slice r.a1 r.n1 r.c1] wx fun e w' => e = .returned (.bool true) ∧ Below wx.heap.size wx w') := Lib.hid (fun wx hx => by obtain ⟨b, ho⟩ := HVW.out.oB; exact sameBr_any (some ⟨gB, 0, none⟩) r.a1 r.n1 (r.n1 + 9) r.c1 r.br HRW.out.l1 HRW.out.s1 (rowBr_of HRW.out.l1 (below_ownT ho hx)) (HRW.out.br.below (Nat.le_refl _) hx))
  have HCS : Hid (∀ wx, Below W.heap.size W wx → Calls Try.prog 55 #[.slice (some ⟨gS, 0, none⟩) r.n3 (r.n3 + 9), .slice r.a3 r.n3 r.c3] wx fun e w' => e = .returned (.bool true) ∧ Below wx.heap.size wx w') := Lib.hid (fun wx hx => by obtain ⟨b, ho⟩ := HVW.out.oS; exact sameSy_any (some ⟨gS, 0, none⟩) r.a3 r.n3 (r.n3 + 9) r.c3 r.sy HRW.out.l3 HRW.out.s3 (rowSy_of HRW.out.l3 (below_ownT ho hx)) (HRW.out.sy.below (Nat.le_refl _) hx))
  clear h0 h1 hz hb0 hr1 hv1 hr hv
  have HWX : Hid (Below W.heap.size W W) := Lib.hid (Below.refl _ _)
  obtain ⟨⟨p0, p1, p2, p3, p4⟩, q0, q1, q2, q3, q4⟩ := HBX.out _ HWX.out
  refine (HCF.out _ HWX.out).mono ?_
  rintro e w1 ⟨rfl, hbs⟩
  have HWX0 : Hid (Below W.heap.size W w1) := Lib.hid (HWX.out.trans (hbs.mono HWX.out.size))
  clear HWX hbs p0 p1 p2 p3 p4 q0 q1 q2 q3 q4
  have HWX := HWX0
  clear HWX0
  obtain ⟨⟨p0, p1, p2, p3, p4⟩, q0, q1, q2, q3, q4⟩ := HBX.out _ HWX.out
  go_wp2_with (fail)
  refine (HCB.out _ HWX.out).mono ?_
  rintro e w2 ⟨rfl, hbs⟩
  have HWX1 : Hid (Below W.heap.size W w2) := Lib.hid (HWX.out.trans (hbs.mono HWX.out.size))
  clear HWX hbs p0 p1 p2 p3 p4 q0 q1 q2 q3 q4
  have HWX := HWX1
  clear HWX1
  obtain ⟨⟨p0, p1, p2, p3, p4⟩, q0, q1, q2, q3, q4⟩ := HBX.out _ HWX.out
  go_wp2_with (fail)
  refine (HCS.out _ HWX.out).mono ?_
  rintro e w3 ⟨rfl, hbs⟩
  have HWX2 : Hid (Below W.heap.size W w3) := Lib.hid (HWX.out.trans (hbs.mono HWX.out.size))
  clear HWX hbs p0 p1 p2 p3 p4 q0 q1 q2 q3 q4
  have HWX := HWX2
  clear HWX2
  obtain ⟨⟨p0, p1, p2, p3, p4⟩, q0, q1, q2, q3, q4⟩ := HBX.out _ HWX.out
  go_wp2_with (fail)
  clear p0 p1 p2 p3 p4 q0 q1 q2 q3 q4
  go_loopw [5] (fun s wr => ∃ k : Nat, k ≤ r.n2 ∧ s = .int .i64 k ∧ Hid (Below W.heap.size W wr)) (fun s _ => r.n2 - (intOf s).toNat)
  case atStart => exact ⟨0, Nat.zero_le _, rfl, HWX⟩
  case round =>
    rename World => wy
    clear HWX
    obtain ⟨k, hk, rfl, HWX⟩ := hrel
    obtain ⟨⟨p0, p1, p2, p3, p4⟩, q0, q1, q2, q3, q4⟩ := HBX.out _ HWX.out
    have k0 : (0 : Int) ≤ k := by omega
    by_cases hlt : k < r.n2
    · have k1 : (k : Int) < r.n2 := by omega
      have hbb0 := HRW.out.s2
      have hkl : k < r.ho.length := by rw [HRW.out.l2]; exact hlt
      have HRX := Lib.hid (HRW.out.below (Nat.le_refl _) HWX.out)
      have HVX := Lib.hid (HVW.out.below HWX.out)
      obtain ⟨y, hy⟩ : ∃ y, r.ho[k]? = some y := ⟨_, List.getElem?_eq_getElem hkl⟩
      obtain ⟨z, hz, e1, e2, e3, e4, e5⟩ := kernH_get HVX.out.hk hy
      obtain ⟨yb, yo, hya, hyl, hyc⟩ := rowsAt_getH HRX.out.ho (j := k) (x := HotS.cs y) (by rw [List.getElem?_map, hy]; rfl)
      obtain ⟨xb, xo, hxa, hxl, hxc⟩ := rowsAt_getH HVX.out.rh (j := k) (x := HotS.cs z) (by rw [List.getElem?_map, hz]; rfl)
      have HY := Lib.hid (HRX.out.zh y (List.mem_of_getElem? hy))
      obtain ⟨zb, g, gb_, hbb, hza, hzc, hzl, hzo⟩ := HVX.out.hh z (List.mem_of_getElem? hz)
      rw [e5] at hzl hzo
      have hll : z.il = y.il := by rw [← hzl]; exact HY.out.l
      rw [hll] at hzo hzc
      have d0 : wy.cell? ⟨yb, yo + k * 5, none⟩ = some (.string y.res) := hyc 0 (.string y.res) (by decide) rfl
      have d1 : wy.cell? ⟨yb, yo + k * 5 + 1, none⟩ = some (.int .i64 y.idx) := hyc 1 (.int .i64 y.idx) (by decide) rfl
      have d2 : wy.cell? ⟨yb, yo + k * 5 + 2, none⟩ = some (.int .i64 y.cnt) := hyc 2 (.int .i64 y.cnt) (by decide) rfl
      have d3 : wy.cell? ⟨yb, yo + k * 5 + 3, none⟩ = some (.int .i64 y.secs) := hyc 3 (.int .i64 y.secs) (by decide) rfl
      have d4 : wy.cell? ⟨yb, yo + k * 5 + 4, none⟩ = some (.slice y.ia y.il y.ic) := hyc 4 (.slice y.ia y.il y.ic) (by decide) rfl
      have c0 : wy.cell? ⟨xb, xo + k * 5, none⟩ = some (.string y.res) := by have h := hxc 0 (.string z.res) (by decide) rfl; rw [e1] at h; exact h
      have c1 : wy.cell? ⟨xb, xo + k * 5 + 1, none⟩ = some (.int .i64 y.idx) := by have h := hxc 1 (.int .i64 z.idx) (by decide) rfl; rw [e2] at h; exact h
      have c2 : wy.cell? ⟨xb, xo + k * 5 + 2, none⟩ = some (.int .i64 y.cnt) := by have h := hxc 2 (.int .i64 z.cnt) (by decide) rfl; rw [e3] at h; exact h
      have c3 : wy.cell? ⟨xb, xo + k * 5 + 3, none⟩ = some (.int .i64 y.secs) := by have h := hxc 3 (.int .i64 z.secs) (by decide) rfl; rw [e4] at h; exact h
      have c4 : wy.cell? ⟨xb, xo + k * 5 + 4, none⟩ = some (.slice (some ⟨g, 0, none⟩) y.il (y.il + 9)) := by have h := hxc 4 (.slice z.ia z.il z.ic) (by decide) rfl; rw [hza, hll, hzc] at h; exact h
      obtain rfl : A2 = some ⟨yb, yo, none⟩ := HA2.out.symm.trans hya
      subst hxa
      have hlx : xb < wy.heap.size := World.block_lt_of_cell? _ _ c0
      have hly : yb < wy.heap.size := World.block_lt_of_cell? _ _ d0
      have hlp : w.heap.size < wy.heap.size := World.block_lt_of_cell? _ _ p0
      have hlq : w.heap.size + 1 < wy.heap.size := World.block_lt_of_cell? _ _ q0
      have SB : Hid (∀ wx, Below wy.heap.size wy wx → (fun wx => wx.cell? ⟨w.heap.size, 2, none⟩ = some (.slice (some ⟨xb, xo, none⟩) r.n2 cc2) ∧ wx.cell? ⟨w.heap.size + 1, 2, none⟩ = some (.slice (some ⟨yb, yo, none⟩) r.n2 r.c2) ∧ (wx.cell? ⟨xb, xo + k * 5, none⟩ = some (.string y.res) ∧ wx.cell? ⟨xb, xo + k * 5 + 1, none⟩ = some (.int .i64 y.idx) ∧ wx.cell? ⟨xb, xo + k * 5 + 2, none⟩ = some (.int .i64 y.cnt) ∧ wx.cell? ⟨xb, xo + k * 5 + 3, none⟩ = some (.int .i64 y.secs) ∧ wx.cell? ⟨xb, xo + k * 5 + 4, none⟩ = some (.slice (some ⟨g, 0, none⟩) y.il (y.il + 9))) ∧ (wx.cell? ⟨yb, yo + k * 5, none⟩ = some (.string y.res) ∧ wx.cell? ⟨yb, yo + k * 5 + 1, none⟩ = some (.int .i64 y.idx) ∧ wx.cell? ⟨yb, yo + k * 5 + 2, none⟩ = some (.int .i64 y.cnt) ∧ wx.cell? ⟨yb, yo + k * 5 + 3, none⟩ = some (.int .i64 y.secs) ∧ wx.cell? ⟨yb, yo + k * 5 + 4, none⟩ = some (.slice y.ia y.il y.ic)) ∧ Below wy.heap.size wy wx) wx) := Lib.hid (fun wx hb => ⟨(hb.cell (p := ⟨w.heap.size, 2, none⟩) hlp).trans p2, (hb.cell (p := ⟨w.heap.size + 1, 2, none⟩) hlq).trans q2, ⟨(hb.cell (p := ⟨xb, xo + k * 5, none⟩) hlx).trans c0, (hb.cell (p := ⟨xb, xo + k * 5 + 1, none⟩) hlx).trans c1, (hb.cell (p := ⟨xb, xo + k * 5 + 2, none⟩) hlx).trans c2, (hb.cell (p := ⟨xb, xo + k * 5 + 3, none⟩) hlx).trans c3, (hb.cell (p := ⟨xb, xo + k * 5 + 4, none⟩) hlx).trans c4⟩, ⟨(hb.cell (p := ⟨yb, yo + k * 5, none⟩) hly).trans d0, (hb.cell (p := ⟨yb, yo + k * 5 + 1, none⟩) hly).trans d1, (hb.cell (p := ⟨yb, yo + k * 5 + 2, none⟩) hly).trans d2, (hb.cell (p := ⟨yb, yo + k * 5 + 3, none⟩) hly).trans d3, (hb.cell (p := ⟨yb, yo + k * 5 + 4, none⟩) hly).trans d4⟩, hb⟩)
      have HCON := Lib.hid (fun wx (hx : Below wy.heap.size wy wx) => sameHot_any (w := wx) y.res y.idx y.cnt y.secs (some ⟨g, 0, none⟩) y.ia y.il (y.il + 9) y.ic y.items HY.out.l HY.out.b ((rowIt_of HY.out.l hzo).below (Nat.le_refl _) hx) (HY.out.at_.below (Nat.le_refl _) hx))
      have HP := Lib.hid (And.intro hyl (And.intro hxl hza))
      clear c0 d0 c1 d1 c2 d2 c3 d3 c4 d4 hyc hxc p0 q0 p1 q1 p3 q3 p4 q4 hya hyl hxl hzo hzl hzc hza hll hbb hlx hly hlp hlq e1 e2 e5 hy hz e3 e4
      as_aux_lemma =>
        go_wp2_with (fail)
        refine wp_region_noPanic ?_
        refine wp_region_held_drew (S := (fun wx => wx.cell? ⟨w.heap.size, 2, none⟩ = some (.slice (some ⟨xb, xo, none⟩) r.n2 cc2) ∧ wx.cell? ⟨w.heap.size + 1, 2, none⟩ = some (.slice (some ⟨yb, yo, none⟩) r.n2 r.c2) ∧ (wx.cell? ⟨xb, xo + k * 5, none⟩ = some (.string y.res) ∧ wx.cell? ⟨xb, xo + k * 5 + 1, none⟩ = some (.int .i64 y.idx) ∧ wx.cell? ⟨xb, xo + k * 5 + 2, none⟩ = some (.int .i64 y.cnt) ∧ wx.cell? ⟨xb, xo + k * 5 + 3, none⟩ = some (.int .i64 y.secs) ∧ wx.cell? ⟨xb, xo + k * 5 + 4, none⟩ = some (.slice (some ⟨g, 0, none⟩) y.il (y.il + 9))) ∧ (wx.cell? ⟨yb, yo + k * 5, none⟩ = some (.string y.res) ∧ wx.cell? ⟨yb, yo + k * 5 + 1, none⟩ = some (.int .i64 y.idx) ∧ wx.cell? ⟨yb, yo + k * 5 + 2, none⟩ = some (.int .i64 y.cnt) ∧ wx.cell? ⟨yb, yo + k * 5 + 3, none⟩ = some (.int .i64 y.secs) ∧ wx.cell? ⟨yb, yo + k * 5 + 4, none⟩ = some (.slice y.ia y.il y.ic)) ∧ Below wy.heap.size wy wx)) (by kernel_rfl) ?_ (fun hHeld => ?_)
        · exact SB.out _ (Below.refl _ _).drew
        refine wpAnyH_take (i := 0) (v := ?_) rfl (by kernel_rfl) (by kernel_rfl) (by kernel_rfl) (fun _ _ _ h => h) (Or.inl ⟨by rfl, ?hy⟩) (by assumption) ?_
        case hy => intro w hSw; (try dsimp only at hSw); go_simp; try with_reducible rfl
        try simp only [Act.put, List.getElem_toArray, List.getElem_cons_succ, List.getElem_cons_zero, List.setIfInBounds_toArray, List.set_cons_zero, List.set_cons_succ]
        refine wpAnyH_take (i := 1) (v := ?_) rfl (by kernel_rfl) (by kernel_rfl) (by kernel_rfl) (fun _ _ _ h => h) (Or.inl ⟨by rfl, ?hy⟩) (by assumption) ?_
        case hy => intro w hSw; (try dsimp only at hSw); go_simp; try with_reducible rfl
        try simp only [Act.put, List.getElem_toArray, List.getElem_cons_succ, List.getElem_cons_zero, List.setIfInBounds_toArray, List.set_cons_zero, List.set_cons_succ]
        refine wpAnyH_take (i := 2) (v := ?_) rfl (by kernel_rfl) (by kernel_rfl) (by kernel_rfl) (fun _ _ _ h => h) (Or.inl ⟨by rfl, ?hy⟩) (by assumption) ?_
        case hy => intro w hSw; (try dsimp only at hSw); go_simp; try with_reducible rfl
        try simp only [Act.put, List.getElem_toArray, List.getElem_cons_succ, List.getElem_cons_zero, List.setIfInBounds_toArray, List.set_cons_zero, List.set_cons_succ]
        refine wpAnyH_take (i := 3) (v := ?_) rfl (by kernel_rfl) (by kernel_rfl) (by kernel_rfl) (fun _ _ _ h => h) (Or.inl ⟨by rfl, ?hy⟩) (by assumption) ?_
        case hy => intro w hSw; (try dsimp only at hSw); go_simp; try with_reducible rfl
        try simp only [Act.put, List.getElem_toArray, List.getElem_cons_succ, List.getElem_cons_zero, List.setIfInBounds_toArray, List.set_cons_zero, List.set_cons_succ]
        refine wpAnyH_take (i := 4) (v := ?_) rfl (by kernel_rfl) (by kernel_rfl) (by kernel_rfl) (fun _ _ _ h => h) (Or.inl ⟨by rfl, ?hy⟩) (by assumption) ?_
        case hy => intro w hSw; (try dsimp only at hSw); go_simp; try with_reducible rfl
        try simp only [Act.put, List.getElem_toArray, List.getElem_cons_succ, List.getElem_cons_zero, List.setIfInBounds_toArray, List.set_cons_zero, List.set_cons_succ]
        refine wpAnyH_take (i := 5) (v := ?_) rfl (by kernel_rfl) (by kernel_rfl) (by kernel_rfl) (fun _ _ _ h => h) (Or.inl ⟨by rfl, ?hy⟩) (by assumption) ?_
        case hy => intro w hSw; (try dsimp only at hSw); go_simp; try with_reducible rfl
        try simp only [Act.put, List.getElem_toArray, List.getElem_cons_succ, List.getElem_cons_zero, List.setIfInBounds_toArray, List.set_cons_zero, List.set_cons_succ]
        refine wpAnyH_take (i := 6) (v := ?_) rfl (by kernel_rfl) (by kernel_rfl) (by kernel_rfl) (fun _ _ _ h => h) (Or.inl ⟨by rfl, ?hy⟩) (by assumption) ?_
        case hy => intro w hSw; (try dsimp only at hSw); go_simp; try with_reducible rfl
        try simp only [Act.put, List.getElem_toArray, List.getElem_cons_succ, List.getElem_cons_zero, List.setIfInBounds_toArray, List.set_cons_zero, List.set_cons_succ]
        refine wpAnyH_take (i := 7) (v := ?_) rfl (by kernel_rfl) (by kernel_rfl) (by kernel_rfl) (fun _ _ _ h => h) (Or.inl ⟨by rfl, ?hy⟩) (by assumption) ?_
        case hy => intro w hSw; (try dsimp only at hSw); go_simp; try with_reducible rfl
        try simp only [Act.put, List.getElem_toArray, List.getElem_cons_succ, List.getElem_cons_zero, List.setIfInBounds_toArray, List.set_cons_zero, List.set_cons_succ]
        refine wpAnyH_take (i := 8) (v := ?_) rfl (by kernel_rfl) (by kernel_rfl) (by kernel_rfl) (fun _ _ _ h => h) (Or.inl ⟨by rfl, ?hy⟩) (by assumption) ?_
        case hy => intro w hSw; (try dsimp only at hSw); go_simp; try with_reducible rfl
        try simp only [Act.put, List.getElem_toArray, List.getElem_cons_succ, List.getElem_cons_zero, List.setIfInBounds_toArray, List.set_cons_zero, List.set_cons_succ]
        refine wpAnyH_take (i := 9) (v := ?_) rfl (by kernel_rfl) (by kernel_rfl) (by kernel_rfl) (fun _ _ _ h => h) (Or.inl ⟨by rfl, ?hy⟩) (by assumption) ?_
        case hy => intro w hSw; (try dsimp only at hSw); go_simp; try with_reducible rfl
        try simp only [Act.put, List.getElem_toArray, List.getElem_cons_succ, List.getElem_cons_zero, List.setIfInBounds_toArray, List.set_cons_zero, List.set_cons_succ]
        refine wpAnyH_ready (rs := [10]) (by kernel_rfl) (by simp) (AllReadyH.cons rfl (fun K hK => ?_) AllReadyH.nil)
        go_simp
        go_at_call 67; refine (HCON.out _ hHeld.2.2.2.2).mono ?_; rintro e wq ⟨rfl, hbq⟩
        try (go_wp2_with fail)
        refine hK.out _ _ ?_ (fun hHeld => ?_)
        · exact SB.out _ (hHeld.2.2.2.2.trans (hbq.mono hHeld.2.2.2.2.size))
        clear hK K
        try simp only [Act.put, List.getElem_toArray, List.getElem_cons_succ, List.getElem_cons_zero, List.setIfInBounds_toArray, List.set_cons_zero, List.set_cons_succ]
        refine wpAnyH_take (i := 11) (v := ?_) rfl (by kernel_rfl) (by kernel_rfl) (by kernel_rfl) (fun _ _ _ h => h) (Or.inl ⟨by rfl, ?hy⟩) (by assumption) ?_
        case hy => intro w hSw; (try dsimp only at hSw); go_simp; try with_reducible rfl
        try simp only [Act.put, List.getElem_toArray, List.getElem_cons_succ, List.getElem_cons_zero, List.setIfInBounds_toArray, List.set_cons_zero, List.set_cons_succ]
        refine wpAnyH_done (by kernel_rfl) ?_ _
        refine NoPanic.normal ?_
        go_wp2_with (fail)
        exact ⟨⟨k + 1, by omega, by go_num, Lib.hid (HWX.out.trans (hHeld.2.2.2.2.mono HWX.out.size))⟩, by first | (simp [intOf]; done) | (simp [intOf]; omega)⟩
    · have k1 : ¬ (k : Int) < r.n2 := by omega
      go_wp2_with (fail)
      clear hk k0 hlt k1 p0 p1 p2 p3 p4 q0 q1 q2 q3 q4
      go_loopw [6] (fun s wr => ∃ k : Nat, k ≤ r.n4 ∧ s = .int .i64 k ∧ Hid (Below W.heap.size W wr)) (fun s _ => r.n4 - (intOf s).toNat)
      case atStart => exact ⟨0, Nat.zero_le _, rfl, HWX⟩
      case round =>
        rename World => wz
        clear HWX
        obtain ⟨k, hk, rfl, HWX⟩ := hrel
        obtain ⟨⟨p0, p1, p2, p3, p4⟩, q0, q1, q2, q3, q4⟩ := HBX.out _ HWX.out
        have k0 : (0 : Int) ≤ k := by omega
        by_cases hlt : k < r.n4
        · have k1 : (k : Int) < r.n4 := by omega
          have hbb0 := HRW.out.s4
          have hkl : k < r.au.length := by rw [HRW.out.l4]; exact hlt
          have HRX := Lib.hid (HRW.out.below (Nat.le_refl _) HWX.out)
          have HVX := Lib.hid (HVW.out.below HWX.out)
          obtain ⟨y, hy⟩ : ∃ y, r.au[k]? = some y := ⟨_, List.getElem?_eq_getElem hkl⟩
          obtain ⟨z, hz, e1, e2, e5⟩ := kernA_get HVX.out.ak hy
          obtain ⟨yb, yo, hya, hyl, hyc⟩ := rowsAt_getH HRX.out.au (j := k) (x := AuthS.cs y) (by rw [List.getElem?_map, hy]; rfl)
          obtain ⟨xb, xo, hxa, hxl, hxc⟩ := rowsAt_getH HVX.out.ra (j := k) (x := AuthS.cs z) (by rw [List.getElem?_map, hz]; rfl)
          have HY := Lib.hid (HRX.out.za y (List.mem_of_getElem? hy))
          obtain ⟨zb, g, gb_, hbb, hza, hzc, hzl, hzo⟩ := HVX.out.ha z (List.mem_of_getElem? hz)
          rw [e5] at hzl hzo
          have hll : z.ol = y.ol := by rw [← hzl]; exact HY.out.l
          rw [hll] at hzo hzc
          have d0 : wz.cell? ⟨yb, yo + k * 3, none⟩ = some (.string y.res) := hyc 0 (.string y.res) (by decide) rfl
          have d1 : wz.cell? ⟨yb, yo + k * 3 + 1, none⟩ = some (.bool y.white) := hyc 1 (.bool y.white) (by decide) rfl
          have d2 : wz.cell? ⟨yb, yo + k * 3 + 2, none⟩ = some (.slice y.oa y.ol y.oc) := hyc 2 (.slice y.oa y.ol y.oc) (by decide) rfl
          have c0 : wz.cell? ⟨xb, xo + k * 3, none⟩ = some (.string y.res) := by have h := hxc 0 (.string z.res) (by decide) rfl; rw [e1] at h; exact h
          have c1 : wz.cell? ⟨xb, xo + k * 3 + 1, none⟩ = some (.bool y.white) := by have h := hxc 1 (.bool z.white) (by decide) rfl; rw [e2] at h; exact h
          have c2 : wz.cell? ⟨xb, xo + k * 3 + 2, none⟩ = some (.slice (some ⟨g, 0, none⟩) y.ol (y.ol + 9)) := by have h := hxc 2 (.slice z.oa z.ol z.oc) (by decide) rfl; rw [hza, hll, hzc] at h; exact h
          obtain rfl : A4 = some ⟨yb, yo, none⟩ := HA4.out.symm.trans hya
          subst hxa
          have hlx : xb < wz.heap.size := World.block_lt_of_cell? _ _ c0
          have hly : yb < wz.heap.size := World.block_lt_of_cell? _ _ d0
          have hlp : w.heap.size < wz.heap.size := World.block_lt_of_cell? _ _ p0
          have hlq : w.heap.size + 1 < wz.heap.size := World.block_lt_of_cell? _ _ q0
          have SB : Hid (∀ wx, Below wz.heap.size wz wx → (fun wx => wx.cell? ⟨w.heap.size, 4, none⟩ = some (.slice (some ⟨xb, xo, none⟩) r.n4 cc4) ∧ wx.cell? ⟨w.heap.size + 1, 4, none⟩ = some (.slice (some ⟨yb, yo, none⟩) r.n4 r.c4) ∧ (wx.cell? ⟨xb, xo + k * 3, none⟩ = some (.string y.res) ∧ wx.cell? ⟨xb, xo + k * 3 + 1, none⟩ = some (.bool y.white) ∧ wx.cell? ⟨xb, xo + k * 3 + 2, none⟩ = some (.slice (some ⟨g, 0, none⟩) y.ol (y.ol + 9))) ∧ (wx.cell? ⟨yb, yo + k * 3, none⟩ = some (.string y.res) ∧ wx.cell? ⟨yb, yo + k * 3 + 1, none⟩ = some (.bool y.white) ∧ wx.cell? ⟨yb, yo + k * 3 + 2, none⟩ = some (.slice y.oa y.ol y.oc)) ∧ Below wz.heap.size wz wx) wx) := Lib.hid (fun wx hb => ⟨(hb.cell (p := ⟨w.heap.size, 4, none⟩) hlp).trans p4, (hb.cell (p := ⟨w.heap.size + 1, 4, none⟩) hlq).trans q4, ⟨(hb.cell (p := ⟨xb, xo + k * 3, none⟩) hlx).trans c0, (hb.cell (p := ⟨xb, xo + k * 3 + 1, none⟩) hlx).trans c1, (hb.cell (p := ⟨xb, xo + k * 3 + 2, none⟩) hlx).trans c2⟩, ⟨(hb.cell (p := ⟨yb, yo + k * 3, none⟩) hly).trans d0, (hb.cell (p := ⟨yb, yo + k * 3 + 1, none⟩) hly).trans d1, (hb.cell (p := ⟨yb, yo + k * 3 + 2, none⟩) hly).trans d2⟩, hb⟩)
          have HCON := Lib.hid (fun wx (hx : Below wz.heap.size wz wx) => sameAu_any (w := wx) y.res y.white (some ⟨g, 0, none⟩) y.oa y.ol (y.ol + 9) y.oc y.orig HY.out.l HY.out.b ((rowTx_of HY.out.l hzo).below (Nat.le_refl _) hx) ((texts_rows HY.out.at_).below (Nat.le_refl _) hx))
          have HP := Lib.hid (And.intro hyl (And.intro hxl hza))
          clear c0 d0 c1 d1 c2 d2 hyc hxc p0 q0 p1 q1 p2 q2 p3 q3 hya hyl hxl hzo hzl hzc hza hll hbb hlx hly hlp hlq e1 e2 e5 hy hz
          as_aux_lemma =>
            go_wp2_with (fail)
            refine wp_region_noPanic ?_
            refine wp_region_held_drew (S := (fun wx => wx.cell? ⟨w.heap.size, 4, none⟩ = some (.slice (some ⟨xb, xo, none⟩) r.n4 cc4) ∧ wx.cell? ⟨w.heap.size + 1, 4, none⟩ = some (.slice (some ⟨yb, yo, none⟩) r.n4 r.c4) ∧ (wx.cell? ⟨xb, xo + k * 3, none⟩ = some (.string y.res) ∧ wx.cell? ⟨xb, xo + k * 3 + 1, none⟩ = some (.bool y.white) ∧ wx.cell? ⟨xb, xo + k * 3 + 2, none⟩ = some (.slice (some ⟨g, 0, none⟩) y.ol (y.ol + 9))) ∧ (wx.cell? ⟨yb, yo + k * 3, none⟩ = some (.string y.res) ∧ wx.cell? ⟨yb, yo + k * 3 + 1, none⟩ = some (.bool y.white) ∧ wx.cell? ⟨yb, yo + k * 3 + 2, none⟩ = some (.slice y.oa y.ol y.oc)) ∧ Below wz.heap.size wz wx)) (by kernel_rfl) ?_ (fun hHeld => ?_)
            · exact SB.out _ (Below.refl _ _).drew
            refine wpAnyH_take (i := 0) (v := ?_) rfl (by kernel_rfl) (by kernel_rfl) (by kernel_rfl) (fun _ _ _ h => h) (Or.inl ⟨by rfl, ?hy⟩) (by assumption) ?_
            case hy => intro w hSw; (try dsimp only at hSw); go_simp; try with_reducible rfl
            try simp only [Act.put, List.getElem_toArray, List.getElem_cons_succ, List.getElem_cons_zero, List.setIfInBounds_toArray, List.set_cons_zero, List.set_cons_succ]
            refine wpAnyH_take (i := 1) (v := ?_) rfl (by kernel_rfl) (by kernel_rfl) (by kernel_rfl) (fun _ _ _ h => h) (Or.inl ⟨by rfl, ?hy⟩) (by assumption) ?_
            case hy => intro w hSw; (try dsimp only at hSw); go_simp; try with_reducible rfl
            try simp only [Act.put, List.getElem_toArray, List.getElem_cons_succ, List.getElem_cons_zero, List.setIfInBounds_toArray, List.set_cons_zero, List.set_cons_succ]
            refine wpAnyH_take (i := 2) (v := ?_) rfl (by kernel_rfl) (by kernel_rfl) (by kernel_rfl) (fun _ _ _ h => h) (Or.inl ⟨by rfl, ?hy⟩) (by assumption) ?_
            case hy => intro w hSw; (try dsimp only at hSw); go_simp; try with_reducible rfl
            try simp only [Act.put, List.getElem_toArray, List.getElem_cons_succ, List.getElem_cons_zero, List.setIfInBounds_toArray, List.set_cons_zero, List.set_cons_succ]
            refine wpAnyH_take (i := 3) (v := ?_) rfl (by kernel_rfl) (by kernel_rfl) (by kernel_rfl) (fun _ _ _ h => h) (Or.inl ⟨by rfl, ?hy⟩) (by assumption) ?_
            case hy => intro w hSw; (try dsimp only at hSw); go_simp; try with_reducible rfl
            try simp only [Act.put, List.getElem_toArray, List.getElem_cons_succ, List.getElem_cons_zero, List.setIfInBounds_toArray, List.set_cons_zero, List.set_cons_succ]
            refine wpAnyH_take (i := 4) (v := ?_) rfl (by kernel_rfl) (by kernel_rfl) (by kernel_rfl) (fun _ _ _ h => h) (Or.inl ⟨by rfl, ?hy⟩) (by assumption) ?_
            case hy => intro w hSw; (try dsimp only at hSw); go_simp; try with_reducible rfl
            try simp only [Act.put, List.getElem_toArray, List.getElem_cons_succ, List.getElem_cons_zero, List.setIfInBounds_toArray, List.set_cons_zero, List.set_cons_succ]
            refine wpAnyH_take (i := 5) (v := ?_) rfl (by kernel_rfl) (by kernel_rfl) (by kernel_rfl) (fun _ _ _ h => h) (Or.inl ⟨by rfl, ?hy⟩) (by assumption) ?_
            case hy => intro w hSw; (try dsimp only at hSw); go_simp; try with_reducible rfl
            try simp only [Act.put, List.getElem_toArray, List.getElem_cons_succ, List.getElem_cons_zero, List.setIfInBounds_toArray, List.set_cons_zero, List.set_cons_succ]
            refine wpAnyH_take (i := 6) (v := ?_) rfl (by kernel_rfl) (by kernel_rfl) (by kernel_rfl) (fun _ _ _ h => h) (Or.inl ⟨by rfl, ?hy⟩) (by assumption) ?_
            case hy => intro w hSw; (try dsimp only at hSw); go_simp; try with_reducible rfl
            try simp only [Act.put, List.getElem_toArray, List.getElem_cons_succ, List.getElem_cons_zero, List.setIfInBounds_toArray, List.set_cons_zero, List.set_cons_succ]
            refine wpAnyH_take (i := 7) (v := ?_) rfl (by kernel_rfl) (by kernel_rfl) (by kernel_rfl) (fun _ _ _ h => h) (Or.inl ⟨by rfl, ?hy⟩) (by assumption) ?_
            case hy => intro w hSw; (try dsimp only at hSw); go_simp; try with_reducible rfl
            try simp only [Act.put, List.getElem_toArray, List.getElem_cons_succ, List.getElem_cons_zero, List.setIfInBounds_toArray, List.set_cons_zero, List.set_cons_succ]
            refine wpAnyH_take (i := 8) (v := ?_) rfl (by kernel_rfl) (by kernel_rfl) (by kernel_rfl) (fun _ _ _ h => h) (Or.inl ⟨by rfl, ?hy⟩) (by assumption) ?_
            case hy => intro w hSw; (try dsimp only at hSw); go_simp; try with_reducible rfl
            try simp only [Act.put, List.getElem_toArray, List.getElem_cons_succ, List.getElem_cons_zero, List.setIfInBounds_toArray, List.set_cons_zero, List.set_cons_succ]
            refine wpAnyH_take (i := 9) (v := ?_) rfl (by kernel_rfl) (by kernel_rfl) (by kernel_rfl) (fun _ _ _ h => h) (Or.inl ⟨by rfl, ?hy⟩) (by assumption) ?_
            case hy => intro w hSw; (try dsimp only at hSw); go_simp; try with_reducible rfl
            try simp only [Act.put, List.getElem_toArray, List.getElem_cons_succ, List.getElem_cons_zero, List.setIfInBounds_toArray, List.set_cons_zero, List.set_cons_succ]
            refine wpAnyH_ready (rs := [10]) (by kernel_rfl) (by simp) (AllReadyH.cons rfl (fun K hK => ?_) AllReadyH.nil)
            go_simp
            go_at_call 68; refine (HCON.out _ hHeld.2.2.2.2).mono ?_; rintro e wq ⟨rfl, hbq⟩
            try (go_wp2_with fail)
            refine hK.out _ _ ?_ (fun hHeld => ?_)
            · exact SB.out _ (hHeld.2.2.2.2.trans (hbq.mono hHeld.2.2.2.2.size))
            clear hK K
            try simp only [Act.put, List.getElem_toArray, List.getElem_cons_succ, List.getElem_cons_zero, List.setIfInBounds_toArray, List.set_cons_zero, List.set_cons_succ]
            refine wpAnyH_take (i := 11) (v := ?_) rfl (by kernel_rfl) (by kernel_rfl) (by kernel_rfl) (fun _ _ _ h => h) (Or.inl ⟨by rfl, ?hy⟩) (by assumption) ?_
            case hy => intro w hSw; (try dsimp only at hSw); go_simp; try with_reducible rfl
            try simp only [Act.put, List.getElem_toArray, List.getElem_cons_succ, List.getElem_cons_zero, List.setIfInBounds_toArray, List.set_cons_zero, List.set_cons_succ]
            refine wpAnyH_done (by kernel_rfl) ?_ _
            refine NoPanic.normal ?_
            go_wp2_with (fail)
            exact ⟨⟨k + 1, by omega, by go_num, Lib.hid (HWX.out.trans (hHeld.2.2.2.2.mono HWX.out.size))⟩, by first | (simp [intOf]; done) | (simp [intOf]; omega)⟩
        · have k1 : ¬ (k : Int) < r.n4 := by omega
          go_wp2_with (fail)
          go_ret
          exact ⟨rfl, HB0.out.trans (HWX.out.mono HB0.out.size)⟩
end Go.Proofs.Ytnobfmlfhaaghaa
