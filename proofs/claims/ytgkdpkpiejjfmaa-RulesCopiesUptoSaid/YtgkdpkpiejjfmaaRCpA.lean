/- slices.Equal at items, systems, breaks and flows. -/
import Derived.Test.YtgkdpkpiejjfmaaHandB
import Derived.Laws.StructEq
namespace Go.Proofs.Ytgkdpkpiejjfmaa
open Go.RowKit
set_option linter.unusedVariables false
set_option linter.unusedSimpArgs false

theorem below_drewC {w wr : World} (h : Below w.heap.size w wr) (n : Nat) : Below w.heap.size w (wr.drewN n) := ⟨h.os, h.tape, h.output, h.size, h.block⟩
theorem toList_decR (a b : ByteArray) : (a.toList == b.toList) = decide (a = b) := by
  rw [ByteArray.toList_eq, ByteArray.toList_eq]
  obtain ⟨⟨x⟩⟩ := a
  obtain ⟨⟨y⟩⟩ := b
  rw [Bool.eq_iff_iff]
  simp
/-- It returns whether P. -/
structure Tells (P : Prop) (w : World) (e : Ending) (w' : World) : Prop where
  ex : ∃ t : Bool, e = .returned (.bool t) ∧ (t = true ↔ P)
  bel : Below w.heap.size w w'
theorem ifEq {α β : Type} [BEq α] [LawfulBEq α] {a b : α} [Decidable (a = b)] {X Z : β} {r : Bool} (f : Bool → β) (h : X = f r) (hz : Z = f false) : (if a = b then X else Z) = f (a == b && r) := by
  by_cases e : a = b
  · rw [if_pos e, h, e, beq_self_eq_true, Bool.true_and]
  · rw [if_neg e, hz, beq_eq_false_iff_ne.2 e, Bool.false_and]
theorem ifEq1 {α β : Type} [BEq α] [LawfulBEq α] {a b : α} [Decidable (a = b)] {X Z : β} (f : Bool → β) (h : X = f true) (hz : Z = f false) : (if a = b then X else Z) = f (a == b) := by
  by_cases e : a = b
  · rw [if_pos e, h, e, beq_self_eq_true]
  · rw [if_neg e, hz, beq_eq_false_iff_ne.2 e]
def FlowS.cs (f : FlowS) : List Value := f.cells.toList
def eqItB (x y : ItemS) : Bool := (x.val.toList == y.val.toList) && ((x.cnt == y.cnt))
set_option maxHeartbeats 1600000 in
theorem neqIt_run (x y : ItemS) (w : World) : (binOp .neq 46 (.agg #[.string x.val, .int .i64 x.cnt]) (.agg #[.string y.val, .int .i64 y.cnt])).run Try.prog w = .ok (.bool (!eqItB x y)) w := by
  have hS : Try.prog.underlying 46 = some (.struct (Try.prog.fieldsOf 46)) := by kernel_rfl
  have hp : Try.prog.stoodInHeld 46 = false := by kernel_rfl
  rw [run_neq_struct, show (10000 : Nat) = 9999 + 1 from rfl, run_equalIn_agg w 9999 _ _ _ hS hp]
  simp only [Program.fieldsOf, Try.underlying46]
  go_simp
  unfold eqItB
  refine ifEq (fun t => Result.ok (Value.bool (!t)) w) ?_ rfl
  exact ifEq1 (fun t => Result.ok (Value.bool (!t)) w) rfl rfl
theorem eqItB_iff (x y : ItemS) : eqItB x y = true ↔ x = y := by
  unfold eqItB
  constructor
  · intro h
    simp only [Bool.and_eq_true] at h
    obtain ⟨h0, h1⟩ := h
    have h0 : x.val = y.val := by rw [toList_decR] at h0; exact of_decide_eq_true h0
    simp only [beq_iff_eq] at *
    cases x; cases y
    simp_all
  · rintro rfl; simp
set_option maxHeartbeats 3200000 in
set_option maxRecDepth 20000 in
theorem eqIt_any {w : World} (a b : Option Addr) (n m ca cb : Nat) (xs ys : List ItemS) (hx : xs.length = n) (hy : ys.length = m) (hm : n ≤ 140737488355328) (ha : RowsAt w a 2 (xs.map ItemS.cs)) (hb : RowsAt w b 2 (ys.map ItemS.cs)) :
    Calls Try.prog 43 #[.slice a n ca, .slice b m cb] w (Tells (xs = ys) w) := by
  have HA := Lib.hid ha
  have HB := Lib.hid hb
  have HX := Lib.hid hx
  have HY := Lib.hid hy
  clear ha hb hx hy
  by_cases hnm : n = m
  · subst hnm
    go_enter Try.func43, Try.ntmps43
    go_wp2_with (fail)
    go_loopw [5, 13] (fun _ i wr => ∃ k : Nat, k ≤ n ∧ i = .int .i64 k ∧ Hid (∀ j, j < k → xs[j]? = ys[j]?) ∧ Hid (Below w.heap.size w wr)) (fun _ i _ => n - (intOf i).toNat)
    case atStart => exact ⟨0, Nat.zero_le _, rfl, Lib.hid (fun j h => by omega), Lib.hid (Below.refl _ _)⟩
    case round =>
      rename World => wr
      obtain ⟨k, hk, rfl, HE, HW⟩ := hrel
      by_cases hlt : k < n
      · have k0 : (0 : Int) ≤ k := by omega
        have k1 : (k : Int) < n := by omega
        obtain ⟨x, hx⟩ : ∃ x, xs[k]? = some x := ⟨_, List.getElem?_eq_getElem (by rw [HX.out]; exact hlt)⟩
        obtain ⟨y, hy⟩ : ∃ y, ys[k]? = some y := ⟨_, List.getElem?_eq_getElem (by rw [HY.out]; exact hlt)⟩
        have HXX := Lib.hid hx
        have HYY := Lib.hid hy
        rcases HA.out with h | ⟨g, off, rfl, hg, hc⟩
        · exfalso; have := HX.out; have h2 := congrArg List.length h; rw [List.length_map] at h2; simp at h2; rw [h2] at this; simp at this; omega
        · rcases HB.out with h | ⟨g', off', rfl, hg', hc'⟩
          · exfalso; have := HY.out; have h2 := congrArg List.length h; rw [List.length_map] at h2; simp at h2; rw [h2] at this; simp at this; omega
          · have hxc := hc k x.cs (by rw [List.getElem?_map, hx]; rfl)
            have hyc := hc' k y.cs (by rw [List.getElem?_map, hy]; rfl)
            have d0 := (HW.out.cell (p := ⟨g, off + k * 2 + 0, none⟩) hg).trans (hxc 0 (.string x.val) (by decide) rfl)
            have d1 := (HW.out.cell (p := ⟨g, off + k * 2 + 1, none⟩) hg).trans (hxc 1 (.int .i64 x.cnt) (by decide) rfl)
            have e0 := (HW.out.cell (p := ⟨g', off' + k * 2 + 0, none⟩) hg').trans (hyc 0 (.string y.val) (by decide) rfl)
            have e1 := (HW.out.cell (p := ⟨g', off' + k * 2 + 1, none⟩) hg').trans (hyc 1 (.int .i64 y.cnt) (by decide) rfl)
            rw [Nat.add_zero] at d0 e0
            clear hc hc' hxc hyc hg hg' hx hy
            have hN := fun w => neqIt_run x y w
            generalize hB : eqItB x y = B at hN
            have HBB := Lib.hid hB
            clear hB
            cases B with
            | true =>
              go_wp2_with (fail)
              go_quiet (fail)
              have HBN := Lib.hid (below_drewC HW.out nq)
              generalize wr.drewN nq = wz at HBN ⊢
              clear d0 d1 e0 e1 hN
              go_wp2_with (fail)
              exact ⟨⟨k + 1, by omega, by go_num, Lib.hid (fun j hj => by
                by_cases h : j = k
                · subst h; rw [HXX.out, HYY.out, (eqItB_iff x y).1 HBB.out]
                · exact HE.out j (by omega)), HBN⟩, by first | (simp [intOf]; done) | (simp [intOf]; omega)⟩
            | false =>
              go_wp2_with (fail)
              go_quiet (fail)
              have HBN := Lib.hid (below_drewC HW.out nq)
              generalize wr.drewN nq = wz at HBN ⊢
              clear d0 d1 e0 e1 hN
              go_wp2_with (fail)
              go_ret
              refine ⟨⟨false, rfl, fun h => absurd h (by decide), fun h => ?_⟩, HBN.out⟩
              exfalso
              have h1 := HXX.out
              rw [h, HYY.out] at h1
              have h2 := (eqItB_iff x y).2 (Option.some.inj h1).symm
              rw [HBB.out] at h2
              cases h2
      · have k1 : ¬ (k : Int) < n := by omega
        go_wp2_with (fail)
        go_ret
        refine ⟨⟨true, rfl, fun _ => ?_, fun _ => rfl⟩, HW.out⟩
        refine List.ext_getElem? (fun j => ?_)
        by_cases h : j < k
        · exact HE.out j h
        · rw [List.getElem?_eq_none (by rw [HX.out]; omega), List.getElem?_eq_none (by rw [HY.out]; omega)]
  · go_enter Try.func43, Try.ntmps43
    have hnm' : ¬ (n : Int) = m := by omega
    go_wp2_with (fail)
    go_ret
    exact ⟨⟨false, rfl, fun h => absurd h (by decide), fun h => absurd (by rw [← HX.out, ← HY.out, h]) hnm⟩, Below.refl _ _⟩
def eqSyB (x y : SysR) : Bool := (x.q == y.q) && ((x.t == y.t) && ((x.r == y.r) && ((x.l == y.l) && ((x.c == y.c)))))
set_option maxHeartbeats 1600000 in
theorem neqSy_run (x y : SysR) (w : World) : (binOp .neq 63 (.agg #[.int .i64 x.q, .int .i64 x.t, .int .i64 x.r, .int .i64 x.l, .int .i64 x.c]) (.agg #[.int .i64 y.q, .int .i64 y.t, .int .i64 y.r, .int .i64 y.l, .int .i64 y.c])).run Try.prog w = .ok (.bool (!eqSyB x y)) w := by
  have hS : Try.prog.underlying 63 = some (.struct (Try.prog.fieldsOf 63)) := by kernel_rfl
  have hp : Try.prog.stoodInHeld 63 = false := by kernel_rfl
  rw [run_neq_struct, show (10000 : Nat) = 9999 + 1 from rfl, run_equalIn_agg w 9999 _ _ _ hS hp]
  simp only [Program.fieldsOf, Try.underlying63]
  go_simp
  unfold eqSyB
  refine ifEq (fun t => Result.ok (Value.bool (!t)) w) ?_ rfl
  refine ifEq (fun t => Result.ok (Value.bool (!t)) w) ?_ rfl
  refine ifEq (fun t => Result.ok (Value.bool (!t)) w) ?_ rfl
  refine ifEq (fun t => Result.ok (Value.bool (!t)) w) ?_ rfl
  exact ifEq1 (fun t => Result.ok (Value.bool (!t)) w) rfl rfl
theorem eqSyB_iff (x y : SysR) : eqSyB x y = true ↔ x = y := by
  unfold eqSyB
  constructor
  · intro h
    simp only [Bool.and_eq_true] at h
    obtain ⟨h0, h1, h2, h3, h4⟩ := h
    simp only [beq_iff_eq] at *
    cases x; cases y
    simp_all
  · rintro rfl; simp
set_option maxHeartbeats 3200000 in
set_option maxRecDepth 20000 in
theorem eqSy_any {w : World} (a b : Option Addr) (n m ca cb : Nat) (xs ys : List SysR) (hx : xs.length = n) (hy : ys.length = m) (hm : n ≤ 140737488355328) (ha : RowsAt w a 5 (xs.map SysR.cs)) (hb : RowsAt w b 5 (ys.map SysR.cs)) :
    Calls Try.prog 24 #[.slice a n ca, .slice b m cb] w (Tells (xs = ys) w) := by
  have HA := Lib.hid ha
  have HB := Lib.hid hb
  have HX := Lib.hid hx
  have HY := Lib.hid hy
  clear ha hb hx hy
  by_cases hnm : n = m
  · subst hnm
    go_enter Try.func24, Try.ntmps24
    go_wp2_with (fail)
    go_loopw [5, 13] (fun _ i wr => ∃ k : Nat, k ≤ n ∧ i = .int .i64 k ∧ Hid (∀ j, j < k → xs[j]? = ys[j]?) ∧ Hid (Below w.heap.size w wr)) (fun _ i _ => n - (intOf i).toNat)
    case atStart => exact ⟨0, Nat.zero_le _, rfl, Lib.hid (fun j h => by omega), Lib.hid (Below.refl _ _)⟩
    case round =>
      rename World => wr
      obtain ⟨k, hk, rfl, HE, HW⟩ := hrel
      by_cases hlt : k < n
      · have k0 : (0 : Int) ≤ k := by omega
        have k1 : (k : Int) < n := by omega
        obtain ⟨x, hx⟩ : ∃ x, xs[k]? = some x := ⟨_, List.getElem?_eq_getElem (by rw [HX.out]; exact hlt)⟩
        obtain ⟨y, hy⟩ : ∃ y, ys[k]? = some y := ⟨_, List.getElem?_eq_getElem (by rw [HY.out]; exact hlt)⟩
        have HXX := Lib.hid hx
        have HYY := Lib.hid hy
        rcases HA.out with h | ⟨g, off, rfl, hg, hc⟩
        · exfalso; have := HX.out; have h2 := congrArg List.length h; rw [List.length_map] at h2; simp at h2; rw [h2] at this; simp at this; omega
        · rcases HB.out with h | ⟨g', off', rfl, hg', hc'⟩
          · exfalso; have := HY.out; have h2 := congrArg List.length h; rw [List.length_map] at h2; simp at h2; rw [h2] at this; simp at this; omega
          · have hxc := hc k x.cs (by rw [List.getElem?_map, hx]; rfl)
            have hyc := hc' k y.cs (by rw [List.getElem?_map, hy]; rfl)
            have d0 := (HW.out.cell (p := ⟨g, off + k * 5 + 0, none⟩) hg).trans (hxc 0 (.int .i64 x.q) (by decide) rfl)
            have d1 := (HW.out.cell (p := ⟨g, off + k * 5 + 1, none⟩) hg).trans (hxc 1 (.int .i64 x.t) (by decide) rfl)
            have d2 := (HW.out.cell (p := ⟨g, off + k * 5 + 2, none⟩) hg).trans (hxc 2 (.int .i64 x.r) (by decide) rfl)
            have d3 := (HW.out.cell (p := ⟨g, off + k * 5 + 3, none⟩) hg).trans (hxc 3 (.int .i64 x.l) (by decide) rfl)
            have d4 := (HW.out.cell (p := ⟨g, off + k * 5 + 4, none⟩) hg).trans (hxc 4 (.int .i64 x.c) (by decide) rfl)
            have e0 := (HW.out.cell (p := ⟨g', off' + k * 5 + 0, none⟩) hg').trans (hyc 0 (.int .i64 y.q) (by decide) rfl)
            have e1 := (HW.out.cell (p := ⟨g', off' + k * 5 + 1, none⟩) hg').trans (hyc 1 (.int .i64 y.t) (by decide) rfl)
            have e2 := (HW.out.cell (p := ⟨g', off' + k * 5 + 2, none⟩) hg').trans (hyc 2 (.int .i64 y.r) (by decide) rfl)
            have e3 := (HW.out.cell (p := ⟨g', off' + k * 5 + 3, none⟩) hg').trans (hyc 3 (.int .i64 y.l) (by decide) rfl)
            have e4 := (HW.out.cell (p := ⟨g', off' + k * 5 + 4, none⟩) hg').trans (hyc 4 (.int .i64 y.c) (by decide) rfl)
            rw [Nat.add_zero] at d0 e0
            clear hc hc' hxc hyc hg hg' hx hy
            have hN := fun w => neqSy_run x y w
            generalize hB : eqSyB x y = B at hN
            have HBB := Lib.hid hB
            clear hB
            cases B with
            | true =>
              go_wp2_with (fail)
              go_quiet (fail)
              have HBN := Lib.hid (below_drewC HW.out nq)
              generalize wr.drewN nq = wz at HBN ⊢
              clear d0 d1 d2 d3 d4 e0 e1 e2 e3 e4 hN
              go_wp2_with (fail)
              exact ⟨⟨k + 1, by omega, by go_num, Lib.hid (fun j hj => by
                by_cases h : j = k
                · subst h; rw [HXX.out, HYY.out, (eqSyB_iff x y).1 HBB.out]
                · exact HE.out j (by omega)), HBN⟩, by first | (simp [intOf]; done) | (simp [intOf]; omega)⟩
            | false =>
              go_wp2_with (fail)
              go_quiet (fail)
              have HBN := Lib.hid (below_drewC HW.out nq)
              generalize wr.drewN nq = wz at HBN ⊢
              clear d0 d1 d2 d3 d4 e0 e1 e2 e3 e4 hN
              go_wp2_with (fail)
              go_ret
              refine ⟨⟨false, rfl, fun h => absurd h (by decide), fun h => ?_⟩, HBN.out⟩
              exfalso
              have h1 := HXX.out
              rw [h, HYY.out] at h1
              have h2 := (eqSyB_iff x y).2 (Option.some.inj h1).symm
              rw [HBB.out] at h2
              cases h2
      · have k1 : ¬ (k : Int) < n := by omega
        go_wp2_with (fail)
        go_ret
        refine ⟨⟨true, rfl, fun _ => ?_, fun _ => rfl⟩, HW.out⟩
        refine List.ext_getElem? (fun j => ?_)
        by_cases h : j < k
        · exact HE.out j h
        · rw [List.getElem?_eq_none (by rw [HX.out]; omega), List.getElem?_eq_none (by rw [HY.out]; omega)]
  · go_enter Try.func24, Try.ntmps24
    have hnm' : ¬ (n : Int) = m := by omega
    go_wp2_with (fail)
    go_ret
    exact ⟨⟨false, rfl, fun h => absurd h (by decide), fun h => absurd (by rw [← HX.out, ← HY.out, h]) hnm⟩, Below.refl _ _⟩
def eqBrB (x y : BreakS) : Bool := (x.res.toList == y.res.toList) && ((x.gr == y.gr) && ((x.cnt == y.cnt) && ((x.slow == y.slow) && ((x.least == y.least) && ((x.win == y.win) && ((x.rec_ == y.rec_)))))))
set_option maxHeartbeats 1600000 in
theorem neqBr_run (x y : BreakS) (w : World) : (binOp .neq 51 (.agg #[.string x.res, .int .u8 x.gr, .int .i64 x.cnt, .int .i64 x.slow, .int .i64 x.least, .int .i64 x.win, .int .i64 x.rec_]) (.agg #[.string y.res, .int .u8 y.gr, .int .i64 y.cnt, .int .i64 y.slow, .int .i64 y.least, .int .i64 y.win, .int .i64 y.rec_])).run Try.prog w = .ok (.bool (!eqBrB x y)) w := by
  have hS : Try.prog.underlying 51 = some (.struct (Try.prog.fieldsOf 51)) := by kernel_rfl
  have hp : Try.prog.stoodInHeld 51 = false := by kernel_rfl
  rw [run_neq_struct, show (10000 : Nat) = 9999 + 1 from rfl, run_equalIn_agg w 9999 _ _ _ hS hp]
  simp only [Program.fieldsOf, Try.underlying51]
  go_simp
  unfold eqBrB
  refine ifEq (fun t => Result.ok (Value.bool (!t)) w) ?_ rfl
  refine ifEq (fun t => Result.ok (Value.bool (!t)) w) ?_ rfl
  refine ifEq (fun t => Result.ok (Value.bool (!t)) w) ?_ rfl
  refine ifEq (fun t => Result.ok (Value.bool (!t)) w) ?_ rfl
  refine ifEq (fun t => Result.ok (Value.bool (!t)) w) ?_ rfl
  refine ifEq (fun t => Result.ok (Value.bool (!t)) w) ?_ rfl
  exact ifEq1 (fun t => Result.ok (Value.bool (!t)) w) rfl rfl
theorem eqBrB_iff (x y : BreakS) : eqBrB x y = true ↔ x = y := by
  unfold eqBrB
  constructor
  · intro h
    simp only [Bool.and_eq_true] at h
    obtain ⟨h0, h1, h2, h3, h4, h5, h6⟩ := h
    have h0 : x.res = y.res := by rw [toList_decR] at h0; exact of_decide_eq_true h0
    simp only [beq_iff_eq] at *
    cases x; cases y
    simp_all
  · rintro rfl; simp
set_option maxHeartbeats 3200000 in
set_option maxRecDepth 20000 in
theorem eqBr_any {w : World} (a b : Option Addr) (n m ca cb : Nat) (xs ys : List BreakS) (hx : xs.length = n) (hy : ys.length = m) (hm : n ≤ 140737488355328) (ha : RowsAt w a 7 (xs.map BreakS.cs)) (hb : RowsAt w b 7 (ys.map BreakS.cs)) :
    Calls Try.prog 23 #[.slice a n ca, .slice b m cb] w (Tells (xs = ys) w) := by
  have HA := Lib.hid ha
  have HB := Lib.hid hb
  have HX := Lib.hid hx
  have HY := Lib.hid hy
  clear ha hb hx hy
  by_cases hnm : n = m
  · subst hnm
    go_enter Try.func23, Try.ntmps23
    go_wp2_with (fail)
    go_loopw [5, 13] (fun _ i wr => ∃ k : Nat, k ≤ n ∧ i = .int .i64 k ∧ Hid (∀ j, j < k → xs[j]? = ys[j]?) ∧ Hid (Below w.heap.size w wr)) (fun _ i _ => n - (intOf i).toNat)
    case atStart => exact ⟨0, Nat.zero_le _, rfl, Lib.hid (fun j h => by omega), Lib.hid (Below.refl _ _)⟩
    case round =>
      rename World => wr
      obtain ⟨k, hk, rfl, HE, HW⟩ := hrel
      by_cases hlt : k < n
      · have k0 : (0 : Int) ≤ k := by omega
        have k1 : (k : Int) < n := by omega
        obtain ⟨x, hx⟩ : ∃ x, xs[k]? = some x := ⟨_, List.getElem?_eq_getElem (by rw [HX.out]; exact hlt)⟩
        obtain ⟨y, hy⟩ : ∃ y, ys[k]? = some y := ⟨_, List.getElem?_eq_getElem (by rw [HY.out]; exact hlt)⟩
        have HXX := Lib.hid hx
        have HYY := Lib.hid hy
        rcases HA.out with h | ⟨g, off, rfl, hg, hc⟩
        · exfalso; have := HX.out; have h2 := congrArg List.length h; rw [List.length_map] at h2; simp at h2; rw [h2] at this; simp at this; omega
        · rcases HB.out with h | ⟨g', off', rfl, hg', hc'⟩
          · exfalso; have := HY.out; have h2 := congrArg List.length h; rw [List.length_map] at h2; simp at h2; rw [h2] at this; simp at this; omega
          · have hxc := hc k x.cs (by rw [List.getElem?_map, hx]; rfl)
            have hyc := hc' k y.cs (by rw [List.getElem?_map, hy]; rfl)
            have d0 := (HW.out.cell (p := ⟨g, off + k * 7 + 0, none⟩) hg).trans (hxc 0 (.string x.res) (by decide) rfl)
            have d1 := (HW.out.cell (p := ⟨g, off + k * 7 + 1, none⟩) hg).trans (hxc 1 (.int .u8 x.gr) (by decide) rfl)
            have d2 := (HW.out.cell (p := ⟨g, off + k * 7 + 2, none⟩) hg).trans (hxc 2 (.int .i64 x.cnt) (by decide) rfl)
            have d3 := (HW.out.cell (p := ⟨g, off + k * 7 + 3, none⟩) hg).trans (hxc 3 (.int .i64 x.slow) (by decide) rfl)
            have d4 := (HW.out.cell (p := ⟨g, off + k * 7 + 4, none⟩) hg).trans (hxc 4 (.int .i64 x.least) (by decide) rfl)
            have d5 := (HW.out.cell (p := ⟨g, off + k * 7 + 5, none⟩) hg).trans (hxc 5 (.int .i64 x.win) (by decide) rfl)
            have d6 := (HW.out.cell (p := ⟨g, off + k * 7 + 6, none⟩) hg).trans (hxc 6 (.int .i64 x.rec_) (by decide) rfl)
            have e0 := (HW.out.cell (p := ⟨g', off' + k * 7 + 0, none⟩) hg').trans (hyc 0 (.string y.res) (by decide) rfl)
            have e1 := (HW.out.cell (p := ⟨g', off' + k * 7 + 1, none⟩) hg').trans (hyc 1 (.int .u8 y.gr) (by decide) rfl)
            have e2 := (HW.out.cell (p := ⟨g', off' + k * 7 + 2, none⟩) hg').trans (hyc 2 (.int .i64 y.cnt) (by decide) rfl)
            have e3 := (HW.out.cell (p := ⟨g', off' + k * 7 + 3, none⟩) hg').trans (hyc 3 (.int .i64 y.slow) (by decide) rfl)
            have e4 := (HW.out.cell (p := ⟨g', off' + k * 7 + 4, none⟩) hg').trans (hyc 4 (.int .i64 y.least) (by decide) rfl)
            have e5 := (HW.out.cell (p := ⟨g', off' + k * 7 + 5, none⟩) hg').trans (hyc 5 (.int .i64 y.win) (by decide) rfl)
            have e6 := (HW.out.cell (p := ⟨g', off' + k * 7 + 6, none⟩) hg').trans (hyc 6 (.int .i64 y.rec_) (by decide) rfl)
            rw [Nat.add_zero] at d0 e0
            clear hc hc' hxc hyc hg hg' hx hy
            have hN := fun w => neqBr_run x y w
            generalize hB : eqBrB x y = B at hN
            have HBB := Lib.hid hB
            clear hB
            cases B with
            | true =>
              go_wp2_with (fail)
              go_quiet (fail)
              have HBN := Lib.hid (below_drewC HW.out nq)
              generalize wr.drewN nq = wz at HBN ⊢
              clear d0 d1 d2 d3 d4 d5 d6 e0 e1 e2 e3 e4 e5 e6 hN
              go_wp2_with (fail)
              exact ⟨⟨k + 1, by omega, by go_num, Lib.hid (fun j hj => by
                by_cases h : j = k
                · subst h; rw [HXX.out, HYY.out, (eqBrB_iff x y).1 HBB.out]
                · exact HE.out j (by omega)), HBN⟩, by first | (simp [intOf]; done) | (simp [intOf]; omega)⟩
            | false =>
              go_wp2_with (fail)
              go_quiet (fail)
              have HBN := Lib.hid (below_drewC HW.out nq)
              generalize wr.drewN nq = wz at HBN ⊢
              clear d0 d1 d2 d3 d4 d5 d6 e0 e1 e2 e3 e4 e5 e6 hN
              go_wp2_with (fail)
              go_ret
              refine ⟨⟨false, rfl, fun h => absurd h (by decide), fun h => ?_⟩, HBN.out⟩
              exfalso
              have h1 := HXX.out
              rw [h, HYY.out] at h1
              have h2 := (eqBrB_iff x y).2 (Option.some.inj h1).symm
              rw [HBB.out] at h2
              cases h2
      · have k1 : ¬ (k : Int) < n := by omega
        go_wp2_with (fail)
        go_ret
        refine ⟨⟨true, rfl, fun _ => ?_, fun _ => rfl⟩, HW.out⟩
        refine List.ext_getElem? (fun j => ?_)
        by_cases h : j < k
        · exact HE.out j h
        · rw [List.getElem?_eq_none (by rw [HX.out]; omega), List.getElem?_eq_none (by rw [HY.out]; omega)]
  · go_enter Try.func23, Try.ntmps23
    have hnm' : ¬ (n : Int) = m := by omega
    go_wp2_with (fail)
    go_ret
    exact ⟨⟨false, rfl, fun h => absurd h (by decide), fun h => absurd (by rw [← HX.out, ← HY.out, h]) hnm⟩, Below.refl _ _⟩
def eqFlB (x y : FlowS) : Bool := (x.res.toList == y.res.toList) && ((x.org.toList == y.org.toList) && ((x.thr == y.thr) && ((x.cnt == y.cnt) && ((x.strat == y.strat) && ((x.ref.toList == y.ref.toList) && ((x.shape == y.shape) && ((x.warm == y.warm) && ((x.queue == y.queue) && ((x.cl == y.cl) && ((x.id == y.id) && ((x.fb == y.fb))))))))))))
set_option maxHeartbeats 1600000 in
theorem neqFl_run (x y : FlowS) (w : World) : (binOp .neq 41 (.agg #[.string x.res, .string x.org, .bool x.thr, .int .i64 x.cnt, .int .u8 x.strat, .string x.ref, .int .u8 x.shape, .int .i64 x.warm, .int .i64 x.queue, .bool x.cl, .int .i64 x.id, .bool x.fb]) (.agg #[.string y.res, .string y.org, .bool y.thr, .int .i64 y.cnt, .int .u8 y.strat, .string y.ref, .int .u8 y.shape, .int .i64 y.warm, .int .i64 y.queue, .bool y.cl, .int .i64 y.id, .bool y.fb])).run Try.prog w = .ok (.bool (!eqFlB x y)) w := by
  have hS : Try.prog.underlying 41 = some (.struct (Try.prog.fieldsOf 41)) := by kernel_rfl
  have hp : Try.prog.stoodInHeld 41 = false := by kernel_rfl
  rw [run_neq_struct, show (10000 : Nat) = 9999 + 1 from rfl, run_equalIn_agg w 9999 _ _ _ hS hp]
  simp only [Program.fieldsOf, Try.underlying41]
  go_simp
  unfold eqFlB
  refine ifEq (fun t => Result.ok (Value.bool (!t)) w) ?_ rfl
  refine ifEq (fun t => Result.ok (Value.bool (!t)) w) ?_ rfl
  refine ifEq (fun t => Result.ok (Value.bool (!t)) w) ?_ rfl
  refine ifEq (fun t => Result.ok (Value.bool (!t)) w) ?_ rfl
  refine ifEq (fun t => Result.ok (Value.bool (!t)) w) ?_ rfl
  refine ifEq (fun t => Result.ok (Value.bool (!t)) w) ?_ rfl
  refine ifEq (fun t => Result.ok (Value.bool (!t)) w) ?_ rfl
  refine ifEq (fun t => Result.ok (Value.bool (!t)) w) ?_ rfl
  refine ifEq (fun t => Result.ok (Value.bool (!t)) w) ?_ rfl
  refine ifEq (fun t => Result.ok (Value.bool (!t)) w) ?_ rfl
  refine ifEq (fun t => Result.ok (Value.bool (!t)) w) ?_ rfl
  exact ifEq1 (fun t => Result.ok (Value.bool (!t)) w) rfl rfl
theorem eqFlB_iff (x y : FlowS) : eqFlB x y = true ↔ x = y := by
  unfold eqFlB
  constructor
  · intro h
    simp only [Bool.and_eq_true] at h
    obtain ⟨h0, h1, h2, h3, h4, h5, h6, h7, h8, h9, h10, h11⟩ := h
    have h0 : x.res = y.res := by rw [toList_decR] at h0; exact of_decide_eq_true h0
    have h1 : x.org = y.org := by rw [toList_decR] at h1; exact of_decide_eq_true h1
    have h5 : x.ref = y.ref := by rw [toList_decR] at h5; exact of_decide_eq_true h5
    simp only [beq_iff_eq] at *
    cases x; cases y
    simp_all
  · rintro rfl; simp
set_option maxHeartbeats 3200000 in
set_option maxRecDepth 20000 in
theorem eqFl_any {w : World} (a b : Option Addr) (n m ca cb : Nat) (xs ys : List FlowS) (hx : xs.length = n) (hy : ys.length = m) (hm : n ≤ 140737488355328) (ha : RowsAt w a 12 (xs.map FlowS.cs)) (hb : RowsAt w b 12 (ys.map FlowS.cs)) :
    Calls Try.prog 22 #[.slice a n ca, .slice b m cb] w (Tells (xs = ys) w) := by
  have HA := Lib.hid ha
  have HB := Lib.hid hb
  have HX := Lib.hid hx
  have HY := Lib.hid hy
  clear ha hb hx hy
  by_cases hnm : n = m
  · subst hnm
    go_enter Try.func22, Try.ntmps22
    go_wp2_with (fail)
    go_loopw [5, 13] (fun _ i wr => ∃ k : Nat, k ≤ n ∧ i = .int .i64 k ∧ Hid (∀ j, j < k → xs[j]? = ys[j]?) ∧ Hid (Below w.heap.size w wr)) (fun _ i _ => n - (intOf i).toNat)
    case atStart => exact ⟨0, Nat.zero_le _, rfl, Lib.hid (fun j h => by omega), Lib.hid (Below.refl _ _)⟩
    case round =>
      rename World => wr
      obtain ⟨k, hk, rfl, HE, HW⟩ := hrel
      by_cases hlt : k < n
      · have k0 : (0 : Int) ≤ k := by omega
        have k1 : (k : Int) < n := by omega
        obtain ⟨x, hx⟩ : ∃ x, xs[k]? = some x := ⟨_, List.getElem?_eq_getElem (by rw [HX.out]; exact hlt)⟩
        obtain ⟨y, hy⟩ : ∃ y, ys[k]? = some y := ⟨_, List.getElem?_eq_getElem (by rw [HY.out]; exact hlt)⟩
        have HXX := Lib.hid hx
        have HYY := Lib.hid hy
        rcases HA.out with h | ⟨g, off, rfl, hg, hc⟩
        · exfalso; have := HX.out; have h2 := congrArg List.length h; rw [List.length_map] at h2; simp at h2; rw [h2] at this; simp at this; omega
        · rcases HB.out with h | ⟨g', off', rfl, hg', hc'⟩
          · exfalso; have := HY.out; have h2 := congrArg List.length h; rw [List.length_map] at h2; simp at h2; rw [h2] at this; simp at this; omega
          · have hxc := hc k x.cs (by rw [List.getElem?_map, hx]; rfl)
            have hyc := hc' k y.cs (by rw [List.getElem?_map, hy]; rfl)
            have d0 := (HW.out.cell (p := ⟨g, off + k * 12 + 0, none⟩) hg).trans (hxc 0 (.string x.res) (by decide) rfl)
            have d1 := (HW.out.cell (p := ⟨g, off + k * 12 + 1, none⟩) hg).trans (hxc 1 (.string x.org) (by decide) rfl)
            have d2 := (HW.out.cell (p := ⟨g, off + k * 12 + 2, none⟩) hg).trans (hxc 2 (.bool x.thr) (by decide) rfl)
            have d3 := (HW.out.cell (p := ⟨g, off + k * 12 + 3, none⟩) hg).trans (hxc 3 (.int .i64 x.cnt) (by decide) rfl)
            have d4 := (HW.out.cell (p := ⟨g, off + k * 12 + 4, none⟩) hg).trans (hxc 4 (.int .u8 x.strat) (by decide) rfl)
            have d5 := (HW.out.cell (p := ⟨g, off + k * 12 + 5, none⟩) hg).trans (hxc 5 (.string x.ref) (by decide) rfl)
            have d6 := (HW.out.cell (p := ⟨g, off + k * 12 + 6, none⟩) hg).trans (hxc 6 (.int .u8 x.shape) (by decide) rfl)
            have d7 := (HW.out.cell (p := ⟨g, off + k * 12 + 7, none⟩) hg).trans (hxc 7 (.int .i64 x.warm) (by decide) rfl)
            have d8 := (HW.out.cell (p := ⟨g, off + k * 12 + 8, none⟩) hg).trans (hxc 8 (.int .i64 x.queue) (by decide) rfl)
            have d9 := (HW.out.cell (p := ⟨g, off + k * 12 + 9, none⟩) hg).trans (hxc 9 (.bool x.cl) (by decide) rfl)
            have d10 := (HW.out.cell (p := ⟨g, off + k * 12 + 10, none⟩) hg).trans (hxc 10 (.int .i64 x.id) (by decide) rfl)
            have d11 := (HW.out.cell (p := ⟨g, off + k * 12 + 11, none⟩) hg).trans (hxc 11 (.bool x.fb) (by decide) rfl)
            have e0 := (HW.out.cell (p := ⟨g', off' + k * 12 + 0, none⟩) hg').trans (hyc 0 (.string y.res) (by decide) rfl)
            have e1 := (HW.out.cell (p := ⟨g', off' + k * 12 + 1, none⟩) hg').trans (hyc 1 (.string y.org) (by decide) rfl)
            have e2 := (HW.out.cell (p := ⟨g', off' + k * 12 + 2, none⟩) hg').trans (hyc 2 (.bool y.thr) (by decide) rfl)
            have e3 := (HW.out.cell (p := ⟨g', off' + k * 12 + 3, none⟩) hg').trans (hyc 3 (.int .i64 y.cnt) (by decide) rfl)
            have e4 := (HW.out.cell (p := ⟨g', off' + k * 12 + 4, none⟩) hg').trans (hyc 4 (.int .u8 y.strat) (by decide) rfl)
            have e5 := (HW.out.cell (p := ⟨g', off' + k * 12 + 5, none⟩) hg').trans (hyc 5 (.string y.ref) (by decide) rfl)
            have e6 := (HW.out.cell (p := ⟨g', off' + k * 12 + 6, none⟩) hg').trans (hyc 6 (.int .u8 y.shape) (by decide) rfl)
            have e7 := (HW.out.cell (p := ⟨g', off' + k * 12 + 7, none⟩) hg').trans (hyc 7 (.int .i64 y.warm) (by decide) rfl)
            have e8 := (HW.out.cell (p := ⟨g', off' + k * 12 + 8, none⟩) hg').trans (hyc 8 (.int .i64 y.queue) (by decide) rfl)
            have e9 := (HW.out.cell (p := ⟨g', off' + k * 12 + 9, none⟩) hg').trans (hyc 9 (.bool y.cl) (by decide) rfl)
            have e10 := (HW.out.cell (p := ⟨g', off' + k * 12 + 10, none⟩) hg').trans (hyc 10 (.int .i64 y.id) (by decide) rfl)
            have e11 := (HW.out.cell (p := ⟨g', off' + k * 12 + 11, none⟩) hg').trans (hyc 11 (.bool y.fb) (by decide) rfl)
            rw [Nat.add_zero] at d0 e0
            clear hc hc' hxc hyc hg hg' hx hy
            have hN := fun w => neqFl_run x y w
            generalize hB : eqFlB x y = B at hN
            have HBB := Lib.hid hB
            clear hB
            cases B with
            | true =>
              go_wp2_with (fail)
              go_quiet (fail)
              have HBN := Lib.hid (below_drewC HW.out nq)
              generalize wr.drewN nq = wz at HBN ⊢
              clear d0 d1 d2 d3 d4 d5 d6 d7 d8 d9 d10 d11 e0 e1 e2 e3 e4 e5 e6 e7 e8 e9 e10 e11 hN
              go_wp2_with (fail)
              exact ⟨⟨k + 1, by omega, by go_num, Lib.hid (fun j hj => by
                by_cases h : j = k
                · subst h; rw [HXX.out, HYY.out, (eqFlB_iff x y).1 HBB.out]
                · exact HE.out j (by omega)), HBN⟩, by first | (simp [intOf]; done) | (simp [intOf]; omega)⟩
            | false =>
              go_wp2_with (fail)
              go_quiet (fail)
              have HBN := Lib.hid (below_drewC HW.out nq)
              generalize wr.drewN nq = wz at HBN ⊢
              clear d0 d1 d2 d3 d4 d5 d6 d7 d8 d9 d10 d11 e0 e1 e2 e3 e4 e5 e6 e7 e8 e9 e10 e11 hN
              go_wp2_with (fail)
              go_ret
              refine ⟨⟨false, rfl, fun h => absurd h (by decide), fun h => ?_⟩, HBN.out⟩
              exfalso
              have h1 := HXX.out
              rw [h, HYY.out] at h1
              have h2 := (eqFlB_iff x y).2 (Option.some.inj h1).symm
              rw [HBB.out] at h2
              cases h2
      · have k1 : ¬ (k : Int) < n := by omega
        go_wp2_with (fail)
        go_ret
        refine ⟨⟨true, rfl, fun _ => ?_, fun _ => rfl⟩, HW.out⟩
        refine List.ext_getElem? (fun j => ?_)
        by_cases h : j < k
        · exact HE.out j h
        · rw [List.getElem?_eq_none (by rw [HX.out]; omega), List.getElem?_eq_none (by rw [HY.out]; omega)]
  · go_enter Try.func22, Try.ntmps22
    have hnm' : ¬ (n : Int) = m := by omega
    go_wp2_with (fail)
    go_ret
    exact ⟨⟨false, rfl, fun h => absurd h (by decide), fun h => absurd (by rw [← HX.out, ← HY.out, h]) hnm⟩, Below.refl _ _⟩
end Go.Proofs.Ytgkdpkpiejjfmaa
