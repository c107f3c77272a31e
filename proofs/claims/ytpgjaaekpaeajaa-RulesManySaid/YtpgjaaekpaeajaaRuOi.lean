/- The reference's Of; two rows of numbers held against each other. -/
import Derived.Test.YtpgjaaekpaeajaaRuOh
namespace Go.Proofs.Ytpgjaaekpaeajaa
open Go.RowKit
set_option linter.unusedVariables false
set_option linter.unusedSimpArgs false

theorem below_drewO {n : Nat} {a w : World} (h : Below n a w) (q : Nat) : Below n a (w.drewN q) := ⟨h.os, h.tape, h.output, h.size, h.block⟩
structure RofI (w : World) (r : RulesS) (ns : List Int) (v : Value) (wr : World) : Prop where
  bel : Below (w.heap.size + 1) (w.alloc (boxR r)) wr
  row : wr.ownsRow (w.heap.size + 1) 3 1 v ns.length (ns.map (Value.int .i64))
theorem RofI.old {w wr : World} {r : RulesS} {ns : List Int} {v : Value} (h : RofI w r ns v wr) : Below w.heap.size w wr := ((Below.refl _ _).alloc (Nat.le_refl _) _).trans (h.bel.mono (Nat.le_succ _))
theorem RofI.below {w wr wr' : World} {r : RulesS} {ns : List Int} {v : Value} (h : RofI w r ns v wr) (hb : Below wr.heap.size wr wr') : RofI w r ns v wr' := by
  have := h.bel.size
  simp at this
  exact ⟨h.bel.trans (hb.mono this), h.row.kept (row := none) ⟨hb.os, hb.tape, hb.output, hb.size, fun k hk _ => hb.block k hk⟩ (by cases v.ownBlock <;> simp)⟩
theorem RofI.box {w wr : World} {r : RulesS} {ns : List Int} {v : Value} (h : RofI w r ns v wr) : wr.heap[w.heap.size]? = some (boxR r) := (h.bel.block _ (Nat.lt_succ_self _)).trans (by rw [get_allocB, if_pos rfl])
theorem RofI.size {w wr : World} {r : RulesS} {ns : List Int} {v : Value} (h : RofI w r ns v wr) : w.heap.size < wr.heap.size := by have := h.bel.size; simp at this; omega
theorem RofI.cells {w wr : World} {r : RulesS} {ns : List Int} {v : Value} (h : RofI w r ns v wr) : wr.cell? ⟨w.heap.size, 0, none⟩ = some (.slice r.a0 r.n0 r.c0) ∧ wr.cell? ⟨w.heap.size, 1, none⟩ = some (.slice r.a1 r.n1 r.c1) ∧ wr.cell? ⟨w.heap.size, 2, none⟩ = some (.slice r.a2 r.n2 r.c2) ∧ wr.cell? ⟨w.heap.size, 3, none⟩ = some (.slice r.a3 r.n3 r.c3) ∧ wr.cell? ⟨w.heap.size, 4, none⟩ = some (.slice r.a4 r.n4 r.c4) := by
  have hb := h.box
  unfold boxR at hb
  simp only [World.cell?, hb]
  exact ⟨rfl, rfl, rfl, rfl, rfl⟩

theorem rres_any {w : World} {r : RulesS} (h : RulesAt w r) (kind : Int) (res : ByteArray) (i : Nat) (hi : i < cntR r kind) (hk : kind ≠ 4) :
    ∃ s : ByteArray, hitR r kind res i = (s.toList == res.toList) ∧ Calls Try.prog 33 #[r.v, .int .u8 kind, .int .i64 i] w fun e w' => e = .returned (.string s) ∧ Below w.heap.size w w' := by
  by_cases h1 : kind = 1
  · subst h1
    obtain ⟨x, hx⟩ : ∃ x, r.fl[i]? = some x := ⟨_, List.getElem?_eq_getElem (by rw [h.l0]; exact hi)⟩
    refine ⟨x.res, ?_, rres1_any h i x hx⟩
    unfold hitR; rw [if_pos rfl, hx]; rfl
  · by_cases h2 : kind = 2
    · subst h2
      obtain ⟨x, hx⟩ : ∃ x, r.br[i]? = some x := ⟨_, List.getElem?_eq_getElem (by rw [h.l1]; exact hi)⟩
      refine ⟨x.res, ?_, rres2_any h i x hx⟩
      unfold hitR; rw [if_neg h1, if_pos rfl, hx]; rfl
    · by_cases h3 : kind = 3
      · subst h3
        obtain ⟨x, hx⟩ : ∃ x, r.ho[i]? = some x := ⟨_, List.getElem?_eq_getElem (by rw [h.l2]; exact hi)⟩
        refine ⟨x.res, ?_, rres3_any h i x hx⟩
        unfold hitR; rw [if_neg h1, if_neg h2, if_pos rfl, hx]; rfl
      · by_cases h5 : kind = 5
        · subst h5
          obtain ⟨x, hx⟩ : ∃ x, r.au[i]? = some x := ⟨_, List.getElem?_eq_getElem (by rw [h.l4]; exact hi)⟩
          refine ⟨x.res, ?_, rres5_any h i x hx⟩
          unfold hitR; rw [if_neg h1, if_neg h2, if_neg h3, if_neg hk, hx]; rfl
        · unfold cntR at hi
          rw [if_neg h1, if_neg h2, if_neg h3, if_neg hk, if_neg h5] at hi
          omega
theorem cntR_le {w : World} {r : RulesS} (h : RulesAt w r) (kind : Int) : cntR r kind ≤ 3518437212280 := by
  have := h.s0; have := h.s1; have := h.s2; have := h.s3; have := h.s4
  unfold cntR
  repeat' split
  all_goals omega

set_option maxHeartbeats 6400000 in
set_option maxRecDepth 100000 in
theorem rof_any {w : World} {r : RulesS} (h : RulesAt w r) (kind : Int) (res : ByteArray) :
    Calls Try.prog 15 #[r.v, .int .u8 kind, .string res] w (OfPost w (ofR r kind res)) := by
  obtain ⟨i0, hi, hz0, hz1, hz2⟩ := info_partsO info_intO
  have HR := Lib.hid h
  have hn := cntR_le h kind
  have HC : Hid (∀ wx, Calls Try.prog 26 #[.agg #[.slice r.a0 r.n0 r.c0, .slice r.a1 r.n1 r.c1, .slice r.a2 r.n2 r.c2, .slice r.a3 r.n3 r.c3, .slice r.a4 r.n4 r.c4], .int .u8 kind] wx fun e w' => e = .returned (.int .i64 (cntR r kind)) ∧ Below wx.heap.size wx w') := fun wx => rcount_any r kind wx
  have HQ : Hid (kind ≠ 4 → ∀ wx, Below w.heap.size w wx → ∀ i : Nat, i < cntR r kind → ∃ s : ByteArray, hitR r kind res i = (s.toList == res.toList) ∧ Calls Try.prog 33 #[.agg #[.slice r.a0 r.n0 r.c0, .slice r.a1 r.n1 r.c1, .slice r.a2 r.n2 r.c2, .slice r.a3 r.n3 r.c3, .slice r.a4 r.n4 r.c4], .int .u8 kind, .int .i64 i] wx fun e w' => e = .returned (.string s) ∧ Below wx.heap.size wx w') := fun hk wx hb i hi => rres_any (h.below (Nat.le_refl _) hb) kind res i hi hk
  have HF : Hid (kind = 4 → ∀ i, hitR r kind res i = true) := fun hk i => by subst hk; rfl
  unfold ofR
  generalize hitR r kind res = p at *
  generalize cntR r kind = n at *
  have hv : r.v = .agg #[.slice r.a0 r.n0 r.c0, .slice r.a1 r.n1 r.c1, .slice r.a2 r.n2 r.c2, .slice r.a3 r.n3 r.c3, .slice r.a4 r.n4 r.c4] := rfl
  rw [hv]
  have HST := Lib.hid (show RofI w r [] (.slice none 0 0) (w.alloc (boxR r)) from ⟨Below.refl _ _, World.ownsRow_nil _ _ _ _⟩)
  unfold boxR at HST
  clear h hv
  go_enter Try.func15, Try.ntmps15
  go_wp2_with (fail)
  generalize w.alloc _ = W at *
  go_loopw [7, 8] (fun v i wr => ∃ k : Nat, k ≤ n ∧ i = .int .i64 k ∧ Hid (RofI w r (ofFrom p k) v wr)) (fun _ i _ => n - (intOf i).toNat)
  case atStart => exact ⟨0, Nat.zero_le _, rfl, HST⟩
  case round =>
    obtain ⟨k, hk, rfl, HI⟩ := hrel
    obtain ⟨va, vc, rfl⟩ := own_sliceO HI.out.row
    obtain ⟨e0, e1, e2, e3, e4⟩ := HI.out.cells
    have HC1 := Lib.hid (HC.out wr)
    have k0 : (0 : Int) ≤ k := by omega
    by_cases hlt : k < n
    · have k1 : (k : Int) < n := by omega
      have hlen := ofFrom_len p k
      go_wp2_with (fail)
      refine HC1.out.mono ?_
      rintro e w1 ⟨rfl, hb1⟩
      have HI1 := Lib.hid (HI.out.below hb1)
      clear hb1 e0 e1 e2 e3 e4
      obtain ⟨e0, e1, e2, e3, e4⟩ := HI1.out.cells
      by_cases h4 : kind = 4
      · have hp : p k = true := HF.out h4 k
        have HS := Lib.hid (ofFrom_step p k)
        rw [hp] at HS
        subst h4
        have hsz := HI1.out.size
        go_wp2_with (at_builtin; refine wpList_append_own _ rfl (.tmp 26) (.tmp 28) 48 rfl (w.heap.size + 1) 3 i0 (.int .i64 0) 1 8 Try.underlying48 hi hz0 hz1 hz2 rfl (by decide) (.slice va (ofFrom p k).length vc) (ofFrom p k).length ((ofFrom p k).map (Value.int .i64)) rfl (HI1.out.row.alloc _) ⟨w1.heap.size, 0, none⟩ 1 1 [.int .i64 k] rfl rfl (one_cellO _ _ _) (by simp [Value.oneCell']) (by unfold maxLen; omega) (by omega) (by simp; omega) ?_; intro v3 w3 hown3 hg3 _; obtain ⟨va3, vc3, rfl⟩ := own_sliceO hown3)
        go_wp2_with (fail)
        have hS := HS.out
        rw [if_pos True.intro] at hS
        refine ⟨⟨k + 1, by omega, by go_num, ?_⟩, by first | (simp [intOf]; done) | (simp [intOf]; omega)⟩
        refine ⟨((HI1.out.bel.alloc (by omega) _).grown hg3 (by simp; omega) (fun j e => (HI1.out.row.lt j e).1)), ?_⟩
        rw [hS, List.map_append, List.length_append]
        exact hown3
      · have g4 : (kind == 4) = false := beq_eq_false_iff_ne.2 h4
        obtain ⟨s, hs, hcall⟩ := HQ.out h4 w1 HI1.out.old k hlt
        have HX := Lib.hid hcall
        have HS := Lib.hid (ofFrom_step p k)
        rw [hs] at HS
        clear hcall hs
        go_wp2_with (fail)
        refine HX.out.mono ?_
        rintro e w2 ⟨rfl, hb2⟩
        have HI2 := Lib.hid (HI1.out.below hb2)
        clear hb2
        cases hq : (s.toList == res.toList)
        · rw [hq, if_neg (by simp)] at HS
          go_wp2_with (fail)
          exact ⟨⟨k + 1, by omega, by go_num, by rw [HS.out]; exact HI2⟩, by first | (simp [intOf]; done) | (simp [intOf]; omega)⟩
        · rw [hq, if_pos rfl] at HS
          have hsz := HI2.out.size
          go_wp2_with (at_builtin; refine wpList_append_own _ rfl (.tmp 26) (.tmp 28) 48 rfl (w.heap.size + 1) 3 i0 (.int .i64 0) 1 8 Try.underlying48 hi hz0 hz1 hz2 rfl (by decide) (.slice va (ofFrom p k).length vc) (ofFrom p k).length ((ofFrom p k).map (Value.int .i64)) rfl (HI2.out.row.alloc _) ⟨w2.heap.size, 0, none⟩ 1 1 [.int .i64 k] rfl rfl (one_cellO _ _ _) (by simp [Value.oneCell']) (by unfold maxLen; omega) (by omega) (by simp; omega) ?_; intro v3 w3 hown3 hg3 _; obtain ⟨va3, vc3, rfl⟩ := own_sliceO hown3)
          go_wp2_with (fail)
          refine ⟨⟨k + 1, by omega, by go_num, ?_⟩, by first | (simp [intOf]; done) | (simp [intOf]; omega)⟩
          refine ⟨((HI2.out.bel.alloc (by omega) _).grown hg3 (by simp; omega) (fun j e => (HI2.out.row.lt j e).1)), ?_⟩
          rw [HS.out, List.map_append, List.length_append]
          exact hown3
    · have hkn : k = n := by omega
      subst hkn
      go_wp2_with (fail)
      refine HC1.out.mono ?_
      rintro e w1 ⟨rfl, hb1⟩
      have HI1 := Lib.hid (HI.out.below hb1)
      clear hb1
      go_wp2_with (fail)
      go_ret
      exact ⟨_, rfl, ownsRow_baseO HI1.out.row (Nat.le_succ _), HI1.out.old⟩

theorem take_eq_step {xs ys : List Int} {k : Nat} {x y : Int} (h : xs.take k = ys.take k) (hx : xs[k]? = some x) (hy : ys[k]? = some y) (he : x = y) : xs.take (k + 1) = ys.take (k + 1) := by
  rw [List.take_add_one, List.take_add_one, h, hx, hy, he]
set_option maxHeartbeats 3200000 in
set_option maxRecDepth 100000 in
theorem sameints_any {w : World} (a b : Option Addr) (n m ca cb : Nat) (xs ys : List Int) (hx : xs.length = n) (hy : ys.length = m) (hn : n ≤ 9223372036854775807) (ax : IntsAt w a xs) (ay : IntsAt w b ys) :
    Calls Try.prog 13 #[.slice a n ca, .slice b m cb] w fun e w' => e = .returned (.bool (decide (xs = ys))) ∧ Below w.heap.size w w' := by
  have AX := Lib.hid ax
  have AY := Lib.hid ay
  have HX := Lib.hid hx
  have HY := Lib.hid hy
  clear ax ay hx hy
  by_cases hnm : n = m
  · subst hnm
    go_enter Try.func13, Try.ntmps13
    go_wp2_with (fail)
    go_loopw [5] (fun i wr => ∃ k : Nat, k ≤ n ∧ i = .int .i64 k ∧ Hid (xs.take k = ys.take k) ∧ Below w.heap.size w wr) (fun i _ => n - (intOf i).toNat)
    case atStart => exact ⟨0, Nat.zero_le _, rfl, rfl, Below.refl _ _⟩
    case round =>
      obtain ⟨k, hk, rfl, HT, hb⟩ := hrel
      have k0 : (0 : Int) ≤ k := by omega
      by_cases hlt : k < n
      · have k1 : (k : Int) < n := by omega
        have lx : k < xs.length := by rw [HX.out]; exact hlt
        have ly : k < ys.length := by rw [HY.out]; exact hlt
        rcases AX.out with h | ⟨ba, oa, rfl, la, fa⟩
        · rw [h] at lx; simp at lx
        rcases AY.out with h | ⟨bb, ob, rfl, lb, fb⟩
        · rw [h] at ly; simp at ly
        have d1 := (hb.cell (p := ⟨ba, oa + k, none⟩) la).trans (fa k lx)
        have d2 := (hb.cell (p := ⟨bb, ob + k, none⟩) lb).trans (fb k ly)
        have HS := Lib.hid (fun he => take_eq_step HT.out (x := xs.getD k 0) (y := ys.getD k 0) (by simp [List.getD, lx]) (by simp [List.getD, ly]) he)
        have HNE := Lib.hid (show xs.getD k 0 ≠ ys.getD k 0 → xs ≠ ys from fun hne he => hne (by rw [he]))
        generalize xs.getD k 0 = x at *
        generalize ys.getD k 0 = y at *
        by_cases hxy : x = y
        · have HS2 := Lib.hid (HS.out hxy)
          subst hxy
          clear HS HNE
          go_wp2_with (fail)
          go_quiet (fail)
          go_wp2_with (fail)
          exact ⟨⟨k + 1, by omega, by go_num, HS2, below_drewO hb _⟩, by first | (simp [intOf]; done) | (simp [intOf]; omega)⟩
        · have hb2 : (x != y) = true := by simpa using hxy
          have HD := Lib.hid (decide_eq_false (HNE.out hxy))
          clear HS HNE
          go_wp2_with (fail)
          go_quiet (fail)
          go_wp2_with (fail)
          go_ret
          exact ⟨by rw [HD.out]; rfl, below_drewO hb _⟩
      · have hT := HT.out
        rw [List.take_of_length_le (by rw [HX.out]; omega), List.take_of_length_le (by rw [HY.out]; omega)] at hT
        have HD := Lib.hid (decide_eq_true hT)
        clear hT
        go_wp2_with (fail)
        go_ret
        exact ⟨by rw [HD.out]; rfl, hb⟩
  · have hne : ((n : Int) != (m : Int)) = true := by simp; omega
    have hxy : xs ≠ ys := fun e => hnm (by rw [← HX.out, ← HY.out, e])
    rw [decide_eq_false hxy]
    go_enter Try.func13, Try.ntmps13
    go_wp2_with (fail)
    go_ret
    exact ⟨rfl, Below.refl _ _⟩
theorem ints_own {w : World} {base : Nat} {v : Value} {xs : List Int} (h : w.ownsRow base 3 1 v xs.length (xs.map (Value.int .i64))) : ∃ a cap, v = .slice a xs.length cap ∧ IntsAt w a xs := by
  rcases h.2 with ⟨h1, h2⟩ | ⟨g, cap, cur, rfl, hb, hg, _⟩
  · exact ⟨none, 0, by rw [h1, h2], Or.inl (List.length_eq_zero_iff.1 h2)⟩
  · refine ⟨_, cap, rfl, Or.inr ⟨g, 0, rfl, (Array.getElem?_eq_some_iff.1 hg).1, fun j hj => ?_⟩⟩
    rw [Nat.zero_add, h.cellAt j (by omega)]
    simp [List.getD, hj]
theorem IntsAt.belowO {w w' : World} {a : Option Addr} {xs : List Int} (h : IntsAt w a xs) (hb : Below w.heap.size w w') : IntsAt w' a xs := by
  rcases h with h | ⟨b, off, rfl, hl, hc⟩
  · exact Or.inl h
  · exact Or.inr ⟨b, off, rfl, Nat.lt_of_lt_of_le hl hb.size, fun j hj => (hb.cell (p := ⟨b, off + j, none⟩) hl).trans (hc j hj)⟩
end Go.Proofs.Ytpgjaaekpaeajaa
