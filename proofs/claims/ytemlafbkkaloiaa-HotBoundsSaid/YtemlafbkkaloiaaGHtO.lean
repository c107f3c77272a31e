/- Texts of one chain, one behind the other: HtO, HtP. -/
import Derived.Deep.RegionHeld3
import Derived.Test.YtemlafbkkaloiaaGLruK

/- HotBounds: no value is ever taken more often than its limit. -/
namespace Go.Proofs.Ytemlafbkkaloiaa
open Go.RowKit
set_option linter.unusedVariables false
set_option linter.unusedSimpArgs false

def TkS.vals (t : TkS) : List Value := [.int .i64 t.kind, .int .i64 t.at_, .string t.key, .int .i64 t.n]
def flatT (T : List TkS) : List Value := T.flatMap TkS.vals
theorem flatT_len : ∀ T : List TkS, (flatT T).length = T.length * 4
  | [] => rfl
  | x :: T => by simp only [flatT, List.flatMap_cons, List.length_append, List.length_cons]; rw [show (T.flatMap TkS.vals).length = T.length * 4 from flatT_len T]; simp [TkS.vals]; omega
theorem flatT_get : ∀ {T : List TkS} {j : Nat} {x : TkS}, T[j]? = some x → ∀ k, k < 4 → (flatT T)[j * 4 + k]? = x.vals[k]?
  | y :: T, 0, x, h, k, hk => by
    obtain rfl : y = x := by simpa using h
    show (y.vals ++ flatT T)[0 * 4 + k]? = _
    rw [Nat.zero_mul, Nat.zero_add, List.getElem?_append_left (by simp [TkS.vals]; omega)]
  | y :: T, j + 1, x, h, k, hk => by
    have ih := flatT_get (T := T) (j := j) (x := x) (by simpa using h) k hk
    show (y.vals ++ flatT T)[(j + 1) * 4 + k]? = _
    rw [List.getElem?_append_right (by simp [TkS.vals]; omega), show (j + 1) * 4 + k - y.vals.length = j * 4 + k by simp [TkS.vals]; omega]
    exact ih
theorem four_cellsH (w : World) (x y z u : Value) (t : TypeId) : ∀ j v, ([x, y, z, u] : List Value)[j]? = some v → (w.alloc (.cells #[x, y, z, u] t)).cell? ((⟨w.heap.size, 0, none⟩ : Addr).add j) = some v := by
  intro j v hj
  have hn := new_blockS w (.cells #[x, y, z, u] t)
  rw [WideShapes.add_plain]
  simp only [World.cell?, hn]
  match j, hj with
  | 0, h => simpa using h
  | 1, h => simpa using h
  | 2, h => simpa using h
  | 3, h => simpa using h
theorem info_deedH : (Try.prog.info? 35).map (fun i => (i.zero, i.size, i.bytes)) = some (some (.agg #[.int .i64 0, .int .i64 0, .string ⟨#[]⟩, .int .i64 0]), 4, 40) := by kernel_rfl
theorem ownsRow_sameH {w w' : World} {base size n : Nat} {e : TypeId} {v : Value} {xs : List Value} (h : w.ownsRow base e size v n xs) (hk : ∀ g, v.ownBlock = some g → w'.heap[g]? = w.heap[g]?) : w'.ownsRow base e size v n xs := by
  obtain ⟨h1, h2⟩ := h
  refine ⟨h1, ?_⟩
  rcases h2 with h2 | ⟨g, cap, cur, rfl, hb, hg, hrest⟩
  · exact Or.inl h2
  · exact Or.inr ⟨g, cap, cur, rfl, hb, (hk g rfl).trans hg, hrest⟩
theorem below_ownH {wr wx : World} {base size n : Nat} {e : TypeId} {v : Value} {xs : List Value} (h : wr.ownsRow base e size v n xs) (hb : Below wr.heap.size wr wx) : wx.ownsRow base e size v n xs := ownsRow_sameH h (fun g e => hb.block g (h.lt g e).2)
structure HbI (w wr : World) (c : HotC) (s : HotV) (T : List TkS) (vT : Value) : Prop where
  hti : HtI w wr c s
  own : ∀ i, HOwn c s i → w.heap.size < i
  row : wr.ownsRow (w.heap.size + 1) 35 4 vT T.length (flatT T)
  ap : ∀ g, vT.ownBlock = some g → ¬ HOwn c s g
  ap2 : ∀ g off, c.R.ia = some ⟨g, off, none⟩ → vT.ownBlock ≠ some g
  box : wr.cell? ⟨w.heap.size, 3, none⟩ = some (.int .i64 c.R.secs)
theorem HbI.below {w wr w' : World} {c : HotC} {s : HotV} {T : List TkS} {vT : Value} (k : HbI w wr c s T vT) (hb : Below wr.heap.size wr w') : HbI w w' c s T vT :=
  ⟨k.hti.below hb, k.own, ownsRow_sameH k.row (fun g e => hb.block g (k.row.lt g e).2), k.ap, k.ap2, (hb.cell (p := ⟨w.heap.size, 3, none⟩) (World.block_lt_of_cell? _ _ k.box)).trans k.box⟩
theorem HbI.take {w wr w' : World} {c : HotC} {s s' : HotV} {T : List TkS} {vT : Value} {at_ n : Int} {key : ByteArray} (k : HbI w wr c s T vT) (t : TakePost wr c s at_ key n w' s') : HbI w w' c s' T vT := by
  have hbl := World.block_lt_of_cell? _ _ k.box
  dsimp only at hbl
  refine ⟨k.hti.take t, fun i hi => ?_, ownsRow_sameH k.row (fun g e => t.off.block g (k.row.lt g e).2 (k.ap g e)), fun g e hi => ?_, k.ap2, t.off.cell k.box (fun h => by have := k.own _ h; dsimp only at this; omega)⟩
  · rcases t.own i hi with h | h
    · exact k.own i h
    · omega
  · rcases t.own g hi with h | h
    · exact k.ap g e h
    · have := (k.row.lt g e).2; omega
theorem HbI.push {w wb w9 : World} {c : HotC} {s : HotV} {T : List TkS} {X : TkS} {vT v3 : Value} {o : Obj} (k : HbI w wb c s T vT) (hg : (wb.alloc o).grownBy w9 vT.ownBlock) (hr : w9.ownsRow (w.heap.size + 1) 35 4 v3 (T.length + 1) (flatT T ++ X.vals)) (hv3 : v3.ownBlock = vT.ownBlock ∨ v3.ownBlock = some (wb.alloc o).heap.size) : HbI w w9 c s (T ++ [X]) v3 := by
  have hbl := World.block_lt_of_cell? _ _ k.box
  dsimp only at hbl
  have hal : Below wb.heap.size wb (wb.alloc o) := (Below.refl _ _).alloc (Nat.le_refl _) _
  have hz : (wb.alloc o).heap.size = wb.heap.size + 1 := by simp
  have hk : ∀ i, i < wb.heap.size → vT.ownBlock ≠ some i → w9.heap[i]? = wb.heap[i]? := fun i hi hne => (hg.block i (by omega) (fun e => hne e.symm)).trans (hal.block i hi)
  refine ⟨⟨k.hti.hot.kept (by have := hg.size; omega) (fun i hi => hk i (k.hti.hot.lt hi) (fun e => k.ap i e hi)) (fun g off e => hk g (k.hti.hot.ilt g off e) (k.ap2 g off e)), k.hti.own, ?_⟩, k.own, ?_, fun g e hi => ?_, fun g off e hh => ?_, ?_⟩
  · exact ⟨hg.os.trans k.hti.bel.os, hg.tape.trans k.hti.bel.tape, hg.output.trans k.hti.bel.output, by have := hg.size; have := k.hti.bel.size; omega, fun i hi => (hk i (by have := k.hti.bel.size; omega) (fun e => by have := (k.row.lt i e).1; omega)).trans (k.hti.bel.block i hi)⟩
  · rw [List.length_append, List.length_singleton, show flatT (T ++ [X]) = flatT T ++ X.vals by simp [flatT]]; exact hr
  · rcases hv3 with h | h
    · exact k.ap g (h.symm.trans e) hi
    · rw [h] at e; injection e with e
      have := k.hti.hot.lt hi; omega
  · rcases hv3 with h | h
    · exact k.ap2 g off e (h.symm.trans hh)
    · rw [h] at hh; injection hh with hh
      have := k.hti.hot.ilt g off e; omega
  · exact (World.cell?_of_block (a := ⟨w.heap.size, 3, none⟩) (hk w.heap.size hbl (fun e => by have := (k.row.lt _ e).1; omega))).trans k.box
/-- New, from the box of a setting; the box stays. -/
theorem hnew_setB {w : World} (x : SetS) (h : SetAt w x) (o : Obj) : Calls Try.prog 6 #[.agg #[.string x.R.res, .int .i64 x.R.idx, .int .i64 x.R.cnt, .int .i64 x.R.secs, .slice x.R.ia x.R.il x.R.ic], .int .i64 x.keys, .int .u64 x.seed] (w.alloc o) fun e w' => Below (w.alloc o).heap.size (w.alloc o) w' ∧ Below w.heap.size w w' ∧ (newHE x.R x.keys ≠ 0 → e = .returned (.tuple #[.pointer none, .int .i64 (newHE x.R x.keys)])) ∧
      (newHE x.R x.keys = 0 → ∃ c s, e = .returned (.tuple #[.pointer (some ⟨c.hb, 0, none⟩), .int .i64 0]) ∧ HtI w w' c s ∧ NewHot (w.alloc o) x.R x.keys x.seed w' c s) := by
  have hb : Below w.heap.size w (w.alloc o) := (Below.refl _ _).alloc (Nat.le_refl _) _
  refine (hnew_any x.R (h.below hb).ok x.keys x.seed h.s0 h.s1).mono ?_
  rintro e w' ⟨h1, h2, h3⟩
  have hbb := hb.trans (h1.mono hb.size)
  refine ⟨h1, hbb, h2, fun h0 => ?_⟩
  obtain ⟨c, s, rfl, hn⟩ := h3 h0
  exact ⟨c, s, rfl, ⟨hn.hot, fun i hi => by have := hn.own i hi; have := hb.size; omega, hbb⟩, hn⟩

set_option maxHeartbeats 12800000 in
set_option maxRecDepth 100000 in
theorem hotbounds_walk {w : World} (x : SetS) (hx : SetAt w x) (a : Option Addr) (len cap : Nat) (hm : len ≤ 140737488351232) (K A : Nat → Int) (S : Nat → ByteArray) (C : Nat → Int) (hd : DeedsH w a len K A S C) :
    Calls Try.prog 4 #[x.v, .slice a len cap] w fun e w' => e = .returned (.bool true) ∧ Below w.heap.size w w' := by
  have HD := Lib.hid hd
  have HNW := Lib.hid (hnew_setB x hx (.cells x.cs 27))
  have hbox0 := new_blockS w (.cells x.cs 27)
  have hbz0 : (w.alloc (.cells x.cs 27)).heap.size = w.heap.size + 1 := by simp
  have HBX0 := Lib.hid (And.intro hbox0 hbz0)
  unfold SetS.cs at HNW HBX0
  unfold SetS.v SetS.cs
  have HLV := Lib.hid (fun (w : World) => htlive_any w)
  clear hd hx hbox0 hbz0
  go_enter Try.func4, Try.ntmps4
  go_wp2_with (fail)
  refine HNW.out.mono ?_
  rintro e w1 ⟨hbA, hb1, hno, hyes⟩
  by_cases hE : newHE x.R x.keys = 0
  · obtain ⟨c, s, rfl, hi, hn⟩ := hyes hE
    have hsc : c.R.secs = x.R.secs := by obtain ⟨a', c', e⟩ := hn.R; rw [e]; rfl
    have hbB : Below (w.alloc (.cells #[.string x.R.res, .int .i64 x.R.idx, .int .i64 x.R.cnt, .int .i64 x.R.secs, .slice x.R.ia x.R.il x.R.ic, .int .i64 x.keys, .int .u64 x.seed] 27)).heap.size _ w1 := hbA
    have hbx1 := (hbB.block w.heap.size (by rw [HBX0.out.2]; omega)).trans HBX0.out.1
    have HB := Lib.hid (show HbI w w1 c s [] (.slice none 0 0) from ⟨hi, fun i h => by have := hn.own i h; rw [HBX0.out.2] at this; omega, World.ownsRow_nil _ _ _ _, by simp [Value.ownBlock], by simp [Value.ownBlock], by simp only [World.cell?, hbx1, hsc]; rfl⟩)
    have HIV := Lib.hid (InvB.start hn.WS hn.sn hn.hot.fine)
    obtain ⟨_, ⟨z0, z1⟩, _⟩ := hot_parts hn.hot.fine
    clear hno hyes hE hi hb1 HNW hn hsc hbB hbx1 HBX0 hbA
    go_wp2_with (fail)
    go_loopw [7, 8, 9, 10, 11, 12, 13, 14, 15, 16] (fun v7 v8 _ _ _ _ _ _ _ _ wr => ∃ (i : Nat) (s' : HotV) (T : List TkS) (aT : Option Addr) (cT : Nat), i ≤ len ∧ i ≤ 80 ∧ v8 = .int .i64 i ∧ v7 = .slice aT T.length cT ∧ T.length ≤ i ∧ Hid (HbI w wr c s' T (.slice aT T.length cT)) ∧ Hid (InvB c s' T)) (fun _ v8 _ _ _ _ _ _ _ _ _ => len - (intOf v8).toNat)
    case atStart => exact ⟨0, s, [], none, 0, Nat.zero_le _, by omega, rfl, rfl, Nat.zero_le _, HB, HIV⟩
    case round =>
      rename World => wr
      clear HB HIV
      obtain ⟨i, s', T, aT, cT, hi, hi8, rfl, rfl, hTi, HB, HIV⟩ := hrel
      by_cases hlt : i < len ∧ i < 80
      · obtain ⟨hlt, h80⟩ := hlt
        obtain ⟨b, off, rfl, hbl, d0, d1, d2, d3, hsz⟩ := HD.out.get hlt
        have D0 := Lib.hid d0
        have D1 := Lib.hid d1
        have D2 := Lib.hid d2
        have D3 := Lib.hid d3
        have d1 := (HB.out.hti.bel.cell (p := ⟨b, off + i * 4 + 1, none⟩) hbl).trans d1
        have d2 := (HB.out.hti.bel.cell (p := ⟨b, off + i * 4 + 2, none⟩) hbl).trans d2
        have d3 := (HB.out.hti.bel.cell (p := ⟨b, off + i * 4 + 3, none⟩) hbl).trans d3
        generalize K i = kd at *
        generalize A i = at_ at *
        generalize S i = key at *
        generalize C i = n at *
        have k0 : (0 : Int) ≤ i := by omega
        have k1 : (i : Int) < len := by omega
        have k2 : (i : Int) < 80 := by omega
        have HTK := Lib.hid (fun (wx : World) (h : Below wr.heap.size wr wx) => htake_any (HB.out.below h).hti.hot at_ key hsz n)
        have HDO := Lib.hid (show ∀ wx : World, Below w.heap.size w wx → wx.cell? ⟨b, off + i * 4, none⟩ = some (.int .i64 kd) ∧ wx.cell? ⟨b, off + i * 4 + 1, none⟩ = some (.int .i64 at_) ∧ wx.cell? ⟨b, off + i * 4 + 2, none⟩ = some (.string key) ∧ wx.cell? ⟨b, off + i * 4 + 3, none⟩ = some (.int .i64 n) from fun wx h =>
          ⟨(h.cell (p := ⟨b, off + i * 4, none⟩) hbl).trans D0.out, (h.cell (p := ⟨b, off + i * 4 + 1, none⟩) hbl).trans D1.out, (h.cell (p := ⟨b, off + i * 4 + 2, none⟩) hbl).trans D2.out, (h.cell (p := ⟨b, off + i * 4 + 3, none⟩) hbl).trans D3.out⟩)
        have HD2 := Lib.hid (fun (wx w2 : World) (s2 : HotV) (hx : Below wr.heap.size wr wx) (t : TakePost wx c s' at_ key n w2 s2) => ((HDO.out w2 ((HB.out.below hx).take t).hti.bel).2))
        have HSZ := Lib.hid hsz
        generalize hBB : lookHB c s' at_ key n = B at *
        generalize hEE : lookHE s'.last at_ key n = E at *
        have HBE := Lib.hid (And.intro hBB hEE)
        clear hsz d0 D0 D1 D2 D3 hBB hEE
        go_wp2_with (fail)
        refine wp_region_noPanic ?_
        refine wp_region_held_drew (S := (fun wx => (wx.cell? ⟨b, off + i * 4 + 1, none⟩ = some (.int .i64 at_) ∧ wx.cell? ⟨b, off + i * 4 + 2, none⟩ = some (.string key) ∧ wx.cell? ⟨b, off + i * 4 + 3, none⟩ = some (.int .i64 n)))) (by kernel_rfl) ?_ (fun hHeld => ?_)
        · exact ⟨d1, d2, d3⟩
        refine wpAnyH_take (i := 0) (v := ?_) rfl (by kernel_rfl) (by kernel_rfl) (by kernel_rfl) (fun _ _ _ h => h) (Or.inl ⟨by rfl, ?hy⟩) (by assumption) ?_
        case hy => intro w hSw; (try dsimp only at hSw); go_simp; try with_reducible rfl
        try simp only [Act.put, List.getElem_toArray, List.getElem_cons_succ, List.getElem_cons_zero, List.setIfInBounds_toArray, List.set_cons_zero, List.set_cons_succ]
        refine wpAnyH_take (i := 1) (v := ?_) rfl (by kernel_rfl) (by kernel_rfl) (by kernel_rfl) (fun _ _ _ h => h) (Or.inl ⟨by rfl, ?hy⟩) (by assumption) ?_
        case hy => intro w hSw; (try dsimp only at hSw); go_simp; try with_reducible rfl
        try simp only [Act.put, List.getElem_toArray, List.getElem_cons_succ, List.getElem_cons_zero, List.setIfInBounds_toArray, List.set_cons_zero, List.set_cons_succ]
        refine wpAnyH_take (i := 2) (v := ?_) rfl (by kernel_rfl) (by kernel_rfl) (by kernel_rfl) (fun _ _ _ h => h) (Or.inl ⟨by rfl, ?hy⟩) (by assumption) ?_
        case hy => intro w hSw; (try dsimp only at hSw); go_simp; try with_reducible rfl
        try simp only [Act.put, List.getElem_toArray, List.getElem_cons_succ, List.getElem_cons_zero, List.setIfInBounds_toArray, List.set_cons_zero, List.set_cons_succ]
        refine wpAnyH_take (i := 3) (v := ?_) rfl (by kernel_rfl) (by kernel_rfl) (by kernel_rfl) (fun _ _ _ h => h) (Or.inl ⟨by rfl, ?hy⟩) (by assumption) ?_
        case hy => intro w hSw; (try dsimp only at hSw); go_simp; try with_reducible rfl
        try simp only [Act.put, List.getElem_toArray, List.getElem_cons_succ, List.getElem_cons_zero, List.setIfInBounds_toArray, List.set_cons_zero, List.set_cons_succ]
        refine wpAnyH_take (i := 4) (v := ?_) rfl (by kernel_rfl) (by kernel_rfl) (by kernel_rfl) (fun _ _ _ h => h) (Or.inl ⟨by rfl, ?hy⟩) (by assumption) ?_
        case hy => intro w hSw; (try dsimp only at hSw); go_simp; try with_reducible rfl
        try simp only [Act.put, List.getElem_toArray, List.getElem_cons_succ, List.getElem_cons_zero, List.setIfInBounds_toArray, List.set_cons_zero, List.set_cons_succ]
        refine wpAnyH_take (i := 5) (v := ?_) rfl (by kernel_rfl) (by kernel_rfl) (by kernel_rfl) (fun _ _ _ h => h) (Or.inl ⟨by rfl, ?hy⟩) (by assumption) ?_
        case hy => intro w hSw; (try dsimp only at hSw); go_simp; try with_reducible rfl
        try simp only [Act.put, List.getElem_toArray, List.getElem_cons_succ, List.getElem_cons_zero, List.setIfInBounds_toArray, List.set_cons_zero, List.set_cons_succ]
        refine wpAnyH_take (i := 6) (v := ?_) rfl (by kernel_rfl) (by kernel_rfl) (by kernel_rfl) (fun _ _ _ h => h) (Or.inl ⟨by rfl, ?hy⟩) (by assumption) ?_
        case hy => intro w hSw; (try dsimp only at hSw); go_simp; try with_reducible rfl
        try simp only [Act.put, List.getElem_toArray, List.getElem_cons_succ, List.getElem_cons_zero, List.setIfInBounds_toArray, List.set_cons_zero, List.set_cons_succ]
        refine wpAnyH_take (i := 7) (v := ?_) rfl (by kernel_rfl) (by kernel_rfl) (by kernel_rfl) (fun _ _ _ h => h) (Or.inl ⟨by rfl, ?hy⟩) (by assumption) ?_
        case hy => intro w hSw; (try dsimp only at hSw); go_simp; try with_reducible rfl
        try simp only [Act.put, List.getElem_toArray, List.getElem_cons_succ, List.getElem_cons_zero, List.setIfInBounds_toArray, List.set_cons_zero, List.set_cons_succ]
        refine wpAnyH_take (i := 8) (v := ?_) rfl (by kernel_rfl) (by kernel_rfl) (by kernel_rfl) (fun _ _ _ h => h) (Or.inl ⟨by rfl, ?hy⟩) (by assumption) ?_
        case hy => intro w hSw; (try dsimp only at hSw); go_simp; try with_reducible rfl
        try simp only [Act.put, List.getElem_toArray, List.getElem_cons_succ, List.getElem_cons_zero, List.setIfInBounds_toArray, List.set_cons_zero, List.set_cons_succ]
        refine wpAnyH_take (i := 9) (v := ?_) rfl (by kernel_rfl) (by kernel_rfl) (by kernel_rfl) (fun _ _ _ h => h) (Or.inl ⟨by rfl, ?hy⟩) (by assumption) ?_
        case hy => intro w hSw; (try dsimp only at hSw); go_simp; try with_reducible rfl
        try simp only [Act.put, List.getElem_toArray, List.getElem_cons_succ, List.getElem_cons_zero, List.setIfInBounds_toArray, List.set_cons_zero, List.set_cons_succ]
        refine wpAnyH_take (i := 10) (v := ?_) rfl (by kernel_rfl) (by kernel_rfl) (by kernel_rfl) (fun _ _ _ h => h) (Or.inl ⟨by rfl, ?hy⟩) (by assumption) ?_
        case hy => intro w hSw; (try dsimp only at hSw); go_simp; try with_reducible rfl
        try simp only [Act.put, List.getElem_toArray, List.getElem_cons_succ, List.getElem_cons_zero, List.setIfInBounds_toArray, List.set_cons_zero, List.set_cons_succ]
        refine wpAnyH_take (i := 11) (v := ?_) rfl (by kernel_rfl) (by kernel_rfl) (by kernel_rfl) (fun _ _ _ h => h) (Or.inl ⟨by rfl, ?hy⟩) (by assumption) ?_
        case hy => intro w hSw; (try dsimp only at hSw); go_simp; try with_reducible rfl
        try simp only [Act.put, List.getElem_toArray, List.getElem_cons_succ, List.getElem_cons_zero, List.setIfInBounds_toArray, List.set_cons_zero, List.set_cons_succ]
        refine wpAnyH_take (i := 12) (v := ?_) rfl (by kernel_rfl) (by kernel_rfl) (by kernel_rfl) (fun _ _ _ h => h) (Or.inl ⟨by rfl, ?hy⟩) (by assumption) ?_
        case hy => intro w hSw; (try dsimp only at hSw); go_simp; try with_reducible rfl
        try simp only [Act.put, List.getElem_toArray, List.getElem_cons_succ, List.getElem_cons_zero, List.setIfInBounds_toArray, List.set_cons_zero, List.set_cons_succ]
        refine wpAnyH_take (i := 13) (v := ?_) rfl (by kernel_rfl) (by kernel_rfl) (by kernel_rfl) (fun _ _ _ h => h) (Or.inl ⟨by rfl, ?hy⟩) (by assumption) ?_
        case hy => intro w hSw; (try dsimp only at hSw); go_simp; try with_reducible rfl
        try simp only [Act.put, List.getElem_toArray, List.getElem_cons_succ, List.getElem_cons_zero, List.setIfInBounds_toArray, List.set_cons_zero, List.set_cons_succ]
        refine wpAnyH_take (i := 14) (v := ?_) rfl (by kernel_rfl) (by kernel_rfl) (by kernel_rfl) (fun _ _ _ h => h) (Or.inl ⟨by rfl, ?hy⟩) (by assumption) ?_
        case hy => intro w hSw; (try dsimp only at hSw); go_simp; try with_reducible rfl
        try simp only [Act.put, List.getElem_toArray, List.getElem_cons_succ, List.getElem_cons_zero, List.setIfInBounds_toArray, List.set_cons_zero, List.set_cons_succ]
        refine wpAnyH_take (i := 15) (v := ?_) rfl (by kernel_rfl) (by kernel_rfl) (by kernel_rfl) (fun _ _ _ h => h) (Or.inl ⟨by rfl, ?hy⟩) (by assumption) ?_
        case hy => intro w hSw; (try dsimp only at hSw); go_simp; try with_reducible rfl
        try simp only [Act.put, List.getElem_toArray, List.getElem_cons_succ, List.getElem_cons_zero, List.setIfInBounds_toArray, List.set_cons_zero, List.set_cons_succ]
        refine wpAnyH_ready (rs := [16]) (by kernel_rfl) (by simp) (AllReadyH.cons rfl (fun K hK => ?_) AllReadyH.nil)
        go_simp
        go_at_call 9; refine (HTK.out _ ((Below.refl _ _).drew)).mono ?_; rintro e w2 ⟨s2, rfl, ht2⟩
        try (go_wp2_with fail)
        refine hK.out _ _ ?_ (fun hHeld => ?_)
        · exact HD2.out _ _ _ ((Below.refl _ _).drew) ht2
        clear hK K
        try simp only [Act.put, List.getElem_toArray, List.getElem_cons_succ, List.getElem_cons_zero, List.setIfInBounds_toArray, List.set_cons_zero, List.set_cons_succ]
        refine wpAnyH_take (i := 17) (v := ?_) rfl (by kernel_rfl) (by kernel_rfl) (by kernel_rfl) (fun _ _ _ h => h) (Or.inl ⟨by rfl, ?hy⟩) (by assumption) ?_
        case hy => intro w hSw; (try dsimp only at hSw); go_simp; try with_reducible rfl
        try simp only [Act.put, List.getElem_toArray, List.getElem_cons_succ, List.getElem_cons_zero, List.setIfInBounds_toArray, List.set_cons_zero, List.set_cons_succ]
        refine wpAnyH_take (i := 18) (v := ?_) rfl (by kernel_rfl) (by kernel_rfl) (by kernel_rfl) (fun _ _ _ h => h) (Or.inl ⟨by rfl, ?hy⟩) (by assumption) ?_
        case hy => intro w hSw; (try dsimp only at hSw); go_simp; try with_reducible rfl
        try simp only [Act.put, List.getElem_toArray, List.getElem_cons_succ, List.getElem_cons_zero, List.setIfInBounds_toArray, List.set_cons_zero, List.set_cons_succ]
        refine wpAnyH_take (i := 19) (v := ?_) rfl (by kernel_rfl) (by kernel_rfl) (by kernel_rfl) (fun _ _ _ h => h) (Or.inl ⟨by rfl, ?hy⟩) (by assumption) ?_
        case hy => intro w hSw; (try dsimp only at hSw); go_simp; try with_reducible rfl
        try simp only [Act.put, List.getElem_toArray, List.getElem_cons_succ, List.getElem_cons_zero, List.setIfInBounds_toArray, List.set_cons_zero, List.set_cons_succ]
        refine wpAnyH_take (i := 20) (v := ?_) rfl (by kernel_rfl) (by kernel_rfl) (by kernel_rfl) (fun _ _ _ h => h) (Or.inl ⟨by rfl, ?hy⟩) (by assumption) ?_
        case hy => intro w hSw; (try dsimp only at hSw); go_simp; try with_reducible rfl
        try simp only [Act.put, List.getElem_toArray, List.getElem_cons_succ, List.getElem_cons_zero, List.setIfInBounds_toArray, List.set_cons_zero, List.set_cons_succ]
        refine wpAnyH_take (i := 21) (v := ?_) rfl (by kernel_rfl) (by kernel_rfl) (by kernel_rfl) (fun _ _ _ h => h) (Or.inl ⟨by rfl, ?hy⟩) (by assumption) ?_
        case hy => intro w hSw; (try dsimp only at hSw); go_simp; try with_reducible rfl
        try simp only [Act.put, List.getElem_toArray, List.getElem_cons_succ, List.getElem_cons_zero, List.setIfInBounds_toArray, List.set_cons_zero, List.set_cons_succ]
        refine wpAnyH_done (by kernel_rfl) ?_ _
        refine NoPanic.normal ?_
        have hb2 := (HB.out.below ((Below.refl _ _).drew)).take ht2
        have HB2 := Lib.hid hb2
        have HT2 := Lib.hid ht2
        by_cases hE0 : E = 0
        · subst hE0
          obtain ⟨hBB, hEE⟩ := HBE.out
          obtain ⟨⟨n0, n1⟩, hwe⟩ := lookHE_ok hEE
          obtain ⟨a0, a1, a2, a3'⟩ := hwE_ok hwe
          have HK64 := Lib.hid a3'
          obtain ⟨d0, d1, d2, d3⟩ := HDO.out w2 hb2.hti.bel
          have h9x := hb2.box
          clear hwe hBB hEE ht2 hb2 hHeld HTK HD2 a3'
          cases B with
          | true =>
            have HIV2 := Lib.hid (InvB.yes (kind := kd) HIV.out z0 HT2.out HBE.out.1 (by omega))
            have hl2 : s2.last = at_ := (HT2.out.last HBE.out.1).1
            have HL2 := Lib.hid hl2
            obtain ⟨i0, hi1, hz0, hz1, hz2⟩ := info_partsH info_deedH
            clear hl2
            go_wp2_with (at_builtin; refine wpList_append_where _ rfl (.tmp 67) (.tmp 72) 28 (by rfl) (w.heap.size + 1) 35 i0 (.agg #[.int .i64 0, .int .i64 0, .string ⟨#[]⟩, .int .i64 0]) 4 40 Try.underlying28 hi1 hz0 hz1 hz2 (by rfl) (by decide) (.slice aT T.length cT) T.length (flatT T) (by rfl) (below_ownH HB2.out.row ((Below.refl _ _).alloc (Nat.le_refl _) _)) ⟨_, 0, none⟩ 1 1 [.int .i64 kd, .int .i64 at_, .string key, .int .i64 n] (by rfl) (by rfl) (four_cellsH _ _ _ _ _ _) (by intro u hu; simp at hu; rcases hu with rfl | rfl | rfl | rfl <;> rfl) (by unfold maxLen; omega) (by omega) (by have := HB2.out.hti.bel.size; have := World.block_lt_of_cell? _ _ HB2.out.box; simp; omega) (by decide) ?_; intro v3 w9 hown3 hg3 hk3; have HN9 := Lib.hid (HbI.push (X := ⟨kd, at_, key, n⟩) HB2.out hg3 hown3 hk3); have h9x := HN9.out.box; obtain ⟨a3, cap3, rfl⟩ : ∃ a c, v3 = .slice a (T.length + 1) c := (by rcases hown3.2 with ⟨_, hz⟩ | ⟨g, c, cur, hz, _⟩; (· omega); (· exact ⟨_, _, hz⟩)))
            have HIVY := HIV2
            obtain ⟨ys, hys⟩ : ∃ ys, T ++ [(⟨kd, at_, key, n⟩ : TkS)] = ys := ⟨_, rfl⟩
            rw [hys] at HN9 HIVY
            have hyl : T.length + 1 = ys.length := by rw [← hys]; simp
            obtain ⟨n9, hn9⟩ : ∃ n9, T.length + 1 = n9 := ⟨_, rfl⟩
            rw [hn9] at HN9
            simp only [hn9]
            have HN9L := Lib.hid (show ys.length = n9 by omega)
            have hn9i : n9 ≤ i + 1 := by omega
            clear hown3 hg3 hk3 hz0 hz1 hz2 hi1 hys hyl hn9 HB2 HIV2 HT2 d0 d1 d2 d3 HIV HB HBE
            rw [show c.R.secs * 1000000 / 10 = c.R.secs * 100000 by omega]
            obtain ⟨bw, hbw⟩ : ∃ bw, c.R.secs * 100000 = bw := ⟨_, rfl⟩
            rw [hbw]
            have bw0 : 0 < bw := by omega
            have bw1 : bw ≤ 6000000 := by omega
            have HBW := Lib.hid hbw
            have hneb : (bw == 0) = false := by rw [beq_eq_false_iff_ne]; omega
            have HSM := Lib.hid (show ∀ (p : TkS → Bool) (k : Nat), 0 ≤ sumTk p (ys.take k) ∧ sumTk p (ys.take k) ≤ 87960930222080 from fun p k => by
              have hok : ∀ t, t ∈ ys.take k → 0 ≤ t.n ∧ t.n ≤ 1099511627776 := fun t ht => by have := HIVY.out.ok t (List.mem_of_mem_take ht); omega
              have h1 := sumTk_le (p := p) hok
              have h2 := sumTk_nonneg (p := p) (fun t ht => (hok t ht).1)
              have h3 : (ys.take k).length ≤ 80 := by rw [List.length_take]; have := HIVY.out.few; omega
              omega)
            have hz9 := HN9.out.hti.bel.size
            clear hbw
            go_loopw [11, 12, 14] (fun x11 x12 x14 wr => ∃ (k : Nat), k ≤ n9 ∧ x14 = .int .i64 k ∧ x11 = .int .i64 (sumTk (nearB' bw at_ key) (ys.take k)) ∧ x12 = .int .i64 (sumTk (inB' bw at_ key) (ys.take k)) ∧ Hid (Below w9.heap.size w9 wr)) (fun _ _ x14 _ => n9 - (intOf x14).toNat)
            case atStart => exact ⟨0, Nat.zero_le _, rfl, rfl, rfl, Lib.hid (Below.refl _ _)⟩
            case round =>
              rename World => wu
              obtain ⟨k, hk9, rfl, rfl, rfl, HBU⟩ := hrel
              obtain ⟨hs1a, hs1b⟩ := HSM.out (nearB' bw at_ key) k
              obtain ⟨hs2a, hs2b⟩ := HSM.out (inB' bw at_ key) k
              generalize hN1 : sumTk (nearB' bw at_ key) (ys.take k) = N1 at *
              generalize hI1 : sumTk (inB' bw at_ key) (ys.take k) = I1 at *
              have HN1 := Lib.hid hN1
              have HI1 := Lib.hid hI1
              have HBW9 := Lib.hid (HN9.out.hti.bel.trans (HBU.out.mono hz9))
              obtain ⟨_, d1, d2, _⟩ := HDO.out wu HBW9.out
              clear hN1 hI1
              by_cases hlk : k < n9
              · have hkl : k < ys.length := by rw [HN9L.out]; exact hlk
                have m0 : (0 : Int) ≤ k := by omega
                have m1 : (k : Int) < n9 := by omega
                obtain ⟨t, ht⟩ : ∃ t, ys[k]? = some t := ⟨_, List.getElem?_eq_getElem hkl⟩
                obtain ⟨g9, ha3, hg9⟩ : ∃ g, a3 = some ⟨g, 0, none⟩ ∧ g < w9.heap.size := by
                  rcases HN9.out.row.2 with ⟨hh, _⟩ | ⟨g, cp, cur, hh, _, hgg, _⟩
                  · exfalso; injection hh with h1 h2; omega
                  · injection hh with h1; exact ⟨g, h1, (Array.getElem?_eq_some_iff.1 hgg).1⟩
                subst ha3
                have hrow := HN9.out.row
                rw [HN9L.out] at hrow
                have r1 := (hrow.cellAt (k * 4 + 1) (by omega)).trans (flatT_get ht 1 (by omega))
                have r2 := (hrow.cellAt (k * 4 + 2) (by omega)).trans (flatT_get ht 2 (by omega))
                have r3 := (hrow.cellAt (k * 4 + 3) (by omega)).trans (flatT_get ht 3 (by omega))
                simp only [TkS.vals, List.getElem?_cons_zero, List.getElem?_cons_succ] at r1 r2 r3
                have r1 := (HBU.out.cell (p := ⟨g9, k * 4 + 1, none⟩) hg9).trans r1
                have r2 := (HBU.out.cell (p := ⟨g9, k * 4 + 2, none⟩) hg9).trans r2
                have r3 := (HBU.out.cell (p := ⟨g9, k * 4 + 3, none⟩) hg9).trans r3
                obtain ⟨t0, t1, t2, t3⟩ := HIVY.out.ok t (List.mem_of_getElem? ht)
                rw [HL2.out] at t1
                obtain ⟨X1, hX1⟩ : ∃ X1, at_ - t.at_ = X1 := ⟨_, rfl⟩
                obtain ⟨NB, hNB⟩ : ∃ NB, 9 * bw = NB := ⟨_, rfl⟩
                obtain ⟨Q1, hQ1⟩ : ∃ Q1, t.at_ / bw = Q1 := ⟨_, rfl⟩
                obtain ⟨Q2, hQ2⟩ : ∃ Q2, at_ / bw = Q2 := ⟨_, rfl⟩
                obtain ⟨Q3, hQ3⟩ : ∃ Q3, Q2 - 10 = Q3 := ⟨_, rfl⟩
                have q1a : 0 ≤ Q1 := by rw [← hQ1]; exact Int.ediv_nonneg t0 (by omega)
                have q1b : Q1 ≤ t.at_ := by rw [← hQ1]; exact Int.ediv_le_self _ t0
                have q2a : 0 ≤ Q2 := by rw [← hQ2]; exact Int.ediv_nonneg a0 (by omega)
                have q2b : Q2 ≤ at_ := by rw [← hQ2]; exact Int.ediv_le_self _ a0
                have e1 : IntKind.i64.wrap (at_ - t.at_) = X1 := by rw [hX1]; exact IntWalk.i64_in _ (by omega)
                have e2 : IntKind.i64.wrap (9 * bw) = NB := by rw [hNB]; exact IntWalk.i64_in _ (by omega)
                have e3 : IntKind.i64.wrap (t.at_.tdiv bw) = Q1 := by rw [Int.tdiv_eq_ediv_of_nonneg t0, hQ1]; exact IntWalk.i64_in _ (by omega)
                have e4 : IntKind.i64.wrap (at_.tdiv bw) = Q2 := by rw [Int.tdiv_eq_ediv_of_nonneg a0, hQ2]; exact IntWalk.i64_in _ (by omega)
                have e5 : IntKind.i64.wrap (Q2 - 10) = Q3 := by rw [hQ3]; exact IntWalk.i64_in _ (by omega)
                clear hrow hkl
                by_cases hkdy : t.key = key
                · have hkey : (t.key.toList == key.toList) = true := by rw [hkdy]; simp
                  have hkey2 : (t.key.toList != key.toList) = false := by rw [bne, hkey]; rfl
                  by_cases hnr : at_ - t.at_ < 9 * bw
                  · by_cases hiw : at_ / bw - 10 < t.at_ / bw
                    · have HK1 := Lib.hid (show sumTk (nearB' bw at_ key) (ys.take (k + 1)) = N1 + t.n by rw [sumTk_take ht, HN1.out]; unfold nearB'; rw [decide_eq_true hkdy, decide_eq_true hnr]; simp)
                      have HK2 := Lib.hid (show sumTk (inB' bw at_ key) (ys.take (k + 1)) = I1 + t.n by rw [sumTk_take ht, HI1.out]; unfold inB'; rw [decide_eq_true hkdy, decide_eq_true hiw]; simp)
                      have hnr2 : decide (X1 < NB) = true := by exact decide_eq_true (by omega)
                      have hiw2 : decide (Q3 < Q1) = true := by exact decide_eq_true (by omega)
                      clear hnr hiw hkdy ht hX1 hNB hQ1 hQ2 hQ3
                      go_wp2_with (fail)
                      go_quiet (fail)
                      have r1 : (wu.drewN nq).cell? ⟨g9, k * 4 + 1, none⟩ = some (.int .i64 t.at_) := r1
                      have r2 : (wu.drewN nq).cell? ⟨g9, k * 4 + 2, none⟩ = some (.string t.key) := r2
                      have r3 : (wu.drewN nq).cell? ⟨g9, k * 4 + 3, none⟩ = some (.int .i64 t.n) := r3
                      have d1 : (wu.drewN nq).cell? ⟨b, off + i * 4 + 1, none⟩ = some (.int .i64 at_) := d1
                      have d2 : (wu.drewN nq).cell? ⟨b, off + i * 4 + 2, none⟩ = some (.string key) := d2
                      have HBD := Lib.hid (show Below w9.heap.size w9 (wu.drewN nq) from below_drewFK HBU.out nq)
                      generalize wu.drewN nq = wv at *
                      go_wp2_with (fail)
                      go_quiet (fail)
                      have r1 : (wv.drewN nq).cell? ⟨g9, k * 4 + 1, none⟩ = some (.int .i64 t.at_) := r1
                      have r3 : (wv.drewN nq).cell? ⟨g9, k * 4 + 3, none⟩ = some (.int .i64 t.n) := r3
                      have d1 : (wv.drewN nq).cell? ⟨b, off + i * 4 + 1, none⟩ = some (.int .i64 at_) := d1
                      have HBD2 := Lib.hid (show Below w9.heap.size w9 (wv.drewN nq) from below_drewFK HBD.out nq)
                      generalize wv.drewN nq = wz at *
                      go_wp2_with (fail)
                      go_quiet (fail)
                      have r3 : (wz.drewN nq).cell? ⟨g9, k * 4 + 3, none⟩ = some (.int .i64 t.n) := r3
                      have HBD3 := Lib.hid (show Below w9.heap.size w9 (wz.drewN nq) from below_drewFK HBD2.out nq)
                      clear r1 r2 d1 d2
                      generalize wz.drewN nq = wt at *
                      go_wp2_with (fail)
                      exact ⟨⟨k + 1, by omega, by go_num, by rw [HK1.out], by rw [HK2.out], HBD3⟩, by first | (simp [intOf]; done) | (simp [intOf]; omega)⟩
                    · have HK1 := Lib.hid (show sumTk (nearB' bw at_ key) (ys.take (k + 1)) = N1 + t.n by rw [sumTk_take ht, HN1.out]; unfold nearB'; rw [decide_eq_true hkdy, decide_eq_true hnr]; simp)
                      have HK2 := Lib.hid (show sumTk (inB' bw at_ key) (ys.take (k + 1)) = I1 by rw [sumTk_take ht, HI1.out]; unfold inB'; rw [decide_eq_true hkdy, decide_eq_false hiw]; simp)
                      have hnr2 : decide (X1 < NB) = true := by exact decide_eq_true (by omega)
                      have hiw2 : decide (Q3 < Q1) = false := by exact decide_eq_false (by omega)
                      clear hnr hiw hkdy ht hX1 hNB hQ1 hQ2 hQ3
                      go_wp2_with (fail)
                      go_quiet (fail)
                      have r1 : (wu.drewN nq).cell? ⟨g9, k * 4 + 1, none⟩ = some (.int .i64 t.at_) := r1
                      have r2 : (wu.drewN nq).cell? ⟨g9, k * 4 + 2, none⟩ = some (.string t.key) := r2
                      have r3 : (wu.drewN nq).cell? ⟨g9, k * 4 + 3, none⟩ = some (.int .i64 t.n) := r3
                      have d1 : (wu.drewN nq).cell? ⟨b, off + i * 4 + 1, none⟩ = some (.int .i64 at_) := d1
                      have d2 : (wu.drewN nq).cell? ⟨b, off + i * 4 + 2, none⟩ = some (.string key) := d2
                      have HBD := Lib.hid (show Below w9.heap.size w9 (wu.drewN nq) from below_drewFK HBU.out nq)
                      generalize wu.drewN nq = wv at *
                      go_wp2_with (fail)
                      go_quiet (fail)
                      have r1 : (wv.drewN nq).cell? ⟨g9, k * 4 + 1, none⟩ = some (.int .i64 t.at_) := r1
                      have r3 : (wv.drewN nq).cell? ⟨g9, k * 4 + 3, none⟩ = some (.int .i64 t.n) := r3
                      have d1 : (wv.drewN nq).cell? ⟨b, off + i * 4 + 1, none⟩ = some (.int .i64 at_) := d1
                      have HBD2 := Lib.hid (show Below w9.heap.size w9 (wv.drewN nq) from below_drewFK HBD.out nq)
                      generalize wv.drewN nq = wz at *
                      go_wp2_with (fail)
                      go_quiet (fail)
                      have r3 : (wz.drewN nq).cell? ⟨g9, k * 4 + 3, none⟩ = some (.int .i64 t.n) := r3
                      have HBD3 := Lib.hid (show Below w9.heap.size w9 (wz.drewN nq) from below_drewFK HBD2.out nq)
                      clear r1 r2 d1 d2
                      generalize wz.drewN nq = wt at *
                      go_wp2_with (fail)
                      exact ⟨⟨k + 1, by omega, by go_num, by rw [HK1.out], by rw [HK2.out], HBD3⟩, by first | (simp [intOf]; done) | (simp [intOf]; omega)⟩
                  · by_cases hiw : at_ / bw - 10 < t.at_ / bw
                    · have HK1 := Lib.hid (show sumTk (nearB' bw at_ key) (ys.take (k + 1)) = N1 by rw [sumTk_take ht, HN1.out]; unfold nearB'; rw [decide_eq_true hkdy, decide_eq_false hnr]; simp)
                      have HK2 := Lib.hid (show sumTk (inB' bw at_ key) (ys.take (k + 1)) = I1 + t.n by rw [sumTk_take ht, HI1.out]; unfold inB'; rw [decide_eq_true hkdy, decide_eq_true hiw]; simp)
                      have hnr2 : decide (X1 < NB) = false := by exact decide_eq_false (by omega)
                      have hiw2 : decide (Q3 < Q1) = true := by exact decide_eq_true (by omega)
                      clear hnr hiw hkdy ht hX1 hNB hQ1 hQ2 hQ3
                      go_wp2_with (fail)
                      go_quiet (fail)
                      have r1 : (wu.drewN nq).cell? ⟨g9, k * 4 + 1, none⟩ = some (.int .i64 t.at_) := r1
                      have r2 : (wu.drewN nq).cell? ⟨g9, k * 4 + 2, none⟩ = some (.string t.key) := r2
                      have r3 : (wu.drewN nq).cell? ⟨g9, k * 4 + 3, none⟩ = some (.int .i64 t.n) := r3
                      have d1 : (wu.drewN nq).cell? ⟨b, off + i * 4 + 1, none⟩ = some (.int .i64 at_) := d1
                      have d2 : (wu.drewN nq).cell? ⟨b, off + i * 4 + 2, none⟩ = some (.string key) := d2
                      have HBD := Lib.hid (show Below w9.heap.size w9 (wu.drewN nq) from below_drewFK HBU.out nq)
                      generalize wu.drewN nq = wv at *
                      go_wp2_with (fail)
                      go_quiet (fail)
                      have r1 : (wv.drewN nq).cell? ⟨g9, k * 4 + 1, none⟩ = some (.int .i64 t.at_) := r1
                      have r3 : (wv.drewN nq).cell? ⟨g9, k * 4 + 3, none⟩ = some (.int .i64 t.n) := r3
                      have d1 : (wv.drewN nq).cell? ⟨b, off + i * 4 + 1, none⟩ = some (.int .i64 at_) := d1
                      have HBD2 := Lib.hid (show Below w9.heap.size w9 (wv.drewN nq) from below_drewFK HBD.out nq)
                      generalize wv.drewN nq = wz at *
                      go_wp2_with (fail)
                      go_quiet (fail)
                      have r3 : (wz.drewN nq).cell? ⟨g9, k * 4 + 3, none⟩ = some (.int .i64 t.n) := r3
                      have HBD3 := Lib.hid (show Below w9.heap.size w9 (wz.drewN nq) from below_drewFK HBD2.out nq)
                      clear r1 r2 d1 d2
                      generalize wz.drewN nq = wt at *
                      go_wp2_with (fail)
                      exact ⟨⟨k + 1, by omega, by go_num, by rw [HK1.out], by rw [HK2.out], HBD3⟩, by first | (simp [intOf]; done) | (simp [intOf]; omega)⟩
                    · have HK1 := Lib.hid (show sumTk (nearB' bw at_ key) (ys.take (k + 1)) = N1 by rw [sumTk_take ht, HN1.out]; unfold nearB'; rw [decide_eq_true hkdy, decide_eq_false hnr]; simp)
                      have HK2 := Lib.hid (show sumTk (inB' bw at_ key) (ys.take (k + 1)) = I1 by rw [sumTk_take ht, HI1.out]; unfold inB'; rw [decide_eq_true hkdy, decide_eq_false hiw]; simp)
                      have hnr2 : decide (X1 < NB) = false := by exact decide_eq_false (by omega)
                      have hiw2 : decide (Q3 < Q1) = false := by exact decide_eq_false (by omega)
                      clear hnr hiw hkdy ht hX1 hNB hQ1 hQ2 hQ3
                      go_wp2_with (fail)
                      go_quiet (fail)
                      have r1 : (wu.drewN nq).cell? ⟨g9, k * 4 + 1, none⟩ = some (.int .i64 t.at_) := r1
                      have r2 : (wu.drewN nq).cell? ⟨g9, k * 4 + 2, none⟩ = some (.string t.key) := r2
                      have r3 : (wu.drewN nq).cell? ⟨g9, k * 4 + 3, none⟩ = some (.int .i64 t.n) := r3
                      have d1 : (wu.drewN nq).cell? ⟨b, off + i * 4 + 1, none⟩ = some (.int .i64 at_) := d1
                      have d2 : (wu.drewN nq).cell? ⟨b, off + i * 4 + 2, none⟩ = some (.string key) := d2
                      have HBD := Lib.hid (show Below w9.heap.size w9 (wu.drewN nq) from below_drewFK HBU.out nq)
                      generalize wu.drewN nq = wv at *
                      go_wp2_with (fail)
                      go_quiet (fail)
                      have r1 : (wv.drewN nq).cell? ⟨g9, k * 4 + 1, none⟩ = some (.int .i64 t.at_) := r1
                      have r3 : (wv.drewN nq).cell? ⟨g9, k * 4 + 3, none⟩ = some (.int .i64 t.n) := r3
                      have d1 : (wv.drewN nq).cell? ⟨b, off + i * 4 + 1, none⟩ = some (.int .i64 at_) := d1
                      have HBD2 := Lib.hid (show Below w9.heap.size w9 (wv.drewN nq) from below_drewFK HBD.out nq)
                      generalize wv.drewN nq = wz at *
                      go_wp2_with (fail)
                      go_quiet (fail)
                      have r3 : (wz.drewN nq).cell? ⟨g9, k * 4 + 3, none⟩ = some (.int .i64 t.n) := r3
                      have HBD3 := Lib.hid (show Below w9.heap.size w9 (wz.drewN nq) from below_drewFK HBD2.out nq)
                      clear r1 r2 d1 d2
                      generalize wz.drewN nq = wt at *
                      go_wp2_with (fail)
                      exact ⟨⟨k + 1, by omega, by go_num, by rw [HK1.out], by rw [HK2.out], HBD3⟩, by first | (simp [intOf]; done) | (simp [intOf]; omega)⟩
                · have hkey : (t.key.toList == key.toList) = false := by
                    rw [beq_eq_false_iff_ne]
                    exact fun e => hkdy (toList_injK e)
                  have hkey2 : (t.key.toList != key.toList) = true := by rw [bne, hkey]; rfl
                  have HK1 := Lib.hid (show sumTk (nearB' bw at_ key) (ys.take (k + 1)) = N1 by rw [sumTk_take ht, HN1.out]; unfold nearB'; rw [decide_eq_false hkdy]; simp)
                  have HK2 := Lib.hid (show sumTk (inB' bw at_ key) (ys.take (k + 1)) = I1 by rw [sumTk_take ht, HI1.out]; unfold inB'; rw [decide_eq_false hkdy]; simp)
                  clear hkdy ht hX1 hNB hQ1 hQ2 hQ3
                  go_wp2_with (fail)
                  go_quiet (fail)
                  have HBD := Lib.hid (show Below w9.heap.size w9 (wu.drewN nq) from below_drewFK HBU.out nq)
                  clear r1 r2 r3 d1 d2
                  generalize wu.drewN nq = wv at *
                  go_wp2_with (fail)
                  exact ⟨⟨k + 1, by omega, by go_num, by rw [HK1.out], by rw [HK2.out], HBD⟩, by first | (simp [intOf]; done) | (simp [intOf]; omega)⟩
              · have m1 : ¬ (k : Int) < n9 := by omega
                have eall : ys.take k = ys := List.take_of_length_le (by rw [HN9L.out]; omega)
                rw [eall] at HN1 HI1
                have HNU := Lib.hid (HN9.out.below HBU.out)
                have HUS0 := fun (wx : World) (h : Below wu.heap.size wu wx) => hUsed_any (HNU.out.below h).hti.hot at_ key HSZ.out
                have hwE0 : hwE s2.last at_ key = 0 := by
                  unfold hwE
                  rw [HL2.out, if_neg (by omega), if_neg (by have := HK64.out; omega), if_neg (by omega)]
                simp only [hwE0, if_true] at HUS0
                have hu1 := HIVY.out.used z0 (at_ := at_) (by rw [HL2.out]; exact Int.le_refl _) key
                have hu2 := HIVY.out.near key at_ (by rw [HL2.out]; exact Int.le_refl _)
                rw [HBW.out] at hu1 hu2
                rw [HI1.out] at hu1
                rw [HN1.out] at hu2
                have HUS := Lib.hid HUS0
                have HLM := Lib.hid (fun (wx : World) (h : Below wu.heap.size wu wx) => hLimit_any (HNU.out.below h).hti.hot key)
                generalize usedH c s2 at_ key = U at *
                generalize limI c.R key = LM at *
                have u1 : ¬ U < I1 := by omega
                have u2 : ¬ LM < N1 := by omega
                have HD5 := Lib.hid (fun (wx w5 : World) (hx : Below wu.heap.size wu wx) (h : Below wx.heap.size wx w5) => (show w5.cell? ⟨b, off + i * 4 + 1, none⟩ = some (.int .i64 at_) ∧ w5.cell? ⟨b, off + i * 4 + 2, none⟩ = some (.string key) from by
                  have hb := HBW9.out.trans ((hx.mono HBW9.out.size).trans (h.mono (Nat.le_trans HBW9.out.size hx.size)))
                  exact ⟨(HDO.out w5 hb).2.1, (HDO.out w5 hb).2.2.1⟩))
                clear eall HUS0 hwE0 hu1 hu2
                go_wp2_with (fail)
                refine wp_region_noPanic ?_
                refine wp_region_held_drew (S := (fun wx => (wx.cell? ⟨b, off + i * 4 + 1, none⟩ = some (.int .i64 at_) ∧ wx.cell? ⟨b, off + i * 4 + 2, none⟩ = some (.string key)))) (by kernel_rfl) ?_ (fun hHeld => ?_)
                · exact ⟨d1, d2⟩
                refine wpAnyH_take (i := 0) (v := ?_) rfl (by kernel_rfl) (by kernel_rfl) (by kernel_rfl) (fun _ _ _ h => h) (Or.inl ⟨by rfl, ?hy⟩) (by assumption) ?_
                case hy => intro w hSw; (try dsimp only at hSw); go_simp; try with_reducible rfl
                try simp only [Act.put, List.getElem_toArray, List.getElem_cons_succ, List.getElem_cons_zero, List.setIfInBounds_toArray, List.set_cons_zero, List.set_cons_succ]
                refine wpAnyH_take (i := 1) (v := ?_) rfl (by kernel_rfl) (by kernel_rfl) (by kernel_rfl) (fun _ _ _ h => h) (Or.inl ⟨by rfl, ?hy⟩) (by assumption) ?_
                case hy => intro w hSw; (try dsimp only at hSw); go_simp; try with_reducible rfl
                try simp only [Act.put, List.getElem_toArray, List.getElem_cons_succ, List.getElem_cons_zero, List.setIfInBounds_toArray, List.set_cons_zero, List.set_cons_succ]
                refine wpAnyH_take (i := 2) (v := ?_) rfl (by kernel_rfl) (by kernel_rfl) (by kernel_rfl) (fun _ _ _ h => h) (Or.inl ⟨by rfl, ?hy⟩) (by assumption) ?_
                case hy => intro w hSw; (try dsimp only at hSw); go_simp; try with_reducible rfl
                try simp only [Act.put, List.getElem_toArray, List.getElem_cons_succ, List.getElem_cons_zero, List.setIfInBounds_toArray, List.set_cons_zero, List.set_cons_succ]
                refine wpAnyH_take (i := 3) (v := ?_) rfl (by kernel_rfl) (by kernel_rfl) (by kernel_rfl) (fun _ _ _ h => h) (Or.inl ⟨by rfl, ?hy⟩) (by assumption) ?_
                case hy => intro w hSw; (try dsimp only at hSw); go_simp; try with_reducible rfl
                try simp only [Act.put, List.getElem_toArray, List.getElem_cons_succ, List.getElem_cons_zero, List.setIfInBounds_toArray, List.set_cons_zero, List.set_cons_succ]
                refine wpAnyH_take (i := 4) (v := ?_) rfl (by kernel_rfl) (by kernel_rfl) (by kernel_rfl) (fun _ _ _ h => h) (Or.inl ⟨by rfl, ?hy⟩) (by assumption) ?_
                case hy => intro w hSw; (try dsimp only at hSw); go_simp; try with_reducible rfl
                try simp only [Act.put, List.getElem_toArray, List.getElem_cons_succ, List.getElem_cons_zero, List.setIfInBounds_toArray, List.set_cons_zero, List.set_cons_succ]
                refine wpAnyH_take (i := 5) (v := ?_) rfl (by kernel_rfl) (by kernel_rfl) (by kernel_rfl) (fun _ _ _ h => h) (Or.inl ⟨by rfl, ?hy⟩) (by assumption) ?_
                case hy => intro w hSw; (try dsimp only at hSw); go_simp; try with_reducible rfl
                try simp only [Act.put, List.getElem_toArray, List.getElem_cons_succ, List.getElem_cons_zero, List.setIfInBounds_toArray, List.set_cons_zero, List.set_cons_succ]
                refine wpAnyH_take (i := 6) (v := ?_) rfl (by kernel_rfl) (by kernel_rfl) (by kernel_rfl) (fun _ _ _ h => h) (Or.inl ⟨by rfl, ?hy⟩) (by assumption) ?_
                case hy => intro w hSw; (try dsimp only at hSw); go_simp; try with_reducible rfl
                try simp only [Act.put, List.getElem_toArray, List.getElem_cons_succ, List.getElem_cons_zero, List.setIfInBounds_toArray, List.set_cons_zero, List.set_cons_succ]
                refine wpAnyH_take (i := 7) (v := ?_) rfl (by kernel_rfl) (by kernel_rfl) (by kernel_rfl) (fun _ _ _ h => h) (Or.inl ⟨by rfl, ?hy⟩) (by assumption) ?_
                case hy => intro w hSw; (try dsimp only at hSw); go_simp; try with_reducible rfl
                try simp only [Act.put, List.getElem_toArray, List.getElem_cons_succ, List.getElem_cons_zero, List.setIfInBounds_toArray, List.set_cons_zero, List.set_cons_succ]
                refine wpAnyH_take (i := 8) (v := ?_) rfl (by kernel_rfl) (by kernel_rfl) (by kernel_rfl) (fun _ _ _ h => h) (Or.inl ⟨by rfl, ?hy⟩) (by assumption) ?_
                case hy => intro w hSw; (try dsimp only at hSw); go_simp; try with_reducible rfl
                try simp only [Act.put, List.getElem_toArray, List.getElem_cons_succ, List.getElem_cons_zero, List.setIfInBounds_toArray, List.set_cons_zero, List.set_cons_succ]
                refine wpAnyH_take (i := 9) (v := ?_) rfl (by kernel_rfl) (by kernel_rfl) (by kernel_rfl) (fun _ _ _ h => h) (Or.inl ⟨by rfl, ?hy⟩) (by assumption) ?_
                case hy => intro w hSw; (try dsimp only at hSw); go_simp; try with_reducible rfl
                try simp only [Act.put, List.getElem_toArray, List.getElem_cons_succ, List.getElem_cons_zero, List.setIfInBounds_toArray, List.set_cons_zero, List.set_cons_succ]
                refine wpAnyH_take (i := 10) (v := ?_) rfl (by kernel_rfl) (by kernel_rfl) (by kernel_rfl) (fun _ _ _ h => h) (Or.inl ⟨by rfl, ?hy⟩) (by assumption) ?_
                case hy => intro w hSw; (try dsimp only at hSw); go_simp; try with_reducible rfl
                try simp only [Act.put, List.getElem_toArray, List.getElem_cons_succ, List.getElem_cons_zero, List.setIfInBounds_toArray, List.set_cons_zero, List.set_cons_succ]
                refine wpAnyH_ready (rs := [11]) (by kernel_rfl) (by simp) (AllReadyH.cons rfl (fun K hK => ?_) AllReadyH.nil)
                go_simp
                go_at_call 10; refine (HUS.out _ ((Below.refl _ _).drew)).mono ?_; rintro e w5 ⟨rfl, h5⟩
                try (go_wp2_with fail)
                refine hK.out _ _ ?_ (fun hHeld => ?_)
                · exact HD5.out _ _ ((Below.refl _ _).drew) h5
                clear hK K
                try simp only [Act.put, List.getElem_toArray, List.getElem_cons_succ, List.getElem_cons_zero, List.setIfInBounds_toArray, List.set_cons_zero, List.set_cons_succ]
                refine wpAnyH_take (i := 12) (v := ?_) rfl (by kernel_rfl) (by kernel_rfl) (by kernel_rfl) (fun _ _ _ h => h) (Or.inl ⟨by rfl, ?hy⟩) (by assumption) ?_
                case hy => intro w hSw; (try dsimp only at hSw); go_simp; try with_reducible rfl
                try simp only [Act.put, List.getElem_toArray, List.getElem_cons_succ, List.getElem_cons_zero, List.setIfInBounds_toArray, List.set_cons_zero, List.set_cons_succ]
                refine wpAnyH_take (i := 13) (v := ?_) rfl (by kernel_rfl) (by kernel_rfl) (by kernel_rfl) (fun _ _ _ h => h) (Or.inl ⟨by rfl, ?hy⟩) (by assumption) ?_
                case hy => intro w hSw; (try dsimp only at hSw); go_simp; try with_reducible rfl
                try simp only [Act.put, List.getElem_toArray, List.getElem_cons_succ, List.getElem_cons_zero, List.setIfInBounds_toArray, List.set_cons_zero, List.set_cons_succ]
                refine wpAnyH_take (i := 14) (v := ?_) rfl (by kernel_rfl) (by kernel_rfl) (by kernel_rfl) (fun _ _ _ h => h) (Or.inl ⟨by rfl, ?hy⟩) (by assumption) ?_
                case hy => intro w hSw; (try dsimp only at hSw); go_simp; try with_reducible rfl
                try simp only [Act.put, List.getElem_toArray, List.getElem_cons_succ, List.getElem_cons_zero, List.setIfInBounds_toArray, List.set_cons_zero, List.set_cons_succ]
                refine wpAnyH_take (i := 15) (v := ?_) rfl (by kernel_rfl) (by kernel_rfl) (by kernel_rfl) (fun _ _ _ h => h) (Or.inl ⟨by rfl, ?hy⟩) (by assumption) ?_
                case hy => intro w hSw; (try dsimp only at hSw); go_simp; try with_reducible rfl
                try simp only [Act.put, List.getElem_toArray, List.getElem_cons_succ, List.getElem_cons_zero, List.setIfInBounds_toArray, List.set_cons_zero, List.set_cons_succ]
                refine wpAnyH_take (i := 16) (v := ?_) rfl (by kernel_rfl) (by kernel_rfl) (by kernel_rfl) (fun _ _ _ h => h) (Or.inl ⟨by rfl, ?hy⟩) (by assumption) ?_
                case hy => intro w hSw; (try dsimp only at hSw); go_simp; try with_reducible rfl
                try simp only [Act.put, List.getElem_toArray, List.getElem_cons_succ, List.getElem_cons_zero, List.setIfInBounds_toArray, List.set_cons_zero, List.set_cons_succ]
                refine wpAnyH_done (by kernel_rfl) ?_ _
                refine NoPanic.normal ?_
                have h05 : Below wu.heap.size wu w5 := (Below.refl _ _).drew.trans (h5.mono (Nat.le_refl _))
                have HN5 := Lib.hid (HNU.out.below h05)
                have HLM5 := Lib.hid (HLM.out w5 h05)
                obtain ⟨d1, d2⟩ := hHeld
                clear h5 h05 HUS HLM HD5 HNU
                go_wp2_with (fail)
                refine HLM5.out.mono ?_
                rintro e w6 ⟨rfl, h6⟩
                have HN6 := Lib.hid (HN5.out.below h6)
                clear h6 HLM5 HN5
                go_wp2_with (fail)
                exact ⟨⟨i + 1, s2, ys, a3, cap3, by omega, by omega, by go_num, by rw [HN9L.out], by rw [HN9L.out]; omega, by rw [HN9L.out]; exact HN6, HIVY⟩, by first | (simp [intOf]; done) | (simp [intOf]; omega)⟩
          | false =>
            have hs2 := HT2.out.no HBE.out.2 HBE.out.1
            have HIVY := Lib.hid (show InvB c s2 T by rw [hs2]; exact HIV.out.later a2)
            have HL2 := Lib.hid (show s2.last = at_ by rw [hs2])
            clear hs2
            go_wp2_with (fail)
            obtain ⟨w9, hw9e⟩ : ∃ w9, w9 = w2 := ⟨_, rfl⟩
            have HN9 : Hid (HbI w w9 c s2 T (.slice aT T.length cT)) := Lib.hid (hw9e ▸ HB2.out)
            rw [← hw9e]
            have h9x := HN9.out.box
            obtain ⟨n9, hn9⟩ : ∃ n9, T.length = n9 := ⟨_, rfl⟩
            rw [hn9] at HN9
            simp only [hn9]
            have HN9L := Lib.hid (show T.length = n9 by omega)
            have hn9i : n9 ≤ i + 1 := by omega
            obtain ⟨ys, hys⟩ : ∃ ys, ys = T := ⟨_, rfl⟩
            subst hys
            obtain ⟨a3, ha3e⟩ : ∃ a3, a3 = aT := ⟨_, rfl⟩
            subst ha3e
            obtain ⟨cap3, hc3⟩ : ∃ cap3, cap3 = cT := ⟨_, rfl⟩
            subst hc3
            clear hn9 hw9e HB2 HT2 d0 d1 d2 d3 HIV HB HBE
            rw [show c.R.secs * 1000000 / 10 = c.R.secs * 100000 by omega]
            obtain ⟨bw, hbw⟩ : ∃ bw, c.R.secs * 100000 = bw := ⟨_, rfl⟩
            rw [hbw]
            have bw0 : 0 < bw := by omega
            have bw1 : bw ≤ 6000000 := by omega
            have HBW := Lib.hid hbw
            have hneb : (bw == 0) = false := by rw [beq_eq_false_iff_ne]; omega
            have HSM := Lib.hid (show ∀ (p : TkS → Bool) (k : Nat), 0 ≤ sumTk p (ys.take k) ∧ sumTk p (ys.take k) ≤ 87960930222080 from fun p k => by
              have hok : ∀ t, t ∈ ys.take k → 0 ≤ t.n ∧ t.n ≤ 1099511627776 := fun t ht => by have := HIVY.out.ok t (List.mem_of_mem_take ht); omega
              have h1 := sumTk_le (p := p) hok
              have h2 := sumTk_nonneg (p := p) (fun t ht => (hok t ht).1)
              have h3 : (ys.take k).length ≤ 80 := by rw [List.length_take]; have := HIVY.out.few; omega
              omega)
            have hz9 := HN9.out.hti.bel.size
            clear hbw
            go_loopw [11, 12, 14] (fun x11 x12 x14 wr => ∃ (k : Nat), k ≤ n9 ∧ x14 = .int .i64 k ∧ x11 = .int .i64 (sumTk (nearB' bw at_ key) (ys.take k)) ∧ x12 = .int .i64 (sumTk (inB' bw at_ key) (ys.take k)) ∧ Hid (Below w9.heap.size w9 wr)) (fun _ _ x14 _ => n9 - (intOf x14).toNat)
            case atStart => exact ⟨0, Nat.zero_le _, rfl, rfl, rfl, Lib.hid (Below.refl _ _)⟩
            case round =>
              rename World => wu
              obtain ⟨k, hk9, rfl, rfl, rfl, HBU⟩ := hrel
              obtain ⟨hs1a, hs1b⟩ := HSM.out (nearB' bw at_ key) k
              obtain ⟨hs2a, hs2b⟩ := HSM.out (inB' bw at_ key) k
              generalize hN1 : sumTk (nearB' bw at_ key) (ys.take k) = N1 at *
              generalize hI1 : sumTk (inB' bw at_ key) (ys.take k) = I1 at *
              have HN1 := Lib.hid hN1
              have HI1 := Lib.hid hI1
              have HBW9 := Lib.hid (HN9.out.hti.bel.trans (HBU.out.mono hz9))
              obtain ⟨_, d1, d2, _⟩ := HDO.out wu HBW9.out
              clear hN1 hI1
              by_cases hlk : k < n9
              · have hkl : k < ys.length := by rw [HN9L.out]; exact hlk
                have m0 : (0 : Int) ≤ k := by omega
                have m1 : (k : Int) < n9 := by omega
                obtain ⟨t, ht⟩ : ∃ t, ys[k]? = some t := ⟨_, List.getElem?_eq_getElem hkl⟩
                obtain ⟨g9, ha3, hg9⟩ : ∃ g, a3 = some ⟨g, 0, none⟩ ∧ g < w9.heap.size := by
                  rcases HN9.out.row.2 with ⟨hh, _⟩ | ⟨g, cp, cur, hh, _, hgg, _⟩
                  · exfalso; injection hh with h1 h2; omega
                  · injection hh with h1; exact ⟨g, h1, (Array.getElem?_eq_some_iff.1 hgg).1⟩
                subst ha3
                have hrow := HN9.out.row
                rw [HN9L.out] at hrow
                have r1 := (hrow.cellAt (k * 4 + 1) (by omega)).trans (flatT_get ht 1 (by omega))
                have r2 := (hrow.cellAt (k * 4 + 2) (by omega)).trans (flatT_get ht 2 (by omega))
                have r3 := (hrow.cellAt (k * 4 + 3) (by omega)).trans (flatT_get ht 3 (by omega))
                simp only [TkS.vals, List.getElem?_cons_zero, List.getElem?_cons_succ] at r1 r2 r3
                have r1 := (HBU.out.cell (p := ⟨g9, k * 4 + 1, none⟩) hg9).trans r1
                have r2 := (HBU.out.cell (p := ⟨g9, k * 4 + 2, none⟩) hg9).trans r2
                have r3 := (HBU.out.cell (p := ⟨g9, k * 4 + 3, none⟩) hg9).trans r3
                obtain ⟨t0, t1, t2, t3⟩ := HIVY.out.ok t (List.mem_of_getElem? ht)
                rw [HL2.out] at t1
                obtain ⟨X1, hX1⟩ : ∃ X1, at_ - t.at_ = X1 := ⟨_, rfl⟩
                obtain ⟨NB, hNB⟩ : ∃ NB, 9 * bw = NB := ⟨_, rfl⟩
                obtain ⟨Q1, hQ1⟩ : ∃ Q1, t.at_ / bw = Q1 := ⟨_, rfl⟩
                obtain ⟨Q2, hQ2⟩ : ∃ Q2, at_ / bw = Q2 := ⟨_, rfl⟩
                obtain ⟨Q3, hQ3⟩ : ∃ Q3, Q2 - 10 = Q3 := ⟨_, rfl⟩
                have q1a : 0 ≤ Q1 := by rw [← hQ1]; exact Int.ediv_nonneg t0 (by omega)
                have q1b : Q1 ≤ t.at_ := by rw [← hQ1]; exact Int.ediv_le_self _ t0
                have q2a : 0 ≤ Q2 := by rw [← hQ2]; exact Int.ediv_nonneg a0 (by omega)
                have q2b : Q2 ≤ at_ := by rw [← hQ2]; exact Int.ediv_le_self _ a0
                have e1 : IntKind.i64.wrap (at_ - t.at_) = X1 := by rw [hX1]; exact IntWalk.i64_in _ (by omega)
                have e2 : IntKind.i64.wrap (9 * bw) = NB := by rw [hNB]; exact IntWalk.i64_in _ (by omega)
                have e3 : IntKind.i64.wrap (t.at_.tdiv bw) = Q1 := by rw [Int.tdiv_eq_ediv_of_nonneg t0, hQ1]; exact IntWalk.i64_in _ (by omega)
                have e4 : IntKind.i64.wrap (at_.tdiv bw) = Q2 := by rw [Int.tdiv_eq_ediv_of_nonneg a0, hQ2]; exact IntWalk.i64_in _ (by omega)
                have e5 : IntKind.i64.wrap (Q2 - 10) = Q3 := by rw [hQ3]; exact IntWalk.i64_in _ (by omega)
                clear hrow hkl
                by_cases hkdy : t.key = key
                · have hkey : (t.key.toList == key.toList) = true := by rw [hkdy]; simp
                  have hkey2 : (t.key.toList != key.toList) = false := by rw [bne, hkey]; rfl
                  by_cases hnr : at_ - t.at_ < 9 * bw
                  · by_cases hiw : at_ / bw - 10 < t.at_ / bw
                    · have HK1 := Lib.hid (show sumTk (nearB' bw at_ key) (ys.take (k + 1)) = N1 + t.n by rw [sumTk_take ht, HN1.out]; unfold nearB'; rw [decide_eq_true hkdy, decide_eq_true hnr]; simp)
                      have HK2 := Lib.hid (show sumTk (inB' bw at_ key) (ys.take (k + 1)) = I1 + t.n by rw [sumTk_take ht, HI1.out]; unfold inB'; rw [decide_eq_true hkdy, decide_eq_true hiw]; simp)
                      have hnr2 : decide (X1 < NB) = true := by exact decide_eq_true (by omega)
                      have hiw2 : decide (Q3 < Q1) = true := by exact decide_eq_true (by omega)
                      clear hnr hiw hkdy ht hX1 hNB hQ1 hQ2 hQ3
                      go_wp2_with (fail)
                      go_quiet (fail)
                      have r1 : (wu.drewN nq).cell? ⟨g9, k * 4 + 1, none⟩ = some (.int .i64 t.at_) := r1
                      have r2 : (wu.drewN nq).cell? ⟨g9, k * 4 + 2, none⟩ = some (.string t.key) := r2
                      have r3 : (wu.drewN nq).cell? ⟨g9, k * 4 + 3, none⟩ = some (.int .i64 t.n) := r3
                      have d1 : (wu.drewN nq).cell? ⟨b, off + i * 4 + 1, none⟩ = some (.int .i64 at_) := d1
                      have d2 : (wu.drewN nq).cell? ⟨b, off + i * 4 + 2, none⟩ = some (.string key) := d2
                      have HBD := Lib.hid (show Below w9.heap.size w9 (wu.drewN nq) from below_drewFK HBU.out nq)
                      generalize wu.drewN nq = wv at *
                      go_wp2_with (fail)
                      go_quiet (fail)
                      have r1 : (wv.drewN nq).cell? ⟨g9, k * 4 + 1, none⟩ = some (.int .i64 t.at_) := r1
                      have r3 : (wv.drewN nq).cell? ⟨g9, k * 4 + 3, none⟩ = some (.int .i64 t.n) := r3
                      have d1 : (wv.drewN nq).cell? ⟨b, off + i * 4 + 1, none⟩ = some (.int .i64 at_) := d1
                      have HBD2 := Lib.hid (show Below w9.heap.size w9 (wv.drewN nq) from below_drewFK HBD.out nq)
                      generalize wv.drewN nq = wz at *
                      go_wp2_with (fail)
                      go_quiet (fail)
                      have r3 : (wz.drewN nq).cell? ⟨g9, k * 4 + 3, none⟩ = some (.int .i64 t.n) := r3
                      have HBD3 := Lib.hid (show Below w9.heap.size w9 (wz.drewN nq) from below_drewFK HBD2.out nq)
                      clear r1 r2 d1 d2
                      generalize wz.drewN nq = wt at *
                      go_wp2_with (fail)
                      exact ⟨⟨k + 1, by omega, by go_num, by rw [HK1.out], by rw [HK2.out], HBD3⟩, by first | (simp [intOf]; done) | (simp [intOf]; omega)⟩
                    · have HK1 := Lib.hid (show sumTk (nearB' bw at_ key) (ys.take (k + 1)) = N1 + t.n by rw [sumTk_take ht, HN1.out]; unfold nearB'; rw [decide_eq_true hkdy, decide_eq_true hnr]; simp)
                      have HK2 := Lib.hid (show sumTk (inB' bw at_ key) (ys.take (k + 1)) = I1 by rw [sumTk_take ht, HI1.out]; unfold inB'; rw [decide_eq_true hkdy, decide_eq_false hiw]; simp)
                      have hnr2 : decide (X1 < NB) = true := by exact decide_eq_true (by omega)
                      have hiw2 : decide (Q3 < Q1) = false := by exact decide_eq_false (by omega)
                      clear hnr hiw hkdy ht hX1 hNB hQ1 hQ2 hQ3
                      go_wp2_with (fail)
                      go_quiet (fail)
                      have r1 : (wu.drewN nq).cell? ⟨g9, k * 4 + 1, none⟩ = some (.int .i64 t.at_) := r1
                      have r2 : (wu.drewN nq).cell? ⟨g9, k * 4 + 2, none⟩ = some (.string t.key) := r2
                      have r3 : (wu.drewN nq).cell? ⟨g9, k * 4 + 3, none⟩ = some (.int .i64 t.n) := r3
                      have d1 : (wu.drewN nq).cell? ⟨b, off + i * 4 + 1, none⟩ = some (.int .i64 at_) := d1
                      have d2 : (wu.drewN nq).cell? ⟨b, off + i * 4 + 2, none⟩ = some (.string key) := d2
                      have HBD := Lib.hid (show Below w9.heap.size w9 (wu.drewN nq) from below_drewFK HBU.out nq)
                      generalize wu.drewN nq = wv at *
                      go_wp2_with (fail)
                      go_quiet (fail)
                      have r1 : (wv.drewN nq).cell? ⟨g9, k * 4 + 1, none⟩ = some (.int .i64 t.at_) := r1
                      have r3 : (wv.drewN nq).cell? ⟨g9, k * 4 + 3, none⟩ = some (.int .i64 t.n) := r3
                      have d1 : (wv.drewN nq).cell? ⟨b, off + i * 4 + 1, none⟩ = some (.int .i64 at_) := d1
                      have HBD2 := Lib.hid (show Below w9.heap.size w9 (wv.drewN nq) from below_drewFK HBD.out nq)
                      generalize wv.drewN nq = wz at *
                      go_wp2_with (fail)
                      go_quiet (fail)
                      have r3 : (wz.drewN nq).cell? ⟨g9, k * 4 + 3, none⟩ = some (.int .i64 t.n) := r3
                      have HBD3 := Lib.hid (show Below w9.heap.size w9 (wz.drewN nq) from below_drewFK HBD2.out nq)
                      clear r1 r2 d1 d2
                      generalize wz.drewN nq = wt at *
                      go_wp2_with (fail)
                      exact ⟨⟨k + 1, by omega, by go_num, by rw [HK1.out], by rw [HK2.out], HBD3⟩, by first | (simp [intOf]; done) | (simp [intOf]; omega)⟩
                  · by_cases hiw : at_ / bw - 10 < t.at_ / bw
                    · have HK1 := Lib.hid (show sumTk (nearB' bw at_ key) (ys.take (k + 1)) = N1 by rw [sumTk_take ht, HN1.out]; unfold nearB'; rw [decide_eq_true hkdy, decide_eq_false hnr]; simp)
                      have HK2 := Lib.hid (show sumTk (inB' bw at_ key) (ys.take (k + 1)) = I1 + t.n by rw [sumTk_take ht, HI1.out]; unfold inB'; rw [decide_eq_true hkdy, decide_eq_true hiw]; simp)
                      have hnr2 : decide (X1 < NB) = false := by exact decide_eq_false (by omega)
                      have hiw2 : decide (Q3 < Q1) = true := by exact decide_eq_true (by omega)
                      clear hnr hiw hkdy ht hX1 hNB hQ1 hQ2 hQ3
                      go_wp2_with (fail)
                      go_quiet (fail)
                      have r1 : (wu.drewN nq).cell? ⟨g9, k * 4 + 1, none⟩ = some (.int .i64 t.at_) := r1
                      have r2 : (wu.drewN nq).cell? ⟨g9, k * 4 + 2, none⟩ = some (.string t.key) := r2
                      have r3 : (wu.drewN nq).cell? ⟨g9, k * 4 + 3, none⟩ = some (.int .i64 t.n) := r3
                      have d1 : (wu.drewN nq).cell? ⟨b, off + i * 4 + 1, none⟩ = some (.int .i64 at_) := d1
                      have d2 : (wu.drewN nq).cell? ⟨b, off + i * 4 + 2, none⟩ = some (.string key) := d2
                      have HBD := Lib.hid (show Below w9.heap.size w9 (wu.drewN nq) from below_drewFK HBU.out nq)
                      generalize wu.drewN nq = wv at *
                      go_wp2_with (fail)
                      go_quiet (fail)
                      have r1 : (wv.drewN nq).cell? ⟨g9, k * 4 + 1, none⟩ = some (.int .i64 t.at_) := r1
                      have r3 : (wv.drewN nq).cell? ⟨g9, k * 4 + 3, none⟩ = some (.int .i64 t.n) := r3
                      have d1 : (wv.drewN nq).cell? ⟨b, off + i * 4 + 1, none⟩ = some (.int .i64 at_) := d1
                      have HBD2 := Lib.hid (show Below w9.heap.size w9 (wv.drewN nq) from below_drewFK HBD.out nq)
                      generalize wv.drewN nq = wz at *
                      go_wp2_with (fail)
                      go_quiet (fail)
                      have r3 : (wz.drewN nq).cell? ⟨g9, k * 4 + 3, none⟩ = some (.int .i64 t.n) := r3
                      have HBD3 := Lib.hid (show Below w9.heap.size w9 (wz.drewN nq) from below_drewFK HBD2.out nq)
                      clear r1 r2 d1 d2
                      generalize wz.drewN nq = wt at *
                      go_wp2_with (fail)
                      exact ⟨⟨k + 1, by omega, by go_num, by rw [HK1.out], by rw [HK2.out], HBD3⟩, by first | (simp [intOf]; done) | (simp [intOf]; omega)⟩
                    · have HK1 := Lib.hid (show sumTk (nearB' bw at_ key) (ys.take (k + 1)) = N1 by rw [sumTk_take ht, HN1.out]; unfold nearB'; rw [decide_eq_true hkdy, decide_eq_false hnr]; simp)
                      have HK2 := Lib.hid (show sumTk (inB' bw at_ key) (ys.take (k + 1)) = I1 by rw [sumTk_take ht, HI1.out]; unfold inB'; rw [decide_eq_true hkdy, decide_eq_false hiw]; simp)
                      have hnr2 : decide (X1 < NB) = false := by exact decide_eq_false (by omega)
                      have hiw2 : decide (Q3 < Q1) = false := by exact decide_eq_false (by omega)
                      clear hnr hiw hkdy ht hX1 hNB hQ1 hQ2 hQ3
                      go_wp2_with (fail)
                      go_quiet (fail)
                      have r1 : (wu.drewN nq).cell? ⟨g9, k * 4 + 1, none⟩ = some (.int .i64 t.at_) := r1
                      have r2 : (wu.drewN nq).cell? ⟨g9, k * 4 + 2, none⟩ = some (.string t.key) := r2
                      have r3 : (wu.drewN nq).cell? ⟨g9, k * 4 + 3, none⟩ = some (.int .i64 t.n) := r3
                      have d1 : (wu.drewN nq).cell? ⟨b, off + i * 4 + 1, none⟩ = some (.int .i64 at_) := d1
                      have d2 : (wu.drewN nq).cell? ⟨b, off + i * 4 + 2, none⟩ = some (.string key) := d2
                      have HBD := Lib.hid (show Below w9.heap.size w9 (wu.drewN nq) from below_drewFK HBU.out nq)
                      generalize wu.drewN nq = wv at *
                      go_wp2_with (fail)
                      go_quiet (fail)
                      have r1 : (wv.drewN nq).cell? ⟨g9, k * 4 + 1, none⟩ = some (.int .i64 t.at_) := r1
                      have r3 : (wv.drewN nq).cell? ⟨g9, k * 4 + 3, none⟩ = some (.int .i64 t.n) := r3
                      have d1 : (wv.drewN nq).cell? ⟨b, off + i * 4 + 1, none⟩ = some (.int .i64 at_) := d1
                      have HBD2 := Lib.hid (show Below w9.heap.size w9 (wv.drewN nq) from below_drewFK HBD.out nq)
                      generalize wv.drewN nq = wz at *
                      go_wp2_with (fail)
                      go_quiet (fail)
                      have r3 : (wz.drewN nq).cell? ⟨g9, k * 4 + 3, none⟩ = some (.int .i64 t.n) := r3
                      have HBD3 := Lib.hid (show Below w9.heap.size w9 (wz.drewN nq) from below_drewFK HBD2.out nq)
                      clear r1 r2 d1 d2
                      generalize wz.drewN nq = wt at *
                      go_wp2_with (fail)
                      exact ⟨⟨k + 1, by omega, by go_num, by rw [HK1.out], by rw [HK2.out], HBD3⟩, by first | (simp [intOf]; done) | (simp [intOf]; omega)⟩
                · have hkey : (t.key.toList == key.toList) = false := by
                    rw [beq_eq_false_iff_ne]
                    exact fun e => hkdy (toList_injK e)
                  have hkey2 : (t.key.toList != key.toList) = true := by rw [bne, hkey]; rfl
                  have HK1 := Lib.hid (show sumTk (nearB' bw at_ key) (ys.take (k + 1)) = N1 by rw [sumTk_take ht, HN1.out]; unfold nearB'; rw [decide_eq_false hkdy]; simp)
                  have HK2 := Lib.hid (show sumTk (inB' bw at_ key) (ys.take (k + 1)) = I1 by rw [sumTk_take ht, HI1.out]; unfold inB'; rw [decide_eq_false hkdy]; simp)
                  clear hkdy ht hX1 hNB hQ1 hQ2 hQ3
                  go_wp2_with (fail)
                  go_quiet (fail)
                  have HBD := Lib.hid (show Below w9.heap.size w9 (wu.drewN nq) from below_drewFK HBU.out nq)
                  clear r1 r2 r3 d1 d2
                  generalize wu.drewN nq = wv at *
                  go_wp2_with (fail)
                  exact ⟨⟨k + 1, by omega, by go_num, by rw [HK1.out], by rw [HK2.out], HBD⟩, by first | (simp [intOf]; done) | (simp [intOf]; omega)⟩
              · have m1 : ¬ (k : Int) < n9 := by omega
                have eall : ys.take k = ys := List.take_of_length_le (by rw [HN9L.out]; omega)
                rw [eall] at HN1 HI1
                have HNU := Lib.hid (HN9.out.below HBU.out)
                have HUS0 := fun (wx : World) (h : Below wu.heap.size wu wx) => hUsed_any (HNU.out.below h).hti.hot at_ key HSZ.out
                have hwE0 : hwE s2.last at_ key = 0 := by
                  unfold hwE
                  rw [HL2.out, if_neg (by omega), if_neg (by have := HK64.out; omega), if_neg (by omega)]
                simp only [hwE0, if_true] at HUS0
                have hu1 := HIVY.out.used z0 (at_ := at_) (by rw [HL2.out]; exact Int.le_refl _) key
                have hu2 := HIVY.out.near key at_ (by rw [HL2.out]; exact Int.le_refl _)
                rw [HBW.out] at hu1 hu2
                rw [HI1.out] at hu1
                rw [HN1.out] at hu2
                have HUS := Lib.hid HUS0
                have HLM := Lib.hid (fun (wx : World) (h : Below wu.heap.size wu wx) => hLimit_any (HNU.out.below h).hti.hot key)
                generalize usedH c s2 at_ key = U at *
                generalize limI c.R key = LM at *
                have u1 : ¬ U < I1 := by omega
                have u2 : ¬ LM < N1 := by omega
                have HD5 := Lib.hid (fun (wx w5 : World) (hx : Below wu.heap.size wu wx) (h : Below wx.heap.size wx w5) => (show w5.cell? ⟨b, off + i * 4 + 1, none⟩ = some (.int .i64 at_) ∧ w5.cell? ⟨b, off + i * 4 + 2, none⟩ = some (.string key) from by
                  have hb := HBW9.out.trans ((hx.mono HBW9.out.size).trans (h.mono (Nat.le_trans HBW9.out.size hx.size)))
                  exact ⟨(HDO.out w5 hb).2.1, (HDO.out w5 hb).2.2.1⟩))
                clear eall HUS0 hwE0 hu1 hu2
                go_wp2_with (fail)
                refine wp_region_noPanic ?_
                refine wp_region_held_drew (S := (fun wx => (wx.cell? ⟨b, off + i * 4 + 1, none⟩ = some (.int .i64 at_) ∧ wx.cell? ⟨b, off + i * 4 + 2, none⟩ = some (.string key)))) (by kernel_rfl) ?_ (fun hHeld => ?_)
                · exact ⟨d1, d2⟩
                refine wpAnyH_take (i := 0) (v := ?_) rfl (by kernel_rfl) (by kernel_rfl) (by kernel_rfl) (fun _ _ _ h => h) (Or.inl ⟨by rfl, ?hy⟩) (by assumption) ?_
                case hy => intro w hSw; (try dsimp only at hSw); go_simp; try with_reducible rfl
                try simp only [Act.put, List.getElem_toArray, List.getElem_cons_succ, List.getElem_cons_zero, List.setIfInBounds_toArray, List.set_cons_zero, List.set_cons_succ]
                refine wpAnyH_take (i := 1) (v := ?_) rfl (by kernel_rfl) (by kernel_rfl) (by kernel_rfl) (fun _ _ _ h => h) (Or.inl ⟨by rfl, ?hy⟩) (by assumption) ?_
                case hy => intro w hSw; (try dsimp only at hSw); go_simp; try with_reducible rfl
                try simp only [Act.put, List.getElem_toArray, List.getElem_cons_succ, List.getElem_cons_zero, List.setIfInBounds_toArray, List.set_cons_zero, List.set_cons_succ]
                refine wpAnyH_take (i := 2) (v := ?_) rfl (by kernel_rfl) (by kernel_rfl) (by kernel_rfl) (fun _ _ _ h => h) (Or.inl ⟨by rfl, ?hy⟩) (by assumption) ?_
                case hy => intro w hSw; (try dsimp only at hSw); go_simp; try with_reducible rfl
                try simp only [Act.put, List.getElem_toArray, List.getElem_cons_succ, List.getElem_cons_zero, List.setIfInBounds_toArray, List.set_cons_zero, List.set_cons_succ]
                refine wpAnyH_take (i := 3) (v := ?_) rfl (by kernel_rfl) (by kernel_rfl) (by kernel_rfl) (fun _ _ _ h => h) (Or.inl ⟨by rfl, ?hy⟩) (by assumption) ?_
                case hy => intro w hSw; (try dsimp only at hSw); go_simp; try with_reducible rfl
                try simp only [Act.put, List.getElem_toArray, List.getElem_cons_succ, List.getElem_cons_zero, List.setIfInBounds_toArray, List.set_cons_zero, List.set_cons_succ]
                refine wpAnyH_take (i := 4) (v := ?_) rfl (by kernel_rfl) (by kernel_rfl) (by kernel_rfl) (fun _ _ _ h => h) (Or.inl ⟨by rfl, ?hy⟩) (by assumption) ?_
                case hy => intro w hSw; (try dsimp only at hSw); go_simp; try with_reducible rfl
                try simp only [Act.put, List.getElem_toArray, List.getElem_cons_succ, List.getElem_cons_zero, List.setIfInBounds_toArray, List.set_cons_zero, List.set_cons_succ]
                refine wpAnyH_take (i := 5) (v := ?_) rfl (by kernel_rfl) (by kernel_rfl) (by kernel_rfl) (fun _ _ _ h => h) (Or.inl ⟨by rfl, ?hy⟩) (by assumption) ?_
                case hy => intro w hSw; (try dsimp only at hSw); go_simp; try with_reducible rfl
                try simp only [Act.put, List.getElem_toArray, List.getElem_cons_succ, List.getElem_cons_zero, List.setIfInBounds_toArray, List.set_cons_zero, List.set_cons_succ]
                refine wpAnyH_take (i := 6) (v := ?_) rfl (by kernel_rfl) (by kernel_rfl) (by kernel_rfl) (fun _ _ _ h => h) (Or.inl ⟨by rfl, ?hy⟩) (by assumption) ?_
                case hy => intro w hSw; (try dsimp only at hSw); go_simp; try with_reducible rfl
                try simp only [Act.put, List.getElem_toArray, List.getElem_cons_succ, List.getElem_cons_zero, List.setIfInBounds_toArray, List.set_cons_zero, List.set_cons_succ]
                refine wpAnyH_take (i := 7) (v := ?_) rfl (by kernel_rfl) (by kernel_rfl) (by kernel_rfl) (fun _ _ _ h => h) (Or.inl ⟨by rfl, ?hy⟩) (by assumption) ?_
                case hy => intro w hSw; (try dsimp only at hSw); go_simp; try with_reducible rfl
                try simp only [Act.put, List.getElem_toArray, List.getElem_cons_succ, List.getElem_cons_zero, List.setIfInBounds_toArray, List.set_cons_zero, List.set_cons_succ]
                refine wpAnyH_take (i := 8) (v := ?_) rfl (by kernel_rfl) (by kernel_rfl) (by kernel_rfl) (fun _ _ _ h => h) (Or.inl ⟨by rfl, ?hy⟩) (by assumption) ?_
                case hy => intro w hSw; (try dsimp only at hSw); go_simp; try with_reducible rfl
                try simp only [Act.put, List.getElem_toArray, List.getElem_cons_succ, List.getElem_cons_zero, List.setIfInBounds_toArray, List.set_cons_zero, List.set_cons_succ]
                refine wpAnyH_take (i := 9) (v := ?_) rfl (by kernel_rfl) (by kernel_rfl) (by kernel_rfl) (fun _ _ _ h => h) (Or.inl ⟨by rfl, ?hy⟩) (by assumption) ?_
                case hy => intro w hSw; (try dsimp only at hSw); go_simp; try with_reducible rfl
                try simp only [Act.put, List.getElem_toArray, List.getElem_cons_succ, List.getElem_cons_zero, List.setIfInBounds_toArray, List.set_cons_zero, List.set_cons_succ]
                refine wpAnyH_take (i := 10) (v := ?_) rfl (by kernel_rfl) (by kernel_rfl) (by kernel_rfl) (fun _ _ _ h => h) (Or.inl ⟨by rfl, ?hy⟩) (by assumption) ?_
                case hy => intro w hSw; (try dsimp only at hSw); go_simp; try with_reducible rfl
                try simp only [Act.put, List.getElem_toArray, List.getElem_cons_succ, List.getElem_cons_zero, List.setIfInBounds_toArray, List.set_cons_zero, List.set_cons_succ]
                refine wpAnyH_ready (rs := [11]) (by kernel_rfl) (by simp) (AllReadyH.cons rfl (fun K hK => ?_) AllReadyH.nil)
                go_simp
                go_at_call 10; refine (HUS.out _ ((Below.refl _ _).drew)).mono ?_; rintro e w5 ⟨rfl, h5⟩
                try (go_wp2_with fail)
                refine hK.out _ _ ?_ (fun hHeld => ?_)
                · exact HD5.out _ _ ((Below.refl _ _).drew) h5
                clear hK K
                try simp only [Act.put, List.getElem_toArray, List.getElem_cons_succ, List.getElem_cons_zero, List.setIfInBounds_toArray, List.set_cons_zero, List.set_cons_succ]
                refine wpAnyH_take (i := 12) (v := ?_) rfl (by kernel_rfl) (by kernel_rfl) (by kernel_rfl) (fun _ _ _ h => h) (Or.inl ⟨by rfl, ?hy⟩) (by assumption) ?_
                case hy => intro w hSw; (try dsimp only at hSw); go_simp; try with_reducible rfl
                try simp only [Act.put, List.getElem_toArray, List.getElem_cons_succ, List.getElem_cons_zero, List.setIfInBounds_toArray, List.set_cons_zero, List.set_cons_succ]
                refine wpAnyH_take (i := 13) (v := ?_) rfl (by kernel_rfl) (by kernel_rfl) (by kernel_rfl) (fun _ _ _ h => h) (Or.inl ⟨by rfl, ?hy⟩) (by assumption) ?_
                case hy => intro w hSw; (try dsimp only at hSw); go_simp; try with_reducible rfl
                try simp only [Act.put, List.getElem_toArray, List.getElem_cons_succ, List.getElem_cons_zero, List.setIfInBounds_toArray, List.set_cons_zero, List.set_cons_succ]
                refine wpAnyH_take (i := 14) (v := ?_) rfl (by kernel_rfl) (by kernel_rfl) (by kernel_rfl) (fun _ _ _ h => h) (Or.inl ⟨by rfl, ?hy⟩) (by assumption) ?_
                case hy => intro w hSw; (try dsimp only at hSw); go_simp; try with_reducible rfl
                try simp only [Act.put, List.getElem_toArray, List.getElem_cons_succ, List.getElem_cons_zero, List.setIfInBounds_toArray, List.set_cons_zero, List.set_cons_succ]
                refine wpAnyH_take (i := 15) (v := ?_) rfl (by kernel_rfl) (by kernel_rfl) (by kernel_rfl) (fun _ _ _ h => h) (Or.inl ⟨by rfl, ?hy⟩) (by assumption) ?_
                case hy => intro w hSw; (try dsimp only at hSw); go_simp; try with_reducible rfl
                try simp only [Act.put, List.getElem_toArray, List.getElem_cons_succ, List.getElem_cons_zero, List.setIfInBounds_toArray, List.set_cons_zero, List.set_cons_succ]
                refine wpAnyH_take (i := 16) (v := ?_) rfl (by kernel_rfl) (by kernel_rfl) (by kernel_rfl) (fun _ _ _ h => h) (Or.inl ⟨by rfl, ?hy⟩) (by assumption) ?_
                case hy => intro w hSw; (try dsimp only at hSw); go_simp; try with_reducible rfl
                try simp only [Act.put, List.getElem_toArray, List.getElem_cons_succ, List.getElem_cons_zero, List.setIfInBounds_toArray, List.set_cons_zero, List.set_cons_succ]
                refine wpAnyH_done (by kernel_rfl) ?_ _
                refine NoPanic.normal ?_
                have h05 : Below wu.heap.size wu w5 := (Below.refl _ _).drew.trans (h5.mono (Nat.le_refl _))
                have HN5 := Lib.hid (HNU.out.below h05)
                have HLM5 := Lib.hid (HLM.out w5 h05)
                obtain ⟨d1, d2⟩ := hHeld
                clear h5 h05 HUS HLM HD5 HNU
                go_wp2_with (fail)
                refine HLM5.out.mono ?_
                rintro e w6 ⟨rfl, h6⟩
                have HN6 := Lib.hid (HN5.out.below h6)
                clear h6 HLM5 HN5
                go_wp2_with (fail)
                exact ⟨⟨i + 1, s2, ys, a3, cap3, by omega, by omega, by go_num, by rw [HN9L.out], by rw [HN9L.out]; omega, by rw [HN9L.out]; exact HN6, HIVY⟩, by first | (simp [intOf]; done) | (simp [intOf]; omega)⟩
        · have hse := HT2.out.err (by rw [HBE.out.2]; exact hE0)
          subst hse
          have hne : (E != 0) = true := by simpa using hE0
          clear hb2 ht2 hHeld HTK HD2 HBE hE0 HT2
          go_wp2_with (fail)
          exact ⟨⟨i + 1, s2, T, aT, cT, by omega, by omega, by go_num, rfl, by omega, HB2, HIV⟩, by first | (simp [intOf]; done) | (simp [intOf]; omega)⟩
      · have HLV2 := Lib.hid (HLV.out wr)
        have HBE := Lib.hid HB.out.hti.bel
        clear HB HIV HLV
        by_cases hA : i < len
        · have k1 : (i : Int) < len := by omega
          have k2 : ¬ (i : Int) < 80 := by omega
          go_wp2_with (fail)
          refine HLV2.out.mono ?_
          rintro e w2 ⟨rfl, h2⟩
          go_wp2_with (fail)
          go_ret
          exact ⟨rfl, HBE.out.trans (h2.mono HBE.out.size)⟩
        · have k1 : ¬ (i : Int) < len := by omega
          go_wp2_with (fail)
          refine HLV2.out.mono ?_
          rintro e w2 ⟨rfl, h2⟩
          go_wp2_with (fail)
          go_ret
          exact ⟨rfl, HBE.out.trans (h2.mono HBE.out.size)⟩
  · obtain rfl := hno hE
    have hne : (newHE x.R x.keys != 0) = true := by simpa using hE
    have HB := Lib.hid hb1
    generalize newHE x.R x.keys = E at *
    clear hno hyes hE hb1 HNW
    go_wp2_with (fail)
    refine (HLV.out _).mono ?_
    rintro e w2 ⟨rfl, h2⟩
    go_wp2_with (fail)
    go_ret
    exact ⟨by rfl, HB.out.trans (h2.mono HB.out.size)⟩
end Go.Proofs.Ytemlafbkkaloiaa

/- HotBounds, of deeds that came in. -/
namespace Go.Proofs.Ytemlafbkkaloiaa
open Go.RowKit
set_option linter.unusedVariables false

theorem hotbounds_law {w : World} (x : SetS) (hx : SetAt w x) (a : Option Addr) (len cap : Nat) (V : Nat → Nat → Value) (hm : len ≤ 140737488351232) (hr : RecsAt w a 4 len V) (hB : len * 40 ≤ 140737488351232)
    (h0 : ∀ j, j < len → V j 0 = .int .i64 (intOf (V j 0)) ∧ (Lit.int .i64 (intOf (V j 0))).wf = true) (h1 : ∀ j, j < len → V j 1 = .int .i64 (intOf (V j 1)) ∧ (Lit.int .i64 (intOf (V j 1))).wf = true)
    (h2 : ∀ j, j < len → V j 2 = .string (strOf (V j 2)) ∧ (strOf (V j 2)).size ≤ maxLen) (h3 : ∀ j, j < len → V j 3 = .int .i64 (intOf (V j 3)) ∧ (Lit.int .i64 (intOf (V j 3))).wf = true) :
    Calls Try.prog 4 #[x.v, .slice a len cap] w fun e w' => e = .returned (.bool true) ∧ Below w.heap.size w w' :=
  hotbounds_walk x hx a len cap hm _ _ _ _ (deedsH_of hr h0 h1 h2 h3)
end Go.Proofs.Ytemlafbkkaloiaa
