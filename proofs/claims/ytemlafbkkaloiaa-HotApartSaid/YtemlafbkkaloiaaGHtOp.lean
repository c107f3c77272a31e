/- Texts of one chain, one behind the other: HtOp, HtM, HtR. -/
import Derived.Test.YtemlafbkkaloiaaGLruK
import Derived.Test.YtemlafbkkaloiaaGWFork

/- hot: how a setting is opened: a rule, how many keys, a seed; and how deeds lie. -/
namespace Go.Proofs.Ytemlafbkkaloiaa
open Go.ChangeShapes Go.WideShapes Go.ChangeAt Go.RowKit Go.Deep
set_option linter.unusedVariables false
set_option linter.unusedSimpArgs false

structure SetS where
  R : HotS
  keys : Int
  seed : Int
def SetS.cs (x : SetS) : Array Value := #[.string x.R.res, .int .i64 x.R.idx, .int .i64 x.R.cnt, .int .i64 x.R.secs, .slice x.R.ia x.R.il x.R.ic, .int .i64 x.keys, .int .u64 x.seed]
def SetS.v (x : SetS) : Value := .agg x.cs
structure SetAt (w : World) (x : SetS) : Prop where
  ok : HotOk w x.R
  s0 : 0 ≤ x.seed
  s1 : x.seed ≤ 18446744073709551615
theorem SetAt.below {w w' : World} {x : SetS} (h : SetAt w x) (hb : Below w.heap.size w w') : SetAt w' x := ⟨h.ok.below (Nat.le_refl _) hb, h.s0, h.s1⟩
theorem wf_u64 {n : Int} (h : (Lit.int .u64 n).wf = true) : 0 ≤ n ∧ n ≤ 18446744073709551615 := by
  simp only [Lit.wf, IntKind.min, IntKind.max, IntKind.signed, IntKind.bits, Bool.and_eq_true, decide_eq_true_eq] at h
  simpa using h
theorem some_of_get {α : Type} {xs : List α} {n k : Nat} (h : xs.length = n) (hk : k < n) : ∃ y, xs[k]? = some y := ⟨_, List.getElem?_eq_getElem (by omega)⟩

set_option maxRecDepth 100000 in
theorem open_setting {H : Type} {enc : TypeId × Value → H} {W : World} {spare : Nat → Bool} {held : Bool} {base b0 : Nat} {r : Reach} {v : Value} {d : DataW H} {p : List MemPlace}
    (hval : Value.okWide Try.prog W r b0 27 v) (hd : DataW.Trod enc Try.prog W base spare held 27 v d p) (hsz : Sz 27 d) :
    ∃ x : SetS, v = x.v ∧ SetAt W x := by
  obtain ⟨cs, rfl, hsz1⟩ := okWide_struct Try.underlying27 hval
  have hC : Try.prog.cellsOf 27 = 7 := by kernel_rfl
  have hCH : Try.prog.cellsOf 24 = 5 := by kernel_rfl
  have hC1 : Try.prog.cellsOf 3 = 1 := by kernel_rfl
  have hC2 : Try.prog.cellsOf 25 = 1 := by kernel_rfl
  have hC3 : Try.prog.cellsOf 9 = 1 := by kernel_rfl
  have hC4 : Try.prog.cellsOf 22 = 1 := by kernel_rfl
  rw [hC] at hsz1
  obtain ⟨u0, u1, u2, u3, u4, u5, u6, rfl⟩ : ∃ u0 u1 u2 u3 u4 u5 u6, cs = #[u0, u1, u2, u3, u4, u5, u6] := by
    refine ⟨cs[0], cs[1], cs[2], cs[3], cs[4], cs[5], cs[6], ?_⟩
    apply Array.ext_getElem?
    intro j
    match j with
    | 0 => simp [Array.getElem?_eq_getElem (show 0 < cs.size by omega)]
    | 1 => simp [Array.getElem?_eq_getElem (show 1 < cs.size by omega)]
    | 2 => simp [Array.getElem?_eq_getElem (show 2 < cs.size by omega)]
    | 3 => simp [Array.getElem?_eq_getElem (show 3 < cs.size by omega)]
    | 4 => simp [Array.getElem?_eq_getElem (show 4 < cs.size by omega)]
    | 5 => simp [Array.getElem?_eq_getElem (show 5 < cs.size by omega)]
    | 6 => simp [Array.getElem?_eq_getElem (show 6 < cs.size by omega)]
    | j + 7 => rw [Array.getElem?_eq_none (by omega), Array.getElem?_eq_none (by simp)]
  obtain ⟨fuel, hf⟩ := hd
  obtain ⟨xs, n, _, hye, _, hxs, hff⟩ := DataW.trod_struct Try.underlying27 hf
  have hxs : xs.length = 3 := hxs
  have e1 : d = .agg (xs.map (·.1)) := (Prod.mk.inj hye).1
  rw [e1] at hsz
  obtain ⟨y0, hy0⟩ := some_of_get (k := 0) hxs (by omega)
  obtain ⟨y1, hy1⟩ := some_of_get (k := 1) hxs (by omega)
  obtain ⟨y2, hy2⟩ := some_of_get (k := 2) hxs (by omega)
  have f0 : DataW.trod enc Try.prog W base spare held n 24 [u0, u1, u2, u3, u4] = some y0 := by
    have h : DataW.trod enc Try.prog W base spare held n 24 (List.take (Try.prog.cellsOf 24) (List.drop 0 [u0, u1, u2, u3, u4, u5, u6])) = some y0 := (hff 0 _ rfl).trans hy0
    rw [hCH] at h
    exact h
  have f1 : DataW.trod enc Try.prog W base spare held n 3 [u5] = some y1 := by
    have h : DataW.trod enc Try.prog W base spare held n 3 (List.take (Try.prog.cellsOf 3) (List.drop 5 [u0, u1, u2, u3, u4, u5, u6])) = some y1 := (hff 1 _ rfl).trans hy1
    rw [hC1] at h
    exact h
  have f2 : DataW.trod enc Try.prog W base spare held n 25 [u6] = some y2 := by
    have h : DataW.trod enc Try.prog W base spare held n 25 (List.take (Try.prog.cellsOf 25) (List.drop 6 [u0, u1, u2, u3, u4, u5, u6])) = some y2 := (hff 2 _ rfl).trans hy2
    rw [hC2] at h
    exact h
  have z0 : Sz 24 y0.1 := sz_field Try.underlying27 hsz (k := 0) rfl (d := y0.1) (by simp [hy0])
  obtain ⟨ys, n2, _, hye2, _, hys, hgg⟩ := DataW.trod_struct Try.underlying24 f0
  have hys : ys.length = 5 := hys
  have e2 : y0.1 = .agg (ys.map (·.1)) := by rw [hye2]
  rw [e2] at z0
  obtain ⟨q0, hq0⟩ := some_of_get (k := 0) hys (by omega)
  obtain ⟨q1, hq1⟩ := some_of_get (k := 1) hys (by omega)
  obtain ⟨q2, hq2⟩ := some_of_get (k := 2) hys (by omega)
  obtain ⟨q3, hq3⟩ := some_of_get (k := 3) hys (by omega)
  obtain ⟨q4, hq4⟩ := some_of_get (k := 4) hys (by omega)
  have g0 : DataW.trod enc Try.prog W base spare held n2 9 [u0] = some q0 := by
    have h : DataW.trod enc Try.prog W base spare held n2 9 (List.take (Try.prog.cellsOf 9) (List.drop 0 [u0, u1, u2, u3, u4])) = some q0 := (hgg 0 _ rfl).trans hq0
    rw [hC3] at h
    exact h
  have g1 : DataW.trod enc Try.prog W base spare held n2 3 [u1] = some q1 := by
    have h : DataW.trod enc Try.prog W base spare held n2 3 (List.take (Try.prog.cellsOf 3) (List.drop 1 [u0, u1, u2, u3, u4])) = some q1 := (hgg 1 _ rfl).trans hq1
    rw [hC1] at h
    exact h
  have g2 : DataW.trod enc Try.prog W base spare held n2 3 [u2] = some q2 := by
    have h : DataW.trod enc Try.prog W base spare held n2 3 (List.take (Try.prog.cellsOf 3) (List.drop 2 [u0, u1, u2, u3, u4])) = some q2 := (hgg 2 _ rfl).trans hq2
    rw [hC1] at h
    exact h
  have g3 : DataW.trod enc Try.prog W base spare held n2 3 [u3] = some q3 := by
    have h : DataW.trod enc Try.prog W base spare held n2 3 (List.take (Try.prog.cellsOf 3) (List.drop 3 [u0, u1, u2, u3, u4])) = some q3 := (hgg 3 _ rfl).trans hq3
    rw [hC1] at h
    exact h
  have g4 : DataW.trod enc Try.prog W base spare held n2 22 [u4] = some q4 := by
    have h : DataW.trod enc Try.prog W base spare held n2 22 (List.take (Try.prog.cellsOf 22) (List.drop 4 [u0, u1, u2, u3, u4])) = some q4 := (hgg 4 _ rfl).trans hq4
    rw [hC4] at h
    exact h
  have z4 : Sz 22 q4.1 := sz_field Try.underlying24 z0 (k := 4) rfl (d := q4.1) (by simp [hq4])
  obtain ⟨kv, k0⟩ := recs_strZ (v := u0) Try.underlying9 g0
  have k1 := (recs_int (k := .i64) (v := u1) Try.underlying3 g1).1
  have k2 := (recs_int (k := .i64) (v := u2) Try.underlying3 g2).1
  have k3 := (recs_int (k := .i64) (v := u3) Try.underlying3 g3).1
  have k5 := (recs_int (k := .i64) (v := u5) Try.underlying3 f1).1
  have k6 := (recs_int (k := .u64) (v := u6) Try.underlying25 f2)
  obtain ⟨a, l, c, items, rfl, h1, h2, h3, h4, h5, h6⟩ := read_items (v := u4) g4 z4
  rw [kv, k1, k2, k3, k5, k6.1]
  exact ⟨⟨⟨strOf u0, intOf u1, intOf u2, intOf u3, a, l, c, items⟩, intOf u5, intOf u6⟩, rfl, ⟨k0, h1, h3, h2, h4, h5, h6⟩, (wf_u64 k6.2).1, (wf_u64 k6.2).2⟩
end Go.Proofs.Ytemlafbkkaloiaa

/- HotLooks: a look tells what a taking does. -/
namespace Go.Proofs.Ytemlafbkkaloiaa
open Go.RowKit
set_option linter.unusedVariables false
set_option linter.unusedSimpArgs false

/-- Deeds that came in. -/
def DeedsH (w : World) (a : Option Addr) (len : Nat) (K A : Nat → Int) (S : Nat → ByteArray) (C : Nat → Int) : Prop :=
  len = 0 ∨ ∃ b off, a = some ⟨b, off, none⟩ ∧ b < w.heap.size ∧ ∀ j, j < len → w.cell? ⟨b, off + j * 4, none⟩ = some (.int .i64 (K j)) ∧ w.cell? ⟨b, off + j * 4 + 1, none⟩ = some (.int .i64 (A j)) ∧ w.cell? ⟨b, off + j * 4 + 2, none⟩ = some (.string (S j)) ∧ w.cell? ⟨b, off + j * 4 + 3, none⟩ = some (.int .i64 (C j)) ∧ (S j).size ≤ maxLen
theorem deedsH_of {w : World} {a : Option Addr} {len : Nat} {V : Nat → Nat → Value} (hr : RecsAt w a 4 len V)
    (h0 : ∀ j, j < len → V j 0 = .int .i64 (intOf (V j 0)) ∧ (Lit.int .i64 (intOf (V j 0))).wf = true) (h1 : ∀ j, j < len → V j 1 = .int .i64 (intOf (V j 1)) ∧ (Lit.int .i64 (intOf (V j 1))).wf = true)
    (h2 : ∀ j, j < len → V j 2 = .string (strOf (V j 2)) ∧ (strOf (V j 2)).size ≤ maxLen) (h3 : ∀ j, j < len → V j 3 = .int .i64 (intOf (V j 3)) ∧ (Lit.int .i64 (intOf (V j 3))).wf = true) :
    DeedsH w a len (fun j => intOf (V j 0)) (fun j => intOf (V j 1)) (fun j => strOf (V j 2)) (fun j => intOf (V j 3)) := by
  rcases hr with h | ⟨b, off, rfl, hb, hc⟩
  · exact Or.inl h
  · refine Or.inr ⟨b, off, rfl, hb, fun j hj => ?_⟩
    have c0 := hc j hj 0 (by omega)
    have c1 := hc j hj 1 (by omega)
    have c2 := hc j hj 2 (by omega)
    have c3 := hc j hj 3 (by omega)
    rw [(h0 j hj).1] at c0
    rw [(h1 j hj).1] at c1
    rw [(h2 j hj).1] at c2
    rw [(h3 j hj).1] at c3
    exact ⟨c0, c1, c2, c3, (h2 j hj).2⟩
theorem DeedsH.get {w : World} {a : Option Addr} {len : Nat} {K A : Nat → Int} {S : Nat → ByteArray} {C : Nat → Int} (h : DeedsH w a len K A S C) {j : Nat} (hj : j < len) : ∃ b off, a = some ⟨b, off, none⟩ ∧ b < w.heap.size ∧ w.cell? ⟨b, off + j * 4, none⟩ = some (.int .i64 (K j)) ∧ w.cell? ⟨b, off + j * 4 + 1, none⟩ = some (.int .i64 (A j)) ∧ w.cell? ⟨b, off + j * 4 + 2, none⟩ = some (.string (S j)) ∧ w.cell? ⟨b, off + j * 4 + 3, none⟩ = some (.int .i64 (C j)) ∧ (S j).size ≤ maxLen := by
  rcases h with h | ⟨b, off, e, hb, hc⟩
  · omega
  · exact ⟨b, off, e, hb, hc j hj⟩
/-- What stands between two rounds. -/
structure HtI (w wr : World) (c : HotC) (s : HotV) : Prop where
  hot : HotAt wr c s
  own : ∀ i, HOwn c s i → w.heap.size ≤ i
  bel : Below w.heap.size w wr
theorem HtI.below {w wr w' : World} {c : HotC} {s : HotV} (k : HtI w wr c s) (hb : Below wr.heap.size wr w') : HtI w w' c s := ⟨k.hot.below hb, k.own, k.bel.trans (hb.mono k.bel.size)⟩
theorem HtI.take {w wr w' : World} {c : HotC} {s s' : HotV} {at_ n : Int} {key : ByteArray} (k : HtI w wr c s) (t : TakePost wr c s at_ key n w' s') : HtI w w' c s' := by
  have hz := k.bel.size
  exact ⟨t.hot, fun i hi => by
    rcases t.own i hi with h | h
    · exact k.own i h
    · omega, k.bel.trans (t.off.below (B := w.heap.size) hz (fun i hi h => by have := k.own i h; omega))⟩
/-- New, from the box of a setting. -/
theorem hnew_set {w : World} (x : SetS) (h : SetAt w x) (o : Obj) : Calls Try.prog 6 #[.agg #[.string x.R.res, .int .i64 x.R.idx, .int .i64 x.R.cnt, .int .i64 x.R.secs, .slice x.R.ia x.R.il x.R.ic], .int .i64 x.keys, .int .u64 x.seed] (w.alloc o) fun e w' => Below w.heap.size w w' ∧ (newHE x.R x.keys ≠ 0 → e = .returned (.tuple #[.pointer none, .int .i64 (newHE x.R x.keys)])) ∧
      (newHE x.R x.keys = 0 → ∃ c s, e = .returned (.tuple #[.pointer (some ⟨c.hb, 0, none⟩), .int .i64 0]) ∧ HtI w w' c s ∧ NewHot (w.alloc o) x.R x.keys x.seed w' c s) := by
  have hb : Below w.heap.size w (w.alloc o) := (Below.refl _ _).alloc (Nat.le_refl _) _
  refine (hnew_any x.R (h.below hb).ok x.keys x.seed h.s0 h.s1).mono ?_
  rintro e w' ⟨h1, h2, h3⟩
  have hbb := hb.trans (h1.mono hb.size)
  refine ⟨hbb, h2, fun h0 => ?_⟩
  obtain ⟨c, s, rfl, hn⟩ := h3 h0
  exact ⟨c, s, rfl, ⟨hn.hot, fun i hi => by have := hn.own i hi; have := hb.size; omega, hbb⟩, hn⟩

set_option maxHeartbeats 6400000 in
set_option maxRecDepth 100000 in
theorem hotlooks_walk {w : World} (x : SetS) (hx : SetAt w x) (a : Option Addr) (len cap : Nat) (hm : len ≤ 140737488351232) (K A : Nat → Int) (S : Nat → ByteArray) (C : Nat → Int) (hd : DeedsH w a len K A S C) :
    Calls Try.prog 3 #[x.v, .slice a len cap] w fun e w' => e = .returned (.bool true) ∧ Below w.heap.size w w' := by
  have HD := Lib.hid hd
  have HNW := Lib.hid (hnew_set x hx (.cells x.cs 27))
  unfold SetS.cs at HNW
  unfold SetS.v SetS.cs
  have HLV := Lib.hid (fun (w : World) => htlive_any w)
  clear hd hx
  go_enter Try.func3, Try.ntmps3
  go_wp2_with (fail)
  refine HNW.out.mono ?_
  rintro e w1 ⟨hb1, hno, hyes⟩
  by_cases hE : newHE x.R x.keys = 0
  · obtain ⟨c, s, rfl, hi, _⟩ := hyes hE
    have HI := Lib.hid hi
    clear hno hyes hE hi hb1 HNW
    go_wp2_with (fail)
    go_loopw [7, 8, 9, 10, 11, 12, 13, 14] (fun v _ _ _ _ _ _ _ wr => ∃ (i : Nat) (s' : HotV), i ≤ len ∧ v = .int .i64 i ∧ Hid (HtI w wr c s')) (fun v _ _ _ _ _ _ _ _ => len - (intOf v).toNat)
    case atStart => exact ⟨0, s, Nat.zero_le _, rfl, HI⟩
    case round =>
      clear HI
      obtain ⟨i, s', hi, rfl, HI⟩ := hrel
      by_cases hlt : i < len ∧ i < 80
      · obtain ⟨hlt, h80⟩ := hlt
        obtain ⟨b, off, rfl, hbl, d0, d1, d2, d3, hsz⟩ := HD.out.get hlt
        have d0 := (HI.out.bel.cell (p := ⟨b, off + i * 4, none⟩) hbl).trans d0
        have d1 := (HI.out.bel.cell (p := ⟨b, off + i * 4 + 1, none⟩) hbl).trans d1
        have d2 := (HI.out.bel.cell (p := ⟨b, off + i * 4 + 2, none⟩) hbl).trans d2
        have d3 := (HI.out.bel.cell (p := ⟨b, off + i * 4 + 3, none⟩) hbl).trans d3
        generalize K i = k at *
        generalize A i = at_ at *
        generalize S i = key at *
        generalize C i = n at *
        have k0 : (0 : Int) ≤ i := by omega
        have k1 : (i : Int) < len := by omega
        have k2 : (i : Int) < 80 := by omega
        have hal : Below wr.heap.size wr (wr.alloc (.cells #[.int .i64 k, .int .i64 at_, .string key, .int .i64 n] 35)) := (Below.refl _ _).alloc (Nat.le_refl _) _
        have hbx := new_blockS wr (.cells #[.int .i64 k, .int .i64 at_, .string key, .int .i64 n] 35)
        have hzx : wr.heap.size < (wr.alloc (.cells #[.int .i64 k, .int .i64 at_, .string key, .int .i64 n] 35)).heap.size := by simp
        have HIA := Lib.hid (HI.out.below hal)
        have HLK := Lib.hid (hlook_any HIA.out.hot at_ key hsz n)
        have HBX := Lib.hid hbx
        have HZX := Lib.hid hzx
        have HSZ := Lib.hid hsz
        clear hal hbx hzx hsz
        go_wp2_with (fail)
        refine HLK.out.mono ?_
        rintro e w2 ⟨rfl, h2⟩
        have hb2 := (h2.block wr.heap.size HZX.out).trans HBX.out
        have c1 : w2.cell? ⟨wr.heap.size, 1, none⟩ = some (.int .i64 at_) := by simp only [World.cell?, hb2]; rfl
        have c2 : w2.cell? ⟨wr.heap.size, 2, none⟩ = some (.string key) := by simp only [World.cell?, hb2]; rfl
        have c3 : w2.cell? ⟨wr.heap.size, 3, none⟩ = some (.int .i64 n) := by simp only [World.cell?, hb2]; rfl
        have HI2 := Lib.hid (HIA.out.below h2)
        have HLK2 := Lib.hid (hlook_any HI2.out.hot at_ key HSZ.out n)
        have HBX2 := Lib.hid hb2
        have HZX2 := Lib.hid (Nat.lt_of_lt_of_le HZX.out h2.size)
        have HTK := Lib.hid (fun (w3 : World) (h : HotAt w3 c s') => htake_any h at_ key HSZ.out n)
        generalize lookHB c s' at_ key n = B at *
        generalize lookHE s'.last at_ key n = E at *
        clear h2 hb2 HLK HBX HZX HIA HI d0 d1 d2 d3
        go_wp2_with (fail)
        refine HLK2.out.mono ?_
        rintro e w3 ⟨rfl, h3⟩
        have hb3 := (h3.block wr.heap.size HZX2.out).trans HBX2.out
        have c1 : w3.cell? ⟨wr.heap.size, 1, none⟩ = some (.int .i64 at_) := by simp only [World.cell?, hb3]; rfl
        have c2 : w3.cell? ⟨wr.heap.size, 2, none⟩ = some (.string key) := by simp only [World.cell?, hb3]; rfl
        have c3 : w3.cell? ⟨wr.heap.size, 3, none⟩ = some (.int .i64 n) := by simp only [World.cell?, hb3]; rfl
        have HI3 := Lib.hid (HI2.out.below h3)
        clear h3 hb3 HLK2 HBX2 HZX2 HI2
        go_wp2_with (fail)
        refine (HTK.out _ HI3.out.hot).mono ?_
        rintro e w4 ⟨s4, rfl, t4⟩
        have HI4 := Lib.hid (HI3.out.take t4)
        clear t4 HI3 HTK c1 c2 c3
        go_wp2_with (fail)
        exact ⟨⟨i + 1, s4, by omega, by go_num, HI4⟩, by first | (simp [intOf]; done) | (simp [intOf]; omega)⟩
      · have HLV2 := Lib.hid (HLV.out wr)
        have HB := Lib.hid HI.out.bel
        clear HI HLV
        by_cases hA : i < len
        · have k1 : (i : Int) < len := by omega
          have k2 : ¬ (i : Int) < 80 := by omega
          go_wp2_with (fail)
          refine HLV2.out.mono ?_
          rintro e w2 ⟨rfl, h2⟩
          go_wp2_with (fail)
          go_ret
          exact ⟨rfl, HB.out.trans (h2.mono HB.out.size)⟩
        · have k1 : ¬ (i : Int) < len := by omega
          go_wp2_with (fail)
          refine HLV2.out.mono ?_
          rintro e w2 ⟨rfl, h2⟩
          go_wp2_with (fail)
          go_ret
          exact ⟨rfl, HB.out.trans (h2.mono HB.out.size)⟩
  · obtain rfl := hno hE
    have hne : (newHE x.R x.keys != 0) = true := by simpa using hE
    have HB := Lib.hid hb1
    generalize newHE x.R x.keys = E at *
    clear hno hyes hE hb1 HNW
    go_wp2_with (fail)
    refine (HLV.out _).mono ?_
    rintro e w2 ⟨rfl, h2⟩
    go_wp2_with (fail)
    go_ret
    exact ⟨by rfl, HB.out.trans (h2.mono HB.out.size)⟩
theorem hotlooks_law {w : World} (x : SetS) (hx : SetAt w x) (a : Option Addr) (len cap : Nat) (V : Nat → Nat → Value) (hm : len ≤ 140737488351232) (hr : RecsAt w a 4 len V) (hB : len * 40 ≤ 140737488351232)
    (h0 : ∀ j, j < len → V j 0 = .int .i64 (intOf (V j 0)) ∧ (Lit.int .i64 (intOf (V j 0))).wf = true) (h1 : ∀ j, j < len → V j 1 = .int .i64 (intOf (V j 1)) ∧ (Lit.int .i64 (intOf (V j 1))).wf = true)
    (h2 : ∀ j, j < len → V j 2 = .string (strOf (V j 2)) ∧ (strOf (V j 2)).size ≤ maxLen) (h3 : ∀ j, j < len → V j 3 = .int .i64 (intOf (V j 3)) ∧ (Lit.int .i64 (intOf (V j 3))).wf = true) :
    Calls Try.prog 3 #[x.v, .slice a len cap] w fun e w' => e = .returned (.bool true) ∧ Below w.heap.size w w' :=
  hotlooks_walk x hx a len cap hm _ _ _ _ (deedsH_of hr h0 h1 h2 h3)
end Go.Proofs.Ytemlafbkkaloiaa

/- HotApart: what is taken of one value changes nothing of another one. -/
namespace Go.Proofs.Ytemlafbkkaloiaa
open Go.RowKit
set_option linter.unusedVariables false
set_option linter.unusedSimpArgs false

theorem HotAt.itemApart {w : World} {c : HotC} {s : HotV} (k : HotAt w c s) {g off : Nat} (e : c.R.ia = some ⟨g, off, none⟩) : ¬ HOwn c s g := by
  obtain ⟨col, hc⟩ := k.col
  have h5 := hc.items g off e
  intro h
  rcases h with h | h | h | h | ⟨x, hx, h⟩
  · have := hc.lru g h; omega
  · have := hc.sk g h; omega
  · have := hc.map; rw [← h] at this; omega
  · have := hc.head; rw [← h] at this; omega
  · have := hc.wins x hx
    rcases h with h | h <;> rw [← h] at this <;> omega
theorem ownsRow_sameA {w w' : World} {base size n : Nat} {e : TypeId} {v : Value} {xs : List Value} (h : w.ownsRow base e size v n xs) (hk : ∀ g, v.ownBlock = some g → w'.heap[g]? = w.heap[g]?) : w'.ownsRow base e size v n xs := by
  obtain ⟨h1, h2⟩ := h
  refine ⟨h1, ?_⟩
  rcases h2 with h2 | ⟨g, cap, cur, rfl, hb, hg, hrest⟩
  · exact Or.inl h2
  · exact Or.inr ⟨g, cap, cur, rfl, hb, (hk g rfl).trans hg, hrest⟩
/-- A row of texts. -/
def RowS (w : World) (a : Option Addr) (ks : List ByteArray) : Prop := ∀ j q, ks[j]? = some q → ∃ g, a = some ⟨g, 0, none⟩ ∧ g < w.heap.size ∧ w.cell? ⟨g, j, none⟩ = some (.string q)
theorem RowS.get {w : World} {a : Option Addr} {ks : List ByteArray} (h : RowS w a ks) {j : Nat} {q : ByteArray} (hq : ks[j]? = some q) : ∃ g, a = some ⟨g, 0, none⟩ ∧ g < w.heap.size ∧ w.cell? ⟨g, j, none⟩ = some (.string q) := h j q hq
theorem rowS_of {w : World} {base n cap : Nat} {a : Option Addr} {ks : List ByteArray} (h : w.ownsRow base 9 1 (.slice a n cap) n (ks.map Value.string)) : RowS w a ks := by
  intro j q hq
  have hjl := (List.getElem?_eq_some_iff.1 hq).1
  have hlen := h.1
  rcases h.2 with ⟨hh, hz⟩ | ⟨g, cp, cur, hh, _, hgg, _⟩
  · exfalso
    injection hh with h1 h2
    simp at hlen; omega
  · injection hh with h1
    subst h1
    refine ⟨g, rfl, (Array.getElem?_eq_some_iff.1 hgg).1, ?_⟩
    have h3 := h.cellAt j (by simp at hlen; omega)
    rw [List.getElem?_map, hq] at h3
    exact h3
theorem ownsRow_below {wr wx : World} {base size n : Nat} {e : TypeId} {v : Value} {xs : List Value} (h : wr.ownsRow base e size v n xs) (hb : Below wr.heap.size wr wx) : wx.ownsRow base e size v n xs := by
  obtain ⟨h1, h2⟩ := h
  refine ⟨h1, ?_⟩
  rcases h2 with h2 | ⟨g, cap, cur, rfl, hbb, hg, hrest⟩
  · exact Or.inl h2
  · exact Or.inr ⟨g, cap, cur, rfl, hbb, (hb.block g (Array.getElem?_eq_some_iff.1 hg).1).trans hg, hrest⟩
/-- A fork stays, whatever its first one does. -/
theorem fork_stays {w1 w2 w3 : World} {c c2 : HotC} {s s2 s' : HotV} {at_ n : Int} {key : ByteArray} (k : HotAt w1 c s) (f : ForkHot w1 c s w2 c2 s2) (t : TakePost w2 c s at_ key n w3 s') : HotAt w3 c2 s2 := by
  refine f.hot.kept t.off.size (fun i hi => t.off.block i (f.hot.lt hi) (fun h => ?_)) (fun g off e => t.off.block g (f.hot.ilt g off e) ?_)
  · have := f.own i hi
    have := k.lt h
    omega
  · rw [f.R] at e
    exact k.itemApart e
theorem apart_law {w w1 w2 w' : World} {c c2 : HotC} {s s2 s' : HotV} {at_ n : Int} {key : ByteArray} (fk : ForkHot w1 c s w2 c2 s2) (t : TakePost w c s at_ key n w' s') (hE : lookHE s.last at_ key n = 0) {q : ByteArray} (hq : q ≠ key) (hin : hasA (pr s'.L) q = true) :
    (if hwE s2.last at_ q = 0 then usedH c2 s2 at_ q else 0) = (if hwE s'.last at_ q = 0 then usedH c s' at_ q else 0) ∧ hwE s2.last at_ q = hwE s'.last at_ q := by
  obtain ⟨_, hw⟩ := lookHE_ok hE
  obtain ⟨a0, a1, a2, a3⟩ := hwE_ok hw
  have hl : s'.last = at_ := by
    cases hB : lookHB c s at_ key n with
    | true => exact (t.last hB).1
    | false => rw [t.no hE hB]
  have e1 : hwE s2.last at_ q = hwE s'.last at_ q := by
    rw [fk.last, hl]
    unfold hwE
    rw [if_neg (show ¬ at_ < s.last by omega), if_neg (show ¬ at_ < at_ by omega)]
  have hsh : c2.sh = c.sh := by unfold HotC.sh HotC.W; rw [fk.R, fk.seed]
  have e2 : usedH c2 s2 at_ q = usedH c s' at_ q := by
    rw [usedH_V, usedH_V, fk.vals, fk.R, hsh, fk.sn]
    cases hB : lookHB c s at_ key n with
    | false => rw [t.no hE hB]; rfl
    | true =>
      have h1 := t.hot.same q
      rw [hin] at h1
      have h2 := t.vals hB q
      rw [if_neg hq] at h2
      have h3 : (s'.V q).isSome = true := by unfold HotV.V; rw [Option.isSome_map]; exact h1.symm
      split at h2
      · rw [h2] at h3; cases h3
      · rw [h2] at h3 ⊢
        cases hv : s.V q with
        | none => rw [hv] at h3; cases h3
        | some ns => rfl
  exact ⟨by rw [e1, e2], e1⟩

set_option maxHeartbeats 12800000 in
set_option maxRecDepth 100000 in
theorem hotapart_walk {w : World} (x : SetS) (hx : SetAt w x) (a : Option Addr) (len cap : Nat) (hm : len ≤ 140737488351232) (K A : Nat → Int) (S : Nat → ByteArray) (C : Nat → Int) (hd : DeedsH w a len K A S C) :
    Calls Try.prog 5 #[x.v, .slice a len cap] w fun e w' => e = .returned (.bool true) ∧ Below w.heap.size w w' := by
  have HD := Lib.hid hd
  have HNW := Lib.hid (hnew_set x hx (.cells x.cs 27))
  unfold SetS.cs at HNW
  unfold SetS.v SetS.cs
  have HLV := Lib.hid (fun (w : World) => htlive_any w)
  clear hd hx
  go_enter Try.func5, Try.ntmps5
  go_wp2_with (fail)
  refine HNW.out.mono ?_
  rintro e w1 ⟨hb1, hno, hyes⟩
  by_cases hE : newHE x.R x.keys = 0
  · obtain ⟨c, s, rfl, hi, _⟩ := hyes hE
    have HI := Lib.hid hi
    clear hno hyes hE hi hb1 HNW
    go_wp2_with (fail)
    go_loopw [7, 8, 9, 10, 11, 12, 13, 14, 15, 16, 17, 18, 19] (fun v _ _ _ _ _ _ _ _ _ _ _ _ wr => ∃ (i : Nat) (s' : HotV), i ≤ len ∧ v = .int .i64 i ∧ Hid (HtI w wr c s')) (fun v _ _ _ _ _ _ _ _ _ _ _ _ _ => len - (intOf v).toNat)
    case atStart => exact ⟨0, s, Nat.zero_le _, rfl, HI⟩
    case round =>
      clear HI
      obtain ⟨i, s', hi, rfl, HI⟩ := hrel
      by_cases hlt : i < len ∧ i < 80
      · obtain ⟨hlt, h80⟩ := hlt
        obtain ⟨b, off, rfl, hbl, d0, d1, d2, d3, hsz⟩ := HD.out.get hlt
        have d0 := (HI.out.bel.cell (p := ⟨b, off + i * 4, none⟩) hbl).trans d0
        have d1 := (HI.out.bel.cell (p := ⟨b, off + i * 4 + 1, none⟩) hbl).trans d1
        have d2 := (HI.out.bel.cell (p := ⟨b, off + i * 4 + 2, none⟩) hbl).trans d2
        have d3 := (HI.out.bel.cell (p := ⟨b, off + i * 4 + 3, none⟩) hbl).trans d3
        generalize K i = kd at *
        generalize A i = at_ at *
        generalize S i = key at *
        generalize C i = n at *
        have k0 : (0 : Int) ≤ i := by omega
        have k1 : (i : Int) < len := by omega
        have k2 : (i : Int) < 80 := by omega
        have hal : Below wr.heap.size wr (wr.alloc (.cells #[.int .i64 kd, .int .i64 at_, .string key, .int .i64 n] 35)) := (Below.refl _ _).alloc (Nat.le_refl _) _
        have hbx := new_blockS wr (.cells #[.int .i64 kd, .int .i64 at_, .string key, .int .i64 n] 35)
        have hzx : (wr.alloc (.cells #[.int .i64 kd, .int .i64 at_, .string key, .int .i64 n] 35)).heap.size = wr.heap.size + 1 := by simp
        have HIA := Lib.hid (HI.out.below hal)
        have HKP := Lib.hid (hKept_any HIA.out.hot)
        have HBX := Lib.hid hbx
        have HZX := Lib.hid hzx
        have HSZ := Lib.hid hsz
        clear hal hbx hzx hsz
        go_wp2_with (fail)
        refine HKP.out.mono ?_
        rintro e w2 ⟨aW, cW, rfl, hrow2, h2⟩
        have HI2 := Lib.hid (HIA.out.below h2)
        have HBX2 := Lib.hid ((h2.block wr.heap.size (by rw [HZX.out]; omega)).trans HBX.out)
        have HZ2 := Lib.hid (show wr.heap.size + 1 ≤ w2.heap.size by have := h2.size; rw [HZX.out] at this; exact this)
        rw [HZX.out] at hrow2
        have HR2 := Lib.hid hrow2
        have HFK := Lib.hid (hfork_any HI2.out.hot)
        clear h2 hrow2 HKP HBX d0 d1 d2 d3 HIA
        go_wp2_with (fail)
        refine HFK.out.mono ?_
        rintro e w3 ⟨cf, s2, rfl, hf⟩
        have HF := Lib.hid hf
        have HI3 := Lib.hid (HI2.out.below hf.bel)
        have hb3 := (hf.bel.block wr.heap.size (by have := HZ2.out; omega)).trans HBX2.out
        have HBX3 := Lib.hid hb3
        have HR3 := Lib.hid (ownsRow_below HR2.out hf.bel)
        have c1 : w3.cell? ⟨wr.heap.size, 1, none⟩ = some (.int .i64 at_) := by simp only [World.cell?, hb3]; rfl
        have c2 : w3.cell? ⟨wr.heap.size, 2, none⟩ = some (.string key) := by simp only [World.cell?, hb3]; rfl
        have c3 : w3.cell? ⟨wr.heap.size, 3, none⟩ = some (.int .i64 n) := by simp only [World.cell?, hb3]; rfl
        have HTK := Lib.hid (htake_any HI3.out.hot at_ key HSZ.out n)
        clear hf hb3 HBX2 HR2 HFK
        generalize hBB : lookHB c s' at_ key n = B at *
        generalize hEE : lookHE s'.last at_ key n = E at *
        have HEE := Lib.hid hEE
        clear hBB hEE
        go_wp2_with (fail)
        refine HTK.out.mono ?_
        rintro e w4 ⟨s4, rfl, t4⟩
        have HI4 := Lib.hid (HI3.out.take t4)
        have HT4 := Lib.hid t4
        clear t4 HTK c1 c2 c3
        by_cases hE0 : E = 0
        · subst hE0
          have HKN := Lib.hid (hKept_any HI4.out.hot)
          go_wp2_with (fail)
          refine HKN.out.mono ?_
          rintro e w5 ⟨aN, cN, rfl, hrow5, h5⟩
          have HI5 := Lib.hid (HI4.out.below h5)
          have HF5 := Lib.hid ((fork_stays HI2.out.hot HF.out HT4.out).below h5)
          have hnb : ∀ i, wr.heap.size ≤ i → i < w3.heap.size → w5.heap[i]? = w3.heap[i]? := fun i h1 h2 => (h5.block i (Nat.lt_of_lt_of_le h2 HT4.out.off.size)).trans (HT4.out.off.block i h2 (fun h => by have := HI.out.hot.lt h; omega))
          have hz3 := HF.out.bel.size
          have HBX5 := Lib.hid ((hnb wr.heap.size (Nat.le_refl _) (by have := HZ2.out; omega)).trans HBX3.out)
          have HRW := Lib.hid (rowS_of (ownsRow_sameA HR3.out (fun g e => hnb g (by have := (HR3.out.lt g e).1; omega) (HR3.out.lt g e).2)))
          have HRN := Lib.hid (rowS_of hrow5)
          obtain ⟨n0, hn0⟩ : ∃ n0, s'.L.length = n0 := ⟨_, rfl⟩
          obtain ⟨n1, hn1⟩ : ∃ n1, s4.L.length = n1 := ⟨_, rfl⟩
          obtain ⟨KW, hKW⟩ : ∃ KW, (pr s'.L).map (·.1) = KW := ⟨_, rfl⟩
          obtain ⟨KN, hKN⟩ : ∃ KN, (pr s4.L).map (·.1) = KN := ⟨_, rfl⟩
          have HK := Lib.hid (show KW.length = n0 ∧ KN.length = n1 ∧ n0 ≤ 4096 ∧ n1 ≤ 4096 from ⟨by rw [← hKW, ← hn0]; simp [pr], by rw [← hKN, ← hn1]; simp [pr], by rw [← hn0]; have := HI.out.hot.lru.cap; have := HI.out.hot.lru.big; omega, by rw [← hn1]; have := HI4.out.hot.lru.cap; have := HI4.out.hot.lru.big; omega⟩)
          have HKS := Lib.hid (show ∀ (j : Nat) (q : ByteArray), KW[j]? = some q → q.size ≤ maxLen from fun j q hq => by
            rw [← hKW] at hq
            obtain ⟨p, hp, rfl⟩ := List.mem_map.1 (List.mem_of_getElem? hq)
            obtain ⟨y, hy, rfl⟩ := List.mem_map.1 hp
            exact HI.out.hot.lru.body.small y hy)
          have HLAW := Lib.hid (show ∀ q, q ≠ key → KN.any (fun p => decide (p = q)) = true → _ from fun q hq hin => apart_law HF.out HT4.out HEE.out hq (by rw [← hKN, List.any_map] at hin; exact hin))
          try rw [hKW] at HRW
          try rw [hKN] at HRN
          simp only [hn0, hn1]
          clear hrow5 h5 hnb hz3 HKN HR3 HBX3 HF HI2 HI3 HI4 HT4 HEE HZX HZ2 hKW hKN hn0 hn1 HI
          obtain ⟨bx, hbx⟩ : ∃ bx, wr.heap.size = bx := ⟨_, rfl⟩
          rw [hbx] at HBX5
          have HBXL := Lib.hid (Array.getElem?_eq_some_iff.1 HBX5.out).1
          simp only [hbx]
          clear hbx
          go_wp2_with (fail)
          go_loopw [14, 15, 16, 17, 18, 19, 20] (fun x13 _ _ _ _ _ _ wr => ∃ (k : Nat), k ≤ n0 ∧ x13 = .int .i64 k ∧ Hid (Below w5.heap.size w5 wr)) (fun x13 _ _ _ _ _ _ _ => n0 - (intOf x13).toNat)
          case atStart => exact ⟨0, Nat.zero_le _, rfl, Lib.hid (Below.refl _ _)⟩
          case round =>
            rename World => wu
            obtain ⟨k, hk0, rfl, HBU⟩ := hrel
            by_cases hlk : k < n0
            · have m0 : (0 : Int) ≤ k := by omega
              have m1 : (k : Int) < n0 := by omega
              have hk9 : k ≤ 4096 := by have := HK.out; omega
              obtain ⟨q, hq⟩ : ∃ q, KW[k]? = some q := ⟨_, List.getElem?_eq_getElem (by rw [HK.out.1]; exact hlk)⟩
              obtain ⟨g0, ha0, hg0, hc0⟩ := HRW.out.get hq
              subst ha0
              have HC0 := Lib.hid hc0
              have HQ := Lib.hid hq
              have HG0 := Lib.hid hg0
              clear hq hc0 hg0 hlk
              go_wp2_with (fail)
              go_loopw [15, 16] (fun x14 x15 wr => ∃ (j : Nat), j ≤ n1 ∧ x15 = .int .i64 j ∧ x14 = .bool ((KN.take j).any (fun p => decide (p = q))) ∧ Hid (Below w5.heap.size w5 wr)) (fun _ x15 _ => n1 - (intOf x15).toNat)
              case atStart => exact ⟨0, Nat.zero_le _, rfl, rfl, HBU⟩
              case round =>
                rename World => wv
                clear HBU
                obtain ⟨j, hj1, rfl, rfl, HBV⟩ := hrel
                have w1c := (HBV.out.cell (p := ⟨g0, k, none⟩) HG0.out).trans HC0.out
                by_cases hlj : j < n1
                · have n0' : (0 : Int) ≤ j := by omega
                  have n1' : (j : Int) < n1 := by omega
                  have hj9 : j ≤ 4096 := by have := HK.out; omega
                  obtain ⟨p, hp⟩ : ∃ p, KN[j]? = some p := ⟨_, List.getElem?_eq_getElem (by rw [HK.out.2.1]; exact hlj)⟩
                  obtain ⟨g1, ha1, hg1, hc1⟩ := HRN.out.get hp
                  subst ha1
                  have w2c := (HBV.out.cell (p := ⟨g1, j, none⟩) hg1).trans hc1
                  have htk : ((KN.take (j + 1)).any (fun p => decide (p = q))) = ((KN.take j).any (fun p => decide (p = q)) || decide (p = q)) := by
                    rw [List.take_add_one, hp]; simp
                  have HTKJ := Lib.hid htk
                  generalize hST : ((KN.take j).any (fun p => decide (p = q))) = ST at *
                  clear htk hg1 hc1 hp hST hlj
                  cases ST with
                  | true =>
                   as_aux_lemma =>
                    go_wp2_with (fail)
                    go_quiet (fail)
                    have HBX := Lib.hid (show Below w5.heap.size w5 (wv.drewN nq) from below_drewFK HBV.out nq)
                    clear w1c w2c
                    generalize wv.drewN nq = wx at *
                    go_wp2_with (fail)
                    exact ⟨⟨j + 1, by omega, by go_num, by rw [HTKJ.out]; rfl, HBX⟩, by first | (simp [intOf]; done) | (simp [intOf]; omega)⟩
                  | false =>
                    by_cases hpq : p = q
                    · as_aux_lemma =>
                      have hkey : (p.toList == q.toList) = true := by rw [hpq]; simp
                      have HX1 := Lib.hid (HTKJ.out.trans (by rw [decide_eq_true hpq]))
                      clear hpq
                      go_wp2_with (fail)
                      go_quiet (fail)
                      have HBX := Lib.hid (show Below w5.heap.size w5 (wv.drewN nq) from below_drewFK HBV.out nq)
                      clear w1c w2c
                      generalize wv.drewN nq = wx at *
                      go_wp2_with (fail)
                      exact ⟨⟨j + 1, by omega, by go_num, by rw [HX1.out]; rfl, HBX⟩, by first | (simp [intOf]; done) | (simp [intOf]; omega)⟩
                    · as_aux_lemma =>
                      have hkey : (p.toList == q.toList) = false := by
                        rw [beq_eq_false_iff_ne]
                        exact fun e => hpq (toList_injK e)
                      have HX1 := Lib.hid (HTKJ.out.trans (by rw [decide_eq_false hpq]))
                      clear hpq
                      go_wp2_with (fail)
                      go_quiet (fail)
                      have HBX := Lib.hid (show Below w5.heap.size w5 (wv.drewN nq) from below_drewFK HBV.out nq)
                      clear w1c w2c
                      generalize wv.drewN nq = wx at *
                      go_wp2_with (fail)
                      exact ⟨⟨j + 1, by omega, by go_num, by rw [HX1.out]; rfl, HBX⟩, by first | (simp [intOf]; done) | (simp [intOf]; omega)⟩
                · have n1' : ¬ (j : Int) < n1 := by omega
                  have htk : KN.take j = KN := List.take_of_length_le (by rw [HK.out.2.1]; omega)
                  rw [htk]
                  have hbx := (HBV.out.block bx HBXL.out).trans HBX5.out
                  have x1 : wv.cell? ⟨bx, 1, none⟩ = some (.int .i64 at_) := by simp only [World.cell?, hbx]; rfl
                  have x2 : wv.cell? ⟨bx, 2, none⟩ = some (.string key) := by simp only [World.cell?, hbx]; rfl
                  have HLQ := Lib.hid (HLAW.out q)
                  generalize hIN : (KN.any (fun p => decide (p = q))) = IN at *
                  clear htk hIN hbx
                  by_cases hqk : q = key
                  · have hkey : (q.toList == key.toList) = true := by rw [hqk]; simp
                    cases IN with
                    | true =>
                     as_aux_lemma =>
                      go_wp2_with (fail)
                      go_quiet (fail)
                      have HBX := Lib.hid (show Below w5.heap.size w5 (wv.drewN nq) from below_drewFK HBV.out nq)
                      clear w1c x1 x2
                      generalize wv.drewN nq = wx at *
                      go_wp2_with (fail)
                      exact ⟨⟨k + 1, by omega, by go_num, HBX⟩, by first | (simp [intOf]; done) | (simp [intOf]; omega)⟩
                    | false =>
                     as_aux_lemma =>
                      go_wp2_with (fail)
                      go_quiet (fail)
                      have HBX := Lib.hid (show Below w5.heap.size w5 (wv.drewN nq) from below_drewFK HBV.out nq)
                      clear w1c x1 x2
                      generalize wv.drewN nq = wx at *
                      go_wp2_with (fail)
                      exact ⟨⟨k + 1, by omega, by go_num, HBX⟩, by first | (simp [intOf]; done) | (simp [intOf]; omega)⟩
                  · have hkey : (q.toList == key.toList) = false := by
                      rw [beq_eq_false_iff_ne]
                      exact fun e => hqk (toList_injK e)
                    cases IN with
                    | false =>
                     as_aux_lemma =>
                      go_wp2_with (fail)
                      go_quiet (fail)
                      have HBX := Lib.hid (show Below w5.heap.size w5 (wv.drewN nq) from below_drewFK HBV.out nq)
                      clear w1c x1 x2
                      generalize wv.drewN nq = wx at *
                      go_wp2_with (fail)
                      exact ⟨⟨k + 1, by omega, by go_num, HBX⟩, by first | (simp [intOf]; done) | (simp [intOf]; omega)⟩
                    | true =>
                     as_aux_lemma =>
                      obtain ⟨hl1, hl2⟩ := HLQ.out hqk rfl
                      have HL12 := Lib.hid (And.intro hl1 hl2)
                      clear hl1 hl2 HLQ
                      go_wp2_with (fail)
                      go_quiet (fail)
                      have HBX := Lib.hid (show Below w5.heap.size w5 (wv.drewN nq) from below_drewFK HBV.out nq)
                      have w1c := (show (wv.drewN nq).cell? ⟨g0, k, none⟩ = some (.string q) from w1c)
                      have x1 := (show (wv.drewN nq).cell? ⟨bx, 1, none⟩ = some (.int .i64 at_) from x1)
                      generalize wv.drewN nq = wx at *
                      have HSQ := Lib.hid (HKS.out k q HQ.out)
                      have hu1 := hUsed_any ((HF5.out.below HBX.out).below ((Below.refl _ _).drew)) at_ q HSQ.out
                      rw [HL12.out.1, HL12.out.2] at hu1
                      have HU1 := Lib.hid hu1
                      have HU2 := Lib.hid (fun (wy : World) (h : Below w5.heap.size w5 wy) => hUsed_any (HI5.out.below h).hot at_ q HSQ.out)
                      generalize (if hwE s4.last at_ q = 0 then usedH c s4 at_ q else 0) = U at *
                      generalize hwE s4.last at_ q = EU at *
                      have HCC := Lib.hid (show ∀ wy : World, Below w5.heap.size w5 wy → (wy.cell? ⟨bx, 1, none⟩ = some (.int .i64 at_) ∧ wy.cell? ⟨g0, k, none⟩ = some (.string q)) from fun wy hb =>
                        ⟨(World.cell?_of_block (a := ⟨bx, 1, none⟩) (hb.block bx HBXL.out)).trans (show w5.cell? ⟨bx, 1, none⟩ = some (.int .i64 at_) by simp only [World.cell?, HBX5.out]; rfl), (hb.cell (p := ⟨g0, k, none⟩) HG0.out).trans HC0.out⟩)
                      clear hu1 HL12
                      go_wp2_with (fail)
                      refine wp_region_held_drew (S := (fun wq => wq.cell? ⟨bx, 1, none⟩ = some (.int .i64 at_) ∧ wq.cell? ⟨g0, k, none⟩ = some (.string q))) (by kernel_rfl) ?_ (fun hHeld => ?_)
                      · exact ⟨x1, w1c⟩
                      refine wpAnyH_take (i := 0) (v := ?_) rfl (by kernel_rfl) (by kernel_rfl) (by kernel_rfl) (fun _ _ _ h => h) (Or.inl ⟨by rfl, ?hy⟩) (by assumption) ?_
                      case hy => intro w hSw; (try dsimp only at hSw); go_simp; try with_reducible rfl
                      try simp only [Act.put, List.getElem_toArray, List.getElem_cons_succ, List.getElem_cons_zero, List.setIfInBounds_toArray, List.set_cons_zero, List.set_cons_succ]
                      refine wpAnyH_take (i := 1) (v := ?_) rfl (by kernel_rfl) (by kernel_rfl) (by kernel_rfl) (fun _ _ _ h => h) (Or.inl ⟨by rfl, ?hy⟩) (by assumption) ?_
                      case hy => intro w hSw; (try dsimp only at hSw); go_simp; try with_reducible rfl
                      try simp only [Act.put, List.getElem_toArray, List.getElem_cons_succ, List.getElem_cons_zero, List.setIfInBounds_toArray, List.set_cons_zero, List.set_cons_succ]
                      refine wpAnyH_take (i := 2) (v := ?_) rfl (by kernel_rfl) (by kernel_rfl) (by kernel_rfl) (fun _ _ _ h => h) (Or.inl ⟨by rfl, ?hy⟩) (by assumption) ?_
                      case hy => intro w hSw; (try dsimp only at hSw); go_simp; try with_reducible rfl
                      try simp only [Act.put, List.getElem_toArray, List.getElem_cons_succ, List.getElem_cons_zero, List.setIfInBounds_toArray, List.set_cons_zero, List.set_cons_succ]
                      refine wpAnyH_take (i := 3) (v := ?_) rfl (by kernel_rfl) (by kernel_rfl) (by kernel_rfl) (fun _ _ _ h => h) (Or.inl ⟨by rfl, ?hy⟩) (by assumption) ?_
                      case hy => intro w hSw; (try dsimp only at hSw); go_simp; try with_reducible rfl
                      try simp only [Act.put, List.getElem_toArray, List.getElem_cons_succ, List.getElem_cons_zero, List.setIfInBounds_toArray, List.set_cons_zero, List.set_cons_succ]
                      refine wpAnyH_take (i := 4) (v := ?_) rfl (by kernel_rfl) (by kernel_rfl) (by kernel_rfl) (fun _ _ _ h => h) (Or.inl ⟨by rfl, ?hy⟩) (by assumption) ?_
                      case hy => intro w hSw; (try dsimp only at hSw); go_simp; try with_reducible rfl
                      try simp only [Act.put, List.getElem_toArray, List.getElem_cons_succ, List.getElem_cons_zero, List.setIfInBounds_toArray, List.set_cons_zero, List.set_cons_succ]
                      refine wpAnyH_take (i := 5) (v := ?_) rfl (by kernel_rfl) (by kernel_rfl) (by kernel_rfl) (fun _ _ _ h => h) (Or.inl ⟨by rfl, ?hy⟩) (by assumption) ?_
                      case hy => intro w hSw; (try dsimp only at hSw); go_simp; try with_reducible rfl
                      try simp only [Act.put, List.getElem_toArray, List.getElem_cons_succ, List.getElem_cons_zero, List.setIfInBounds_toArray, List.set_cons_zero, List.set_cons_succ]
                      refine wpAnyH_take (i := 6) (v := ?_) rfl (by kernel_rfl) (by kernel_rfl) (by kernel_rfl) (fun _ _ _ h => h) (Or.inl ⟨by rfl, ?hy⟩) (by assumption) ?_
                      case hy => intro w hSw; (try dsimp only at hSw); go_simp; try with_reducible rfl
                      try simp only [Act.put, List.getElem_toArray, List.getElem_cons_succ, List.getElem_cons_zero, List.setIfInBounds_toArray, List.set_cons_zero, List.set_cons_succ]
                      refine wpAnyH_ready (rs := [7]) (by kernel_rfl) (by simp) (AllReadyH.cons rfl (fun K hK => ?_) AllReadyH.nil)
                      go_simp
                      go_at_call 10; refine HU1.out.mono ?_; rintro e w6 ⟨rfl, h6⟩
                      try (go_wp2_with fail)
                      refine hK.out _ _ ?_ (fun hHeld => ?_)
                      · exact HCC.out w6 (HBX.out.trans (((Below.refl _ _).drew.trans (h6.mono (Nat.le_refl _))).mono HBX.out.size))
                      clear hK K
                      try simp only [Act.put, List.getElem_toArray, List.getElem_cons_succ, List.getElem_cons_zero, List.setIfInBounds_toArray, List.set_cons_zero, List.set_cons_succ]
                      refine wpAnyH_take (i := 8) (v := ?_) rfl (by kernel_rfl) (by kernel_rfl) (by kernel_rfl) (fun _ _ _ h => h) (Or.inl ⟨by rfl, ?hy⟩) (by assumption) ?_
                      case hy => intro w hSw; (try dsimp only at hSw); go_simp; try with_reducible rfl
                      try simp only [Act.put, List.getElem_toArray, List.getElem_cons_succ, List.getElem_cons_zero, List.setIfInBounds_toArray, List.set_cons_zero, List.set_cons_succ]
                      refine wpAnyH_take (i := 9) (v := ?_) rfl (by kernel_rfl) (by kernel_rfl) (by kernel_rfl) (fun _ _ _ h => h) (Or.inl ⟨by rfl, ?hy⟩) (by assumption) ?_
                      case hy => intro w hSw; (try dsimp only at hSw); go_simp; try with_reducible rfl
                      try simp only [Act.put, List.getElem_toArray, List.getElem_cons_succ, List.getElem_cons_zero, List.setIfInBounds_toArray, List.set_cons_zero, List.set_cons_succ]
                      refine wpAnyH_take (i := 10) (v := ?_) rfl (by kernel_rfl) (by kernel_rfl) (by kernel_rfl) (fun _ _ _ h => h) (Or.inl ⟨by rfl, ?hy⟩) (by assumption) ?_
                      case hy => intro w hSw; (try dsimp only at hSw); go_simp; try with_reducible rfl
                      try simp only [Act.put, List.getElem_toArray, List.getElem_cons_succ, List.getElem_cons_zero, List.setIfInBounds_toArray, List.set_cons_zero, List.set_cons_succ]
                      refine wpAnyH_take (i := 11) (v := ?_) rfl (by kernel_rfl) (by kernel_rfl) (by kernel_rfl) (fun _ _ _ h => h) (Or.inl ⟨by rfl, ?hy⟩) (by assumption) ?_
                      case hy => intro w hSw; (try dsimp only at hSw); go_simp; try with_reducible rfl
                      try simp only [Act.put, List.getElem_toArray, List.getElem_cons_succ, List.getElem_cons_zero, List.setIfInBounds_toArray, List.set_cons_zero, List.set_cons_succ]
                      refine wpAnyH_take (i := 12) (v := ?_) rfl (by kernel_rfl) (by kernel_rfl) (by kernel_rfl) (fun _ _ _ h => h) (Or.inl ⟨by rfl, ?hy⟩) (by assumption) ?_
                      case hy => intro w hSw; (try dsimp only at hSw); go_simp; try with_reducible rfl
                      try simp only [Act.put, List.getElem_toArray, List.getElem_cons_succ, List.getElem_cons_zero, List.setIfInBounds_toArray, List.set_cons_zero, List.set_cons_succ]
                      refine wpAnyH_done (by kernel_rfl) ?_ _
                      have hb6 := HBX.out.trans (((Below.refl _ _).drew.trans (h6.mono (Nat.le_refl _))).mono HBX.out.size)
                      obtain ⟨x1, w1c⟩ := HCC.out w6 hb6
                      have HB6 := Lib.hid hb6
                      clear hb6 h6 HBX HU1 x2 hHeld
                      go_wp2_with (fail)
                      refine wp_region_held_drew (S := (fun wq => wq.cell? ⟨bx, 1, none⟩ = some (.int .i64 at_) ∧ wq.cell? ⟨g0, k, none⟩ = some (.string q))) (by kernel_rfl) ?_ (fun hHeld => ?_)
                      · exact ⟨x1, w1c⟩
                      refine wpAnyH_take (i := 0) (v := ?_) rfl (by kernel_rfl) (by kernel_rfl) (by kernel_rfl) (fun _ _ _ h => h) (Or.inl ⟨by rfl, ?hy⟩) (by assumption) ?_
                      case hy => intro w hSw; (try dsimp only at hSw); go_simp; try with_reducible rfl
                      try simp only [Act.put, List.getElem_toArray, List.getElem_cons_succ, List.getElem_cons_zero, List.setIfInBounds_toArray, List.set_cons_zero, List.set_cons_succ]
                      refine wpAnyH_take (i := 1) (v := ?_) rfl (by kernel_rfl) (by kernel_rfl) (by kernel_rfl) (fun _ _ _ h => h) (Or.inl ⟨by rfl, ?hy⟩) (by assumption) ?_
                      case hy => intro w hSw; (try dsimp only at hSw); go_simp; try with_reducible rfl
                      try simp only [Act.put, List.getElem_toArray, List.getElem_cons_succ, List.getElem_cons_zero, List.setIfInBounds_toArray, List.set_cons_zero, List.set_cons_succ]
                      refine wpAnyH_take (i := 2) (v := ?_) rfl (by kernel_rfl) (by kernel_rfl) (by kernel_rfl) (fun _ _ _ h => h) (Or.inl ⟨by rfl, ?hy⟩) (by assumption) ?_
                      case hy => intro w hSw; (try dsimp only at hSw); go_simp; try with_reducible rfl
                      try simp only [Act.put, List.getElem_toArray, List.getElem_cons_succ, List.getElem_cons_zero, List.setIfInBounds_toArray, List.set_cons_zero, List.set_cons_succ]
                      refine wpAnyH_take (i := 3) (v := ?_) rfl (by kernel_rfl) (by kernel_rfl) (by kernel_rfl) (fun _ _ _ h => h) (Or.inl ⟨by rfl, ?hy⟩) (by assumption) ?_
                      case hy => intro w hSw; (try dsimp only at hSw); go_simp; try with_reducible rfl
                      try simp only [Act.put, List.getElem_toArray, List.getElem_cons_succ, List.getElem_cons_zero, List.setIfInBounds_toArray, List.set_cons_zero, List.set_cons_succ]
                      refine wpAnyH_take (i := 4) (v := ?_) rfl (by kernel_rfl) (by kernel_rfl) (by kernel_rfl) (fun _ _ _ h => h) (Or.inl ⟨by rfl, ?hy⟩) (by assumption) ?_
                      case hy => intro w hSw; (try dsimp only at hSw); go_simp; try with_reducible rfl
                      try simp only [Act.put, List.getElem_toArray, List.getElem_cons_succ, List.getElem_cons_zero, List.setIfInBounds_toArray, List.set_cons_zero, List.set_cons_succ]
                      refine wpAnyH_take (i := 5) (v := ?_) rfl (by kernel_rfl) (by kernel_rfl) (by kernel_rfl) (fun _ _ _ h => h) (Or.inl ⟨by rfl, ?hy⟩) (by assumption) ?_
                      case hy => intro w hSw; (try dsimp only at hSw); go_simp; try with_reducible rfl
                      try simp only [Act.put, List.getElem_toArray, List.getElem_cons_succ, List.getElem_cons_zero, List.setIfInBounds_toArray, List.set_cons_zero, List.set_cons_succ]
                      refine wpAnyH_take (i := 6) (v := ?_) rfl (by kernel_rfl) (by kernel_rfl) (by kernel_rfl) (fun _ _ _ h => h) (Or.inl ⟨by rfl, ?hy⟩) (by assumption) ?_
                      case hy => intro w hSw; (try dsimp only at hSw); go_simp; try with_reducible rfl
                      try simp only [Act.put, List.getElem_toArray, List.getElem_cons_succ, List.getElem_cons_zero, List.setIfInBounds_toArray, List.set_cons_zero, List.set_cons_succ]
                      refine wpAnyH_ready (rs := [7]) (by kernel_rfl) (by simp) (AllReadyH.cons rfl (fun K hK => ?_) AllReadyH.nil)
                      go_simp
                      go_at_call 10; refine (HU2.out _ (HB6.out.drew)).mono ?_; rintro e w7 ⟨rfl, h7⟩
                      try (go_wp2_with fail)
                      refine hK.out _ _ ?_ (fun hHeld => ?_)
                      · exact HCC.out w7 (HB6.out.drew.trans (h7.mono HB6.out.drew.size))
                      clear hK K
                      try simp only [Act.put, List.getElem_toArray, List.getElem_cons_succ, List.getElem_cons_zero, List.setIfInBounds_toArray, List.set_cons_zero, List.set_cons_succ]
                      refine wpAnyH_take (i := 8) (v := ?_) rfl (by kernel_rfl) (by kernel_rfl) (by kernel_rfl) (fun _ _ _ h => h) (Or.inl ⟨by rfl, ?hy⟩) (by assumption) ?_
                      case hy => intro w hSw; (try dsimp only at hSw); go_simp; try with_reducible rfl
                      try simp only [Act.put, List.getElem_toArray, List.getElem_cons_succ, List.getElem_cons_zero, List.setIfInBounds_toArray, List.set_cons_zero, List.set_cons_succ]
                      refine wpAnyH_take (i := 9) (v := ?_) rfl (by kernel_rfl) (by kernel_rfl) (by kernel_rfl) (fun _ _ _ h => h) (Or.inl ⟨by rfl, ?hy⟩) (by assumption) ?_
                      case hy => intro w hSw; (try dsimp only at hSw); go_simp; try with_reducible rfl
                      try simp only [Act.put, List.getElem_toArray, List.getElem_cons_succ, List.getElem_cons_zero, List.setIfInBounds_toArray, List.set_cons_zero, List.set_cons_succ]
                      refine wpAnyH_take (i := 10) (v := ?_) rfl (by kernel_rfl) (by kernel_rfl) (by kernel_rfl) (fun _ _ _ h => h) (Or.inl ⟨by rfl, ?hy⟩) (by assumption) ?_
                      case hy => intro w hSw; (try dsimp only at hSw); go_simp; try with_reducible rfl
                      try simp only [Act.put, List.getElem_toArray, List.getElem_cons_succ, List.getElem_cons_zero, List.setIfInBounds_toArray, List.set_cons_zero, List.set_cons_succ]
                      refine wpAnyH_take (i := 11) (v := ?_) rfl (by kernel_rfl) (by kernel_rfl) (by kernel_rfl) (fun _ _ _ h => h) (Or.inl ⟨by rfl, ?hy⟩) (by assumption) ?_
                      case hy => intro w hSw; (try dsimp only at hSw); go_simp; try with_reducible rfl
                      try simp only [Act.put, List.getElem_toArray, List.getElem_cons_succ, List.getElem_cons_zero, List.setIfInBounds_toArray, List.set_cons_zero, List.set_cons_succ]
                      refine wpAnyH_take (i := 12) (v := ?_) rfl (by kernel_rfl) (by kernel_rfl) (by kernel_rfl) (fun _ _ _ h => h) (Or.inl ⟨by rfl, ?hy⟩) (by assumption) ?_
                      case hy => intro w hSw; (try dsimp only at hSw); go_simp; try with_reducible rfl
                      try simp only [Act.put, List.getElem_toArray, List.getElem_cons_succ, List.getElem_cons_zero, List.setIfInBounds_toArray, List.set_cons_zero, List.set_cons_succ]
                      refine wpAnyH_done (by kernel_rfl) ?_ _
                      have HB7 := Lib.hid (HB6.out.drew.trans (h7.mono HB6.out.drew.size))
                      clear h7 HB6 HU2 HCC x1 w1c hHeld
                      go_wp2_with (fail)
                      exact ⟨⟨k + 1, by omega, by go_num, HB7⟩, by first | (simp [intOf]; done) | (simp [intOf]; omega)⟩
            · have m1 : ¬ (k : Int) < n0 := by omega
              have HIE := Lib.hid (HI5.out.below HBU.out)
              go_wp2_with (fail)
              exact ⟨⟨i + 1, s4, by omega, by go_num, HIE⟩, by first | (simp [intOf]; done) | (simp [intOf]; omega)⟩
        · have hne : (E != 0) = true := by simpa using hE0
          clear HI HI2 HI3 HF HBX3 HR3 HT4 HEE
          go_wp2_with (fail)
          exact ⟨⟨i + 1, s4, by omega, by go_num, HI4⟩, by first | (simp [intOf]; done) | (simp [intOf]; omega)⟩
      · have HLV2 := Lib.hid (HLV.out wr)
        have HB := Lib.hid HI.out.bel
        clear HI HLV
        by_cases hA : i < len
        · have k1 : (i : Int) < len := by omega
          have k2 : ¬ (i : Int) < 80 := by omega
          go_wp2_with (fail)
          refine HLV2.out.mono ?_
          rintro e w2 ⟨rfl, h2⟩
          go_wp2_with (fail)
          go_ret
          exact ⟨rfl, HB.out.trans (h2.mono HB.out.size)⟩
        · have k1 : ¬ (i : Int) < len := by omega
          go_wp2_with (fail)
          refine HLV2.out.mono ?_
          rintro e w2 ⟨rfl, h2⟩
          go_wp2_with (fail)
          go_ret
          exact ⟨rfl, HB.out.trans (h2.mono HB.out.size)⟩
  · obtain rfl := hno hE
    have hne : (newHE x.R x.keys != 0) = true := by simpa using hE
    have HB := Lib.hid hb1
    generalize newHE x.R x.keys = E at *
    clear hno hyes hE hb1 HNW
    go_wp2_with (fail)
    refine (HLV.out _).mono ?_
    rintro e w2 ⟨rfl, h2⟩
    go_wp2_with (fail)
    go_ret
    exact ⟨by rfl, HB.out.trans (h2.mono HB.out.size)⟩
theorem hotapart_law {w : World} (x : SetS) (hx : SetAt w x) (a : Option Addr) (len cap : Nat) (V : Nat → Nat → Value) (hm : len ≤ 140737488351232) (hr : RecsAt w a 4 len V) (hB : len * 40 ≤ 140737488351232)
    (h0 : ∀ j, j < len → V j 0 = .int .i64 (intOf (V j 0)) ∧ (Lit.int .i64 (intOf (V j 0))).wf = true) (h1 : ∀ j, j < len → V j 1 = .int .i64 (intOf (V j 1)) ∧ (Lit.int .i64 (intOf (V j 1))).wf = true)
    (h2 : ∀ j, j < len → V j 2 = .string (strOf (V j 2)) ∧ (strOf (V j 2)).size ≤ maxLen) (h3 : ∀ j, j < len → V j 3 = .int .i64 (intOf (V j 3)) ∧ (Lit.int .i64 (intOf (V j 3))).wf = true) :
    Calls Try.prog 5 #[x.v, .slice a len cap] w fun e w' => e = .returned (.bool true) ∧ Below w.heap.size w w' :=
  hotapart_walk x hx a len cap hm _ _ _ _ (deedsH_of hr h0 h1 h2 h3)
end Go.Proofs.Ytemlafbkkaloiaa
