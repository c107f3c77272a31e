/- Texts of one chain, one behind the other: HtL, Q15I, HtOp, Q15J. -/
import Derived.Test.YtemlafbkkaloiaaGreatGSkN
import Derived.Test.YtemlafbkkaloiaaGreatGLruK
import Derived.Test.YtemlafbkkaloiaaGreatGRuListH

/- hot: what must be whatever is asked. -/
namespace Go.Proofs.YtemlafbkkaloiaaGreat
open Go.RowKit
set_option linter.unusedVariables false
set_option linter.unusedSimpArgs false

set_option maxHeartbeats 3200000 in
theorem hKept_any {w : World} {c : HotC} {s : HotV} (k : HotAt w c s) :
    Calls Tryz.prog 12 #[.pointer (some ⟨c.hb, 0, none⟩)] w fun e w' => ∃ a cap, e = .returned (.slice a s.L.length cap) ∧ w'.ownsRow w.heap.size 9 1 (.slice a s.L.length cap) s.L.length (((pr s.L).map (·.1)).map Value.string) ∧ Below w.heap.size w w' := by
  obtain ⟨_, _, _, _, _, c5, _⟩ := k.cells
  have HK := Lib.hid (lkeys_any k.lru)
  clear k
  go_enter Tryz.func12, Tryz.ntmps12
  go_wp2_with (fail)
  refine HK.out.mono ?_
  rintro e w1 ⟨v, rfl, h1, h2⟩
  go_wp2_with (fail)
  go_ret
  obtain ⟨a, cap, rfl⟩ : ∃ a cap, v = .slice a s.L.length cap := by
    rcases h1.2 with ⟨rfl, h0⟩ | ⟨g, cap, cur, rfl, _⟩
    · exact ⟨none, 0, by rw [h0]⟩
    · exact ⟨_, cap, rfl⟩
  exact ⟨a, cap, rfl, h1, h2⟩

theorem usedH_new {w w' : World} {R : HotS} {keys seed : Int} {c : HotC} {s : HotV} (h : NewHot w R keys seed w' c s) (at_ : Int) (key : ByteArray) : usedH c s at_ key = 0 := by
  rw [usedH_V]
  have : s.V key = none := by unfold HotV.V findW; rw [h.WS]; rfl
  rw [this, h.sn]
  exact est_nil (by show 1 ≤ (4 : Int); omega) key
theorem live_first {w w' : World} {c : HotC} {s : HotV} (h : NewHot w liveHot 1 7 w' c s) : lookHE s.last 0 liveXH 2 = 0 ∧ lookHB c s 0 liveXH 2 = true := by
  have e1 : lookHE s.last 0 liveXH 2 = 0 := by rw [h.last]; decide
  refine ⟨e1, ?_⟩
  unfold lookHB
  rw [e1, usedH_new h]
  obtain ⟨a', c', hR⟩ := h.R
  rw [hR, live_limit]
  decide
theorem live_second {w w' w2 : World} {c : HotC} {s s2 : HotV} (h : NewHot w liveHot 1 7 w' c s) (t : TakePost w' c s 0 liveXH 2 w2 s2) : lookHE s2.last 1 liveXH 1 = 0 ∧ lookHB c s2 1 liveXH 1 = false ∧ s2.L.length = 1 := by
  obtain ⟨hE, hB⟩ := live_first h
  have hl := (t.last hB).1
  have e1 : lookHE s2.last 1 liveXH 1 = 0 := by rw [hl]; decide
  have hv := t.vals hB liveXH
  have hn : s.V liveXH = none := by unfold HotV.V findW; rw [h.WS]; rfl
  rw [if_pos rfl, hn, usedH_new h] at hv
  refine ⟨e1, ?_, ?_⟩
  · unfold lookHB
    rw [e1, usedH_V, hv]
    obtain ⟨a', c', hR⟩ := h.R
    rw [hR, live_limit]
    show (decide ((0 : Int) = 0) && decide ((winC ((1 : Int) * 100000) 10 1 [⟨0, passH 0⟩, ⟨0, passH 2⟩]).p ≤ 2 - 1)) = false
    rw [winC_p]
    decide
  · have hr := t.rows hB
    rw [h.L] at hr
    have : (pr s2.L).length = 1 := by
      rw [hr]
      have hN : (c.N : Int) = 1 := h.N
      have hN : c.N = 1 := by omega
      rw [hN]
      decide
    rw [pr_len] at this
    exact this

set_option maxHeartbeats 6400000 in
set_option maxRecDepth 100000 in
theorem htlive_any (w : World) : Calls Tryz.prog 7 #[] w fun e w' => e = .returned (.bool true) ∧ Below w.heap.size w w' := by
  have HNW : Hid (Calls Tryz.prog 5 #[.agg #[.string ⟨#[97]⟩, .int .i64 0, .int .i64 2, .int .i64 1, .slice none 0 0], .int .i64 1, .int .u64 7] w _) := hnew_any liveHot (liveHot_ok w) 1 7 (by omega) (by omega)
  go_enter Tryz.func7, Tryz.ntmps7
  go_wp2_with (fail)
  refine HNW.out.mono ?_
  rintro e w1 ⟨hb1, _, hy⟩
  obtain ⟨c, s, rfl, h1⟩ := hy liveHot_new
  have HT := htake_any h1.hot 0 liveXH (by decide) 2
  rw [(live_first h1).1, (live_first h1).2] at HT
  unfold liveXH at HT
  have HT := Lib.hid HT
  have H1 := Lib.hid h1
  have HB1 := Lib.hid hb1
  clear hy h1 hb1 HNW
  go_wp2_with (fail)
  refine HT.out.mono ?_
  rintro e w2 ⟨s2, rfl, t2⟩
  obtain ⟨f1, f2, f3⟩ := live_second H1.out t2
  have HT2 := htake_any t2.hot 1 liveXH (by decide) 1
  rw [f1, f2] at HT2
  unfold liveXH at HT2
  have HT2 := Lib.hid HT2
  have hz1 := HB1.out.size
  have HB2 := Lib.hid (HB1.out.trans (t2.off.below (B := w.heap.size) hz1 (fun i hi h => by have := H1.out.own i h; omega)))
  have HOW := Lib.hid (show ∀ i, HOwn c s2 i → w.heap.size ≤ i from fun i hi => by
    rcases t2.own i hi with h | h
    · exact H1.out.own i h
    · omega)
  have HL2 := Lib.hid f3
  have HNO := Lib.hid (And.intro f1 f2)
  clear HT f1 f2 f3 t2 hz1
  go_wp2_with (fail)
  refine HT2.out.mono ?_
  rintro e w3 ⟨s3, rfl, t3⟩
  have h3 := t3.no HNO.out.1 HNO.out.2
  have HB3 := Lib.hid (HB2.out.trans (t3.off.below (B := w.heap.size) HB2.out.size (fun i hi h => by have := HOW.out i h; omega)))
  have HOT3 := Lib.hid t3.hot
  have hl3 : s3.L.length = 1 := by rw [h3]; exact HL2.out
  have HL3 := Lib.hid hl3
  have HLM := hLimit_any t3.hot ⟨#[120]⟩
  obtain ⟨a', c', hR⟩ := H1.out.R
  rw [hR, live_limit] at HLM
  have HLM := Lib.hid HLM
  clear hR hl3 h3 t3 HT2 HB2 HOW HL2 HNO HB1 H1
  go_wp2_with (fail)
  refine HLM.out.mono ?_
  rintro e w4 ⟨rfl, hb4⟩
  have HOT4 := Lib.hid (HOT3.out.below hb4)
  have HB4 := Lib.hid (HB3.out.trans (hb4.mono HB3.out.size))
  have HKP := hKept_any HOT4.out
  rw [HL3.out] at HKP
  have HKP := Lib.hid HKP
  clear HLM hb4 HOT3 HB3
  go_wp2_with (fail)
  refine HKP.out.mono ?_
  rintro e w5 ⟨a, cap, rfl, _, hb5⟩
  have HB5 := Lib.hid (HB4.out.trans (hb5.mono HB4.out.size))
  clear hb5 HKP
  go_wp2_with (fail)
  go_ret
  exact ⟨by rfl, HB5.out⟩
end Go.Proofs.YtemlafbkkaloiaaGreat

/- hot: where there is none, the program's and the reference's; two rows of texts are the same. -/
namespace Go.Proofs.YtemlafbkkaloiaaGreat
open Go.RowKit
set_option linter.unusedVariables false
set_option linter.unusedSimpArgs false

set_option maxHeartbeats 800000 in
theorem hUsed_nil (at_ : Int) (key : ByteArray) (w : World) : Calls Tryz.prog 16 #[.pointer none, .int .i64 at_, .string key] w fun e w' => e = .returned (.tuple #[.int .i64 0, .int .i64 1]) ∧ w' = w := by
  have HW := Lib.hid (hwrong_nil at_ key w)
  go_enter Tryz.func16, Tryz.ntmps16
  go_wp2_with (fail)
  refine HW.out.mono ?_
  rintro e wq ⟨rfl, hq⟩
  rw [hq]
  clear hq
  go_wp2_with (fail)
  go_ret2
  exact ⟨rfl, rfl⟩
set_option maxHeartbeats 800000 in
theorem hLook_nil (at_ : Int) (key : ByteArray) (n : Int) (w : World) : Calls Tryz.prog 17 #[.pointer none, .int .i64 at_, .string key, .int .i64 n] w fun e w' => e = .returned (.tuple #[.bool false, .int .i64 1]) ∧ w' = w := by
  have HW := Lib.hid (hwrong_nil at_ key w)
  go_enter Tryz.func17, Tryz.ntmps17
  go_wp2_with (fail)
  refine HW.out.mono ?_
  rintro e wq ⟨rfl, hq⟩
  rw [hq]
  clear hq
  go_wp2_with (fail)
  go_ret2
  exact ⟨rfl, rfl⟩
set_option maxHeartbeats 800000 in
theorem hTake_nil (at_ : Int) (key : ByteArray) (n : Int) (w : World) : Calls Tryz.prog 18 #[.pointer none, .int .i64 at_, .string key, .int .i64 n] w fun e w' => e = .returned (.tuple #[.bool false, .int .i64 1]) ∧ w' = w := by
  have HW := Lib.hid (hLook_nil at_ key n w)
  go_enter Tryz.func18, Tryz.ntmps18
  go_wp2_with (fail)
  refine HW.out.mono ?_
  rintro e wq ⟨rfl, hq⟩
  rw [hq]
  clear hq
  go_wp2_with (fail)
  go_ret2
  exact ⟨rfl, rfl⟩
set_option maxHeartbeats 800000 in
theorem hLimit_nil (key : ByteArray) (w : World) : Calls Tryz.prog 14 #[.pointer none, .string key] w fun e w' => e = .returned (.int .i64 0) ∧ w' = w := by
  go_enter Tryz.func14, Tryz.ntmps14
  go_wp2_with (fail)
  go_ret
  exact ⟨rfl, rfl⟩
set_option maxHeartbeats 800000 in
theorem hKept_nil (w : World) : Calls Tryz.prog 12 #[.pointer none] w fun e w' => e = .returned (.slice none 0 0) ∧ w' = w := by
  go_enter Tryz.func12, Tryz.ntmps12
  go_wp2_with (fail)
  go_ret
  exact ⟨rfl, rfl⟩
set_option maxHeartbeats 800000 in
theorem hFork_nil (w : World) : Calls Tryz.prog 8 #[.pointer none] w fun e w' => e = .returned (.pointer none) ∧ w' = w := by
  go_enter Tryz.func8, Tryz.ntmps8
  go_wp2_with (fail)
  go_ret
  exact ⟨rfl, rfl⟩
set_option maxHeartbeats 800000 in
theorem r15look_nil (at_ : Int) (key : ByteArray) (n : Int) (w : World) : Calls Tryz.prog 65 #[.pointer none, .int .i64 at_, .string key, .int .i64 n] w fun e w' => e = .returned (.int .i64 1) ∧ w' = w := by
  go_enter Tryz.func65, Tryz.ntmps65
  go_wp2_with (fail)
  go_ret
  exact ⟨rfl, rfl⟩
set_option maxHeartbeats 800000 in
theorem r15Look_nil (at_ : Int) (key : ByteArray) (n : Int) (w : World) : Calls Tryz.prog 35 #[.pointer none, .int .i64 at_, .string key, .int .i64 n] w fun e w' => e = .returned (.tuple #[.bool false, .int .i64 1]) ∧ w' = w := by
  have HW := Lib.hid (r15look_nil at_ key n w)
  go_enter Tryz.func35, Tryz.ntmps35
  go_wp2_with (fail)
  refine HW.out.mono ?_
  rintro e wq ⟨rfl, hq⟩
  rw [hq]
  clear hq
  go_wp2_with (fail)
  go_ret2
  exact ⟨rfl, rfl⟩
set_option maxHeartbeats 800000 in
theorem r15Take_nil (at_ : Int) (key : ByteArray) (n : Int) (w : World) : Calls Tryz.prog 19 #[.pointer none, .int .i64 at_, .string key, .int .i64 n] w fun e w' => e = .returned (.tuple #[.bool false, .int .i64 1]) ∧ w' = w := by
  have HW := Lib.hid (r15Look_nil at_ key n w)
  go_enter Tryz.func19, Tryz.ntmps19
  go_wp2_with (fail)
  refine HW.out.mono ?_
  rintro e wq ⟨rfl, hq⟩
  rw [hq]
  clear hq
  go_wp2_with (fail)
  go_ret2
  exact ⟨rfl, rfl⟩
set_option maxHeartbeats 800000 in
theorem r15Limit_nil (key : ByteArray) (w : World) : Calls Tryz.prog 15 #[.pointer none, .string key] w fun e w' => e = .returned (.int .i64 0) ∧ w' = w := by
  go_enter Tryz.func15, Tryz.ntmps15
  go_wp2_with (fail)
  go_ret
  exact ⟨rfl, rfl⟩
set_option maxHeartbeats 800000 in
theorem r15Kept_nil (w : World) : Calls Tryz.prog 13 #[.pointer none] w fun e w' => e = .returned (.slice none 0 0) ∧ w' = w := by
  go_enter Tryz.func13, Tryz.ntmps13
  go_wp2_with (fail)
  go_ret
  exact ⟨rfl, rfl⟩
set_option maxHeartbeats 1600000 in
theorem same15_any {w : World} (a b : Option Addr) (n ca cb : Nat) (ss : List ByteArray) (hl : ss.length = n) (hm : n ≤ 140737488351232) (ha : StrsAt w a ss) (hb : StrsAt w b ss) :
    Calls Tryz.prog 11 #[.slice a n ca, .slice b n cb] w fun e w' => e = .returned (.bool true) ∧ Below w.heap.size w w' := by
  have HA := Lib.hid ha
  have HB := Lib.hid hb
  have HN := Lib.hid hl
  clear ha hb hl
  go_enter Tryz.func11, Tryz.ntmps11
  go_wp2_with (fail)
  go_loopw [5] (fun i wr => ∃ k : Nat, k ≤ n ∧ i = .int .i64 k ∧ Below w.heap.size w wr) (fun i _ => n - (intOf i).toNat)
  case atStart => exact ⟨0, Nat.zero_le _, rfl, Below.refl _ _⟩
  case round =>
    obtain ⟨k, hk, rfl, hbl⟩ := hrel
    by_cases hlt : k < n
    · rcases HA.out with h | ⟨g, off, rfl, hg, hc⟩
      · exfalso; have := HN.out; subst h; simp at this; omega
      · rcases HB.out with h | ⟨g', off', rfl, hg', hc'⟩
        · exfalso; have := HN.out; subst h; simp at this; omega
        · have d1 := (hbl.cell (p := ⟨g, off + k, none⟩) hg).trans (hc k (by rw [HN.out]; exact hlt))
          have d2 := (hbl.cell (p := ⟨g', off' + k, none⟩) hg').trans (hc' k (by rw [HN.out]; exact hlt))
          generalize ss.getD k ⟨#[]⟩ = s at d1 d2
          have k0 : (0 : Int) ≤ k := by omega
          have k1 : (k : Int) < n := by omega
          clear hc hc'
          go_wp2_with (fail)
          go_quiet (fail)
          go_wp2_with (fail)
          exact ⟨⟨k + 1, by omega, by go_num, below_drewFK hbl _⟩, by first | (simp [intOf]; done) | (simp [intOf]; omega)⟩
    · go_wp2_with (fail)
      go_ret
      exact ⟨rfl, hbl⟩
/-- The taking of a new one: both take it alike. -/
theorem first_take {w0 w1 w2 w3 : World} {R : HotS} {Ra : HotS} {keys seed at_ n : Int} {key : ByteArray} {c : HotC} {s : HotV} {c' : R15C} {s' : R15V} (h : NewHot w0 Ra keys seed w1 c s) (hRa : ∃ a c, Ra = R.at a c) (k : New15 w2 R keys seed w3 c' s') : lookHE s.last at_ key n = lookHE s'.last at_ key n ∧ lookHB c s at_ key n = look15B c' s' at_ key n := by
  have hE : lookHE s.last at_ key n = lookHE s'.last at_ key n := by rw [h.last, k.last]
  refine ⟨hE, ?_⟩
  unfold lookHB look15B
  have hu : usedH c s at_ key = used15 c' s' at_ key := by
    rw [usedH_new h]
    unfold used15 R15V.V
    rw [k.RS, k.sn]
    exact (est_nil (by show (1 : Int) ≤ 4; omega) key).symm
  have hl : limI c.R key = limI c'.R key := by
    obtain ⟨a', b', e⟩ := h.R
    obtain ⟨a, b, e2⟩ := hRa
    rw [e, e2, k.R]
    rfl
  rw [hE, hu, hl]
end Go.Proofs.YtemlafbkkaloiaaGreat

/- hot: how a setting is opened: a rule, how many keys, a seed; and how deeds lie. -/
namespace Go.Proofs.YtemlafbkkaloiaaGreat
open Go.ChangeShapes Go.WideShapes Go.ChangeAt Go.RowKit Go.Deep
set_option linter.unusedVariables false
set_option linter.unusedSimpArgs false

structure SetS where
  R : HotS
  keys : Int
  seed : Int
def SetS.cs (x : SetS) : Array Value := #[.string x.R.res, .int .i64 x.R.idx, .int .i64 x.R.cnt, .int .i64 x.R.secs, .slice x.R.ia x.R.il x.R.ic, .int .i64 x.keys, .int .u64 x.seed]
def SetS.v (x : SetS) : Value := .agg x.cs
structure SetAt (w : World) (x : SetS) : Prop where
  ok : HotOk w x.R
  s0 : 0 ≤ x.seed
  s1 : x.seed ≤ 18446744073709551615
theorem SetAt.below {w w' : World} {x : SetS} (h : SetAt w x) (hb : Below w.heap.size w w') : SetAt w' x := ⟨h.ok.below (Nat.le_refl _) hb, h.s0, h.s1⟩
theorem wf_u64 {n : Int} (h : (Lit.int .u64 n).wf = true) : 0 ≤ n ∧ n ≤ 18446744073709551615 := by
  simp only [Lit.wf, IntKind.min, IntKind.max, IntKind.signed, IntKind.bits, Bool.and_eq_true, decide_eq_true_eq] at h
  simpa using h
theorem some_of_get {α : Type} {xs : List α} {n k : Nat} (h : xs.length = n) (hk : k < n) : ∃ y, xs[k]? = some y := ⟨_, List.getElem?_eq_getElem (by omega)⟩

set_option maxRecDepth 100000 in
theorem open_setting {H : Type} {enc : TypeId × Value → H} {W : World} {spare : Nat → Bool} {held : Bool} {base b0 : Nat} {r : Reach} {v : Value} {d : DataW H} {p : List MemPlace}
    (hval : Value.okWide Tryz.prog W r b0 27 v) (hd : DataW.Trod enc Tryz.prog W base spare held 27 v d p) (hsz : Sz 27 d) :
    ∃ x : SetS, v = x.v ∧ SetAt W x := by
  obtain ⟨cs, rfl, hsz1⟩ := okWide_struct Tryz.underlying27 hval
  have hC : Tryz.prog.cellsOf 27 = 7 := by kernel_rfl
  have hCH : Tryz.prog.cellsOf 24 = 5 := by kernel_rfl
  have hC1 : Tryz.prog.cellsOf 3 = 1 := by kernel_rfl
  have hC2 : Tryz.prog.cellsOf 25 = 1 := by kernel_rfl
  have hC3 : Tryz.prog.cellsOf 9 = 1 := by kernel_rfl
  have hC4 : Tryz.prog.cellsOf 22 = 1 := by kernel_rfl
  rw [hC] at hsz1
  obtain ⟨u0, u1, u2, u3, u4, u5, u6, rfl⟩ : ∃ u0 u1 u2 u3 u4 u5 u6, cs = #[u0, u1, u2, u3, u4, u5, u6] := by
    refine ⟨cs[0], cs[1], cs[2], cs[3], cs[4], cs[5], cs[6], ?_⟩
    apply Array.ext_getElem?
    intro j
    match j with
    | 0 => simp [Array.getElem?_eq_getElem (show 0 < cs.size by omega)]
    | 1 => simp [Array.getElem?_eq_getElem (show 1 < cs.size by omega)]
    | 2 => simp [Array.getElem?_eq_getElem (show 2 < cs.size by omega)]
    | 3 => simp [Array.getElem?_eq_getElem (show 3 < cs.size by omega)]
    | 4 => simp [Array.getElem?_eq_getElem (show 4 < cs.size by omega)]
    | 5 => simp [Array.getElem?_eq_getElem (show 5 < cs.size by omega)]
    | 6 => simp [Array.getElem?_eq_getElem (show 6 < cs.size by omega)]
    | j + 7 => rw [Array.getElem?_eq_none (by omega), Array.getElem?_eq_none (by simp)]
  obtain ⟨fuel, hf⟩ := hd
  obtain ⟨xs, n, _, hye, _, hxs, hff⟩ := DataW.trod_struct Tryz.underlying27 hf
  have hxs : xs.length = 3 := hxs
  have e1 : d = .agg (xs.map (·.1)) := (Prod.mk.inj hye).1
  rw [e1] at hsz
  obtain ⟨y0, hy0⟩ := some_of_get (k := 0) hxs (by omega)
  obtain ⟨y1, hy1⟩ := some_of_get (k := 1) hxs (by omega)
  obtain ⟨y2, hy2⟩ := some_of_get (k := 2) hxs (by omega)
  have f0 : DataW.trod enc Tryz.prog W base spare held n 24 [u0, u1, u2, u3, u4] = some y0 := by
    have h : DataW.trod enc Tryz.prog W base spare held n 24 (List.take (Tryz.prog.cellsOf 24) (List.drop 0 [u0, u1, u2, u3, u4, u5, u6])) = some y0 := (hff 0 _ rfl).trans hy0
    rw [hCH] at h
    exact h
  have f1 : DataW.trod enc Tryz.prog W base spare held n 3 [u5] = some y1 := by
    have h : DataW.trod enc Tryz.prog W base spare held n 3 (List.take (Tryz.prog.cellsOf 3) (List.drop 5 [u0, u1, u2, u3, u4, u5, u6])) = some y1 := (hff 1 _ rfl).trans hy1
    rw [hC1] at h
    exact h
  have f2 : DataW.trod enc Tryz.prog W base spare held n 25 [u6] = some y2 := by
    have h : DataW.trod enc Tryz.prog W base spare held n 25 (List.take (Tryz.prog.cellsOf 25) (List.drop 6 [u0, u1, u2, u3, u4, u5, u6])) = some y2 := (hff 2 _ rfl).trans hy2
    rw [hC2] at h
    exact h
  have z0 : Sz 24 y0.1 := sz_field Tryz.underlying27 hsz (k := 0) rfl (d := y0.1) (by simp [hy0])
  obtain ⟨ys, n2, _, hye2, _, hys, hgg⟩ := DataW.trod_struct Tryz.underlying24 f0
  have hys : ys.length = 5 := hys
  have e2 : y0.1 = .agg (ys.map (·.1)) := by rw [hye2]
  rw [e2] at z0
  obtain ⟨q0, hq0⟩ := some_of_get (k := 0) hys (by omega)
  obtain ⟨q1, hq1⟩ := some_of_get (k := 1) hys (by omega)
  obtain ⟨q2, hq2⟩ := some_of_get (k := 2) hys (by omega)
  obtain ⟨q3, hq3⟩ := some_of_get (k := 3) hys (by omega)
  obtain ⟨q4, hq4⟩ := some_of_get (k := 4) hys (by omega)
  have g0 : DataW.trod enc Tryz.prog W base spare held n2 9 [u0] = some q0 := by
    have h : DataW.trod enc Tryz.prog W base spare held n2 9 (List.take (Tryz.prog.cellsOf 9) (List.drop 0 [u0, u1, u2, u3, u4])) = some q0 := (hgg 0 _ rfl).trans hq0
    rw [hC3] at h
    exact h
  have g1 : DataW.trod enc Tryz.prog W base spare held n2 3 [u1] = some q1 := by
    have h : DataW.trod enc Tryz.prog W base spare held n2 3 (List.take (Tryz.prog.cellsOf 3) (List.drop 1 [u0, u1, u2, u3, u4])) = some q1 := (hgg 1 _ rfl).trans hq1
    rw [hC1] at h
    exact h
  have g2 : DataW.trod enc Tryz.prog W base spare held n2 3 [u2] = some q2 := by
    have h : DataW.trod enc Tryz.prog W base spare held n2 3 (List.take (Tryz.prog.cellsOf 3) (List.drop 2 [u0, u1, u2, u3, u4])) = some q2 := (hgg 2 _ rfl).trans hq2
    rw [hC1] at h
    exact h
  have g3 : DataW.trod enc Tryz.prog W base spare held n2 3 [u3] = some q3 := by
    have h : DataW.trod enc Tryz.prog W base spare held n2 3 (List.take (Tryz.prog.cellsOf 3) (List.drop 3 [u0, u1, u2, u3, u4])) = some q3 := (hgg 3 _ rfl).trans hq3
    rw [hC1] at h
    exact h
  have g4 : DataW.trod enc Tryz.prog W base spare held n2 22 [u4] = some q4 := by
    have h : DataW.trod enc Tryz.prog W base spare held n2 22 (List.take (Tryz.prog.cellsOf 22) (List.drop 4 [u0, u1, u2, u3, u4])) = some q4 := (hgg 4 _ rfl).trans hq4
    rw [hC4] at h
    exact h
  have z4 : Sz 22 q4.1 := sz_field Tryz.underlying24 z0 (k := 4) rfl (d := q4.1) (by simp [hq4])
  obtain ⟨kv, k0⟩ := recs_strZ (v := u0) Tryz.underlying9 g0
  have k1 := (recs_int (k := .i64) (v := u1) Tryz.underlying3 g1).1
  have k2 := (recs_int (k := .i64) (v := u2) Tryz.underlying3 g2).1
  have k3 := (recs_int (k := .i64) (v := u3) Tryz.underlying3 g3).1
  have k5 := (recs_int (k := .i64) (v := u5) Tryz.underlying3 f1).1
  have k6 := (recs_int (k := .u64) (v := u6) Tryz.underlying25 f2)
  obtain ⟨a, l, c, items, rfl, h1, h2, h3, h4, h5, h6⟩ := read_items (v := u4) g4 z4
  rw [kv, k1, k2, k3, k5, k6.1]
  exact ⟨⟨⟨strOf u0, intOf u1, intOf u2, intOf u3, a, l, c, items⟩, intOf u5, intOf u6⟩, rfl, ⟨k0, h1, h3, h2, h4, h5, h6⟩, (wf_u64 k6.2).1, (wf_u64 k6.2).2⟩
end Go.Proofs.YtemlafbkkaloiaaGreat

/- HotNone: a nil one answers so; what is handed in and out is nobody else's. -/
namespace Go.Proofs.YtemlafbkkaloiaaGreat
open Go.RowKit
set_option linter.unusedVariables false
set_option linter.unusedSimpArgs false

/-- 'append([]Item{}, items...)'. -/
theorem run_copyI0 {w : World} {R : HotS} (ok : HotOk w R) (ty : TypeId) :
    ∃ g cap w', (Builtin.append_ #[22, 22] ty #[.slice (some ⟨w.heap.size, 0, none⟩) 0 0, .slice R.ia R.il R.ic]).run Tryz.prog (w.alloc (.cells #[] 52)) = .ok (.slice (some ⟨g, 0, none⟩) R.il cap) w' ∧ w'.ownsRow w.heap.size 52 2 (.slice (some ⟨g, 0, none⟩) R.il cap) R.items.length (flatI R.items) ∧ Below w.heap.size w w' := by
  obtain ⟨i0, hi, hz0, hz1, hz2⟩ := info_parts3 info_itemH
  have hlit : (w.alloc (.cells #[] 52)).ownsRow w.heap.size 52 2 (.slice (some ⟨w.heap.size, 0, none⟩) 0 0) 0 [] := World.ownsRow_lit (base := w.heap.size) (e := 52) (size := 2) w #[] 0 (Nat.le_refl _) (by unfold maxLen; omega) rfl
  have hal : Below w.heap.size w (w.alloc (.cells #[] 52)) := (Below.refl _ _).alloc (Nat.le_refl _) _
  have ok' := ok.below (Nat.le_refl _) hal
  have hl := ok.l
  have hb := ok.b
  cases hia : R.ia with
  | none =>
    obtain ⟨h1, h2⟩ := ok.nil hia
    have h3 : R.items = [] := List.length_eq_zero_iff.1 (hl.trans h1)
    rw [h1, h2, h3]
    exact ⟨_, 0, _, run_append_owned_none (P := Tryz.prog) (w := w.alloc (.cells #[] 52)) (size := 2) w.heap.size 22 ty 52 i0 Tryz.underlying22 hi _ 0 [] hlit, hlit, hal⟩
  | some ad =>
    have hcells := rowsAt_cellsH (cs_len_itH R.items) (by decide) ok'.at_ ad hia
    obtain ⟨v', w', hr, h2, h3, h4⟩ := run_append_own (P := Tryz.prog) (w.alloc (.cells #[] 52)) w.heap.size 22 ty 52 i0 _ 2 24 Tryz.underlying22 hi hz0 hz1 hz2 rfl (by decide) _ 0 [] hlit ad R.il R.ic (flatI R.items) (by unfold flatI; rw [flatten_len (cs_len_itH _), List.length_map, hl]) hcells (flatI_one _) (by unfold maxLen; omega) (by omega) (by simp)
    rw [Nat.zero_add, List.nil_append] at h2
    have hbel : Below w.heap.size w w' := hal.grown h3 hal.size (fun k e => by cases e; exact Nat.le_refl _)
    rcases h2.2 with ⟨rfl, hz⟩ | ⟨g, cap, cur, rfl, r1, r2, r3⟩
    · have := h4.1 rfl
      exact absurd this.1 (by simp)
    · exact ⟨g, cap, w', hr, by rw [hl]; exact h2, hbel⟩
theorem HotOk.own {w : World} {R : HotS} (ok : HotOk w R) {w' : World} {g cap base : Nat} (h : w'.ownsRow base 52 2 (.slice (some ⟨g, 0, none⟩) R.il cap) R.items.length (flatI R.items)) : HotOk w' (R.at (some ⟨g, 0, none⟩) cap) := by
  have hl := ok.l
  rcases h.2 with ⟨e, _⟩ | ⟨g', cap', cur, e, _, hg, hc, _⟩
  · cases e
  · injection e with e1 e2 e3
    injection e1 with e1
    injection e1 with e1
    subst e1
    subst e3
    refine ⟨ok.z, ok.l, by show R.il ≤ cap; omega, ok.b, fun h => (by cases h), ?_, ok.iz⟩
    refine Or.inr ⟨g, 0, rfl, (Array.getElem?_eq_some_iff.1 hg).1, fun j r hj k u hk hu => ?_⟩
    have hj' : (R.items.map ItemS.cs)[j]? = some r := hj
    have hjl := (List.getElem?_eq_some_iff.1 hj').1
    rw [List.length_map] at hjl
    have h' : w'.ownsRow base 52 2 (.slice (some ⟨g, 0, none⟩) R.items.length cap) R.items.length (flatI R.items) := by rw [hl] at h ⊢; exact h
    rw [Nat.zero_add, h'.cellAt (j * 2 + k) (by omega)]
    unfold flatI
    rw [flatten_get (cs_len_itH R.items) hj' k hk]
    exact hu
set_option maxHeartbeats 25600000 in
set_option maxRecDepth 100000 in
theorem hotnone_law {w : World} (x : SetS) (hx : SetAt w x) (kind : Int) (hk0 : (Lit.int .i64 kind).wf = true) (at_ : Int) (hk1 : (Lit.int .i64 at_).wf = true) (key : ByteArray) (hks : key.size ≤ maxLen) (cnt : Int) (hk3 : (Lit.int .i64 cnt).wf = true) :
    Calls Tryz.prog 4 #[x.v, .agg #[.int .i64 kind, .int .i64 at_, .string key, .int .i64 cnt]] w fun e w' => e = .returned (.bool true) ∧ Below w.heap.size w w' := by
  obtain ⟨N, hN⟩ : ∃ N, w.heap.size = N := ⟨_, rfl⟩
  have HN := Lib.hid hN
  have hB : Below w.heap.size w ((w.alloc (.cells #[.string x.R.res, .int .i64 x.R.idx, .int .i64 x.R.cnt, .int .i64 x.R.secs, .slice x.R.ia x.R.il x.R.ic, .int .i64 x.keys, .int .u64 x.seed] 27)).alloc (.cells #[.int .i64 kind, .int .i64 at_, .string key, .int .i64 cnt] 41)) := ((Below.refl _ _).alloc (Nat.le_refl _) _).alloc (by simp) _
  have h0 : ((w.alloc (.cells #[.string x.R.res, .int .i64 x.R.idx, .int .i64 x.R.cnt, .int .i64 x.R.secs, .slice x.R.ia x.R.il x.R.ic, .int .i64 x.keys, .int .u64 x.seed] 27)).alloc (.cells #[.int .i64 kind, .int .i64 at_, .string key, .int .i64 cnt] 41)).heap[N]? = some (.cells #[.string x.R.res, .int .i64 x.R.idx, .int .i64 x.R.cnt, .int .i64 x.R.secs, .slice x.R.ia x.R.il x.R.ic, .int .i64 x.keys, .int .u64 x.seed] 27) := by
    rw [get_allocW, if_neg (by rw [World.size_alloc]; omega), get_allocW, if_pos hN.symm]
  have h1 : ((w.alloc (.cells #[.string x.R.res, .int .i64 x.R.idx, .int .i64 x.R.cnt, .int .i64 x.R.secs, .slice x.R.ia x.R.il x.R.ic, .int .i64 x.keys, .int .u64 x.seed] 27)).alloc (.cells #[.int .i64 kind, .int .i64 at_, .string key, .int .i64 cnt] 41)).heap[N + 1]? = some (.cells #[.int .i64 kind, .int .i64 at_, .string key, .int .i64 cnt] 41) := by
    rw [get_allocW, if_pos (by rw [World.size_alloc]; omega)]
  have HB := Lib.hid hB
  have H0 := Lib.hid h0
  have H1 := Lib.hid h1
  have HX := Lib.hid hx
  have HKS := Lib.hid hks
  clear hB h0 h1 hx hk0 hk1 hk3 hks
  unfold SetS.v SetS.cs
  have HLV := Lib.hid (fun (w : World) => htlive_any w)
  obtain ⟨w0, hw0⟩ : ∃ w0, (w.alloc (.cells #[.string x.R.res, .int .i64 x.R.idx, .int .i64 x.R.cnt, .int .i64 x.R.secs, .slice x.R.ia x.R.il x.R.ic, .int .i64 x.keys, .int .u64 x.seed] 27)).alloc (.cells #[.int .i64 kind, .int .i64 at_, .string key, .int .i64 cnt] 41) = w0 := ⟨_, rfl⟩
  rw [hw0] at HB H0 H1
  have s0 : w0.cell? ⟨N, 0, none⟩ = some (.string x.R.res) := by simp only [World.cell?, H0.out]; rfl
  have g1 : w0.cell? ⟨N + 1, 1, none⟩ = some (.int .i64 at_) := by simp only [World.cell?, H1.out]; rfl
  have g2 : w0.cell? ⟨N + 1, 2, none⟩ = some (.string key) := by simp only [World.cell?, H1.out]; rfl
  have g3 : w0.cell? ⟨N + 1, 3, none⟩ = some (.int .i64 cnt) := by simp only [World.cell?, H1.out]; rfl
  have HU := Lib.hid (hUsed_nil at_ key w0)
  have HL := Lib.hid (hLook_nil at_ key cnt w0)
  have HT := Lib.hid (hTake_nil at_ key cnt w0)
  have HZ0 := Lib.hid (show N < w0.heap.size ∧ N + 1 < w0.heap.size from ⟨(Array.getElem?_eq_some_iff.1 H0.out).1, (Array.getElem?_eq_some_iff.1 H1.out).1⟩)
  go_enter Tryz.func4, Tryz.ntmps4
  go_wp2_with (fail)
  clear hw0 hN
  refine HU.out.mono ?_
  rintro e wq ⟨rfl, hq⟩
  rw [hq]
  clear hq
  go_wp2_with (fail)
  refine HL.out.mono ?_
  rintro e wq ⟨rfl, hq⟩
  rw [hq]
  clear hq
  go_wp2_with (fail)
  refine HT.out.mono ?_
  rintro e wq ⟨rfl, hq⟩
  rw [hq]
  clear hq HU HL HT
  go_wp2_with (fail)
  refine (HLV.out w0).mono ?_
  rintro e w1 ⟨rfl, hb1⟩
  have HB1 := Lib.hid hb1
  have H0' := Lib.hid ((hb1.block N HZ0.out.1).trans H0.out)
  have H1' := Lib.hid ((hb1.block (N + 1) HZ0.out.2).trans H1.out)
  have g2 : w1.cell? ⟨N + 1, 2, none⟩ = some (.string key) := by simp only [World.cell?, H1'.out]; rfl
  have s0 : w1.cell? ⟨N, 0, none⟩ = some (.string x.R.res) := by simp only [World.cell?, H0'.out]; rfl
  have s1 : w1.cell? ⟨N, 1, none⟩ = some (.int .i64 x.R.idx) := by simp only [World.cell?, H0'.out]; rfl
  have s2 : w1.cell? ⟨N, 2, none⟩ = some (.int .i64 x.R.cnt) := by simp only [World.cell?, H0'.out]; rfl
  have s3 : w1.cell? ⟨N, 3, none⟩ = some (.int .i64 x.R.secs) := by simp only [World.cell?, H0'.out]; rfl
  have s4 : w1.cell? ⟨N, 4, none⟩ = some (.slice x.R.ia x.R.il x.R.ic) := by simp only [World.cell?, H0'.out]; rfl
  have HLN := Lib.hid (hLimit_nil key w1)
  have HKN := Lib.hid (hKept_nil w1)
  have HFN := Lib.hid (hFork_nil w1)
  clear hb1 HLV
  go_wp2_with (fail)
  refine HLN.out.mono ?_
  rintro e wq ⟨rfl, hq⟩
  rw [hq]
  clear hq
  go_wp2_with (fail)
  refine HKN.out.mono ?_
  rintro e wq ⟨rfl, hq⟩
  rw [hq]
  clear hq
  go_wp2_with (fail)
  refine HFN.out.mono ?_
  rintro e wq ⟨rfl, hq⟩
  rw [hq]
  clear hq HLN HKN HFN
  obtain ⟨B1, hB1⟩ : ∃ B1, w1.heap.size = B1 := ⟨_, rfl⟩
  have HB1z := Lib.hid hB1
  have hal : Below w1.heap.size w1 (w1.alloc (.cells #[.string x.R.res, .int .i64 x.R.idx, .int .i64 x.R.cnt, .int .i64 x.R.secs, .slice x.R.ia x.R.il x.R.ic] 24)) := (Below.refl _ _).alloc (Nat.le_refl _) _
  have HW1 := Lib.hid (HB.out.trans (HB1.out.mono HB.out.size))
  have HWA := Lib.hid (show Below w.heap.size w (w1.alloc (.cells #[.string x.R.res, .int .i64 x.R.idx, .int .i64 x.R.cnt, .int .i64 x.R.secs, .slice x.R.ia x.R.il x.R.ic] 24)) from HW1.out.trans (hal.mono HW1.out.size))
  obtain ⟨g, cap, w2, hr2, ho2, hb2⟩ := run_copyI0 (w := w1.alloc (.cells #[.string x.R.res, .int .i64 x.R.idx, .int .i64 x.R.cnt, .int .i64 x.R.secs, .slice x.R.ia x.R.il x.R.ic] 24)) (R := x.R) (HX.out.ok.below (Nat.le_refl _) HWA.out) 22
  rw [World.size_alloc, hB1] at hr2 ho2 hb2
  have HAP := Lib.hid hr2
  have HO2 := Lib.hid ho2
  have HB2 := Lib.hid hb2
  have HOW := Lib.hid ((hb2.block B1 (by omega)).trans ((get_allocW w1 (.cells #[.string x.R.res, .int .i64 x.R.idx, .int .i64 x.R.cnt, .int .i64 x.R.secs, .slice x.R.ia x.R.il x.R.ic] 24) B1).trans (if_pos hB1.symm)))
  have o0 : w2.cell? ⟨B1, 0, none⟩ = some (.string x.R.res) := by simp only [World.cell?, HOW.out]; rfl
  have o1 : w2.cell? ⟨B1, 1, none⟩ = some (.int .i64 x.R.idx) := by simp only [World.cell?, HOW.out]; rfl
  have o2 : w2.cell? ⟨B1, 2, none⟩ = some (.int .i64 x.R.cnt) := by simp only [World.cell?, HOW.out]; rfl
  have o3 : w2.cell? ⟨B1, 3, none⟩ = some (.int .i64 x.R.secs) := by simp only [World.cell?, HOW.out]; rfl
  have o4 : w2.cell? ⟨B1, 4, none⟩ = some (.slice x.R.ia x.R.il x.R.ic) := by simp only [World.cell?, HOW.out]; rfl
  have fo : w2.frozen? ⟨B1, 4, none⟩ = false := frozen_of_row w2 B1 4 _ _ HOW.out
  have hgB : B1 < g ∧ g < w2.heap.size := by
    obtain ⟨h1, h2⟩ := ho2.lt g rfl
    omega
  have hne1 : ¬ g = B1 := by omega
  have HGB := Lib.hid hgB
  have hNB : N + 1 < B1 := by have h1 := HZ0.out.2; have h2 := HB1.out.size; omega
  have HNB := Lib.hid hNB
  have n0 := (hb2.block N (by omega)).trans ((Below.block hal N (by omega)).trans H0'.out)
  have H02 := Lib.hid n0
  have H12 := Lib.hid ((hb2.block (N + 1) (by omega)).trans ((Below.block hal (N + 1) (by omega)).trans H1'.out))
  have t5 : w2.cell? ⟨N, 5, none⟩ = some (.int .i64 x.keys) := by simp only [World.cell?, n0]; rfl
  have t6 : w2.cell? ⟨N, 6, none⟩ = some (.int .u64 x.seed) := by simp only [World.cell?, n0]; rfl
  have hne2 : ¬ N = B1 := by omega
  have hne3 : ¬ B1 = N := by omega
  have s4b : ((w1.alloc (.cells #[.string x.R.res, .int .i64 x.R.idx, .int .i64 x.R.cnt, .int .i64 x.R.secs, .slice x.R.ia x.R.il x.R.ic] 24)).alloc (.cells #[] 52)).cell? ⟨N, 4, none⟩ = some (.slice x.R.ia x.R.il x.R.ic) := ((hal.alloc hal.size (.cells #[] 52)).cell (p := ⟨N, 4, none⟩) (by show N < _; omega)).trans s4
  clear hr2 ho2 hb2 hal n0 hgB hNB
  go_wp2_with (at_builtin; refine wpList_append_run (by rfl) (.tmp 85) (.tmp 88) 22 22 (by rfl) (by rfl) (by rfl) (by rfl) HAP.out ?_)
  clear s0 s1 s2 s3 s4 s4b g2
  obtain ⟨w3, hw3⟩ : ∃ w3, w2.setCell ⟨B1, 4, none⟩ (.slice (some ⟨g, 0, none⟩) x.R.il cap) = w3 := ⟨_, rfl⟩
  have hO3 := rowKept3 (w' := w3) HO2.out (fun g' e => by
    have e : g = g' := by injection e
    rw [← hw3, ← e]
    exact heap_setCell_other w2 ⟨B1, 4, none⟩ g _ hne1)
  have HO3 := Lib.hid hO3
  have HOK3 := Lib.hid (HX.out.ok.own hO3)
  have H03 := Lib.hid (show w3.heap[N]? = some (.cells #[.string x.R.res, .int .i64 x.R.idx, .int .i64 x.R.cnt, .int .i64 x.R.secs, .slice x.R.ia x.R.il x.R.ic, .int .i64 x.keys, .int .u64 x.seed] 27) by rw [← hw3]; exact (heap_setCell_other w2 ⟨B1, 4, none⟩ N _ hne2).trans H02.out)
  have H13 := Lib.hid (show w3.heap[N + 1]? = some (.cells #[.int .i64 kind, .int .i64 at_, .string key, .int .i64 cnt] 41) by rw [← hw3]; exact (heap_setCell_other w2 ⟨B1, 4, none⟩ (N + 1) _ (by have h1 := HNB.out; show N + 1 ≠ B1; omega)).trans H12.out)
  have HB13 := Lib.hid (show w3.heap[B1]? = some (.cells #[.string x.R.res, .int .i64 x.R.idx, .int .i64 x.R.cnt, .int .i64 x.R.secs, .slice (some ⟨g, 0, none⟩) x.R.il cap] 24) by rw [← hw3, heap_setCell_same w2 B1 4 _ _ _ HOW.out]; rfl)
  have HZ3 := Lib.hid (show g < w3.heap.size from (hO3.lt g rfl).2)
  have HW3 := Lib.hid (show Below w.heap.size w w3 by rw [← hw3]; exact (HWA.out.trans (HB2.out.mono (by have h1 := HW1.out.size; have h2 := HB1z.out; omega))).setCell (by have h1 := HW1.out.size; have h2 := HB1z.out; show w.heap.size ≤ B1; omega) _)
  have HNW := Lib.hid (hnew_any (w := w3) (x.R.at (some ⟨g, 0, none⟩) cap) HOK3.out x.keys x.seed HX.out.s0 HX.out.s1)
  rw [show newHE (x.R.at (some ⟨g, 0, none⟩) cap) x.keys = newHE x.R x.keys from rfl] at HNW
  unfold HotS.v HotS.at at HNW
  dsimp only at HNW
  rw [hw3]
  clear hw3 o0 o1 o2 o3 o4 fo t5 t6
  refine HNW.out.mono ?_
  rintro e w4 ⟨hb4, hno4, hyes4⟩
  obtain ⟨E, hE⟩ : ∃ E, newHE x.R x.keys = E := ⟨_, rfl⟩
  have HE := Lib.hid hE
  rw [hE] at hno4 hyes4
  obtain ⟨po, rfl, hpo⟩ : ∃ po, e = .returned (.tuple #[.pointer po, .int .i64 E]) ∧ ((E ≠ 0 ∧ po = none) ∨ (E = 0 ∧ ∃ c s, po = some ⟨c.hb, 0, none⟩ ∧ NewHot w3 (x.R.at (some ⟨g, 0, none⟩) cap) x.keys x.seed w4 c s)) := by
    by_cases h : E = 0
    · obtain ⟨c, s, he, hn⟩ := hyes4 h
      exact ⟨_, by rw [h]; exact he, Or.inr ⟨h, c, s, rfl, hn⟩⟩
    · exact ⟨none, hno4 h, Or.inl ⟨h, rfl⟩⟩
  have HPO := Lib.hid hpo
  have HB4 := Lib.hid hb4
  have HW4 := Lib.hid (HW3.out.trans (hb4.mono HW3.out.size))
  have hgz := HZ3.out
  have hbz : B1 < w3.heap.size := by have := HGB.out; omega
  have hnz : N + 1 < w3.heap.size := by have := HNB.out; omega
  have H04 := Lib.hid ((hb4.block N (by omega)).trans H03.out)
  have H14 := Lib.hid ((hb4.block (N + 1) hnz).trans H13.out)
  have HB14 := Lib.hid ((hb4.block B1 hbz).trans HB13.out)
  have HO4 := Lib.hid (rowKept3 (w' := w4) HO3.out (fun g' e => hb4.block g' (HO3.out.lt g' e).2))
  have HNZ := Lib.hid (And.intro hgz (And.intro hbz hnz))
  have s0 : w4.cell? ⟨N, 0, none⟩ = some (.string x.R.res) := by simp only [World.cell?, H04.out]; rfl
  have s1 : w4.cell? ⟨N, 1, none⟩ = some (.int .i64 x.R.idx) := by simp only [World.cell?, H04.out]; rfl
  have s2 : w4.cell? ⟨N, 2, none⟩ = some (.int .i64 x.R.cnt) := by simp only [World.cell?, H04.out]; rfl
  have s3 : w4.cell? ⟨N, 3, none⟩ = some (.int .i64 x.R.secs) := by simp only [World.cell?, H04.out]; rfl
  have s4 : w4.cell? ⟨N, 4, none⟩ = some (.slice x.R.ia x.R.il x.R.ic) := by simp only [World.cell?, H04.out]; rfl
  have s5 : w4.cell? ⟨N, 5, none⟩ = some (.int .i64 x.keys) := by simp only [World.cell?, H04.out]; rfl
  have s6 : w4.cell? ⟨N, 6, none⟩ = some (.int .u64 x.seed) := by simp only [World.cell?, H04.out]; rfl
  have HRN := Lib.hid (r15new_any (w := w4) x.R (HX.out.ok.below (Nat.le_refl _) HW4.out) x.keys x.seed HX.out.s0 HX.out.s1)
  clear hno4 hyes4 hpo hb4 HNW hE hgz hbz hnz
  go_wp2_with (fail)
  refine HRN.out.mono ?_
  intro e w5 hn5
  have hb5 := hn5.bel
  obtain ⟨pr_, rfl, hpr⟩ : ∃ pr_, e = .returned (.tuple #[.pointer pr_, .int .i64 E]) ∧ ((E ≠ 0 ∧ pr_ = none) ∨ (E = 0 ∧ ∃ c s, pr_ = some ⟨c.hb, 0, none⟩ ∧ New15 w4 x.R x.keys x.seed w5 c s)) := by
    have h1 := hn5.no
    have h2 := hn5.yes
    rw [HE.out] at h1 h2
    by_cases h : E = 0
    · obtain ⟨c, s, he, hn⟩ := h2 h
      exact ⟨_, by rw [h]; exact he, Or.inr ⟨h, c, s, rfl, hn⟩⟩
    · exact ⟨none, h1 h, Or.inl ⟨h, rfl⟩⟩
  have HPR := Lib.hid hpr
  have HB5 := Lib.hid hb5
  have HW5 := Lib.hid (HW4.out.trans (hb5.mono HW4.out.size))
  have HO5 := Lib.hid (rowKept3 (w' := w5) HO4.out (fun g' e => hb5.block g' (HO4.out.lt g' e).2))
  have H15 := Lib.hid ((hb5.block (N + 1) (by have h1 := HNZ.out.2.2; have h2 := HB4.out.size; omega)).trans H14.out)
  have HB15 := Lib.hid ((hb5.block B1 (by have h1 := HNZ.out.2.1; have h2 := HB4.out.size; omega)).trans HB14.out)
  clear hn5 hb5 hpr HRN s0 s1 s2 s3 s4 s5 s6
  go_wp2_with (fail)
  obtain ⟨il, hil⟩ : ∃ il, x.R.il = il := ⟨_, rfl⟩
  have HIL := Lib.hid hil
  have hilm : il ≤ 140737488351232 := by have := HX.out.ok.b; omega
  have hlen := HX.out.ok.l
  rw [hil] at hlen
  have HO5' := Lib.hid (show w5.ownsRow (B1 + 1) 52 2 (.slice (some ⟨g, 0, none⟩) il cap) il (flatI x.R.items) by have h := HO5.out; rw [hlen, hil] at h; exact h)
  have HB15' := Lib.hid (show w5.heap[B1]? = some (.cells #[.string x.R.res, .int .i64 x.R.idx, .int .i64 x.R.cnt, .int .i64 x.R.secs, .slice (some ⟨g, 0, none⟩) il cap] 24) by rw [← hil]; exact HB15.out)
  have HNG := Lib.hid (show B1 ≠ g by have := HGB.out; omega)
  clear hil hlen hne1 hne2 hne3
  go_loopw [17] (fun i wr => ∃ (j : Nat) (xs : List Value), j ≤ il ∧ i = .int .i64 j ∧ Hid (wr.ownsRow (B1 + 1) 52 2 (.slice (some ⟨g, 0, none⟩) il cap) il xs) ∧ Hid (Off (fun i => i = g) w5 wr)) (fun i _ => il - (intOf i).toNat)
  case atStart => exact ⟨0, _, Nat.zero_le _, rfl, HO5', Lib.hid (Off.refl _ _)⟩
  case round =>
    rename World => wr
    obtain ⟨j, xs, hj, rfl, HO, HF⟩ := hrel
    have hbb := (HF.out.block B1 (Array.getElem?_eq_some_iff.1 HB15'.out).1 HNG.out).trans HB15'.out
    have q4 : wr.cell? ⟨B1, 4, none⟩ = some (.slice (some ⟨g, 0, none⟩) il cap) := by simp only [World.cell?, hbb]; rfl
    by_cases hlt : j < il
    · have k0 : (0 : Int) ≤ j := by omega
      have k1 : (j : Int) < il := by omega
      obtain ⟨u, hu⟩ : ∃ u, xs[j * 2 + 1]? = some u := ⟨_, List.getElem?_eq_getElem (by have := HO.out.1; omega)⟩
      have c1 : wr.cell? ⟨g, j * 2 + 1, none⟩ = some u := (HO.out.cellAt (j * 2 + 1) (by omega)).trans hu
      have f1 : wr.frozen? ⟨g, j * 2 + 1, none⟩ = false := by
        rcases HO.out.2 with ⟨e, _⟩ | ⟨g', cap', cur, e, _, hg, _⟩
        · cases e
        · injection e with e1 e2 e3
          injection e1 with e1
          injection e1 with e1
          rw [e1]
          exact frozen_of_row wr g' _ _ _ hg
      have HST := Lib.hid (HO.out.stored (j * 2 + 1) (.int .i64 99)).1
      have HFN := Lib.hid (HF.out.setCell (p := ⟨g, j * 2 + 1, none⟩) (fun _ => rfl) (.int .i64 99))
      clear hbb hu
      go_wp2_with (fail)
      exact ⟨⟨j + 1, _, by omega, by go_num, HST, HFN⟩, by first | (simp [intOf]; done) | (simp [intOf]; omega)⟩
    · have k1 : ¬ (j : Int) < il := by omega
      have h16 := (HF.out.block (N + 1) (Array.getElem?_eq_some_iff.1 H15.out).1 (by have h1 := HNB.out; have h2 := HGB.out.1; show N + 1 ≠ g; omega)).trans H15.out
      have H16 := Lib.hid h16
      have g2 : wr.cell? ⟨N + 1, 2, none⟩ = some (.string key) := by simp only [World.cell?, h16]; rfl
      have HWR := Lib.hid (show Below w.heap.size w wr from HW5.out.trans (HF.out.below (by exact HW5.out.size) (fun k hk e => by
        have e : k = g := e
        have h1 := HGB.out.1
        have h2 := HNB.out
        have h3 := HN.out
        omega)))
      clear hbb h16 hlt
      rcases HPO.out with ⟨hE0, hpo⟩ | ⟨hE0, c, s, hpo, hn4⟩
      · subst hpo
        obtain rfl : pr_ = none := by
          rcases HPR.out with ⟨_, h⟩ | ⟨h, _⟩
          · exact h
          · exact absurd h hE0
        clear HPO HPR
        have HT0 := Lib.hid (fun wx => hTake_nil 0 key 1 wx)
        have HT1 := Lib.hid (fun wx => r15Take_nil 0 key 1 wx)
        have HK0 := Lib.hid (fun wx => hKept_nil wx)
        have HK1 := Lib.hid (fun wx => r15Kept_nil wx)
        have HL0 := Lib.hid (fun wx => hLimit_nil ⟨#[118, 105, 112]⟩ wx)
        have HL1 := Lib.hid (fun wx => r15Limit_nil ⟨#[118, 105, 112]⟩ wx)
        have HSM := Lib.hid (fun wx => same15_any (w := wx) none none 0 0 0 [] rfl (by omega) (Or.inl rfl) (Or.inl rfl))
        clear hE0
        go_wp2_with (fail)
        refine (HT0.out _).mono ?_
        rintro e wq ⟨rfl, hq⟩
        rw [hq]
        clear hq
        go_wp2_with (fail)
        refine (HT1.out _).mono ?_
        rintro e wq ⟨rfl, hq⟩
        rw [hq]
        clear hq
        go_wp2_with (fail)
        refine (HK0.out _).mono ?_
        rintro e wq ⟨rfl, hq⟩
        rw [hq]
        clear hq
        go_wp2_with (fail)
        go_loopw [19] (fun i wy => i = .int .i64 0 ∧ wy = wr) (fun i _ => 0)
        case atStart => exact ⟨rfl, rfl⟩
        case round =>
          obtain ⟨rfl, hwy⟩ := hrel
          subst hwy
          go_wp2_with (fail)
          refine (HK0.out _).mono ?_
          rintro e wq ⟨rfl, hq⟩
          rw [hq]
          clear hq
          go_wp2_with (fail)
          refine (HK1.out _).mono ?_
          rintro e wq ⟨rfl, hq⟩
          rw [hq]
          clear hq
          go_wp2_with (fail)
          refine (HSM.out _).mono ?_
          rintro e w7 ⟨rfl, hb7⟩
          have HB7 := Lib.hid hb7
          clear hb7
          go_wp2_with (fail)
          refine (HL0.out _).mono ?_
          rintro e wq ⟨rfl, hq⟩
          rw [hq]
          clear hq
          go_wp2_with (fail)
          refine (HL1.out _).mono ?_
          rintro e wq ⟨rfl, hq⟩
          rw [hq]
          clear hq
          go_wp2_with (fail)
          go_ret
          exact ⟨rfl, HWR.out.trans (HB7.out.mono HWR.out.size)⟩
      · subst hpo
        obtain ⟨c', s', hpr', hn5⟩ : ∃ c' s', pr_ = some ⟨c'.hb, 0, none⟩ ∧ New15 w4 x.R x.keys x.seed w5 c' s' := by
          rcases HPR.out with ⟨h, _⟩ | ⟨_, h⟩
          · exact absurd hE0 h
          · exact h
        subst hpr'
        clear HPO HPR
        obtain ⟨htE, htB⟩ := first_take (at_ := 0) (n := 1) (key := key) hn4 ⟨_, _, rfl⟩ hn5
        have HFT := Lib.hid (And.intro htE htB)
        have hH6 : HotAt wr c s := (hn4.hot.below HB5.out).kept HF.out.size (fun i hi => HF.out.block i (by have := hn4.hot.toHotCore.lt hi; have := HB5.out.size; omega) (by have h1 := hn4.own i hi; have h2 := HNZ.out.1; show i ≠ g; omega)) (fun g' off e => HF.out.block g' (by have := hn4.hot.ilt g' off e; have := HB5.out.size; omega) (by have h1 := hn4.items g' off e; have h2 := HNZ.out.1; show g' ≠ g; omega))
        have hR6 : R15At wr c' s' 0 := ⟨hn5.hot.toRCore.kept HF.out.size (fun i hi => HF.out.block i (hn5.hot.toRCore.lt hi) (by have h1 := hn5.own i hi; have h2 := HNZ.out.1; have h3 := HB4.out.size; show i ≠ g; omega)), hn5.hot.same⟩
        have HNN := Lib.hid (show c.N = c'.N by have h1 := hn4.N; have h2 := hn5.N; omega)
        have HLL := Lib.hid (show pr s.L = s'.A by rw [hn4.L, hn5.A]; rfl)
        have HLM := Lib.hid (show ∀ k, limI c.R k = limI c'.R k from fun k => by
          obtain ⟨a', b', e⟩ := hn4.R
          rw [e, hn5.R]
          rfl)
        have HOW4 := Lib.hid (show ∀ i, HOwn c s i → w3.heap.size ≤ i ∧ i < w4.heap.size from fun i hi => ⟨hn4.own i hi, hn4.hot.toHotCore.lt hi⟩)
        have HOR5 := Lib.hid (show ∀ i, R15Own c' s' i → w4.heap.size ≤ i ∧ i < w5.heap.size from fun i hi => ⟨hn5.own i hi, hn5.hot.toRCore.lt hi⟩)
        have HIT4 := Lib.hid (show ∀ g' off, c.R.ia = some ⟨g', off, none⟩ → w3.heap.size ≤ g' ∧ g' < w4.heap.size from fun g' off e => ⟨hn4.items g' off e, hn4.hot.ilt g' off e⟩)
        have HH6 := Lib.hid hH6
        have HR6 := Lib.hid hR6
        have HIL2 := Lib.hid (show c'.R.items.length ≤ 140737488351232 by rw [hn5.R]; have h1 := HX.out.ok.l; have h2 := HX.out.ok.b; omega)
        have HT0 := Lib.hid (htake_any hH6 0 key HKS.out 1)
        clear hE0 hn4 hn5 htE htB hH6 hR6
        rw [HFT.out.1, HFT.out.2] at HT0
        obtain ⟨LB, hLB⟩ : ∃ LB, look15B c' s' 0 key 1 = LB := ⟨_, rfl⟩
        obtain ⟨LE, hLE⟩ : ∃ LE, lookHE s'.last 0 key 1 = LE := ⟨_, rfl⟩
        have HLB := Lib.hid hLB
        have HLE := Lib.hid hLE
        rw [hLB, hLE] at HT0
        clear hLB hLE
        go_wp2_with (fail)
        refine HT0.out.mono ?_
        rintro e w7 ⟨s1, rfl, ht1⟩
        have HT1 := Lib.hid ht1
        have hz67 := ht1.off.size
        have h17 := (ht1.off.block (N + 1) (Array.getElem?_eq_some_iff.1 H16.out).1 (fun e => by have h1 := (HOW4.out _ e).1; have h2 := HNZ.out.2.2; omega)).trans H16.out
        have g2 : w7.cell? ⟨N + 1, 2, none⟩ = some (.string key) := by simp only [World.cell?, h17]; rfl
        have hR7 : R15At w7 c' s' 0 := ⟨HR6.out.toRCore.kept ht1.off.size (fun i hi => ht1.off.block i (HR6.out.toRCore.lt hi) (fun e => by have h1 := (HOW4.out i e).2; have h2 := (HOR5.out i hi).1; omega)), HR6.out.same⟩
        have HTR := Lib.hid (r15take_any hR7 (by omega) HIL2.out 0 key HKS.out 1)
        rw [HLB.out, HLE.out] at HTR
        have HWR7 := Lib.hid (show Below w.heap.size w w7 from HWR.out.trans (ht1.off.below (by exact HWR.out.size) (fun k hk e => by have h1 := (HOW4.out k e).1; have h2 := HNZ.out.2.2; have h3 := HN.out; omega)))
        clear ht1 h17 hR7 HT0
        go_wp2_with (fail)
        refine HTR.out.mono ?_
        rintro e w8 ⟨s1', rfl, ht2⟩
        have HT2 := Lib.hid ht2
        have HH8 := Lib.hid (show HotAt w8 c s1 from HT1.out.hot.kept ht2.off.size (fun i hi => ht2.off.block i (HT1.out.hot.toHotCore.lt hi) (fun e => by
          rcases HT1.out.own i hi with h | h
          · have h1 := (HOW4.out i h).2; have h2 := (HOR5.out i e).1; omega
          · have h1 := (HOR5.out i e).2; have h2 := HF.out.size; omega)) (fun g' off e => ht2.off.block g' (HT1.out.hot.ilt g' off e) (fun e2 => by have h1 := (HIT4.out g' off e).2; have h2 := (HOR5.out g' e2).1; omega)))
        have HR8 := Lib.hid ht2.hot
        have HKA := Lib.hid (show pr s1.L = s1'.A by
          cases hlb : look15B c' s' 0 key 1 with
          | true =>
            rw [HT1.out.rows (HFT.out.2.trans hlb), ht2.rows hlb, HLL.out, HNN.out]
          | false =>
            by_cases he : lookHE s'.last 0 key 1 = 0
            · rw [HT1.out.no (HFT.out.1.trans he) (HFT.out.2.trans hlb), ht2.no he hlb]
              exact HLL.out
            · rw [HT1.out.err (fun h => he (HFT.out.1.symm.trans h)), ht2.err he]
              exact HLL.out)
        have HWR8 := Lib.hid (show Below w.heap.size w w8 from HWR7.out.trans (ht2.off.below (by exact HWR7.out.size) (fun k hk e => by have h1 := (HOR5.out k e).1; have h2 := HB4.out.size; have h3 := HW3.out.size; omega)))
        have HKP := Lib.hid (hKept_any HH8.out)
        clear ht2 HTR g2
        go_wp2_with (fail)
        refine HKP.out.mono ?_
        rintro e w9 ⟨ak, ck, rfl, ho9, hb9⟩
        have HO9 := Lib.hid ho9
        have HB9 := Lib.hid hb9
        clear ho9 hb9 HKP
        obtain ⟨n9, hn9⟩ : ∃ n9, s1.L.length = n9 := ⟨_, rfl⟩
        have HN9 := Lib.hid hn9
        have hn9m : n9 ≤ 4096 := by have h1 := congrArg List.length HKA.out; rw [pr_len] at h1; have h2 := HR8.out.toRCore.map.small; omega
        rw [hn9] at HO9 ⊢
        clear hn9
        go_wp2_with (fail)
        go_loopw [19] (fun i wy => ∃ (j : Nat) (xs : List Value), j ≤ n9 ∧ i = .int .i64 j ∧ Hid (wy.ownsRow w8.heap.size 9 1 (.slice ak n9 ck) n9 xs) ∧ Hid (Below w8.heap.size w8 wy)) (fun i _ => n9 - (intOf i).toNat)
        case atStart => exact ⟨0, _, Nat.zero_le _, rfl, HO9, HB9⟩
        case round =>
          rename World => wy
          obtain ⟨j, xs, hj, rfl, HO, HY⟩ := hrel
          by_cases hlt : j < n9
          · have k0 : (0 : Int) ≤ j := by omega
            have k1 : (j : Int) < n9 := by omega
            have hO := HO.out
            obtain ⟨u, hu⟩ : ∃ u, xs[j]? = some u := ⟨_, List.getElem?_eq_getElem (by have := hO.1; omega)⟩
            rcases hO.2 with ⟨e, hz⟩ | ⟨g', cap', cur, e, hbg, hg, _⟩
            · omega
            · injection e with e1 e2 e3
              subst e1
              have c1 : wy.cell? ⟨g', j, none⟩ = some u := (hO.cellAt j (by omega)).trans hu
              have f1 : wy.frozen? ⟨g', j, none⟩ = false := frozen_of_row wy g' _ _ _ hg
              have HST := Lib.hid (hO.stored j (.string ⟨#[63]⟩)).1
              have HFN := Lib.hid (HY.out.setCell (p := ⟨g', j, none⟩) hbg (.string ⟨#[63]⟩))
              clear hu hO hg e2 e3 hbg
              go_wp2_with (fail)
              exact ⟨⟨j + 1, _, by omega, by go_num, HST, HFN⟩, by first | (simp [intOf]; done) | (simp [intOf]; omega)⟩
          · have k1 : ¬ (j : Int) < n9 := by omega
            have HHY := Lib.hid (HH8.out.below HY.out)
            have HRY := Lib.hid (HR8.out.below HY.out)
            have HKP := Lib.hid (hKept_any HHY.out)
            rw [HN9.out] at HKP
            clear hj hlt
            go_wp2_with (fail)
            refine HKP.out.mono ?_
            rintro e wa ⟨ak2, ck2, rfl, hoa, hba⟩
            have HOA := Lib.hid hoa
            have HBA := Lib.hid hba
            have HRA := Lib.hid (HRY.out.below hba)
            have HKR := Lib.hid (r15kept_any HRA.out.toRCore)
            clear hoa hba HKP
            go_wp2_with (fail)
            refine HKR.out.mono ?_
            rintro e wb ⟨vb, rfl, hob, hbb⟩
            have HBB := Lib.hid hbb
            obtain ⟨a1, c1, e1, hs1, hl1⟩ := StrsAt.own (w := wb) (rowKept3 HOA.out (fun g' e => hbb.block g' (HOA.out.lt g' e).2))
            obtain ⟨a2, c2, e2, hs2, hl2⟩ := StrsAt.own hob
            rw [HKA.out] at hs1 hl1
            have hln : s1'.A.length = n9 := by rw [List.length_map] at hl1; exact hl1.symm
            rw [hln] at e2
            subst e2
            injection e1 with e1 e3 e4
            have HS1 := Lib.hid (show StrsAt wb ak2 (s1'.A.map (·.1)) by rw [e1]; exact hs1)
            have HSM := Lib.hid (same15_any (w := wb) ak2 a2 n9 ck2 c2 (s1'.A.map (·.1)) (by rw [List.length_map]; exact hln) (by omega) HS1.out hs2)
            have HHB := Lib.hid ((HHY.out.below HBA.out).below hbb)
            have HRB := Lib.hid (HRA.out.below hbb)
            clear hob hbb hs1 hs2 hl1 hl2 hln e1 e3 e4 HKR
            go_wp2_with (fail)
            refine HSM.out.mono ?_
            rintro e wc ⟨rfl, hbc⟩
            have HBC := Lib.hid hbc
            have HL0 := Lib.hid (hLimit_any (HHB.out.below hbc) ⟨#[118, 105, 112]⟩)
            have HRC := Lib.hid (HRB.out.below hbc)
            rw [HLM.out] at HL0
            clear hbc HSM
            go_wp2_with (fail)
            refine HL0.out.mono ?_
            rintro e wd ⟨rfl, hbd⟩
            have HBD := Lib.hid hbd
            have HL1 := Lib.hid (r15limit_any (HRC.out.toRCore.below hbd) HIL2.out ⟨#[118, 105, 112]⟩)
            clear hbd HL0
            go_wp2_with (fail)
            refine HL1.out.mono ?_
            rintro e wq ⟨rfl, hq⟩
            rw [hq]
            clear hq
            go_wp2_with (fail)
            go_ret
            refine ⟨rfl, ?_⟩
            have b1 := HWR8.out.trans (HY.out.mono HWR8.out.size)
            have b2 := b1.trans (HBA.out.mono b1.size)
            have b3 := b2.trans (HBB.out.mono b2.size)
            have b4 := b3.trans (HBC.out.mono b3.size)
            exact b4.trans (HBD.out.mono b4.size)
end Go.Proofs.YtemlafbkkaloiaaGreat
