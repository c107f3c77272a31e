/- tree: stat.Join. -/
import Derived.Test.YtpbbidijnmooaaaTrJ
namespace Go.Proofs.Ytpbbidijnmooaaa
open Go.RowKit
set_option linter.unusedVariables false
set_option linter.unusedSimpArgs false

theorem results_cell_tmp3 {P : Program} {fn : Func} {p q s : Tmp} {ty : TypeId} (h : fn.results = #[.cell p ty, .tmp q, .tmp s]) (tmps : Array Value) (w : World) (g : Nat) (t : TypeId) (cs : Array Value) (fr : Nat × Nat) (d : TypeDesc) (v u : Value)
    (hp : tmps.getD p undef = .pointer (some ⟨g, 0, none⟩)) (hq : tmps.getD q undef = v) (hs : tmps.getD s undef = u) (hg : w.heap[g]? = some (.cells cs t fr))
    (hu : P.underlying ty = some d) (hd : (match d with | .struct _ | .array _ _ => true | _ => false) = true) (hi : (P.info? ty).map (·.size) = some cs.size) :
    (results fn tmps).run P w = .ok (.tuple #[.agg cs, v, u]) w := by
  have hp' : tmps[p]?.getD undef = .pointer (some ⟨g, 0, none⟩) := by simpa using hp
  have hq' : tmps[q]?.getD undef = v := by simpa using hq
  have hs' : tmps[s]?.getD undef = u := by simpa using hs
  simp [results, h, hp', hq', hs', asAddr, run_loadVar_row w g t ty cs fr d hg hu hd hi]
/-- A row of pointers to nodes. -/
def PtrsAt (w : World) (a : Option Addr) (l : List Nat) : Prop := l = [] ∨ ∃ g, a = some ⟨g, 0, none⟩ ∧ g < w.heap.size ∧ ∀ j q, l[j]? = some q → w.cell? ⟨g, j, none⟩ = some (.pointer (some ⟨q, 0, none⟩))
theorem PtrsAt.get {w : World} {a : Option Addr} {l : List Nat} (h : PtrsAt w a l) {j q : Nat} (hq : l[j]? = some q) : ∃ g, a = some ⟨g, 0, none⟩ ∧ g < w.heap.size ∧ w.cell? ⟨g, j, none⟩ = some (.pointer (some ⟨q, 0, none⟩)) := by
  rcases h with h | ⟨g, rfl, hg, hc⟩
  · subst h; simp at hq
  · exact ⟨g, rfl, hg, hc j q hq⟩
def winX (at_ : Int) (x : TN) : CntS := winC 100000 10 at_ x.n.notes
theorem flsOf_snoc (l : List NodeM) (n : NodeM) : flsOf (l ++ [n]) = flsOf l + n.flight := by
  induction l with
  | nil => show n.flight + 0 = 0 + _; omega
  | cons x l ih => show x.flight + flsOf (l ++ [n]) = (x.flight + flsOf l) + _; rw [ih]; omega
theorem flsOf_bd {l : List NodeM} (h : ∀ n, n ∈ l → 0 ≤ n.flight ∧ n.flight ≤ 4096) : 0 ≤ flsOf l ∧ flsOf l ≤ 4096 * l.length := by
  induction l with
  | nil => simp [flsOf]
  | cons x l ih =>
    have := ih (fun n hn => h n (by simp [hn]))
    have := h x (by simp)
    show 0 ≤ x.flight + flsOf l ∧ x.flight + flsOf l ≤ _
    simp only [List.length_cons]
    omega

set_option maxHeartbeats 6400000 in
set_option maxRecDepth 100000 in
theorem njoin_any {w : World} (at_ : Int) (a : Option Addr) (len cap : Nat) (xs : List TN) (hl : xs.length = len) (hm : len ≤ 1048576) (hp : PtrsAt w a (xs.map (·.k.q))) (hn : ∀ x, x ∈ xs → NodeAt w x.k x.n.last x.n.flight x.n.notes ∧ lookW x.n.last at_ = 0) :
    Calls Try.prog 24 #[.int .i64 at_, .slice a len cap] w fun e w' => e = .returned (.tuple #[ctV (joinC .zero (xs.map (winX at_))), .int .i64 (flsOf (xs.map (·.n))), .int .i64 0]) ∧ Below w.heap.size w w' := by
  have HL := Lib.hid hl
  have HP := Lib.hid hp
  have HN := Lib.hid hn
  have hb : Below w.heap.size w (w.alloc (ctO .zero 32)) := (Below.refl _ _).alloc (Nat.le_refl _) _
  have hnw := (get_allocW w (ctO .zero 32) w.heap.size).trans (if_pos rfl)
  have HB := Lib.hid hb
  have HNW := Lib.hid hnw
  obtain ⟨FT, hFT⟩ : ∃ FT, flsOf (xs.map (·.n)) = FT := ⟨_, rfl⟩
  obtain ⟨XC, hXC⟩ : ∃ XC, joinC .zero (xs.map (winX at_)) = XC := ⟨_, rfl⟩
  rw [hXC, hFT]
  have HXC := Lib.hid hXC
  have HFT := Lib.hid hFT
  clear hl hp hn hb hnw hXC hFT
  obtain ⟨tp, tb, td, te, tr, tm⟩ := XC
  unfold ctV
  dsimp only
  unfold ctO CntS.zero at HB HNW
  dsimp only at HB HNW
  go_enter Try.func24, Try.ntmps24
  go_wp2_with (fail)
  obtain ⟨wB, hwB⟩ : ∃ wB, w.alloc (.cells #[.int .i64 0, .int .i64 0, .int .i64 0, .int .i64 0, .int .i64 0, .int .i64 0] 32) = wB := ⟨_, rfl⟩
  rw [hwB] at HB HNW ⊢
  clear hwB
  go_loopw [5, 6, 7, 8, 10, 11, 12, 15] (fun x5 x6 x7 x8 _ _ _ x15 wr => ∃ (j : Nat) (v : Value), j ≤ len ∧ x15 = .int .i64 j ∧ x5 = .int .i64 0 ∧ x6 = .int .i64 0 ∧ x7 = v ∧ x8 = .int .i64 (flsOf ((xs.take j).map (·.n))) ∧ Hid (wr.ownsRow wB.heap.size 32 6 v j (flatC ((xs.take j).map (winX at_)))) ∧ Hid (Below wB.heap.size wB wr)) (fun _ _ _ _ _ _ _ x15 _ => len - (intOf x15).toNat)
  case atStart => exact ⟨0, _, Nat.zero_le _, rfl, rfl, rfl, rfl, rfl, Lib.hid (World.ownsRow_nil _ _ _ _), Lib.hid (Below.refl _ _)⟩
  case round =>
    rename World => wr
    obtain ⟨j, v, hj, rfl, rfl, rfl, rfl, rfl, HO, HBR⟩ := hrel
    by_cases hlt : j < len
    · have hjl : j < xs.length := by rw [HL.out]; exact hlt
      obtain ⟨x, hx⟩ : ∃ x, xs[j]? = some x := ⟨_, List.getElem?_eq_getElem hjl⟩
      have j0 : (0 : Int) ≤ j := by omega
      have j1 : (j : Int) < len := by omega
      obtain ⟨g, rfl, hgl, hc⟩ := HP.out.get (j := j) (q := x.k.q) (by rw [List.getElem?_map, hx]; rfl)
      have hbw := HB.out.trans (HBR.out.mono HB.out.size)
      have hc := (hbw.cell (p := ⟨g, j, none⟩) hgl).trans hc
      obtain ⟨hnx, hlk⟩ := HN.out x (List.mem_of_getElem? hx)
      have HS := Lib.hid (ssum_any (hnx.below hbw) at_ hlk)
      have hf0 := hnx.f0
      have hf1 := hnx.f1
      have HNX := Lib.hid hnx
      have hbd := flsOf_bd (l := (xs.take j).map (·.n)) (fun n hn => by
        obtain ⟨y, hy, rfl⟩ := List.mem_map.1 hn
        have h := (HN.out y (List.mem_of_mem_take hy)).1
        exact ⟨h.f0, h.f1⟩)
      rw [List.length_map, List.length_take, Nat.min_eq_left (by omega)] at hbd
      have HTK := Lib.hid (show flsOf ((xs.take (j + 1)).map (·.n)) = flsOf ((xs.take j).map (·.n)) + x.n.flight ∧ (xs.take (j + 1)).map (winX at_) = (xs.take j).map (winX at_) ++ [winX at_ x] by
        rw [take_snocT hx, List.map_append, List.map_append, List.map_singleton, List.map_singleton, flsOf_snoc]; exact ⟨rfl, rfl⟩)
      have HWX := Lib.hid (show winC 100000 10 at_ x.n.notes = winX at_ x from rfl)
      rw [HWX.out] at HS
      obtain ⟨XC, hXC⟩ : ∃ XC, winX at_ x = XC := ⟨_, rfl⟩
      rw [hXC] at HS HTK
      generalize flsOf ((xs.take j).map (·.n)) = FJ at *
      have hbd1 : 0 ≤ FJ := hbd.1
      have hbd2 : FJ ≤ 4294967296 := by omega
      obtain ⟨xp, xb, xd, xe, xr, xm⟩ := XC
      unfold ctV at HS
      dsimp only at HS
      obtain ⟨xq, hxq⟩ : ∃ xq, x.k.q = xq := ⟨_, rfl⟩
      rw [hxq] at HS hc
      obtain ⟨fl, hfl⟩ : ∃ fl, x.n.flight = fl := ⟨_, rfl⟩
      have HXQ := Lib.hid (And.intro hxq hfl)
      rw [hfl] at hf0 hf1 HTK
      clear hx hjl hgl hnx hlk hbd hXC hbw hxq hfl
      go_wp2_with (fail)
      refine HS.out.mono ?_
      rintro e w2 ⟨rfl, h2⟩
      have hb2 := HBR.out.trans (h2.mono HBR.out.size)
      have HB2 := Lib.hid hb2
      have hnb := new_blockS w2 (.cells #[.int .i64 xp, .int .i64 xb, .int .i64 xd, .int .i64 xe, .int .i64 xr, .int .i64 xm] 32)
      have halb : Below w2.heap.size w2 (w2.alloc (.cells #[.int .i64 xp, .int .i64 xb, .int .i64 xd, .int .i64 xe, .int .i64 xr, .int .i64 xm] 32)) := (Below.refl _ _).alloc (Nat.le_refl _) _
      have HO2 := below_ownK HO.out (h2.trans (halb.mono h2.size))
      obtain ⟨w3, hw3⟩ : ∃ w3, w2.alloc (.cells #[.int .i64 xp, .int .i64 xb, .int .i64 xd, .int .i64 xe, .int .i64 xr, .int .i64 xm] 32) = w3 := ⟨_, rfl⟩
      rw [hw3] at hnb halb HO2
      have hb3 := hb2.trans (halb.mono hb2.size)
      have HB3 := Lib.hid hb3
      obtain ⟨v', w', hap, hown', hbel'⟩ := run_append_one (w := wB) HO2 hb3 (by omega) ⟨xp, xb, xd, xe, xr, xm⟩ 71
      have HAP := Lib.hid hap
      have HOW := Lib.hid hown'
      have HBE := Lib.hid hbel'
      have c2 := ((HNX.out.below (HB.out.trans (hbel'.mono HB.out.size))).cells).2.2
      rw [HXQ.out.1, HXQ.out.2] at c2
      obtain ⟨⟨z0, z1, z2, z3, z4, z5⟩, zf⟩ := ct_cells (c := ⟨xp, xb, xd, xe, xr, xm⟩) hnb
      dsimp only at z0 z1 z2 z3 z4 z5
      unfold ctO at HAP
      dsimp only at HAP
      clear h2 hb2 hnb halb HO2 hb3 hap hown' hbel'
      go_wp2_with (at_builtin; refine wpList_append_run (by rfl) (.tmp 31) (.tmp 33) 71 71 (by rfl) (by rfl) (by rfl) (by rfl) HAP.out ?_)
      exact ⟨⟨j + 1, v', by omega, by go_num, rfl, rfl, rfl, by rw [HTK.out.1], by rw [HTK.out.2]; exact HOW, HBE⟩, by first | (simp [intOf]; done) | (simp [intOf]; omega)⟩
    · have j1 : ¬ (j : Int) < len := by omega
      have e1 : xs.take j = xs := List.take_of_length_le (by rw [HL.out]; omega)
      rw [e1] at HO
      obtain ⟨a', cap', hv, hcts, hlen, hnil, hge⟩ := ownsC_cts HO.out
      subst hv
      have hjn : j = len := by omega
      have hjl : j ≤ 1048576 := by omega
      have HJ := Lib.hid (wjoin_any wr a' j cap' (xs.map (winX at_)) hlen (by omega) (fun c hc => by
        obtain ⟨x, hx, rfl⟩ := List.mem_map.1 hc
        exact winC_right (HN.out x hx).1.sec.right.1 at_) hcts)
      rw [e1, HFT.out]
      rw [HXC.out] at HJ
      unfold ctV at HJ
      dsimp only at HJ
      clear hcts hlen hnil hge e1 HO hjn
      go_wp2_with (fail)
      refine HJ.out.mono ?_
      rintro e w2 ⟨rfl, h2⟩
      have hbl := (Array.getElem?_eq_some_iff.1 HNW.out).1
      have hn2 := (h2.block w.heap.size (Nat.lt_of_lt_of_le hbl HBR.out.size)).trans ((HBR.out.block w.heap.size hbl).trans HNW.out)
      have HB2 := Lib.hid (HB.out.trans ((HBR.out.trans (h2.mono HBR.out.size)).mono HB.out.size))
      have HN2 := Lib.hid hn2
      obtain ⟨⟨z0, z1, z2, z3, z4, z5⟩, zf⟩ := ct_cells (c := .zero) hn2
      clear h2 hn2 hbl
      go_wp2_with (fail)
      refine bodyPost_ret (results_cell_tmp3 (P := Try.prog) rfl _ _ w.heap.size 32 #[.int .i64 tp, .int .i64 tb, .int .i64 td, .int .i64 te, .int .i64 tr, .int .i64 tm] (0, 0) _ (.int .i64 FT) (.int .i64 0) (by rfl) (by rfl) (by rfl) ?hh Try.underlying32 rfl (by kernel_rfl)) rfl ?_
      case hh => exact sixC_same (c := .zero) HN2.out tp tb td te tr tm
      exact ⟨rfl, sixC_below HB2.out (Nat.le_refl _) tp tb td te tr tm⟩
end Go.Proofs.Ytpbbidijnmooaaa
