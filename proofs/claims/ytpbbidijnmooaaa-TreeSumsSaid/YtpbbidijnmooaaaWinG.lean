/- window: Sum. -/
import Derived.Test.YtpbbidijnmooaaaWinF
import Derived.Laws.Rows
namespace Go.Proofs.Ytpbbidijnmooaaa
open Go.RowKit Go.Shelf
set_option linter.unusedVariables false
set_option linter.unusedSimpArgs false
attribute [local go_sem] Oper.semAt_some

theorem wat_any (p : Nat) (at_ : Int) (w : World) : Calls Try.prog 61 #[.pointer (some ⟨p, 0, none⟩), .int .i64 at_] w fun e w' =>
    e = .returned (.func (.func 63) #[] #[.pointer (some ⟨w.heap.size, 0, none⟩), .pointer (some ⟨w.heap.size + 1, 0, none⟩)]) ∧ w' = (w.alloc (.cells #[.pointer (some ⟨p, 0, none⟩)] 66)).alloc (.cells #[.int .i64 at_] 3) := by
  go_enter Try.func61, Try.ntmps61
  go_wp2_with (fail)
  go_ret
  exact ⟨rfl, rfl⟩

abbrev BkT (D : Int) := { x : Int × CntS // GoodW D x }
/-- The closure that 'at' hands back stops where the buckets end. -/
theorem wat_stops {p m : Nat} {W B last at_ : Int} {f : Int → Option CntS} (a0 : 0 ≤ at_) (a1 : at_ ≤ 1152921504606846976) (n : Nat) (hn : 3 ≤ n) (n1 s bp ba : Nat) (hp : p < n1 ∧ p ≠ s) (hm : m < n1 ∧ m ≠ s) (hbp : bp < n1 ∧ bp ≠ s) (hba : ba < n1 ∧ ba ≠ s) (hs : s < n1) (K : Int) (hK : at_ / (W / B) = K) (cnt : Nat) (lo : Int)
    (hlo : lo = max 0 (K - B + 1)) (hcnt : (cnt : Int) = K - lo + 1) (w : World) (h : WinAt w p m W B last f) (hn1 : n1 ≤ w.heap.size) (hcp : w.cell? ⟨bp, 0, none⟩ = some (.pointer (some ⟨p, 0, none⟩))) (hca : w.cell? ⟨ba, 0, none⟩ = some (.int .i64 at_)) :
    SeqStopsK Fence.wide n Try.prog 63 #[.pointer (some ⟨bp, 0, none⟩), .pointer (some ⟨ba, 0, none⟩)] (fun x : BkT (W / B) => #[bkV (W / B) x.1]) (KeepW n1 s) (fun ys => ys.map (·.1) = bksW f lo cnt) (fun _ => True) 61 w := fun l J Jx W' hW hJ _ hY h0 =>
  (wat1_in a0 a1 n hn n1 s bp ba hp hm hbp hba hs K hK cnt lo hlo hcnt l (fun pre V => ∃ pre' : List (BkT (W / B)), pre'.map (·.1) = pre ∧ J pre' V) (fun pre V => ∃ pre' : List (BkT (W / B)), pre'.map (·.1) = pre ∧ Jx pre' V) W' (h.below hW) (Nat.le_trans hn1 hW.size) ((hW.cell (p := ⟨bp, 0, none⟩) (World.block_lt_of_cell? w _ hcp)).trans hcp) ((hW.cell (p := ⟨ba, 0, none⟩) (World.block_lt_of_cell? w _ hca)).trans hca)
    (fun s X Y row hs hg hr => by obtain ⟨pre', e, hj⟩ := hs; exact ⟨pre', e, hJ pre' X Y row hj hg hr⟩)
    (fun pre x W1 hgood hj hlen => by
      obtain ⟨pre', e, hj⟩ := hj
      refine (hY pre' ⟨x, hgood⟩ W1 hj (by rw [← e, List.length_map] at hlen; exact hlen)).mono (fun e2 w2 h2 => ?_)
      rcases h2 with ⟨q1, q2, q3⟩ | ⟨q1, q2⟩
      · exact Or.inl ⟨q1, ⟨_, by simp [e], q2⟩, q3⟩
      · exact Or.inr ⟨q1, ⟨_, by simp [e], q2⟩⟩)
    ⟨[], rfl, h0⟩).mono (fun e w2 h2 => by
      obtain ⟨hv, h2⟩ := h2
      refine ⟨hv, ?_⟩
      rcases h2 with ⟨ys, e1, pre', e2, hj⟩ | ⟨pre, _, pre', e2, hj⟩
      · exact Or.inl ⟨pre', e2.trans e1, hj⟩
      · exact Or.inr ⟨pre', trivial, hj⟩)

def sumBk (l : List (Int × CntS)) : CntS := l.foldl (fun s x => twoC s x.2) .zero
theorem sumBk_snoc (l : List (Int × CntS)) (x : Int × CntS) : sumBk (l ++ [x]) = twoC (sumBk l) x.2 := by simp [sumBk, List.foldl_append]
theorem sumBk_right {D : Int} (l : List (BkT D)) : RightC (sumBk (l.map (·.1))) := by
  have : ∀ (l : List (BkT D)) (s : CntS), RightC s → RightC ((l.map (·.1)).foldl (fun s x => twoC s x.2) s) := by
    intro l
    induction l with
    | nil => intro s h; exact h
    | cons x l ih => intro s h; exact ih _ (twoC_right h x.2.1)
  exact this l .zero rightC_zero
theorem keepW_alloc {n1 s : Nat} {W : World} (h : n1 ≤ W.heap.size) (o : Obj) : KeepW n1 s W (W.alloc o) :=
  ⟨by simp, fun i hi _ => Below.heap_alloc W o i (by omega), fun i x hx _ _ => (Below.heap_alloc W o i (Array.getElem?_eq_some_iff.1 hx).1).trans hx⟩
theorem keep_six {n1 s : Nat} {W w1 : World} {c : CntS} {t : TypeId} (hb : Below W.heap.size W w1) (hn : n1 ≤ W.heap.size) (hs : W.heap[s]? = some (ctO c t)) (p b d e r m : Int) : KeepW n1 s W (sixC w1 s p b d e r m) ∧ ∀ B, KeepsFrom B W (sixC w1 s p b d e r m) := by
  have hsz : (sixC w1 s p b d e r m).heap.size = w1.heap.size := sixC_size ..
  refine ⟨⟨by rw [hsz]; exact hb.size, fun i hi hne => (sixC_other hne ..).trans (hb.block i (by omega)), fun i o hi _ hne => ((sixC_other hne ..).trans (hb.block i (Array.getElem?_eq_some_iff.1 hi).1)).trans hi⟩, fun B => ⟨by rw [hsz]; exact hb.size, fun k o _ hk ho => ?_⟩⟩
  have hne : k ≠ s := fun e => by
    subst e
    rw [hs] at hk; cases hk; cases ho
  exact ((sixC_other hne ..).trans (hb.block k (Array.getElem?_eq_some_iff.1 hk).1)).trans hk
theorem results_cell_tmp {P : Program} {fn : Func} {p q : Tmp} {ty : TypeId} (h : fn.results = #[.cell p ty, .tmp q]) (tmps : Array Value) (w : World) (g : Nat) (t : TypeId) (cs : Array Value) (fr : Nat × Nat) (d : TypeDesc) (v : Value)
    (hp : tmps.getD p undef = .pointer (some ⟨g, 0, none⟩)) (hq : tmps.getD q undef = v) (hg : w.heap[g]? = some (.cells cs t fr))
    (hu : P.underlying ty = some d) (hd : (match d with | .struct _ | .array _ _ => true | _ => false) = true) (hi : (P.info? ty).map (·.size) = some cs.size) :
    (results fn tmps).run P w = .ok (.tuple #[.agg cs, v]) w := by
  have hp' : tmps[p]?.getD undef = .pointer (some ⟨g, 0, none⟩) := by simpa using hp
  have hq' : tmps[q]?.getD undef = v := by simpa using hq
  simp [results, h, hp', hq', asAddr, run_loadVar_row w g t ty cs fr d hg hu hd hi]
def bkO (D : Int) (x : Int × CntS) : Obj := .cells #[.int .i64 (x.1 * D), .int .i64 x.2.p, .int .i64 x.2.b, .int .i64 x.2.d, .int .i64 x.2.e, .int .i64 x.2.r, .int .i64 x.2.m] 108
theorem bk_cells {w : World} {g : Nat} {D : Int} {x : Int × CntS} (h : w.heap[g]? = some (bkO D x)) : w.cell? ⟨g, 0, none⟩ = some (.int .i64 (x.1 * D)) ∧ w.cell? ⟨g, 1, none⟩ = some (.int .i64 x.2.p) ∧ w.cell? ⟨g, 2, none⟩ = some (.int .i64 x.2.b) ∧ w.cell? ⟨g, 3, none⟩ = some (.int .i64 x.2.d) ∧
    w.cell? ⟨g, 4, none⟩ = some (.int .i64 x.2.e) ∧ w.cell? ⟨g, 5, none⟩ = some (.int .i64 x.2.r) ∧ w.cell? ⟨g, 6, none⟩ = some (.int .i64 x.2.m) := by
  simp only [World.cell?, h, bkO]
  exact ⟨rfl, rfl, rfl, rfl, rfl, rfl, rfl⟩

set_option maxHeartbeats 6400000 in
set_option maxRecDepth 100000 in
theorem wsum_in {w : World} {p m : Nat} {W B last at_ : Int} {f : Int → Option CntS} (h : WinAt w p m W B last f) (hE : lookW last at_ = 0) (K : Int) (hK : at_ / (W / B) = K) (cnt : Nat) (lo : Int) (hlo : lo = max 0 (K - B + 1)) (hcnt : (cnt : Int) = K - lo + 1) :
    CallsIn Fence.wide 9 Try.prog 53 #[.pointer (some ⟨p, 0, none⟩), .int .i64 at_] w fun e w' => e = .returned (.tuple #[ctV (sumBk (bksW f lo cnt)), .int .i64 0]) ∧ Below w.heap.size w w' := by
  obtain ⟨a0, a1, a2⟩ := lookW_ok hE
  have HWR := Lib.hid (fun (wx : World) (hb : Below w.heap.size w wx) => wwrong_any p last at_ wx (h.below hb).cells.2.2.1)
  rw [hE] at HWR
  have HH := Lib.hid h
  obtain ⟨hpl, hml⟩ := h.lt
  have HB0 := Lib.hid (show Below w.heap.size w (w.alloc (ctO .zero 32)) from (Below.refl _ _).alloc (Nat.le_refl _) _)
  have HB1 := Lib.hid (show Below w.heap.size w ((w.alloc (ctO .zero 32)).alloc (ctO .zero 32)) from HB0.out.alloc (by simp) _)
  have HB3 := Lib.hid (show Below w.heap.size w ((((w.alloc (ctO .zero 32)).alloc (ctO .zero 32)).alloc (.cells #[.pointer (some ⟨p, 0, none⟩)] 66)).alloc (.cells #[.int .i64 at_] 3)) from (HB1.out.alloc (by simp; omega) _).alloc (by simp; omega) _)
  have HSZ := Lib.hid (show ((((w.alloc (ctO .zero 32)).alloc (ctO .zero 32)).alloc (.cells #[.pointer (some ⟨p, 0, none⟩)] 66)).alloc (.cells #[.int .i64 at_] 3)).heap.size = w.heap.size + 4 by simp)
  have G0 := Lib.hid (show ((((w.alloc (ctO .zero 32)).alloc (ctO .zero 32)).alloc (.cells #[.pointer (some ⟨p, 0, none⟩)] 66)).alloc (.cells #[.int .i64 at_] 3)).heap[w.heap.size]? = some (ctO .zero 32) by
    rw [get_allocW, if_neg (by simp; omega), get_allocW, if_neg (by simp; omega), get_allocW, if_neg (by simp), get_allocW, if_pos rfl])
  have G1 := Lib.hid (show ((((w.alloc (ctO .zero 32)).alloc (ctO .zero 32)).alloc (.cells #[.pointer (some ⟨p, 0, none⟩)] 66)).alloc (.cells #[.int .i64 at_] 3)).heap[w.heap.size + 1]? = some (ctO .zero 32) by
    rw [get_allocW, if_neg (by simp), get_allocW, if_neg (by simp), get_allocW, if_pos (by simp)])
  have C2 := Lib.hid (show ((((w.alloc (ctO .zero 32)).alloc (ctO .zero 32)).alloc (.cells #[.pointer (some ⟨p, 0, none⟩)] 66)).alloc (.cells #[.int .i64 at_] 3)).cell? ⟨w.heap.size + 1 + 1, 0, none⟩ = some (.pointer (some ⟨p, 0, none⟩)) by
    simp only [World.cell?]
    rw [get_allocW, if_neg (by simp), get_allocW, if_pos (by simp)]
    rfl)
  have C3 := Lib.hid (show ((((w.alloc (ctO .zero 32)).alloc (ctO .zero 32)).alloc (.cells #[.pointer (some ⟨p, 0, none⟩)] 66)).alloc (.cells #[.int .i64 at_] 3)).cell? ⟨w.heap.size + 1 + 1 + 1, 0, none⟩ = some (.int .i64 at_) by
    simp only [World.cell?]
    rw [get_allocW, if_pos (by simp)]
    rfl)
  clear h hE
  refine callsIn_of_wp_marks Try.func53 rfl trivial ?_ rfl
  simp only [Try.ntmps53, List.size_toArray, List.length_cons, List.length_nil, Nat.reduceAdd, Nat.reduceSub, Array.replicate_succ, Array.replicate_zero, List.push_toArray, List.append_toArray, List.nil_append, List.cons_append]
  gi_wp2
  refine ⟨trivial, (callsIn_wide.2 (HWR.out _ HB0.out)).mono ?_⟩
  rintro e wq ⟨rfl, hq⟩
  subst hq
  gi_wp2
  refine ⟨trivial, (callsIn_wide.2 (wat_any p at_ _)).mono ?_⟩
  rintro e wq ⟨rfl, hq⟩
  subst hq
  gi_wp2
  unfold ctO CntS.zero
  dsimp only
  unfold ctO CntS.zero at HB3 HSZ G0 G1 C2 C3
  dsimp only at HB3 HSZ G0 G1 C2 C3
  generalize hW0 : (((w.alloc (.cells #[.int .i64 0, .int .i64 0, .int .i64 0, .int .i64 0, .int .i64 0, .int .i64 0] 32)).alloc (.cells #[.int .i64 0, .int .i64 0, .int .i64 0, .int .i64 0, .int .i64 0, .int .i64 0] 32)).alloc (.cells #[.pointer (some ⟨p, 0, none⟩)] 66)).alloc (.cells #[.int .i64 at_] 3) = W0 at *
  clear hW0
  have hsz := HSZ.out
  refine wpIn_rangeFunc_ownH (F := Fence.wide) (n := 9) rfl (by decide) (gf := 63) (lb := #[.pointer (some ⟨w.heap.size + 1 + 1, 0, none⟩), .pointer (some ⟨w.heap.size + 1 + 1 + 1, 0, none⟩)]) rfl trivial (enters_of Try.func63 (by kernel_rfl) rfl)
    (wat_stops a0 a1 8 (by decide) (w.heap.size + 4) (w.heap.size + 1) (w.heap.size + 1 + 1) (w.heap.size + 1 + 1 + 1) ⟨by omega, by omega⟩ ⟨by omega, by omega⟩ ⟨by omega, by omega⟩ ⟨by omega, by omega⟩ (by omega) K hK cnt lo hlo hcnt W0 (HH.out.below HB3.out) (by omega) C2.out C3.out) keepW_t (keepW_b (by omega)) (Below.refl _ _) (fun _ => rfl)
    (fun pre V => (V.heap[w.heap.size + 1]? = some (ctO (sumBk (pre.map (·.1))) 32) ∧ V.heap[w.heap.size]? = some (ctO .zero 32) ∧ w.heap.size + 4 ≤ V.heap.size) ∧ Below w.heap.size w V)
    (fun _ _ _ => False)
    (OwnFrom.and (fun s X Y row hs hg hr => ⟨(hg.block _ (Array.getElem?_eq_some_iff.1 hs.1).1 (fun e => by have := (hr _ e.symm).1; omega)).trans hs.1, (hg.block _ (Array.getElem?_eq_some_iff.1 hs.2.1).1 (fun e => by have := (hr _ e.symm).1; omega)).trans hs.2.1, Nat.le_trans hs.2.2 hg.size⟩) (ownFrom_below (Nat.le_refl _) (by omega)))
    (fun _ _ _ _ _ hs _ _ => hs)
    ⟨⟨G1.out, G0.out, by omega⟩, HB3.out⟩
    (fun x a' V => ∃ Bx, w.heap.size + 4 ≤ Bx ∧ V.heap[Bx]? = some (bkO (W / B) x.1) ∧ a' = { tmps := #[.pointer (some ⟨p, 0, none⟩), .int .i64 at_, undef, undef, .pointer (some ⟨w.heap.size, 0, none⟩), .int .i64 0, .int .i64 0, .pointer (some ⟨w.heap.size + 1, 0, none⟩), .pointer (some ⟨Bx, 0, none⟩), .pointer (some ⟨p, 0, none⟩), .int .i64 at_, .int .i64 0, .int .i64 0, .bool false, undef, undef, .pointer (some ⟨p, 0, none⟩), .int .i64 at_, .func (.func 63) #[] #[.pointer (some ⟨w.heap.size + 1 + 1, 0, none⟩), .pointer (some ⟨w.heap.size + 1 + 1 + 1, 0, none⟩)], bkV (W / B) x.1, undef, undef, undef, undef, undef], defers := [] })
    (fun x a' _ X Y row hs hg hr => by
      obtain ⟨Bx, h1, h2, h3⟩ := hs
      refine ⟨Bx, h1, (hg.block Bx (Array.getElem?_eq_some_iff.1 h2).1 (fun e => ?_)).trans h2, h3⟩
      obtain ⟨_, o, ho, hc⟩ := hr Bx e.symm
      rw [h2] at ho; cases ho; cases hc)
    ?assign ?body ?done ?stop
  case assign =>
    rintro l pre ⟨⟨xi, xp, xb, xd, xe, xr, xm⟩, hx⟩ V KK ⟨⟨g1, g0, gz⟩, hB⟩ hKK
    unfold bkV
    dsimp only
    gi_wp2
    exact hKK _ _ ((KeepsOthers.alloc _ _).from _) (keepW_alloc gz _) ⟨⟨(Below.heap_alloc V _ _ (by omega)).trans g1, (Below.heap_alloc V _ _ (by omega)).trans g0, by simp; omega⟩, hB.alloc hB.size _⟩ ⟨V.heap.size, gz, (get_allocW V _ _).trans (if_pos rfl), rfl⟩
  case body =>
    rintro l pre ⟨⟨xi, xp, xb, xd, xe, xr, xm⟩, hx⟩ a' V hl ⟨r, hr⟩ ⟨⟨g1, g0, gz⟩, hB⟩ ⟨Bx, hBx, bX, rfl⟩ hlt
    have hsr := sumBk_right pre
    have hxr := hx.1
    have HSN := Lib.hid (show sumBk ((pre ++ [(⟨(xi, ⟨xp, xb, xd, xe, xr, xm⟩), hx⟩ : BkT (W / B))]).map (fun x => x.1)) = twoC (sumBk (pre.map (·.1))) ⟨xp, xb, xd, xe, xr, xm⟩ by rw [List.map_append]; exact sumBk_snoc _ _)
    obtain ⟨SS, hSS⟩ : ∃ SS, sumBk (pre.map (·.1)) = SS := ⟨_, rfl⟩
    rw [hSS] at g1 hsr HSN
    clear hSS
    obtain ⟨x0, x1, x2, x3, x4, x5, x6⟩ := bk_cells bX
    have HTW := Lib.hid (fun wx => wtwo_any SS ⟨xp, xb, xd, xe, xr, xm⟩ hsr hxr wx)
    have hzB : Bx < V.heap.size := (Array.getElem?_eq_some_iff.1 bX).1
    obtain ⟨T, hT⟩ : ∃ T, twoC SS ⟨xp, xb, xd, xe, xr, xm⟩ = T := ⟨_, rfl⟩
    rw [hT] at HTW HSN
    clear hT hsr hxr
    have HG1 := Lib.hid g1
    obtain ⟨sp, sb, sd, se, sr, sm⟩ := SS
    obtain ⟨tp, tb, td, te, tr, tm⟩ := T
    obtain ⟨⟨d0, d1, d2, d3, d4, d5⟩, df⟩ := ct_cells g1
    dsimp only at *
    unfold ctV at HTW
    clear g1
    gi_wp2
    refine ⟨trivial, ((callsIn_wide.2 (HTW.out V)).inRound l).mono ?_⟩
    rintro e w9 ⟨rfl, h9⟩
    have HK9 := Lib.hid (keep_six h9 gz HG1.out tp tb td te tr tm)
    have h1' := (h9.block (w.heap.size + 1) (by omega)).trans HG1.out
    have HG9 := Lib.hid h1'
    obtain ⟨⟨e0, e1, e2, e3, e4, e5⟩, ef⟩ := ct_cells h1'
    have HG0 := Lib.hid ((sixC_other (w := w9) (g := w.heap.size + 1) (i := w.heap.size) (by omega) tp tb td te tr tm).trans ((h9.block w.heap.size (by omega)).trans g0))
    have HZ9 := Lib.hid (show w.heap.size + 4 ≤ (sixC w9 (w.heap.size + 1) tp tb td te tr tm).heap.size by rw [sixC_size]; have := h9.size; omega)
    have HB9 := Lib.hid (sixC_below (g := w.heap.size + 1) (hB.trans (h9.mono hB.size)) (by omega) tp tb td te tr tm)
    clear h9 h1' d0 d1 d2 d3 d4 d5 df
    gi_wp2
    exact ⟨HK9.out.2 _, HK9.out.1, ⟨by rw [HSN.out]; exact sixC_same HG9.out tp tb td te tr tm, HG0.out, HZ9.out⟩, HB9.out⟩
  case done =>
    rintro D ys V hD hS ⟨⟨g1, g0, gz⟩, hB⟩ hK
    rw [hS] at g1
    obtain ⟨SS, hSS⟩ : ∃ SS, sumBk (bksW f lo cnt) = SS := ⟨_, rfl⟩
    rw [hSS] at g1
    have HSS := Lib.hid hSS
    clear hSS
    obtain ⟨sp, sb, sd, se, sr, sm⟩ := SS
    obtain ⟨⟨d0, d1, d2, d3, d4, d5⟩, df⟩ := ct_cells g1
    obtain ⟨⟨e0, e1, e2, e3, e4, e5⟩, ef⟩ := ct_cells g0
    dsimp only at *
    have hK' : (sixC V w.heap.size sp sb sd se sr sm).heap[D]? = some (.deferred (some [])) := (sixC_other (by omega) sp sb sd se sr sm).trans hK
    have hres := sixC_same g0 sp sb sd se sr sm
    have HK' := Lib.hid hK'
    have HRES := Lib.hid hres
    clear hK hres hK'
    gi_wp2
    refine ⟨by simp, .inl ⟨_, _, rfl, run_takeDeferred HK'.out, ?_⟩⟩
    have hgr := grownBy_putObj' (sixC V w.heap.size sp sb sd se sr sm) D (.deferred none)
    have hlt : w.heap.size < (sixC V w.heap.size sp sb sd se sr sm).heap.size := (Array.getElem?_eq_some_iff.1 HRES.out).1
    refine ⟨_, results_cell_tmp (P := Try.prog) rfl _ _ w.heap.size 32 #[.int .i64 sp, .int .i64 sb, .int .i64 sd, .int .i64 se, .int .i64 sr, .int .i64 sm] (0, 0) _ (.int .i64 0) (by rfl) (by rfl) ((hgr.block w.heap.size hlt (by simp; omega)).trans HRES.out) Try.underlying32 rfl (by kernel_rfl), ?_, ?_⟩
    · rw [HSS.out]; rfl
    · exact (sixC_below hB (Nat.le_refl _) sp sb sd se sr sm).grown hgr (by rw [sixC_size]; exact hB.size) (fun k e => by cases e; omega)
  case stop =>
    rintro D c pre V _ _ h _
    exact h.elim

theorem wSum_any {w : World} {p m : Nat} {W B last at_ : Int} {f : Int → Option CntS} (h : WinAt w p m W B last f) (hE : lookW last at_ = 0) (K : Int) (hK : at_ / (W / B) = K) (cnt : Nat) (lo : Int) (hlo : lo = max 0 (K - B + 1)) (hcnt : (cnt : Int) = K - lo + 1) :
    Calls Try.prog 53 #[.pointer (some ⟨p, 0, none⟩), .int .i64 at_] w fun e w' => e = .returned (.tuple #[ctV (sumBk (bksW f lo cnt)), .int .i64 0]) ∧ Below w.heap.size w w' :=
  (callsIn_wide (n := 9)).1 (wsum_in h hE K hK cnt lo hlo hcnt)
end Go.Proofs.Ytpbbidijnmooaaa
