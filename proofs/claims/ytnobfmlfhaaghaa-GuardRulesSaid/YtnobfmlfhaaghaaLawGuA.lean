/- The laws of the layer guard: GuardLess. -/
import Derived.Test.YtnobfmlfhaaghaaGuF
namespace Go.Proofs.Ytnobfmlfhaaghaa
open Go.RowKit
set_option linter.unusedVariables false
set_option linter.unusedSimpArgs false

theorem wf_bounds {n : Int} (h : (Lit.int .i64 n).wf = true) : -9223372036854775808 ≤ n ∧ n ≤ 9223372036854775807 := by
  simp only [Lit.wf, IntKind.min, IntKind.max, IntKind.signed, IntKind.bits, Bool.and_eq_true, decide_eq_true_eq, if_true] at h
  omega

theorem of_now (aq at_ ar al ac am ae : Int) (w : World) : Calls Try.prog 9 #[.agg #[.int .i64 aq, .int .i64 at_, .int .i64 ar, .int .i64 al, .int .i64 ac, .int .i64 am, .int .i64 ae]] w fun e w' => e = .returned (.agg #[.int .i64 aq, .int .i64 at_, .int .i64 ar, .int .i64 al, .int .i64 ac, .int .i64 am, .int .i64 ae]) ∧ Below w.heap.size w w' := by
  go_enter Try.func9, Try.ntmps9
  go_wp2_with (fail)
  (try simp only [Exit.inBlock, Exit.then])
  refine bodyPost_ret (results_cell_row (P := Try.prog) rfl _ _ (w.heap.size + 1) 29 #[.int .i64 aq, .int .i64 at_, .int .i64 ar, .int .i64 al, .int .i64 ac, .int .i64 am, .int .i64 ae] (0, 0) _ (by rfl) ?hh Try.underlying29 rfl (by kernel_rfl)) rfl ?_
  case hh => simp only [get_allocG, World.size_alloc, if_true]
  exact ⟨rfl, ((Below.refl _ _).alloc (Nat.le_refl _) _).alloc (by simp) _⟩

def lessN (n by_ : Int) : Int := if by_ < 0 ∨ n < by_ then n else n - by_
theorem less_any (n b : Int) (n0 : -9223372036854775808 ≤ n) (n1 : n ≤ 9223372036854775807) (b0 : -9223372036854775808 ≤ b) (b1 : b ≤ 9223372036854775807) (w : World) : Calls Try.prog 10 #[.int .i64 n, .int .i64 b] w fun e w' => e = .returned (.int .i64 (lessN n b)) ∧ w' = w := by
  by_cases h1 : b < 0
  · go_enter Try.func10, Try.ntmps10
    go_wp2_with (fail)
    go_ret
    exact ⟨by unfold lessN; rw [if_pos (Or.inl h1)]; rfl, rfl⟩
  · by_cases h2 : n < b
    · go_enter Try.func10, Try.ntmps10
      go_wp2_with (fail)
      go_ret
      exact ⟨by unfold lessN; rw [if_pos (Or.inr h2)]; rfl, rfl⟩
    · go_enter Try.func10, Try.ntmps10
      go_wp2_with (fail)
      go_ret
      exact ⟨by unfold lessN; rw [if_neg (by omega)]; rfl, rfl⟩

theorem lessN_le (n b : Int) : lessN n b ≤ n := by unfold lessN; split <;> omega
theorem lessN_ge {n b : Int} (h : 0 ≤ n) : 0 ≤ lessN n b := by unfold lessN; split <;> omega
theorem above_mono {a a' b b' l : Int} (h1 : a' ≤ a) (h2 : b' ≤ b) (h : aboveB a b l = false) : aboveB a' b' l = false := by
  unfold aboveB at *
  rw [Bool.and_eq_false_iff] at *
  rcases h with h | h
  · exact Or.inl h
  · exact Or.inr (by rw [decide_eq_false_iff_not] at *; omega)
theorem too_mono {t t' m l : Int} (h1 : t' ≤ t) (h : tooB t m l = false) : tooB t' m l = false := by
  unfold tooB at *
  have h0 := up_nonneg m l
  generalize up m * 10 * up l = X at *
  rw [Bool.and_eq_false_iff, decide_eq_false_iff_not, decide_eq_false_iff_not] at *
  omega
theorem pick_none {a b c d t e : Bool} : ((pick5 a b c d t e).toList == []) = (!a && (!b && (!c && (!(d && t) && !e)))) := by
  cases a <;> cases b <;> cases c <;> cases d <;> cases t <;> cases e <;> decide +kernel
theorem pass_iff (r : SysS) (n : Int) (s : NowS) : passB r n s = (mayB r n s && (!aboveB s.qps n r.qps && (!aboveB s.thr 1 r.thr && (!aboveB s.rt 0 r.rt && (!(aboveB s.load 0 r.load && tooB s.thr s.most s.least) && !aboveB s.cpu 0 r.cpu))))) := by
  unfold passB fieldT
  cases mayB r n s
  · rw [if_neg (by decide), Bool.false_and]; decide +kernel
  · rw [if_pos rfl, fieldN, pick_none, Bool.true_and]
theorem nowOk_of {n : NowS} (h : (0 ≤ n.qps ∧ n.qps ≤ 4611686018427387904) ∧ (0 ≤ n.thr ∧ n.thr ≤ 4611686018427387904) ∧ (0 ≤ n.rt ∧ n.rt ≤ 4611686018427387904) ∧ (0 ≤ n.load ∧ n.load ≤ 4611686018427387904) ∧ (0 ≤ n.cpu ∧ n.cpu ≤ 4611686018427387904) ∧ (0 ≤ n.most ∧ n.most ≤ 4611686018427387904) ∧ (0 ≤ n.least ∧ n.least ≤ 4611686018427387904)) : nowOk n = true := by
  simp only [nowOk, allN, NowS.l, List.all_cons, List.all_nil, nowOne, Bool.and_eq_true, Bool.not_eq_true', Bool.or_eq_false_iff, decide_eq_false_iff_not, Bool.and_true]
  omega
theorem pass_less (r : SysS) (n m : Int) (s : NowS) (x1 x2 x3 x4 x5 : Int) (h : passB r n s = true) (m0 : 1 ≤ m) (m1 : m ≤ n) : passB r m ⟨lessN s.qps x1, lessN s.thr x2, lessN s.rt x3, lessN s.load x4, lessN s.cpu x5, s.most, s.least⟩ = true := by
  rw [pass_iff] at *
  simp only [Bool.and_eq_true, Bool.not_eq_true'] at h ⊢
  obtain ⟨hm, h1, h2, h3, h4, h5⟩ := h
  unfold mayB at *
  simp only [Bool.and_eq_true] at hm ⊢
  obtain ⟨k1, k2, k3⟩ := hm
  have kn := nOk_all k2
  have ks := nowOk_all k3
  have l1 := lessN_le s.qps x1
  have l2 := lessN_le s.thr x2
  have l3 := lessN_le s.rt x3
  have l4 := lessN_le s.load x4
  have l5 := lessN_le s.cpu x5
  refine ⟨⟨k1, by unfold nOk; rw [decide_eq_true m0, decide_eq_true (by omega)]; rfl, nowOk_of ?_⟩, above_mono l1 m1 h1, above_mono l2 (Int.le_refl _) h2, above_mono l3 (Int.le_refl _) h3, ?_, above_mono l5 (Int.le_refl _) h5⟩
  · have g1 := lessN_ge (b := x1) ks.1.1
    have g2 := lessN_ge (b := x2) ks.2.1.1
    have g3 := lessN_ge (b := x3) ks.2.2.1.1
    have g4 := lessN_ge (b := x4) ks.2.2.2.1.1
    have g5 := lessN_ge (b := x5) ks.2.2.2.2.1.1
    dsimp only
    omega
  · rw [Bool.and_eq_false_iff] at h4 ⊢
    rcases h4 with h4 | h4
    · exact Or.inl (above_mono l4 (Int.le_refl _) h4)
    · exact Or.inr (too_mono l2 h4)
def noneR : SysS := ⟨-1, -1, -1, -1, -1⟩
theorem none_pass {r : SysS} {n : Int} {s : NowS} (h : ((fieldT r n s).toList != tForm.toList) = true) : passB noneR n s = true := by
  have hm : mayB r n s = true := by
    unfold fieldT at h
    cases hh : mayB r n s
    · rw [hh, if_neg (by decide)] at h; simp at h
    · rfl
  rw [pass_iff]
  unfold mayB at *
  rw [Bool.and_eq_true, Bool.and_eq_true] at hm
  rw [hm.2.1, hm.2.2]
  rfl
def mN (n0 n1 : Int) : Int := if lessN n0 n1 < 1 then n0 else lessN n0 n1
theorem pass_law (r : SysS) (n0 n1 : Int) (s : NowS) (x1 x2 x3 x4 x5 : Int) (h : passB r n0 s = true) : passB r (mN n0 n1) ⟨lessN s.qps x1, lessN s.thr x2, lessN s.rt x3, lessN s.load x4, lessN s.cpu x5, s.most, s.least⟩ = true := by
  have hm : nOk n0 = true := by
    rw [pass_iff] at h
    unfold mayB at h
    simp only [Bool.and_eq_true] at h
    exact h.1.2.1
  have kn := nOk_all hm
  have hl := lessN_le n0 n1
  refine pass_less r n0 (mN n0 n1) s x1 x2 x3 x4 x5 h ?_ ?_
  · unfold mN; split <;> omega
  · unfold mN; split <;> omega

set_option maxHeartbeats 6400000 in
set_option maxRecDepth 100000 in
theorem gless_walk (w : World) (rq rt rr rl rc aq at_ ar al ac am ae bq bt br bl bc bm be n0 n1 : Int) (wrq : (Lit.int .i64 rq).wf = true) (wrt : (Lit.int .i64 rt).wf = true) (wrr : (Lit.int .i64 rr).wf = true) (wrl : (Lit.int .i64 rl).wf = true) (wrc : (Lit.int .i64 rc).wf = true) (waq : (Lit.int .i64 aq).wf = true) (wat_ : (Lit.int .i64 at_).wf = true) (war : (Lit.int .i64 ar).wf = true) (wal : (Lit.int .i64 al).wf = true) (wac : (Lit.int .i64 ac).wf = true) (wam : (Lit.int .i64 am).wf = true) (wae : (Lit.int .i64 ae).wf = true) (wbq : (Lit.int .i64 bq).wf = true) (wbt : (Lit.int .i64 bt).wf = true) (wbr : (Lit.int .i64 br).wf = true) (wbl : (Lit.int .i64 bl).wf = true) (wbc : (Lit.int .i64 bc).wf = true) (wbm : (Lit.int .i64 bm).wf = true) (wbe : (Lit.int .i64 be).wf = true) (wn0 : (Lit.int .i64 n0).wf = true) (wn1 : (Lit.int .i64 n1).wf = true) :
    Calls Try.prog 3 #[.agg #[.int .i64 rq, .int .i64 rt, .int .i64 rr, .int .i64 rl, .int .i64 rc], .agg #[.int .i64 aq, .int .i64 at_, .int .i64 ar, .int .i64 al, .int .i64 ac, .int .i64 am, .int .i64 ae, .int .i64 bq, .int .i64 bt, .int .i64 br, .int .i64 bl, .int .i64 bc, .int .i64 bm, .int .i64 be], .agg #[.int .i64 n0, .int .i64 n1]] w fun e w' => e = .returned (.bool true) ∧ Below w.heap.size w w' := by
  obtain ⟨aql, aqh⟩ := wf_bounds waq
  obtain ⟨at_l, at_h⟩ := wf_bounds wat_
  obtain ⟨arl, arh⟩ := wf_bounds war
  obtain ⟨all, alh⟩ := wf_bounds wal
  obtain ⟨acl, ach⟩ := wf_bounds wac
  obtain ⟨bql, bqh⟩ := wf_bounds wbq
  obtain ⟨btl, bth⟩ := wf_bounds wbt
  obtain ⟨brl, brh⟩ := wf_bounds wbr
  obtain ⟨bll, blh⟩ := wf_bounds wbl
  obtain ⟨bcl, bch⟩ := wf_bounds wbc
  obtain ⟨n0l, n0h⟩ := wf_bounds wn0
  obtain ⟨n1l, n1h⟩ := wf_bounds wn1
  clear wrq wrt wrr wrl wrc waq wat_ war wal wac wam wae wbq wbt wbr wbl wbc wbm wbe wn0 wn1
  have HL1 := Lib.hid (fun wx => less_any aq bq aql aqh bql bqh wx)
  have HL2 := Lib.hid (fun wx => less_any at_ bt at_l at_h btl bth wx)
  have HL3 := Lib.hid (fun wx => less_any ar br arl arh brl brh wx)
  have HL4 := Lib.hid (fun wx => less_any al bl all alh bll blh wx)
  have HL5 := Lib.hid (fun wx => less_any ac bc acl ach bcl bch wx)
  have HL6 := Lib.hid (fun wx => less_any n0 n1 n0l n0h n1l n1h wx)
  have HLV := Lib.hid (fun wx => glive_any wx)
  have HOF := Lib.hid (fun wx => of_now aq at_ ar al ac am ae wx)
  have HFD := Lib.hid (fun wx => fieldt_any ⟨rq, rt, rr, rl, rc⟩ n0 ⟨aq, at_, ar, al, ac, am, ae⟩ wx)
  have HP0 := Lib.hid (fun wx => gsystem_any noneR n0 ⟨aq, at_, ar, al, ac, am, ae⟩ wx)
  have HP1 := Lib.hid (fun wx => gsystem_any ⟨rq, rt, rr, rl, rc⟩ n0 ⟨aq, at_, ar, al, ac, am, ae⟩ wx)
  have HP2 := Lib.hid (fun wx => gsystem_any ⟨rq, rt, rr, rl, rc⟩ (mN n0 n1) ⟨lessN aq bq, lessN at_ bt, lessN ar br, lessN al bl, lessN ac bc, am, ae⟩ wx)
  have HNP := Lib.hid (fun h => none_pass (r := ⟨rq, rt, rr, rl, rc⟩) (n := n0) (s := ⟨aq, at_, ar, al, ac, am, ae⟩) h)
  have HPL := Lib.hid (fun h => pass_law ⟨rq, rt, rr, rl, rc⟩ n0 n1 ⟨aq, at_, ar, al, ac, am, ae⟩ bq bt br bl bc h)
  unfold SysS.c NowS.c at HFD HP0 HP1 HP2
  unfold noneR at HP0 HNP
  dsimp only at HFD HP0 HP1 HP2 HPL
  clear aql at_l arl all acl bql btl brl bll bcl aqh at_h arh alh ach bqh bth brh blh bch
  obtain ⟨MM, hMM⟩ : ∃ MM, mN n0 n1 = MM := ⟨_, rfl⟩
  have HMM := Lib.hid (show (if lessN n0 n1 < 1 then n0 else lessN n0 n1) = MM from hMM)
  rw [hMM] at HP2 HPL
  clear hMM
  generalize lessN aq bq = L1 at *
  generalize lessN at_ bt = L2 at *
  generalize lessN ar br = L3 at *
  generalize lessN al bl = L4 at *
  generalize lessN ac bc = L5 at *
  generalize lessN n0 n1 = L6 at *
  generalize fieldT ⟨rq, rt, rr, rl, rc⟩ n0 ⟨aq, at_, ar, al, ac, am, ae⟩ = FT at *
  generalize passB (⟨-1, -1, -1, -1, -1⟩ : SysS) n0 ⟨aq, at_, ar, al, ac, am, ae⟩ = P0 at *
  generalize passB (⟨rq, rt, rr, rl, rc⟩ : SysS) n0 ⟨aq, at_, ar, al, ac, am, ae⟩ = P1 at *
  generalize passB (⟨rq, rt, rr, rl, rc⟩ : SysS) MM ⟨L1, L2, L3, L4, L5, am, ae⟩ = P2 at *
  obtain ⟨W, hW⟩ : ∃ W, ((w.alloc (.cells #[.int .i64 rq, .int .i64 rt, .int .i64 rr, .int .i64 rl, .int .i64 rc] 23)).alloc (.cells #[.int .i64 aq, .int .i64 at_, .int .i64 ar, .int .i64 al, .int .i64 ac, .int .i64 am, .int .i64 ae, .int .i64 bq, .int .i64 bt, .int .i64 br, .int .i64 bl, .int .i64 bc, .int .i64 bm, .int .i64 be] 26)).alloc (.cells #[.int .i64 n0, .int .i64 n1] 27) = W := ⟨_, rfl⟩
  have hb : Below w.heap.size w W := by rw [← hW]; exact (((Below.refl _ _).alloc (Nat.le_refl _) _).alloc (by simp) _).alloc (by simp; omega) _
  have h0 : W.heap[w.heap.size]? = some (.cells #[.int .i64 rq, .int .i64 rt, .int .i64 rr, .int .i64 rl, .int .i64 rc] 23) := by
    rw [← hW]; simp only [get_allocG, World.size_alloc, if_true]; rw [if_neg (by omega), if_neg (by omega)]
  have h1 : W.heap[w.heap.size + 1]? = some (.cells #[.int .i64 aq, .int .i64 at_, .int .i64 ar, .int .i64 al, .int .i64 ac, .int .i64 am, .int .i64 ae, .int .i64 bq, .int .i64 bt, .int .i64 br, .int .i64 bl, .int .i64 bc, .int .i64 bm, .int .i64 be] 26) := by
    rw [← hW]; simp only [get_allocG, World.size_alloc, if_true]; rw [if_neg (by omega)]
  have h2 : W.heap[w.heap.size + 1 + 1]? = some (.cells #[.int .i64 n0, .int .i64 n1] 27) := by
    rw [← hW]; simp only [get_allocG, World.size_alloc, if_true]
  have hsz : W.heap.size = w.heap.size + 3 := by rw [← hW]; simp
  have HB := Lib.hid hb
  have HK : Hid (∀ wx, Below W.heap.size W wx → wx.heap[w.heap.size]? = some (.cells #[.int .i64 rq, .int .i64 rt, .int .i64 rr, .int .i64 rl, .int .i64 rc] 23) ∧ wx.heap[w.heap.size + 1]? = some (.cells #[.int .i64 aq, .int .i64 at_, .int .i64 ar, .int .i64 al, .int .i64 ac, .int .i64 am, .int .i64 ae, .int .i64 bq, .int .i64 bt, .int .i64 br, .int .i64 bl, .int .i64 bc, .int .i64 bm, .int .i64 be] 26) ∧ wx.heap[w.heap.size + 1 + 1]? = some (.cells #[.int .i64 n0, .int .i64 n1] 27)) := fun wx hx =>
    ⟨(hx.block _ (by omega)).trans h0, (hx.block _ (by omega)).trans h1, (hx.block _ (by omega)).trans h2⟩
  have HSZ := Lib.hid hsz
  clear hb h0 h1 h2 hsz
  subst hW
  go_enter Try.func3, Try.ntmps3
  go_wp2_with (fail)
  refine (HLV.out _).mono ?_
  rintro e wl ⟨rfl, hl⟩
  obtain ⟨k0, k1, k2⟩ := HK.out _ hl
  have x0 : wl.cell? ⟨w.heap.size + 1, 0, none⟩ = some (.int .i64 aq) := by simp only [World.cell?, k1]; rfl
  have x1 : wl.cell? ⟨w.heap.size + 1, 1, none⟩ = some (.int .i64 at_) := by simp only [World.cell?, k1]; rfl
  have x2 : wl.cell? ⟨w.heap.size + 1, 2, none⟩ = some (.int .i64 ar) := by simp only [World.cell?, k1]; rfl
  have x3 : wl.cell? ⟨w.heap.size + 1, 3, none⟩ = some (.int .i64 al) := by simp only [World.cell?, k1]; rfl
  have x4 : wl.cell? ⟨w.heap.size + 1, 4, none⟩ = some (.int .i64 ac) := by simp only [World.cell?, k1]; rfl
  have x5 : wl.cell? ⟨w.heap.size + 1, 5, none⟩ = some (.int .i64 am) := by simp only [World.cell?, k1]; rfl
  have x6 : wl.cell? ⟨w.heap.size + 1, 6, none⟩ = some (.int .i64 ae) := by simp only [World.cell?, k1]; rfl
  have x7 : wl.cell? ⟨w.heap.size + 1, 7, none⟩ = some (.int .i64 bq) := by simp only [World.cell?, k1]; rfl
  have x8 : wl.cell? ⟨w.heap.size + 1, 8, none⟩ = some (.int .i64 bt) := by simp only [World.cell?, k1]; rfl
  have x9 : wl.cell? ⟨w.heap.size + 1, 9, none⟩ = some (.int .i64 br) := by simp only [World.cell?, k1]; rfl
  have x10 : wl.cell? ⟨w.heap.size + 1, 10, none⟩ = some (.int .i64 bl) := by simp only [World.cell?, k1]; rfl
  have x11 : wl.cell? ⟨w.heap.size + 1, 11, none⟩ = some (.int .i64 bc) := by simp only [World.cell?, k1]; rfl
  have x12 : wl.cell? ⟨w.heap.size + 1, 12, none⟩ = some (.int .i64 bm) := by simp only [World.cell?, k1]; rfl
  have x13 : wl.cell? ⟨w.heap.size + 1, 13, none⟩ = some (.int .i64 be) := by simp only [World.cell?, k1]; rfl
  have HA := Lib.hid hl
  clear hl k0 k1 k2
  go_wp2_with (fail)
  refine (HOF.out _).mono ?_
  rintro e wo ⟨rfl, ho⟩
  clear x0 x1 x2 x3 x4 x5 x6 x7 x8 x9 x10 x11 x12 x13
  have HO := Lib.hid (HA.out.trans (ho.mono HA.out.size))
  obtain ⟨k0, k1, k2⟩ := HK.out _ HO.out
  have hN : w.heap.size + 3 ≤ wo.heap.size := by have := HO.out.size; have := HSZ.out; omega
  have l0 := (Array.getElem?_eq_some_iff.1 k0).1
  have x0 : ∀ o o', ((wo.alloc o).alloc o').cell? ⟨w.heap.size + 1, 7, none⟩ = some (.int .i64 bq) := fun o o' => by
    have g : ((wo.alloc o).alloc o').heap[w.heap.size + 1]? = some (.cells #[.int .i64 aq, .int .i64 at_, .int .i64 ar, .int .i64 al, .int .i64 ac, .int .i64 am, .int .i64 ae, .int .i64 bq, .int .i64 bt, .int .i64 br, .int .i64 bl, .int .i64 bc, .int .i64 bm, .int .i64 be] 26) := by
      rw [get_allocG, if_neg (by simp; omega), get_allocG, if_neg (by omega)]; exact k1
    simp only [World.cell?, g]; rfl
  have x1 : ∀ o o', ((wo.alloc o).alloc o').cell? ⟨w.heap.size + 1, 8, none⟩ = some (.int .i64 bt) := fun o o' => by
    have g : ((wo.alloc o).alloc o').heap[w.heap.size + 1]? = some (.cells #[.int .i64 aq, .int .i64 at_, .int .i64 ar, .int .i64 al, .int .i64 ac, .int .i64 am, .int .i64 ae, .int .i64 bq, .int .i64 bt, .int .i64 br, .int .i64 bl, .int .i64 bc, .int .i64 bm, .int .i64 be] 26) := by
      rw [get_allocG, if_neg (by simp; omega), get_allocG, if_neg (by omega)]; exact k1
    simp only [World.cell?, g]; rfl
  have x2 : ∀ o o', ((wo.alloc o).alloc o').cell? ⟨w.heap.size + 1, 9, none⟩ = some (.int .i64 br) := fun o o' => by
    have g : ((wo.alloc o).alloc o').heap[w.heap.size + 1]? = some (.cells #[.int .i64 aq, .int .i64 at_, .int .i64 ar, .int .i64 al, .int .i64 ac, .int .i64 am, .int .i64 ae, .int .i64 bq, .int .i64 bt, .int .i64 br, .int .i64 bl, .int .i64 bc, .int .i64 bm, .int .i64 be] 26) := by
      rw [get_allocG, if_neg (by simp; omega), get_allocG, if_neg (by omega)]; exact k1
    simp only [World.cell?, g]; rfl
  have x3 : ∀ o o', ((wo.alloc o).alloc o').cell? ⟨w.heap.size + 1, 10, none⟩ = some (.int .i64 bl) := fun o o' => by
    have g : ((wo.alloc o).alloc o').heap[w.heap.size + 1]? = some (.cells #[.int .i64 aq, .int .i64 at_, .int .i64 ar, .int .i64 al, .int .i64 ac, .int .i64 am, .int .i64 ae, .int .i64 bq, .int .i64 bt, .int .i64 br, .int .i64 bl, .int .i64 bc, .int .i64 bm, .int .i64 be] 26) := by
      rw [get_allocG, if_neg (by simp; omega), get_allocG, if_neg (by omega)]; exact k1
    simp only [World.cell?, g]; rfl
  have x4 : ∀ o o', ((wo.alloc o).alloc o').cell? ⟨w.heap.size + 1, 11, none⟩ = some (.int .i64 bc) := fun o o' => by
    have g : ((wo.alloc o).alloc o').heap[w.heap.size + 1]? = some (.cells #[.int .i64 aq, .int .i64 at_, .int .i64 ar, .int .i64 al, .int .i64 ac, .int .i64 am, .int .i64 ae, .int .i64 bq, .int .i64 bt, .int .i64 br, .int .i64 bl, .int .i64 bc, .int .i64 bm, .int .i64 be] 26) := by
      rw [get_allocG, if_neg (by simp; omega), get_allocG, if_neg (by omega)]; exact k1
    simp only [World.cell?, g]; rfl
  have y0 : ∀ o o', ((wo.alloc o).alloc o').cell? ⟨w.heap.size + 1 + 1, 0, none⟩ = some (.int .i64 n0) := fun o o' => by
    have g : ((wo.alloc o).alloc o').heap[w.heap.size + 1 + 1]? = some (.cells #[.int .i64 n0, .int .i64 n1] 27) := by
      rw [get_allocG, if_neg (by simp; omega), get_allocG, if_neg (by omega)]; exact k2
    simp only [World.cell?, g]; rfl
  have y1 : ∀ o o', ((wo.alloc o).alloc o').cell? ⟨w.heap.size + 1 + 1, 1, none⟩ = some (.int .i64 n1) := fun o o' => by
    have g : ((wo.alloc o).alloc o').heap[w.heap.size + 1 + 1]? = some (.cells #[.int .i64 n0, .int .i64 n1] 27) := by
      rw [get_allocG, if_neg (by simp; omega), get_allocG, if_neg (by omega)]; exact k2
    simp only [World.cell?, g]; rfl
  have HK0 := Lib.hid k0
  have HK2 := Lib.hid k2
  have HNN := Lib.hid hN
  clear ho k0 k1 k2 hN l0
  go_wp2_with (fail)
  refine (HL1.out _).mono ?_
  rintro e wq ⟨rfl, hq⟩
  subst hq
  go_wp2_with (fail)
  refine (HL2.out _).mono ?_
  rintro e wq ⟨rfl, hq⟩
  subst hq
  go_wp2_with (fail)
  refine (HL3.out _).mono ?_
  rintro e wq ⟨rfl, hq⟩
  subst hq
  go_wp2_with (fail)
  refine (HL4.out _).mono ?_
  rintro e wq ⟨rfl, hq⟩
  subst hq
  go_wp2_with (fail)
  refine (HL5.out _).mono ?_
  rintro e wq ⟨rfl, hq⟩
  subst hq
  go_wp2_with (fail)
  refine (HL6.out _).mono ?_
  rintro e wq ⟨rfl, hq⟩
  subst hq
  have z0 : ∀ o o' o'', (((wo.alloc o).alloc o').alloc o'').cell? ⟨w.heap.size, 0, none⟩ = some (.int .i64 rq) := fun o o' o'' => by
    have g : (((wo.alloc o).alloc o').alloc o'').heap[w.heap.size]? = some (.cells #[.int .i64 rq, .int .i64 rt, .int .i64 rr, .int .i64 rl, .int .i64 rc] 23) := by
      have := HNN.out
      rw [get_allocG, if_neg (by simp; omega), get_allocG, if_neg (by simp; omega), get_allocG, if_neg (by omega)]; exact HK0.out
    simp only [World.cell?, g]; rfl
  have z1 : ∀ o o' o'', (((wo.alloc o).alloc o').alloc o'').cell? ⟨w.heap.size, 1, none⟩ = some (.int .i64 rt) := fun o o' o'' => by
    have g : (((wo.alloc o).alloc o').alloc o'').heap[w.heap.size]? = some (.cells #[.int .i64 rq, .int .i64 rt, .int .i64 rr, .int .i64 rl, .int .i64 rc] 23) := by
      have := HNN.out
      rw [get_allocG, if_neg (by simp; omega), get_allocG, if_neg (by simp; omega), get_allocG, if_neg (by omega)]; exact HK0.out
    simp only [World.cell?, g]; rfl
  have z2 : ∀ o o' o'', (((wo.alloc o).alloc o').alloc o'').cell? ⟨w.heap.size, 2, none⟩ = some (.int .i64 rr) := fun o o' o'' => by
    have g : (((wo.alloc o).alloc o').alloc o'').heap[w.heap.size]? = some (.cells #[.int .i64 rq, .int .i64 rt, .int .i64 rr, .int .i64 rl, .int .i64 rc] 23) := by
      have := HNN.out
      rw [get_allocG, if_neg (by simp; omega), get_allocG, if_neg (by simp; omega), get_allocG, if_neg (by omega)]; exact HK0.out
    simp only [World.cell?, g]; rfl
  have z3 : ∀ o o' o'', (((wo.alloc o).alloc o').alloc o'').cell? ⟨w.heap.size, 3, none⟩ = some (.int .i64 rl) := fun o o' o'' => by
    have g : (((wo.alloc o).alloc o').alloc o'').heap[w.heap.size]? = some (.cells #[.int .i64 rq, .int .i64 rt, .int .i64 rr, .int .i64 rl, .int .i64 rc] 23) := by
      have := HNN.out
      rw [get_allocG, if_neg (by simp; omega), get_allocG, if_neg (by simp; omega), get_allocG, if_neg (by omega)]; exact HK0.out
    simp only [World.cell?, g]; rfl
  have z4 : ∀ o o' o'', (((wo.alloc o).alloc o').alloc o'').cell? ⟨w.heap.size, 4, none⟩ = some (.int .i64 rc) := fun o o' o'' => by
    have g : (((wo.alloc o).alloc o').alloc o'').heap[w.heap.size]? = some (.cells #[.int .i64 rq, .int .i64 rt, .int .i64 rr, .int .i64 rl, .int .i64 rc] 23) := by
      have := HNN.out
      rw [get_allocG, if_neg (by simp; omega), get_allocG, if_neg (by simp; omega), get_allocG, if_neg (by omega)]; exact HK0.out
    simp only [World.cell?, g]; rfl
  have z5 : ∀ o o' o'', (((wo.alloc o).alloc o').alloc o'').cell? ⟨w.heap.size + 1 + 1, 0, none⟩ = some (.int .i64 n0) := fun o o' o'' => by
    have g : (((wo.alloc o).alloc o').alloc o'').heap[w.heap.size + 1 + 1]? = some (.cells #[.int .i64 n0, .int .i64 n1] 27) := by
      have := HNN.out
      rw [get_allocG, if_neg (by simp; omega), get_allocG, if_neg (by simp; omega), get_allocG, if_neg (by omega)]; exact HK2.out
    simp only [World.cell?, g]; rfl
  have HQ : Hid (∀ wx, Below (((wo.alloc (.cells #[.int .i64 aq, .int .i64 at_, .int .i64 ar, .int .i64 al, .int .i64 ac, .int .i64 am, .int .i64 ae] 29)).alloc (.cells #[.int .i64 L1, .int .i64 L2, .int .i64 L3, .int .i64 L4, .int .i64 L5, .int .i64 am, .int .i64 ae] 29)).alloc (.cells #[.int .i64 (-1), .int .i64 (-1), .int .i64 (-1), .int .i64 (-1), .int .i64 (-1)] 23)).heap.size (((wo.alloc (.cells #[.int .i64 aq, .int .i64 at_, .int .i64 ar, .int .i64 al, .int .i64 ac, .int .i64 am, .int .i64 ae] 29)).alloc (.cells #[.int .i64 L1, .int .i64 L2, .int .i64 L3, .int .i64 L4, .int .i64 L5, .int .i64 am, .int .i64 ae] 29)).alloc (.cells #[.int .i64 (-1), .int .i64 (-1), .int .i64 (-1), .int .i64 (-1), .int .i64 (-1)] 23)) wx → Below w.heap.size w wx ∧ (wx.cell? ⟨w.heap.size, 0, none⟩ = some (.int .i64 rq) ∧ wx.cell? ⟨w.heap.size, 1, none⟩ = some (.int .i64 rt) ∧ wx.cell? ⟨w.heap.size, 2, none⟩ = some (.int .i64 rr) ∧ wx.cell? ⟨w.heap.size, 3, none⟩ = some (.int .i64 rl) ∧ wx.cell? ⟨w.heap.size, 4, none⟩ = some (.int .i64 rc)) ∧ (wx.cell? ⟨w.heap.size + 1 + 1, 0, none⟩ = some (.int .i64 n0)) ∧ (wx.cell? ⟨wo.heap.size, 0, none⟩ = some (.int .i64 aq) ∧ wx.cell? ⟨wo.heap.size, 1, none⟩ = some (.int .i64 at_) ∧ wx.cell? ⟨wo.heap.size, 2, none⟩ = some (.int .i64 ar) ∧ wx.cell? ⟨wo.heap.size, 3, none⟩ = some (.int .i64 al) ∧ wx.cell? ⟨wo.heap.size, 4, none⟩ = some (.int .i64 ac) ∧ wx.cell? ⟨wo.heap.size, 5, none⟩ = some (.int .i64 am) ∧ wx.cell? ⟨wo.heap.size, 6, none⟩ = some (.int .i64 ae)) ∧ (wx.cell? ⟨wo.heap.size + 1, 0, none⟩ = some (.int .i64 L1) ∧ wx.cell? ⟨wo.heap.size + 1, 1, none⟩ = some (.int .i64 L2) ∧ wx.cell? ⟨wo.heap.size + 1, 2, none⟩ = some (.int .i64 L3) ∧ wx.cell? ⟨wo.heap.size + 1, 3, none⟩ = some (.int .i64 L4) ∧ wx.cell? ⟨wo.heap.size + 1, 4, none⟩ = some (.int .i64 L5) ∧ wx.cell? ⟨wo.heap.size + 1, 5, none⟩ = some (.int .i64 am) ∧ wx.cell? ⟨wo.heap.size + 1, 6, none⟩ = some (.int .i64 ae)) ∧ (wx.cell? ⟨wo.heap.size + 1 + 1, 0, none⟩ = some (.int .i64 (-1)) ∧ wx.cell? ⟨wo.heap.size + 1 + 1, 1, none⟩ = some (.int .i64 (-1)) ∧ wx.cell? ⟨wo.heap.size + 1 + 1, 2, none⟩ = some (.int .i64 (-1)) ∧ wx.cell? ⟨wo.heap.size + 1 + 1, 3, none⟩ = some (.int .i64 (-1)) ∧ wx.cell? ⟨wo.heap.size + 1 + 1, 4, none⟩ = some (.int .i64 (-1)))) := fun wx hx => by
    have hNN := HNN.out
    have hs3 : (((wo.alloc (.cells #[.int .i64 aq, .int .i64 at_, .int .i64 ar, .int .i64 al, .int .i64 ac, .int .i64 am, .int .i64 ae] 29)).alloc (.cells #[.int .i64 L1, .int .i64 L2, .int .i64 L3, .int .i64 L4, .int .i64 L5, .int .i64 am, .int .i64 ae] 29)).alloc (.cells #[.int .i64 (-1), .int .i64 (-1), .int .i64 (-1), .int .i64 (-1), .int .i64 (-1)] 23)).heap.size = wo.heap.size + 3 := by simp
    have hB3 : Below w.heap.size w (((wo.alloc (.cells #[.int .i64 aq, .int .i64 at_, .int .i64 ar, .int .i64 al, .int .i64 ac, .int .i64 am, .int .i64 ae] 29)).alloc (.cells #[.int .i64 L1, .int .i64 L2, .int .i64 L3, .int .i64 L4, .int .i64 L5, .int .i64 am, .int .i64 ae] 29)).alloc (.cells #[.int .i64 (-1), .int .i64 (-1), .int .i64 (-1), .int .i64 (-1), .int .i64 (-1)] 23)) := by
      have hb0 := HB.out.trans (HO.out.mono HB.out.size)
      exact ((hb0.alloc hb0.size _).alloc (by simp; omega) _).alloc (by simp; omega) _
    have g0 : wx.heap[w.heap.size]? = some (.cells #[.int .i64 rq, .int .i64 rt, .int .i64 rr, .int .i64 rl, .int .i64 rc] 23) := by
      refine (hx.block _ (by omega)).trans ?_
      rw [get_allocG, if_neg (by simp; omega), get_allocG, if_neg (by simp; omega), get_allocG, if_neg (by omega)]; exact HK0.out
    have g2 : wx.heap[w.heap.size + 1 + 1]? = some (.cells #[.int .i64 n0, .int .i64 n1] 27) := by
      refine (hx.block _ (by omega)).trans ?_
      rw [get_allocG, if_neg (by simp; omega), get_allocG, if_neg (by simp; omega), get_allocG, if_neg (by omega)]; exact HK2.out
    have g3 : wx.heap[wo.heap.size]? = some (.cells #[.int .i64 aq, .int .i64 at_, .int .i64 ar, .int .i64 al, .int .i64 ac, .int .i64 am, .int .i64 ae] 29) := by
      refine (hx.block _ (by omega)).trans ?_
      rw [get_allocG, if_neg (by simp; omega), get_allocG, if_neg (by simp), get_allocG, if_pos rfl]
    have g4 : wx.heap[wo.heap.size + 1]? = some (.cells #[.int .i64 L1, .int .i64 L2, .int .i64 L3, .int .i64 L4, .int .i64 L5, .int .i64 am, .int .i64 ae] 29) := by
      refine (hx.block _ (by omega)).trans ?_
      rw [get_allocG, if_neg (by simp), get_allocG, if_pos (by simp)]
    have g5 : wx.heap[wo.heap.size + 1 + 1]? = some (.cells #[.int .i64 (-1), .int .i64 (-1), .int .i64 (-1), .int .i64 (-1), .int .i64 (-1)] 23) := by
      refine (hx.block _ (by omega)).trans ?_
      rw [get_allocG, if_pos (by simp)]
    refine ⟨hB3.trans (hx.mono hB3.size), ?_⟩
    simp only [World.cell?, g0, g2, g3, g4, g5]
    refine ⟨?_, rfl, ?_, ?_, ?_⟩ <;> (repeat' apply And.intro) <;> rfl
  clear HK0 HK2
  by_cases hm : L6 < 1
  · have hMe : n0 = MM := by have := HMM.out; rwa [if_pos hm] at this
    clear HMM
    subst hMe
    go_wp2_with (fail)
    refine (HFD.out _).mono ?_
    rintro e wf ⟨rfl, hf⟩
    obtain ⟨hbb, ⟨r0, r1, r2, r3, r4⟩, m0, ⟨a0, a1, a2, a3, a4, a5, a6⟩, ⟨b0, b1, b2, b3, b4, b5, b6⟩, ⟨c0, c1, c2, c3, c4⟩⟩ := HQ.out _ hf
    have HX := Lib.hid hf
    clear hf z0 z1 z2 z3 z4 z5 x0 x1 x2 x3 x4 y0 y1
    cases hfm : (FT.toList == [102, 111, 114, 109])
    · have hfn : (FT.toList != [102, 111, 114, 109]) = true := by rw [bne, hfm]; rfl
      have hP0 := HNP.out (by rw [show tForm.toList = [102, 111, 114, 109] from by decide +kernel]; exact hfn)
      subst hP0
      go_wp2_with (fail)
      refine (HP0.out _).mono ?_
      rintro e wg ⟨rfl, hg⟩
      have HX1 := Lib.hid (HX.out.trans (hg.mono HX.out.size))
      clear hg hbb
      clear r0 r1 r2 r3 r4 m0 a0 a1 a2 a3 a4 a5 a6 b0 b1 b2 b3 b4 b5 b6 c0 c1 c2 c3 c4
      obtain ⟨hbb, ⟨r0, r1, r2, r3, r4⟩, m0, ⟨a0, a1, a2, a3, a4, a5, a6⟩, ⟨b0, b1, b2, b3, b4, b5, b6⟩, ⟨c0, c1, c2, c3, c4⟩⟩ := HQ.out _ HX1.out
      go_wp2_with (fail)
      refine (HP1.out _).mono ?_
      rintro e wp ⟨rfl, hp⟩
      have HX2 := Lib.hid (HX1.out.trans (hp.mono HX1.out.size))
      clear hp hbb
      clear r0 r1 r2 r3 r4 m0 a0 a1 a2 a3 a4 a5 a6 b0 b1 b2 b3 b4 b5 b6 c0 c1 c2 c3 c4
      obtain ⟨hbb, ⟨r0, r1, r2, r3, r4⟩, m0, ⟨a0, a1, a2, a3, a4, a5, a6⟩, ⟨b0, b1, b2, b3, b4, b5, b6⟩, ⟨c0, c1, c2, c3, c4⟩⟩ := HQ.out _ HX2.out
      have HBB := Lib.hid hbb
      cases P1
      · go_wp2_with (fail)
        go_ret
        exact ⟨rfl, HBB.out⟩
      · have HP2' := HPL.out rfl
        subst HP2'
        go_wp2_with (fail)
        refine (HP2.out _).mono ?_
        rintro e ws ⟨rfl, hs⟩
        have HX3 := Lib.hid (HX2.out.trans (hs.mono HX2.out.size))
        clear hs hbb
        go_wp2_with (fail)
        go_ret
        exact ⟨rfl, (HQ.out _ HX3.out).1⟩
    · have hfn : (FT.toList != [102, 111, 114, 109]) = false := by rw [bne, hfm]; rfl
      go_wp2_with (fail)
      refine (HP1.out _).mono ?_
      rintro e wp ⟨rfl, hp⟩
      have HX2 := Lib.hid (HX.out.trans (hp.mono HX.out.size))
      clear hp hbb
      clear r0 r1 r2 r3 r4 m0 a0 a1 a2 a3 a4 a5 a6 b0 b1 b2 b3 b4 b5 b6 c0 c1 c2 c3 c4
      obtain ⟨hbb, ⟨r0, r1, r2, r3, r4⟩, m0, ⟨a0, a1, a2, a3, a4, a5, a6⟩, ⟨b0, b1, b2, b3, b4, b5, b6⟩, ⟨c0, c1, c2, c3, c4⟩⟩ := HQ.out _ HX2.out
      have HBB := Lib.hid hbb
      cases P1
      · go_wp2_with (fail)
        go_ret
        exact ⟨rfl, HBB.out⟩
      · have HP2' := HPL.out rfl
        subst HP2'
        go_wp2_with (fail)
        refine (HP2.out _).mono ?_
        rintro e ws ⟨rfl, hs⟩
        have HX3 := Lib.hid (HX2.out.trans (hs.mono HX2.out.size))
        clear hs hbb
        go_wp2_with (fail)
        go_ret
        exact ⟨rfl, (HQ.out _ HX3.out).1⟩
  · have hMe : L6 = MM := by have := HMM.out; rwa [if_neg hm] at this
    clear HMM
    subst hMe
    go_wp2_with (fail)
    refine (HFD.out _).mono ?_
    rintro e wf ⟨rfl, hf⟩
    obtain ⟨hbb, ⟨r0, r1, r2, r3, r4⟩, m0, ⟨a0, a1, a2, a3, a4, a5, a6⟩, ⟨b0, b1, b2, b3, b4, b5, b6⟩, ⟨c0, c1, c2, c3, c4⟩⟩ := HQ.out _ hf
    have HX := Lib.hid hf
    clear hf z0 z1 z2 z3 z4 z5 x0 x1 x2 x3 x4 y0 y1
    cases hfm : (FT.toList == [102, 111, 114, 109])
    · have hfn : (FT.toList != [102, 111, 114, 109]) = true := by rw [bne, hfm]; rfl
      have hP0 := HNP.out (by rw [show tForm.toList = [102, 111, 114, 109] from by decide +kernel]; exact hfn)
      subst hP0
      go_wp2_with (fail)
      refine (HP0.out _).mono ?_
      rintro e wg ⟨rfl, hg⟩
      have HX1 := Lib.hid (HX.out.trans (hg.mono HX.out.size))
      clear hg hbb
      clear r0 r1 r2 r3 r4 m0 a0 a1 a2 a3 a4 a5 a6 b0 b1 b2 b3 b4 b5 b6 c0 c1 c2 c3 c4
      obtain ⟨hbb, ⟨r0, r1, r2, r3, r4⟩, m0, ⟨a0, a1, a2, a3, a4, a5, a6⟩, ⟨b0, b1, b2, b3, b4, b5, b6⟩, ⟨c0, c1, c2, c3, c4⟩⟩ := HQ.out _ HX1.out
      go_wp2_with (fail)
      refine (HP1.out _).mono ?_
      rintro e wp ⟨rfl, hp⟩
      have HX2 := Lib.hid (HX1.out.trans (hp.mono HX1.out.size))
      clear hp hbb
      clear r0 r1 r2 r3 r4 m0 a0 a1 a2 a3 a4 a5 a6 b0 b1 b2 b3 b4 b5 b6 c0 c1 c2 c3 c4
      obtain ⟨hbb, ⟨r0, r1, r2, r3, r4⟩, m0, ⟨a0, a1, a2, a3, a4, a5, a6⟩, ⟨b0, b1, b2, b3, b4, b5, b6⟩, ⟨c0, c1, c2, c3, c4⟩⟩ := HQ.out _ HX2.out
      have HBB := Lib.hid hbb
      cases P1
      · go_wp2_with (fail)
        go_ret
        exact ⟨rfl, HBB.out⟩
      · have HP2' := HPL.out rfl
        subst HP2'
        go_wp2_with (fail)
        refine (HP2.out _).mono ?_
        rintro e ws ⟨rfl, hs⟩
        have HX3 := Lib.hid (HX2.out.trans (hs.mono HX2.out.size))
        clear hs hbb
        go_wp2_with (fail)
        go_ret
        exact ⟨rfl, (HQ.out _ HX3.out).1⟩
    · have hfn : (FT.toList != [102, 111, 114, 109]) = false := by rw [bne, hfm]; rfl
      go_wp2_with (fail)
      refine (HP1.out _).mono ?_
      rintro e wp ⟨rfl, hp⟩
      have HX2 := Lib.hid (HX.out.trans (hp.mono HX.out.size))
      clear hp hbb
      clear r0 r1 r2 r3 r4 m0 a0 a1 a2 a3 a4 a5 a6 b0 b1 b2 b3 b4 b5 b6 c0 c1 c2 c3 c4
      obtain ⟨hbb, ⟨r0, r1, r2, r3, r4⟩, m0, ⟨a0, a1, a2, a3, a4, a5, a6⟩, ⟨b0, b1, b2, b3, b4, b5, b6⟩, ⟨c0, c1, c2, c3, c4⟩⟩ := HQ.out _ HX2.out
      have HBB := Lib.hid hbb
      cases P1
      · go_wp2_with (fail)
        go_ret
        exact ⟨rfl, HBB.out⟩
      · have HP2' := HPL.out rfl
        subst HP2'
        go_wp2_with (fail)
        refine (HP2.out _).mono ?_
        rintro e ws ⟨rfl, hs⟩
        have HX3 := Lib.hid (HX2.out.trans (hs.mono HX2.out.size))
        clear hs hbb
        go_wp2_with (fail)
        go_ret
        exact ⟨rfl, (HQ.out _ HX3.out).1⟩

theorem gless_walk2 (w : World) (rq : Int) (wrq : (Lit.int .i64 rq).wf = true) (rt : Int) (wrt : (Lit.int .i64 rt).wf = true) (rr : Int) (wrr : (Lit.int .i64 rr).wf = true) (rl : Int) (wrl : (Lit.int .i64 rl).wf = true) (rc : Int) (wrc : (Lit.int .i64 rc).wf = true) (aq : Int) (waq : (Lit.int .i64 aq).wf = true) (at_ : Int) (wat_ : (Lit.int .i64 at_).wf = true) (ar : Int) (war : (Lit.int .i64 ar).wf = true) (al : Int) (wal : (Lit.int .i64 al).wf = true) (ac : Int) (wac : (Lit.int .i64 ac).wf = true) (am : Int) (wam : (Lit.int .i64 am).wf = true) (ae : Int) (wae : (Lit.int .i64 ae).wf = true) (bq : Int) (wbq : (Lit.int .i64 bq).wf = true) (bt : Int) (wbt : (Lit.int .i64 bt).wf = true) (br : Int) (wbr : (Lit.int .i64 br).wf = true) (bl : Int) (wbl : (Lit.int .i64 bl).wf = true) (bc : Int) (wbc : (Lit.int .i64 bc).wf = true) (bm : Int) (wbm : (Lit.int .i64 bm).wf = true) (be : Int) (wbe : (Lit.int .i64 be).wf = true) (n0 : Int) (wn0 : (Lit.int .i64 n0).wf = true) (n1 : Int) (wn1 : (Lit.int .i64 n1).wf = true) :
    Calls Try.prog 3 #[.agg #[.int .i64 rq, .int .i64 rt, .int .i64 rr, .int .i64 rl, .int .i64 rc], .agg #[.int .i64 aq, .int .i64 at_, .int .i64 ar, .int .i64 al, .int .i64 ac, .int .i64 am, .int .i64 ae, .int .i64 bq, .int .i64 bt, .int .i64 br, .int .i64 bl, .int .i64 bc, .int .i64 bm, .int .i64 be], .agg #[.int .i64 n0, .int .i64 n1]] w fun e w' => e = .returned (.bool true) ∧ Below w.heap.size w w' :=
  gless_walk w rq rt rr rl rc aq at_ ar al ac am ae bq bt br bl bc bm be n0 n1 wrq wrt wrr wrl wrc waq wat_ war wal wac wam wae wbq wbt wbr wbl wbc wbm wbe wn0 wn1
end Go.Proofs.Ytnobfmlfhaaghaa
