/- tree: Done. -/
import Derived.Test.YtpbbidijnmooaaaTrH
namespace Go.Proofs.Ytpbbidijnmooaaa
open Go.RowKit
set_option linter.unusedVariables false
set_option linter.unusedSimpArgs false

theorem enD1 (x : KeyS) (b : Nat) (wx : World) : (callFunc 36 (#[x.v] ++ #[.pointer (some ⟨b, 0, none⟩)])).run Try.prog wx = .ok (.enter 36 (#[x.v] ++ #[.pointer (some ⟨b, 0, none⟩)])) wx := by kernel_rfl
/-- What Done leaves. -/
structure TDonePost (w : World) (t : TreeV) (c : CallS) (rt : Int) (failed : Bool) (e : Ending) (w' : World) : Prop where
  e : e = .returned (.int .i64 (doneTE t.M t.last c rt))
  no : doneTE t.M t.last c rt ≠ 0 → Below w.heap.size w w'
  yes : doneTE t.M t.last c rt = 0 → ∃ t', TGo w t w' t' ∧ t'.M = doneM t.M (keysL c) (doneF c rt failed) ∧ t'.last = c.at_ ∧ t'.top = c.at_
theorem TDonePost.mkNo {w w' : World} {t : TreeV} {c : CallS} {rt : Int} {failed : Bool} {e : Ending} {x : Int} (hE : doneTE t.M t.last c rt = x) (hx : x ≠ 0) (he : e = .returned (.int .i64 x)) (hb : Below w.heap.size w w') : TDonePost w t c rt failed e w' :=
  ⟨by rw [hE]; exact he, fun _ => hb, fun h0 => absurd (hE.symm.trans h0) hx⟩
structure DnI (w w4 wr : World) (t tj : TreeV) (LK : List KeyS) (F : NodeM → NodeM) (a : Option Addr) (Bt Bc : Nat) (cs : Array Value) (j : Nat) : Prop where
  k0 : TreeAt w t
  bel : Below w.heap.size w w4
  go : TGo w4 t wr tj
  m : tj.M = doneM t.M (LK.take j) F
  last : tj.last = t.last
  top : tj.top = t.top
  kin : KeysAt w4 a LK
  kout : ∀ g, a = some ⟨g, 0, none⟩ → w.heap.size ≤ g
  bt : w4.heap[Bt]? = some (.cells #[.pointer (some ⟨t.tb, 0, none⟩)] 24)
  btn : w.heap.size ≤ Bt
  bc : w4.heap[Bc]? = some (.cells cs 40)
  bcn : w.heap.size ≤ Bc
section
variable {w w4 wr : World} {t tj : TreeV} {LK : List KeyS} {F : NodeM → NodeM} {a : Option Addr} {Bt Bc : Nat} {cs : Array Value} {j : Nat}
theorem DnI.out_ (k : DnI w w4 wr t tj LK F a Bt Bc cs j) {i : Nat} (hi : w.heap.size ≤ i) : ¬ TOwn t i := fun ho => by have := k.k0.lt ho; omega
theorem DnI.keys (k : DnI w w4 wr t tj LK F a Bt Bc cs j) : KeysAt wr a LK := k.kin.off k.go.off (fun g e => k.out_ (k.kout g e))
theorem DnI.btR (k : DnI w w4 wr t tj LK F a Bt Bc cs j) : wr.heap[Bt]? = some (.cells #[.pointer (some ⟨t.tb, 0, none⟩)] 24) := (k.go.off.block Bt (Array.getElem?_eq_some_iff.1 k.bt).1 (k.out_ k.btn)).trans k.bt
theorem DnI.bcR (k : DnI w w4 wr t tj LK F a Bt Bc cs j) : wr.heap[Bc]? = some (.cells cs 40) := (k.go.off.block Bc (Array.getElem?_eq_some_iff.1 k.bc).1 (k.out_ k.bcn)).trans k.bc
theorem DnI.tbE (k : DnI w w4 wr t tj LK F a Bt Bc cs j) : tj.tb = t.tb := k.go.tb
theorem DnI.fin (k : DnI w w4 wr t tj LK F a Bt Bc cs j) : TGo w t wr tj := k.go.belowL k.bel k.k0
theorem done_start (k : TreeAt w t) (htop : t.top = t.last) {at_ : Int} (hlt : t.last ≤ at_) (hb : Below w.heap.size w w4) (hk : KeysAt w4 a LK) (ho : ∀ g, a = some ⟨g, 0, none⟩ → w.heap.size ≤ g) (h1 : w4.heap[Bt]? = some (.cells #[.pointer (some ⟨t.tb, 0, none⟩)] 24)) (h2 : w.heap.size ≤ Bt) (h3 : w4.heap[Bc]? = some (.cells cs 40)) (h4 : w.heap.size ≤ Bc) :
    DnI w w4 w4 { t with top := at_ } { t with top := at_ } LK F a Bt Bc cs 0 :=
  ⟨k.raise (by rw [htop]; exact hlt), hb, TGo.refl ((k.raise (a := at_) (by rw [htop]; exact hlt)).below hb), rfl, rfl, rfl, hk, ho, h1, h2, h3, h4⟩
theorem done_yes {c : CallS} {rt : Int} {failed : Bool} {w9 : World} {aa : Int} (hE : doneTE t.M t.last c rt = 0) (hL : keysL c = LK) (hF : F = doneF c rt failed) (h : ∃ t', TGo w { t with top := aa } w9 t' ∧ t'.M = doneM ({ t with top := aa } : TreeV).M LK F ∧ t'.last = c.at_ ∧ t'.top = c.at_) : TDonePost w t c rt failed (.returned (.int .i64 0)) w9 := by
  obtain ⟨t', h1, h2, h3⟩ := h
  subst hF
  exact ⟨by rw [hE], fun hne => absurd hE hne, fun _ => ⟨t', ⟨h1.at_, h1.tb, h1.off, h1.own⟩, by rw [hL]; exact h2, h3⟩⟩
theorem DnI.cellsEnd (k : DnI w w4 wr t tj LK F a Bt Bc cs j) {at_ : Int} (hc : cs[0]? = some (.int .i64 at_)) : wr.cell? ⟨Bt, 0, none⟩ = some (.pointer (some ⟨t.tb, 0, none⟩)) ∧ wr.cell? ⟨Bc, 0, none⟩ = some (.int .i64 at_) ∧ wr.cell? ⟨t.tb, 2, none⟩ = some (.int .i64 t.last) ∧ wr.frozen? ⟨t.tb, 2, none⟩ = false := by
  have h1 := k.btR
  have h2 := k.bcR
  have h3 := k.go.at_.head
  rw [k.tbE, k.last] at h3
  exact ⟨by simp [World.cell?, h1], by simp only [World.cell?, h2]; exact hc, by simp [World.cell?, h3], by simp only [World.frozen?, h3]; simp⟩
theorem DnI.done (k : DnI w w4 wr t tj LK F a Bt Bc cs j) (hj : LK.length ≤ j) {at_ : Int} (htop : t.top = at_) (h0 : 0 ≤ at_) (h1 : at_ ≤ 1152921504606846976) :
    ∃ t', TGo w t (wr.setCell ⟨t.tb, 2, none⟩ (.int .i64 at_)) t' ∧ t'.M = doneM t.M LK F ∧ t'.last = at_ ∧ t'.top = at_ := by
  have hm := k.m
  rw [List.take_of_length_le hj] at hm
  obtain ⟨g1, g2⟩ := k.go.at_.headStep h0 h1 (by rw [k.top, htop]; exact Int.le_refl _)
  rw [← k.tbE]
  refine ⟨{ tj with last := at_ }, k.fin.trans ⟨g1, rfl, g2.mono (fun i _ hi => Or.inl hi), fun i hi => Or.inl hi⟩, hm, rfl, by show tj.top = _; rw [k.top, htop]⟩
variable {D : Nat} {q : KeyS}
theorem DnI.found (k : DnI w w4 wr t tj LK F a Bt Bc cs j) (hn : LK.Nodup) (hq : LK[j]? = some q) (hf : flightM t.M q ≠ 0) : ∃ x, findT tj.T q = some x ∧ x.n.flight ≠ 0 ∧ x.n.last ≤ t.top := by
  have h1 : getM tj.M q = getM t.M q := by rw [k.m, getM_done_other (not_mem_take hn hq)]
  unfold flightM at hf
  rw [← h1, getM_findT] at hf
  cases hx : findT tj.T q with
  | none => rw [hx] at hf; simp at hf
  | some x =>
    rw [hx] at hf
    refine ⟨x, rfl, by simpa using hf, ?_⟩
    rw [← k.top]
    exact (k.go.at_.nodes x (findT_mem hx).1).2
theorem DnI.s15 (k : DnI w w4 wr t tj LK F a Bt Bc cs j) {wd : World} (hb : Below wr.heap.size wr wd) {at_ : Int} (hc : cs[0]? = some (.int .i64 at_)) (hd : wd.heap[D]? = some (.cells #[.int .u8 q.kind, .string q.ctx, .string q.res, .string q.org] 30)) {x : TN} (hx : findT tj.T q = some x) (hok : KeyOk q) :
    wd.cell? ⟨Bc, 0, none⟩ = some (.int .i64 at_) ∧ wd.cell? ⟨Bt, 0, none⟩ = some (.pointer (some ⟨t.tb, 0, none⟩)) ∧ (wd.cell? ⟨D, 0, none⟩ = some (.int .u8 q.kind) ∧ wd.cell? ⟨D, 1, none⟩ = some (.string q.ctx) ∧ wd.cell? ⟨D, 2, none⟩ = some (.string q.res) ∧ wd.cell? ⟨D, 3, none⟩ = some (.string q.org)) ∧ wd.cell? ⟨t.tb, 0, none⟩ = some (.map (some tj.mb)) ∧
    (Instr.lookup 55 (.map (some tj.mb)) (.agg #[.int .u8 q.kind, .string q.ctx, .string q.res, .string q.org]) false).run Try.prog wd = .ok (.pointer (some ⟨x.k.q, 0, none⟩)) wd := by
  have h2 := (hb.block Bc (Array.getElem?_eq_some_iff.1 k.bcR).1).trans k.bcR
  exact ⟨by simp only [World.cell?, h2]; exact hc, s18_of (k.go.at_.below hb) k.tbE ((hb.block Bt (Array.getElem?_eq_some_iff.1 k.btR).1).trans k.btR) hd (by rw [hx]; rfl) hok⟩
theorem DnI.one (k : DnI w w4 wr t tj LK F a Bt Bc cs j) {wd w6 : World} (hb : Below wr.heap.size wr wd) {at_ : Int} (hc : cs[0]? = some (.int .i64 at_)) (hd : wd.heap[D]? = some (.cells #[.int .u8 q.kind, .string q.ctx, .string q.res, .string q.org] 30)) (hD : wr.heap.size ≤ D) {x : TN} (hx : findT tj.T q = some x) (hq : LK[j]? = some q) (hok : KeyOk q) (hF : ∀ n, (F n).last = t.top) (hn : NodeAt w6 x.k (F x.n).last (F x.n).flight (F x.n).notes) (ho : Off (NOwn x.k) wd w6) :
    DnI w w4 w6 t { tj with T := updT tj.T q (F x.n) } LK F a Bt Bc cs (j + 1) ∧
      (w6.cell? ⟨Bc, 0, none⟩ = some (.int .i64 at_) ∧ w6.cell? ⟨Bt, 0, none⟩ = some (.pointer (some ⟨t.tb, 0, none⟩)) ∧ (w6.cell? ⟨D, 0, none⟩ = some (.int .u8 q.kind) ∧ w6.cell? ⟨D, 1, none⟩ = some (.string q.ctx) ∧ w6.cell? ⟨D, 2, none⟩ = some (.string q.res) ∧ w6.cell? ⟨D, 3, none⟩ = some (.string q.org)) ∧ w6.cell? ⟨t.tb, 0, none⟩ = some (.map (some tj.mb)) ∧
    (Instr.lookup 55 (.map (some tj.mb)) (.agg #[.int .u8 q.kind, .string q.ctx, .string q.res, .string q.org]) false).run Try.prog w6 = .ok (.pointer (some ⟨x.k.q, 0, none⟩)) w6) := by
  obtain ⟨hxm, hxk⟩ := findT_mem hx
  have kd := k.go.at_.below hb
  have hst := kd.nodeStep hxm hn (by rw [hF, k.top]; exact Int.le_refl _) ho
  rw [hxk] at hst
  have hg : TGo wd tj w6 { tj with T := updT tj.T q (F x.n) } := ⟨hst, rfl, ho.mono (fun i _ hi => Or.inr (Or.inr (Or.inr ⟨x, hxm, hi⟩))), fun i hi => by
    rcases hi with h | h | h | ⟨y, hy, h⟩
    · exact Or.inl (Or.inl h)
    · exact Or.inl (Or.inr (Or.inl h))
    · exact Or.inl (Or.inr (Or.inr (Or.inl h)))
    · obtain ⟨z, hz, e1, _, _⟩ := updT_mem hy
      rw [e1] at h
      exact Or.inl (Or.inr (Or.inr (Or.inr ⟨z, hz, h⟩)))⟩
  have hgo := (k.go.belowR hb).trans hg
  have hM : ({ tj with T := updT tj.T q (F x.n) } : TreeV).M = doneM t.M (LK.take (j + 1)) F := by
    have h1 := updT_M tj k.go.at_.keys hxm F
    rw [hxk] at h1
    rw [h1, k.m, take_snocT hq, doneM_snoc]
  have kk : DnI w w4 w6 t { tj with T := updT tj.T q (F x.n) } LK F a Bt Bc cs (j + 1) := ⟨k.k0, k.bel, hgo, hM, k.last, k.top, k.kin, k.kout, k.bt, k.btn, k.bc, k.bcn⟩
  have h2 := kk.bcR
  refine ⟨kk, by simp only [World.cell?, h2]; exact hc, ?_⟩
  refine s18_of (tx := { tj with T := updT tj.T q (F x.n) }) hst hgo.tb kk.btR ((ho.block D (Array.getElem?_eq_some_iff.1 hd).1 (fun h => by have := (k.go.at_.nodes x hxm).1.lt h; omega)).trans hd) ?_ hok
  show ptrT (findT (updT tj.T q (F x.n)) q) = _
  rw [updT_find, hx]; rfl
theorem doneE_one {last flight at_ rt : Int} (h0 : isT at_ = true) (h1 : isT rt = true) (h2 : last ≤ at_) (h3 : flight ≠ 0) : doneE last flight at_ rt = 0 := by
  have hl : lookW last at_ = 0 := by
    unfold isT at h0
    simp at h0
    unfold lookW
    rw [if_neg (by omega), if_neg (by omega)]
  unfold doneE
  rw [if_neg (by rw [hl, h1]; simp), if_neg (by rw [hl]; simp), if_neg h3]
end

set_option maxHeartbeats 12800000 in
set_option maxRecDepth 100000 in
theorem tdone_any {w : World} {t : TreeV} (k : TreeAt w t) (htop : t.top = t.last) (c : CallS) (z1 : c.res.size ≤ maxLen) (z2 : c.ctx.size ≤ maxLen) (z3 : c.org.size ≤ maxLen) (rt : Int) (failed : Bool) :
    Calls Try.prog 19 #[.pointer (some ⟨t.tb, 0, none⟩), .agg c.c, .int .i64 rt, .bool failed] w (TDonePost w t c rt failed) := by
  have HBAD := Lib.hid (fun (wx : World) (h : namesB c = false) => keys_bad (w := wx) c z1 z2 z3 h)
  have HGOOD := Lib.hid (fun (wx : World) (h : namesB c = true) => keys_ok (w := wx) c z1 z2 z3 h)
  have HOK := Lib.hid (keysL_ok z1 z2 z3)
  have HND := Lib.hid (keysL_nodup c)
  have HFEW := Lib.hid (keysL_few c)
  have HEE := Lib.hid (fun (x : Int) (h : doneTE t.M t.last c rt = x) (hx : x ≠ 0) (wx : World) (hb : Below w.heap.size w wx) => TDonePost.mkNo (failed := failed) h hx rfl hb)
  have HE0 := Lib.hid (show doneTE t.M t.last c rt = (if namesB c = false then 10 else if (isT c.at_ && isT rt) = false then 2 else if c.at_ < t.last then 7 else if (keysL c).any (fun k => decide (flightM t.M k = 0)) then 4 else 0) from rfl)
  obtain ⟨LK, hLK⟩ : ∃ LK, keysL c = LK := ⟨_, rfl⟩
  obtain ⟨nB, hnm⟩ : ∃ b, namesB c = b := ⟨_, rfl⟩
  rw [hLK] at HOK HND HFEW HE0
  rw [hnm] at HE0
  have HLK := Lib.hid hLK
  have HNB := Lib.hid hnm
  have HK := Lib.hid k
  have HTOP := Lib.hid htop
  have HFL := Lib.hid (show ∀ n, (doneF c rt failed n).last = c.at_ from fun n => rfl)
  have HT := Lib.hid (fun wx => tisTime_any c.at_ wx)
  have HTR := Lib.hid (fun wx => tisTime_any rt wx)
  have HMT := Lib.hid (M_len t)
  have HSD := Lib.hid (fun (wx : World) (kb : NBk) (n : NodeM) (hn : NodeAt wx kb n.last n.flight n.notes) (h0 : isT c.at_ = true) (h1 : isT rt = true) (h2 : n.last ≤ c.at_) (h3 : n.flight ≠ 0) => (sdone_any hn c.at_ rt failed).mono (fun e w' h => (show e = .returned (.int .i64 0) ∧ NodeAt w' kb (doneF c rt failed n).last (doneF c rt failed n).flight (doneF c rt failed n).notes ∧ Off (NOwn kb) wx w' from ⟨by rw [h.e, doneE_one h0 h1 h2 h3], (h.yes (doneE_one h0 h1 h2 h3)).1, (h.yes (doneE_one h0 h1 h2 h3)).2⟩)))
  have HFE := Lib.hid (show doneF c rt failed = doneF c rt failed from rfl)
  obtain ⟨F, hF⟩ : ∃ F, doneF c rt failed = F := ⟨_, rfl⟩
  have HFF := Lib.hid hF
  rw [hF] at HFL HSD
  have hfew := k.few
  obtain ⟨aR, capR, hvr⟩ := k.slice
  obtain ⟨at_, res, ctx, org, inb, cnt, aa, al, ac⟩ := c
  obtain ⟨tb, mb, vr, T, last, top⟩ := t
  dsimp only at hvr
  subst hvr
  unfold CallS.c at HBAD HGOOD ⊢
  dsimp only at HBAD HGOOD HE0 HT HMT hfew HFL HTOP HSD ⊢
  obtain ⟨n0, hn0⟩ : ∃ n0, T.length = n0 := ⟨_, rfl⟩
  have hk1 := k.cells
  dsimp only at hk1
  rw [hn0] at hfew hk1
  have HN0 := Lib.hid hn0
  have hA : Below w.heap.size w (w.alloc (.cells #[.pointer (some ⟨tb, 0, none⟩)] 24)) := (Below.refl _ _).alloc (Nat.le_refl _) _
  have hzA : (w.alloc (.cells #[.pointer (some ⟨tb, 0, none⟩)] 24)).heap.size = w.heap.size + 1 := by simp
  have hnA := new_blockS w (.cells #[.pointer (some ⟨tb, 0, none⟩)] 24)
  obtain ⟨wA, hwA⟩ : ∃ wA, w.alloc (.cells #[.pointer (some ⟨tb, 0, none⟩)] 24) = wA := ⟨_, rfl⟩
  rw [hwA] at hA hzA hnA
  have hB : Below wA.heap.size wA (wA.alloc (.cells #[.int .i64 at_, .string res, .string ctx, .string org, .bool inb, .int .i64 cnt, .slice aa al ac] 40)) := (Below.refl _ _).alloc (Nat.le_refl _) _
  have hzB : (wA.alloc (.cells #[.int .i64 at_, .string res, .string ctx, .string org, .bool inb, .int .i64 cnt, .slice aa al ac] 40)).heap.size = wA.heap.size + 1 := by simp
  have hnB := new_blockS wA (.cells #[.int .i64 at_, .string res, .string ctx, .string org, .bool inb, .int .i64 cnt, .slice aa al ac] 40)
  obtain ⟨w1, hw1⟩ : ∃ w1, wA.alloc (.cells #[.int .i64 at_, .string res, .string ctx, .string org, .bool inb, .int .i64 cnt, .slice aa al ac] 40) = w1 := ⟨_, rfl⟩
  rw [hw1] at hB hzB hnB
  obtain ⟨Bt, hBt⟩ : ∃ Bt, w.heap.size = Bt := ⟨_, rfl⟩
  obtain ⟨Bc, hBc⟩ : ∃ Bc, wA.heap.size = Bc := ⟨_, rfl⟩
  rw [hBt] at hnA hzA
  rw [hBc] at hnB hzB hzA
  have hb1 := hA.trans (hB.mono hA.size)
  have hbt1 := (hB.block Bt (by rw [hBc]; omega)).trans hnA
  have HB1 := Lib.hid hb1
  have HBT := Lib.hid hbt1
  have HBC := Lib.hid hnB
  have HZ1 := Lib.hid (show w1.heap.size = Bt + 2 ∧ Bc = Bt + 1 by omega)
  have HBTE := Lib.hid hBt
  have hcc := call_cells hnB
  have hbt0 : w1.cell? ⟨Bt, 0, none⟩ = some (.pointer (some ⟨tb, 0, none⟩)) := by simp [World.cell?, hbt1]
  have HCC := Lib.hid (fun (wx : World) (hx : Below w1.heap.size w1 wx) => note_cells (tb := tb) (vr := .slice aR n0 capR) (last := last) (mb := mb) hx hbt1 hnB ((hb1.cell (World.block_lt_of_cell? _ _ hk1.1)).trans hk1.1) ((hb1.cell (World.block_lt_of_cell? _ _ hk1.2.1)).trans hk1.2.1) ((hb1.cell (World.block_lt_of_cell? _ _ hk1.2.2)).trans hk1.2.2))
  obtain ⟨q0, q1, q2, q3, q4, q5, q6⟩ := hcc
  clear k htop hF hLK hnm hn0 hk1 hA hzA hnA hB hzB hnB hb1 hbt1
  go_enter Try.func19, Try.ntmps19
  go_wp2_with (fail)
  clear hwA hw1
  cases nB with
  | false =>
    have HE := Lib.hid (HE0.out.trans (if_pos rfl))
    clear HE0
    refine (HBAD.out _ HNB.out).mono ?_
    rintro e w2 ⟨rfl, hb2⟩
    go_wp2_with (fail)
    go_ret
    exact HEE.out 10 HE.out (by decide) _ (HB1.out.trans (hb2.mono HB1.out.size))
  | true =>
    have HE1 := Lib.hid (HE0.out.trans (if_neg (by simp)))
    clear HE0
    refine (HGOOD.out _ HNB.out).mono ?_
    rintro e w2 ⟨vK, rfl, hoK, hb2⟩
    have hlk := HLK.out
    rw [hlk] at hoK
    obtain ⟨aK, capK, rfl⟩ := own_sliceT hoK
    have HOK2 := Lib.hid hoK
    have HB2 := Lib.hid hb2
    obtain ⟨nK, hnK⟩ : ∃ nK, LK.length = nK := ⟨_, rfl⟩
    have HLN := Lib.hid hnK
    rw [hnK] at HOK2 HFEW ⊢
    obtain ⟨c0, c1, c2, c3, c4, c5⟩ := HCC.out w2 hb2
    clear hoK hb2 hlk hnK
    obtain ⟨M0, hM0⟩ : ∃ M0, (⟨tb, mb, .slice aR T.length capR, T, last, top⟩ : TreeV).M = M0 := ⟨_, rfl⟩
    obtain ⟨AN, hAN⟩ : ∃ AN, (LK.any fun k => decide (flightM M0 k = 0)) = AN := ⟨_, rfl⟩
    rw [hM0] at HE1 HEE
    rw [hAN] at HE1
    have HM0 := Lib.hid hM0
    have HAN := Lib.hid hAN
    clear hM0 hAN
    go_wp2_with (fail)
    refine (HT.out _).mono ?_
    rintro e w3 ⟨rfl, hq⟩
    have hq := hq.symm
    subst hq
    cases hTa : isT at_ with
    | false =>
      have HE := Lib.hid (HE1.out.trans (if_pos (by rw [hTa]; rfl)))
      clear HE1
      go_wp2_with (fail)
      go_ret
      exact HEE.out 2 HE.out (by decide) _ (HB1.out.trans (HB2.out.mono HB1.out.size))
    | true =>
      have HTA := Lib.hid hTa
      go_wp2_with (fail)
      refine (HTR.out _).mono ?_
      rintro e w3 ⟨rfl, hq⟩
      have hq := hq.symm
      subst hq
      cases hTr : isT rt with
      | false =>
        have HE := Lib.hid (HE1.out.trans (if_pos (by rw [hTr, Bool.and_false])))
        clear HE1 hTa
        go_wp2_with (fail)
        go_ret
        exact HEE.out 2 HE.out (by decide) _ (HB1.out.trans (HB2.out.mono HB1.out.size))
      | true =>
        have HTRT := Lib.hid hTr
        have HE2 := Lib.hid (HE1.out.trans (if_neg (by rw [hTa, hTr]; simp)))
        clear HE1 hTa hTr
        by_cases hlt : at_ < last
        · have HE := Lib.hid (HE2.out.trans (if_pos hlt))
          clear HE2
          go_wp2_with (fail)
          go_quiet (fail)
          go_wp2_with (fail)
          go_ret
          exact HEE.out 7 HE.out (by decide) _ (below_drewG (HB1.out.trans (HB2.out.mono HB1.out.size)) _)
        · have HE4 := Lib.hid (HE2.out.trans (if_neg hlt))
          have HLT := Lib.hid (show last ≤ at_ by omega)
          have HT0 := Lib.hid (show 0 ≤ at_ ∧ at_ ≤ 1152921504606846976 by have h := HTA.out; unfold isT at h; simpa using h)
          clear HE2
          have HCFN := Lib.hid (fun (n : Nat) => tcontains_any (w := w2.drewN n) (cap := capK) ((keysAt_row HOK2.out HLN.out).below (below_drewG (Below.refl _ _) n)) HLN.out (by have := HFEW.out; omega) 36 #[.pointer (some ⟨Bt, 0, none⟩)] (idleB ⟨tb, mb, .slice aR T.length capR, T, last, top⟩) (fun x _ wx => enD1 x Bt wx)
            (fun x hx wx hwx => by
              have hb2n := below_drewG HB2.out n
              have h := done1_any (HK.out.below (HB1.out.trans ((hb2n.trans (hwx.mono hb2n.size)).mono HB1.out.size))) (HCC.out wx (hb2n.trans (hwx.mono hb2n.size))).1 x (HOK.out x hx)
              exact h))
          rw [show LK.any (idleB ⟨tb, mb, .slice aR T.length capR, T, last, top⟩) = AN by rw [← HAN.out, ← HM0.out]; exact congrArg LK.any (funext fun q => by unfold idleB; first | rfl | (rw [Bool.eq_iff_iff]; simp; done) | simp)] at HCFN
          go_wp2_with (fail)
          go_quiet (fail)
          have HCF := Lib.hid (HCFN.out nq)
          clear HCFN
          cases AN with
          | true =>
            have HE := Lib.hid (HE4.out.trans (if_pos rfl))
            clear HE4
            go_wp2_with (fail)
            refine HCF.out.mono ?_
            rintro e w5 ⟨rfl, hb5⟩
            go_wp2_with (fail)
            go_ret
            exact HEE.out 4 HE.out (by decide) _ (HB1.out.trans (((below_drewG HB2.out nq).trans (hb5.mono HB2.out.size)).mono HB1.out.size))
          | false =>
            have HE := Lib.hid (HE4.out.trans (if_neg (by simp)))
            clear HE4
            go_wp2_with (fail)
            refine HCF.out.mono ?_
            rintro e w3b ⟨rfl, hb5⟩
            have HB3b := Lib.hid ((below_drewG HB2.out nq).trans (hb5.mono HB2.out.size))
            have HB23b := Lib.hid ((below_drewG (Below.refl _ w2) nq).trans hb5)
            clear hb5 HCF c0 c1 c2 c3 c4 c5
            have HKW := Lib.hid ((keysAt_row HOK2.out HLN.out).below HB23b.out)
            have HI0 := Lib.hid (done_start (F := F) HK.out HTOP.out HLT.out (HB1.out.trans (HB3b.out.mono HB1.out.size)) HKW.out (fun g e => by have h := (HOK2.out.lt g (by rw [e]; rfl)).1; have := HB1.out.size; omega) ((HB3b.out.block Bt (by have := HZ1.out; omega)).trans HBT.out) (by have := HBTE.out; omega) ((HB3b.out.block Bc (by have := HZ1.out; omega)).trans HBC.out) (by have := HBTE.out; have := HZ1.out; omega))
            have HFULL : Hid (∀ q, q ∈ LK → flightM (⟨tb, mb, .slice aR T.length capR, T, last, at_⟩ : TreeV).M q ≠ 0) := Lib.hid (fun q hq => by have h := List.any_eq_false.1 HAN.out q hq; rw [← HM0.out] at h; simp only [decide_eq_true_eq] at h; exact h)
            have HPOST := Lib.hid (fun (w9 : World) (h : ∃ t', TGo w (⟨tb, mb, .slice aR T.length capR, T, last, at_⟩ : TreeV) w9 t' ∧ t'.M = doneM (⟨tb, mb, .slice aR T.length capR, T, last, at_⟩ : TreeV).M LK F ∧ t'.last = at_ ∧ t'.top = at_) => done_yes (w := w) (t := ⟨tb, mb, .slice aR T.length capR, T, last, top⟩) (c := ⟨at_, res, ctx, org, inb, cnt, aa, al, ac⟩) (rt := rt) (failed := failed) (aa := at_) (by have h := HE.out; rw [← HM0.out] at h; exact h) HLK.out HFF.out.symm h)
            rw [HN0.out] at HI0 HFULL HPOST
            obtain ⟨w4, hw4⟩ : ∃ w4, w4 = w3b := ⟨_, rfl⟩
            rw [← hw4] at HI0 ⊢
            clear hw4 HKW HE HB3b HB23b
            go_wp2_with (fail)
            go_loopw [12, 48] (fun _ x48 wr => ∃ (j : Nat) (tj : TreeV), j ≤ nK ∧ x48 = .int .i64 j ∧ Hid (DnI w w4 wr ⟨tb, mb, .slice aR n0 capR, T, last, at_⟩ tj LK F aK Bt Bc #[.int .i64 at_, .string res, .string ctx, .string org, .bool inb, .int .i64 cnt, .slice aa al ac] j)) (fun _ x48 _ => nK - (intOf x48).toNat)
            case atStart => exact ⟨0, _, Nat.zero_le _, rfl, HI0⟩
            case round =>
              rename World => wr
              clear HI0
              obtain ⟨j, tj, hj, rfl, HI⟩ := hrel
              by_cases hlt : j < nK
              · have hjl : j < LK.length := by rw [HLN.out]; exact hlt
                obtain ⟨⟨kind, qctx, qres, qorg⟩, hq⟩ : ∃ q, LK[j]? = some q := ⟨_, List.getElem?_eq_getElem hjl⟩
                obtain ⟨gK, rfl, hgK, d0, d1, d2, d3⟩ := HI.out.keys.get hq
                have j0 : (0 : Int) ≤ j := by omega
                have j1 : (j : Int) < nK := by omega
                have hn5 : nK ≤ 5 := HFEW.out
                have HQ := Lib.hid hq
                obtain ⟨x, hx, hxf, hxl⟩ := HI.out.found HND.out hq (HFULL.out _ (List.mem_of_getElem? hq))
                have halb : Below wr.heap.size wr (wr.alloc (.cells #[.int .u8 kind, .string qctx, .string qres, .string qorg] 30)) := (Below.refl _ _).alloc (Nat.le_refl _) _
                have hnb := new_blockS wr (.cells #[.int .u8 kind, .string qctx, .string qres, .string qorg] 30)
                obtain ⟨wd, hwd⟩ : ∃ wd, wr.alloc (.cells #[.int .u8 kind, .string qctx, .string qres, .string qorg] 30) = wd := ⟨_, rfl⟩
                rw [hwd] at halb hnb
                obtain ⟨D, hD⟩ : ∃ D, wr.heap.size = D := ⟨_, rfl⟩
                have hnb2 : wd.heap[D]? = some (.cells #[.int .u8 kind, .string qctx, .string qres, .string qorg] 30) := by rw [← hD]; exact hnb
                have hs15 := HI.out.s15 (q := ⟨kind, qctx, qres, qorg⟩) (at_ := at_) halb.drew rfl hnb2 hx (HOK.out _ (List.mem_of_getElem? hq))
                have HN2 := Lib.hid (fun (w6 : World) hn ho => HI.out.one (q := ⟨kind, qctx, qres, qorg⟩) (at_ := at_) (wd := wd.drew) (w6 := w6) halb.drew rfl hnb2 (by rw [← hD]; exact Nat.le_refl _) hx hq (HOK.out _ (List.mem_of_getElem? hq)) HFL.out hn ho)
                have HON := Lib.hid (HSD.out wd.drew x.k x.n (((HI.out.go.at_.nodes x (findT_mem hx).1).1.below halb).kept (fun _ _ => rfl)) HTA.out HTRT.out hxl hxf)
                obtain ⟨mb1, hmb1⟩ : ∃ m, tj.mb = m := ⟨_, rfl⟩
                obtain ⟨xq, hxq⟩ : ∃ m, x.k.q = m := ⟨_, rfl⟩
                dsimp only at hs15
                rw [hmb1] at hs15 HN2
                rw [hxq] at hs15 HN2 HON
                clear hq hgK hjl hnb halb hnb2 hx hxf hxl hmb1 hxq
                go_wp2_with (fail)
                clear hD hwd
                refine wp_region_noPanic ?_
                refine wp_region_held_drew (S := (fun wx => wx.cell? ⟨Bc, 0, none⟩ = some (.int .i64 at_) ∧ wx.cell? ⟨Bt, 0, none⟩ = some (.pointer (some ⟨tb, 0, none⟩)) ∧ (wx.cell? ⟨D, 0, none⟩ = some (.int .u8 kind) ∧ wx.cell? ⟨D, 1, none⟩ = some (.string qctx) ∧ wx.cell? ⟨D, 2, none⟩ = some (.string qres) ∧ wx.cell? ⟨D, 3, none⟩ = some (.string qorg)) ∧ wx.cell? ⟨tb, 0, none⟩ = some (.map (some mb1)) ∧ (Instr.lookup 55 (.map (some mb1)) (.agg #[.int .u8 kind, .string qctx, .string qres, .string qorg]) false).run Try.prog wx = .ok (.pointer (some ⟨xq, 0, none⟩)) wx)) (by kernel_rfl) ?_ (fun hHeld => ?_)
                · exact hs15
                refine wpAnyH_take (i := 0) (v := ?_) rfl (by kernel_rfl) (by kernel_rfl) (by kernel_rfl) (fun _ _ _ h => h) (Or.inl ⟨by rfl, ?hy⟩) (by assumption) ?_
                case hy => intro w hSw; (try dsimp only at hSw); go_simp; try with_reducible rfl
                try simp only [Act.put, List.getElem_toArray, List.getElem_cons_succ, List.getElem_cons_zero, List.setIfInBounds_toArray, List.set_cons_zero, List.set_cons_succ]
                refine wpAnyH_take (i := 1) (v := ?_) rfl (by kernel_rfl) (by kernel_rfl) (by kernel_rfl) (fun _ _ _ h => h) (Or.inl ⟨by rfl, ?hy⟩) (by assumption) ?_
                case hy => intro w hSw; (try dsimp only at hSw); go_simp; try with_reducible rfl
                try simp only [Act.put, List.getElem_toArray, List.getElem_cons_succ, List.getElem_cons_zero, List.setIfInBounds_toArray, List.set_cons_zero, List.set_cons_succ]
                refine wpAnyH_take (i := 2) (v := ?_) rfl (by kernel_rfl) (by kernel_rfl) (by kernel_rfl) (fun _ _ _ h => h) (Or.inl ⟨by rfl, ?hy⟩) (by assumption) ?_
                case hy => intro w hSw; (try dsimp only at hSw); go_simp; try with_reducible rfl
                try simp only [Act.put, List.getElem_toArray, List.getElem_cons_succ, List.getElem_cons_zero, List.setIfInBounds_toArray, List.set_cons_zero, List.set_cons_succ]
                refine wpAnyH_take (i := 3) (v := ?_) rfl (by kernel_rfl) (by kernel_rfl) (by kernel_rfl) (fun _ _ _ h => h) (Or.inl ⟨by rfl, ?hy⟩) (by assumption) ?_
                case hy => intro w hSw; (try dsimp only at hSw); go_simp; try with_reducible rfl
                try simp only [Act.put, List.getElem_toArray, List.getElem_cons_succ, List.getElem_cons_zero, List.setIfInBounds_toArray, List.set_cons_zero, List.set_cons_succ]
                refine wpAnyH_take (i := 4) (v := ?_) rfl (by kernel_rfl) (by kernel_rfl) (by kernel_rfl) (fun _ _ _ h => h) (Or.inl ⟨by rfl, ?hy⟩) (by assumption) ?_
                case hy => intro w hSw; (try dsimp only at hSw); go_simp; try with_reducible rfl
                try simp only [Act.put, List.getElem_toArray, List.getElem_cons_succ, List.getElem_cons_zero, List.setIfInBounds_toArray, List.set_cons_zero, List.set_cons_succ]
                refine wpAnyH_take (i := 5) (v := ?_) rfl (by kernel_rfl) (by kernel_rfl) (by kernel_rfl) (fun _ _ _ h => h) (Or.inl ⟨by rfl, ?hy⟩) (by assumption) ?_
                case hy => intro w hSw; (try dsimp only at hSw); go_simp; try with_reducible rfl
                try simp only [Act.put, List.getElem_toArray, List.getElem_cons_succ, List.getElem_cons_zero, List.setIfInBounds_toArray, List.set_cons_zero, List.set_cons_succ]
                refine wpAnyH_take (i := 6) (v := ?_) rfl (by kernel_rfl) (by kernel_rfl) (by kernel_rfl) (fun _ _ _ h => h) (Or.inl ⟨by rfl, ?hy⟩) (by assumption) ?_
                case hy => intro w hSw; (try dsimp only at hSw); go_simp; try with_reducible rfl
                try simp only [Act.put, List.getElem_toArray, List.getElem_cons_succ, List.getElem_cons_zero, List.setIfInBounds_toArray, List.set_cons_zero, List.set_cons_succ]
                refine wpAnyH_take (i := 7) (v := ?_) rfl (by kernel_rfl) (by kernel_rfl) (by kernel_rfl) (fun _ _ _ h => h) (Or.inl ⟨by rfl, ?hy⟩) (by assumption) ?_
                case hy => intro w hSw; (try dsimp only at hSw); go_simp; try with_reducible rfl
                try simp only [Act.put, List.getElem_toArray, List.getElem_cons_succ, List.getElem_cons_zero, List.setIfInBounds_toArray, List.set_cons_zero, List.set_cons_succ]
                refine wpAnyH_take (i := 8) (v := ?_) rfl (by kernel_rfl) (by kernel_rfl) (by kernel_rfl) (fun _ _ _ h => h) (Or.inl ⟨by rfl, ?hy⟩) (by assumption) ?_
                case hy => intro w hSw; (try dsimp only at hSw); go_simp; try with_reducible rfl
                try simp only [Act.put, List.getElem_toArray, List.getElem_cons_succ, List.getElem_cons_zero, List.setIfInBounds_toArray, List.set_cons_zero, List.set_cons_succ]
                refine wpAnyH_take (i := 9) (v := ?_) rfl (by kernel_rfl) (by kernel_rfl) (by kernel_rfl) (fun _ _ _ h => h) (Or.inl ⟨by rfl, ?hy⟩) (by assumption) ?_
                case hy => intro w hSw; (try dsimp only at hSw); go_simp; try with_reducible rfl
                try simp only [Act.put, List.getElem_toArray, List.getElem_cons_succ, List.getElem_cons_zero, List.setIfInBounds_toArray, List.set_cons_zero, List.set_cons_succ]
                refine wpAnyH_take (i := 10) (v := ?_) rfl (by kernel_rfl) (by kernel_rfl) (by kernel_rfl) (fun _ _ _ h => h) (Or.inl ⟨by rfl, ?hy⟩) (by assumption) ?_
                case hy => intro w hSw; (try dsimp only at hSw); go_simp; try with_reducible rfl
                try simp only [Act.put, List.getElem_toArray, List.getElem_cons_succ, List.getElem_cons_zero, List.setIfInBounds_toArray, List.set_cons_zero, List.set_cons_succ]
                refine wpAnyH_ready (rs := [11]) (by kernel_rfl) (by simp) (AllReadyH.cons rfl (fun K hK => ?_) AllReadyH.nil)
                go_simp
                go_at_call 38; refine HON.out.mono ?_; rintro e w6 ⟨rfl, hn6, ho6⟩; have HN6 := Lib.hid (HN2.out w6 hn6 ho6); clear hn6 ho6
                try (go_wp2_with fail)
                refine hK.out _ _ ?_ (fun hHeld => ?_)
                · exact HN6.out.2
                clear hK K
                try simp only [Act.put, List.getElem_toArray, List.getElem_cons_succ, List.getElem_cons_zero, List.setIfInBounds_toArray, List.set_cons_zero, List.set_cons_succ]
                refine wpAnyH_done (by kernel_rfl) ?_ _
                refine NoPanic.normal ?_
                clear hs15
                go_wp2_with (fail)
                refine ⟨⟨j + 1, _, by omega, by go_num, Lib.hid HN6.out.1⟩, by first | (simp [intOf]; done) | (simp [intOf]; omega)⟩
              · have j1 : ¬ (j : Int) < nK := by omega
                have hsc := HI.out.cellsEnd (at_ := at_) rfl
                dsimp only at hsc
                obtain ⟨s1, s2, s3, s4⟩ := hsc
                have HDN := Lib.hid (HI.out.done (by rw [HLN.out]; omega) rfl HT0.out.1 HT0.out.2)
                dsimp only at HDN
                clear HI
                go_wp2_with (fail)
                go_ret
                have hfin := HPOST.out _ HDN.out
                rw [← HN0.out] at hfin
                exact hfin
end Go.Proofs.Ytpbbidijnmooaaa
