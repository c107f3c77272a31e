/- tree: note. -/
import Derived.Test.YtpbbidijnmooaaaTrF
import Derived.Test.YtpbbidijnmooaaaTrQ
namespace Go.Proofs.Ytpbbidijnmooaaa
open Go.RowKit
set_option linter.unusedVariables false
set_option linter.unusedSimpArgs false

set_option maxHeartbeats 800000 in
theorem tisTime_any (n : Int) (w : World) : Calls Try.prog 23 #[.int .i64 n] w fun e w' => e = .returned (.bool (isT n)) ∧ w' = w := by
  unfold isT
  by_cases h : 0 ≤ n
  · rw [decide_eq_true h, Bool.true_and]
    go_enter Try.func23, Try.ntmps23
    go_wp2_with (fail)
    go_ret
    exact ⟨rfl, rfl⟩
  · rw [decide_eq_false h, Bool.false_and]
    go_enter Try.func23, Try.ntmps23
    go_wp2_with (fail)
    go_ret
    exact ⟨rfl, rfl⟩
theorem call_cells {wx : World} {B : Nat} {at_ cnt : Int} {res ctx org : ByteArray} {inb : Bool} {aa : Option Addr} {al ac : Nat} (h : wx.heap[B]? = some (.cells #[.int .i64 at_, .string res, .string ctx, .string org, .bool inb, .int .i64 cnt, .slice aa al ac] 40)) :
    wx.cell? ⟨B, 0, none⟩ = some (.int .i64 at_) ∧ wx.cell? ⟨B, 1, none⟩ = some (.string res) ∧ wx.cell? ⟨B, 2, none⟩ = some (.string ctx) ∧ wx.cell? ⟨B, 3, none⟩ = some (.string org) ∧ wx.cell? ⟨B, 4, none⟩ = some (.bool inb) ∧ wx.cell? ⟨B, 5, none⟩ = some (.int .i64 cnt) ∧ wx.cell? ⟨B, 6, none⟩ = some (.slice aa al ac) := by
  refine ⟨?_, ?_, ?_, ?_, ?_, ?_, ?_⟩ <;> simp [World.cell?, h]
theorem note_cells {w1 wx : World} {Bt Bc tb mb : Nat} {vr : Value} {last : Int} {at_ cnt : Int} {res ctx org : ByteArray} {inb : Bool} {aa : Option Addr} {al ac : Nat} (hx : Below w1.heap.size w1 wx) (h1 : w1.heap[Bt]? = some (.cells #[.pointer (some ⟨tb, 0, none⟩)] 24)) (h2 : w1.heap[Bc]? = some (.cells #[.int .i64 at_, .string res, .string ctx, .string org, .bool inb, .int .i64 cnt, .slice aa al ac] 40))
    (h3 : w1.cell? ⟨tb, 0, none⟩ = some (.map (some mb))) (h4 : w1.cell? ⟨tb, 1, none⟩ = some vr) (h5 : w1.cell? ⟨tb, 2, none⟩ = some (.int .i64 last)) :
    wx.cell? ⟨Bt, 0, none⟩ = some (.pointer (some ⟨tb, 0, none⟩)) ∧ wx.cell? ⟨Bc, 0, none⟩ = some (.int .i64 at_) ∧ wx.cell? ⟨Bc, 5, none⟩ = some (.int .i64 cnt) ∧ wx.cell? ⟨tb, 0, none⟩ = some (.map (some mb)) ∧ wx.cell? ⟨tb, 1, none⟩ = some vr ∧ wx.cell? ⟨tb, 2, none⟩ = some (.int .i64 last) := by
  have g1 := (hx.block Bt (Array.getElem?_eq_some_iff.1 h1).1).trans h1
  have g2 := (hx.block Bc (Array.getElem?_eq_some_iff.1 h2).1).trans h2
  exact ⟨by simp [World.cell?, g1], by simp [World.cell?, g2], by simp [World.cell?, g2], (hx.cell (World.block_lt_of_cell? _ _ h3)).trans h3, (hx.cell (World.block_lt_of_cell? _ _ h4)).trans h4, (hx.cell (World.block_lt_of_cell? _ _ h5)).trans h5⟩
theorem enN1 (x : KeyS) (b : Nat) (wx : World) : (callFunc 49 (#[x.v] ++ #[.pointer (some ⟨b, 0, none⟩)])).run Try.prog wx = .ok (.enter 49 (#[x.v] ++ #[.pointer (some ⟨b, 0, none⟩)])) wx := by kernel_rfl
/-- What note leaves. -/
structure NotePost (w : World) (t : TreeV) (c : CallS) (full : Bool) (F : NodeM → NodeM) (e : Ending) (w' : World) : Prop where
  e : e = .returned (.int .i64 (noteE t.M t.last c full))
  no : noteE t.M t.last c full ≠ 0 → Below w.heap.size w w'
  yes : noteE t.M t.last c full = 0 → ∃ t', TGo w t w' t' ∧ t'.M = noteM t.M (keysL c) F ∧ t'.last = c.at_ ∧ t'.top = c.at_
theorem NotePost.mkNo {w w' : World} {t : TreeV} {c : CallS} {full : Bool} {F : NodeM → NodeM} {e : Ending} {x : Int} (hE : noteE t.M t.last c full = x) (hx : x ≠ 0) (he : e = .returned (.int .i64 x)) (hb : Below w.heap.size w w') : NotePost w t c full F e w' :=
  ⟨by rw [hE]; exact he, fun _ => hb, fun h0 => absurd (hE.symm.trans h0) hx⟩
theorem KeysAt.off {w w' : World} {S : Nat → Prop} {a : Option Addr} {l : List KeyS} (h : KeysAt w a l) (ho : Off S w w') (hS : ∀ g, a = some ⟨g, 0, none⟩ → ¬ S g) : KeysAt w' a l := by
  rcases h with h | ⟨g, rfl, hg, hc⟩
  · exact Or.inl h
  · exact Or.inr ⟨g, rfl, Nat.lt_of_lt_of_le hg ho.size, fun j q hq => by
      obtain ⟨c0, c1, c2, c3⟩ := hc j q hq
      have hn := hS g rfl
      exact ⟨ho.cell c0 hn, ho.cell c1 hn, ho.cell c2 hn, ho.cell c3 hn⟩⟩
/-- What stands between two rounds of note: w4: ahead of the first; t: with the bound of the nodes' times raised. -/
structure NoteI (w w4 wr : World) (t tj : TreeV) (LK : List KeyS) (F : NodeM → NodeM) (a : Option Addr) (Bt Bc : Nat) (cs : Array Value) (j : Nat) : Prop where
  k0 : TreeAt w t
  bel : Below w.heap.size w w4
  go : TGo w4 t wr tj
  m : tj.M = noteM t.M (LK.take j) F
  last : tj.last = t.last
  top : tj.top = t.top
  kin : KeysAt w4 a LK
  kout : ∀ g, a = some ⟨g, 0, none⟩ → w.heap.size ≤ g
  bt : w4.heap[Bt]? = some (.cells #[.pointer (some ⟨t.tb, 0, none⟩)] 24)
  btn : w.heap.size ≤ Bt
  bc : w4.heap[Bc]? = some (.cells cs 40)
  bcn : w.heap.size ≤ Bc
section
variable {w w4 wr : World} {t tj : TreeV} {LK : List KeyS} {F : NodeM → NodeM} {a : Option Addr} {Bt Bc : Nat} {cs : Array Value} {j : Nat}
theorem note_start (k : TreeAt w t) (htop : t.top = t.last) {at_ : Int} (hlt : t.last ≤ at_) (hb : Below w.heap.size w w4) (hk : KeysAt w4 a LK) (ho : ∀ g, a = some ⟨g, 0, none⟩ → w.heap.size ≤ g) (h1 : w4.heap[Bt]? = some (.cells #[.pointer (some ⟨t.tb, 0, none⟩)] 24)) (h2 : w.heap.size ≤ Bt) (h3 : w4.heap[Bc]? = some (.cells cs 40)) (h4 : w.heap.size ≤ Bc) :
    NoteI w w4 w4 { t with top := at_ } { t with top := at_ } LK F a Bt Bc cs 0 :=
  ⟨k.raise (by rw [htop]; exact hlt), hb, TGo.refl ((k.raise (a := at_) (by rw [htop]; exact hlt)).below hb), rfl, rfl, rfl, hk, ho, h1, h2, h3, h4⟩
theorem note_yes {c : CallS} {full : Bool} {w9 : World} {aa : Int} (hE : noteE t.M t.last c full = 0) (hL : keysL c = LK) (h : ∃ t', TGo w { t with top := aa } w9 t' ∧ t'.M = noteM ({ t with top := aa } : TreeV).M LK F ∧ t'.last = c.at_ ∧ t'.top = c.at_) : NotePost w t c full F (.returned (.int .i64 0)) w9 := by
  obtain ⟨t', h1, h2, h3⟩ := h
  exact ⟨by rw [hE], fun hne => absurd hE hne, fun _ => ⟨t', ⟨h1.at_, h1.tb, h1.off, h1.own⟩, by rw [hL]; exact h2, h3⟩⟩
theorem NoteI.out_ (k : NoteI w w4 wr t tj LK F a Bt Bc cs j) {i : Nat} (hi : w.heap.size ≤ i) : ¬ TOwn t i := fun ho => by have := k.k0.lt ho; omega
theorem NoteI.keys (k : NoteI w w4 wr t tj LK F a Bt Bc cs j) : KeysAt wr a LK := k.kin.off k.go.off (fun g e => k.out_ (k.kout g e))
theorem NoteI.btR (k : NoteI w w4 wr t tj LK F a Bt Bc cs j) : wr.heap[Bt]? = some (.cells #[.pointer (some ⟨t.tb, 0, none⟩)] 24) := (k.go.off.block Bt (Array.getElem?_eq_some_iff.1 k.bt).1 (k.out_ k.btn)).trans k.bt
theorem NoteI.bcR (k : NoteI w w4 wr t tj LK F a Bt Bc cs j) : wr.heap[Bc]? = some (.cells cs 40) := (k.go.off.block Bc (Array.getElem?_eq_some_iff.1 k.bc).1 (k.out_ k.bcn)).trans k.bc
theorem NoteI.tbE (k : NoteI w w4 wr t tj LK F a Bt Bc cs j) : tj.tb = t.tb := k.go.tb
theorem NoteI.fin (k : NoteI w w4 wr t tj LK F a Bt Bc cs j) : TGo w t wr tj := k.go.belowL k.bel k.k0
/-- In a round: the key's box beside; after make1 (m: true), or before it. -/
structure RoundI (w w4 wd : World) (t td : TreeV) (LK : List KeyS) (F : NodeM → NodeM) (a : Option Addr) (Bt Bc : Nat) (cs : Array Value) (j D : Nat) (q : KeyS) (m : Bool) : Prop where
  k0 : TreeAt w t
  bel : Below w.heap.size w w4
  go : TGo w4 t wd td
  m : td.M = if m then addM (noteM t.M (LK.take j) F) q else noteM t.M (LK.take j) F
  last : td.last = t.last
  top : td.top = t.top
  kin : KeysAt w4 a LK
  kout : ∀ g, a = some ⟨g, 0, none⟩ → w.heap.size ≤ g
  bt : w4.heap[Bt]? = some (.cells #[.pointer (some ⟨t.tb, 0, none⟩)] 24)
  btn : w.heap.size ≤ Bt
  bc : w4.heap[Bc]? = some (.cells cs 40)
  bcn : w.heap.size ≤ Bc
  dx : wd.heap[D]? = some (.cells #[.int .u8 q.kind, .string q.ctx, .string q.res, .string q.org] 30)
  dn : ¬ TOwn td D
theorem NoteI.boxed (k : NoteI w w4 wr t tj LK F a Bt Bc cs j) {wd : World} {D : Nat} {q : KeyS} (hb : Below wr.heap.size wr wd) (hd : wd.heap[D]? = some (.cells #[.int .u8 q.kind, .string q.ctx, .string q.res, .string q.org] 30)) (hD : wr.heap.size ≤ D) : RoundI w w4 wd t tj LK F a Bt Bc cs j D q false :=
  ⟨k.k0, k.bel, k.go.belowR hb, by rw [if_neg (by simp)]; exact k.m, k.last, k.top, k.kin, k.kout, k.bt, k.btn, k.bc, k.bcn, hd, fun ho => by have := k.go.at_.lt ho; omega⟩
variable {wd w5 : World} {td t1 : TreeV} {D : Nat} {q : KeyS} {m : Bool}
theorem RoundI.out_ (k : RoundI w w4 wd t td LK F a Bt Bc cs j D q m) {i : Nat} (hi : w.heap.size ≤ i) : ¬ TOwn t i := fun ho => by have := k.k0.lt ho; omega
theorem RoundI.btR (k : RoundI w w4 wd t td LK F a Bt Bc cs j D q m) : wd.heap[Bt]? = some (.cells #[.pointer (some ⟨t.tb, 0, none⟩)] 24) := (k.go.off.block Bt (Array.getElem?_eq_some_iff.1 k.bt).1 (k.out_ k.btn)).trans k.bt
theorem RoundI.tbE (k : RoundI w w4 wd t td LK F a Bt Bc cs j D q m) : td.tb = t.tb := k.go.tb
theorem RoundI.s17 (k : RoundI w w4 wd t td LK F a Bt Bc cs j D q m) : wd.cell? ⟨Bt, 0, none⟩ = some (.pointer (some ⟨t.tb, 0, none⟩)) ∧ wd.cell? ⟨D, 0, none⟩ = some (.int .u8 q.kind) ∧ wd.cell? ⟨D, 1, none⟩ = some (.string q.ctx) ∧ wd.cell? ⟨D, 2, none⟩ = some (.string q.res) ∧ wd.cell? ⟨D, 3, none⟩ = some (.string q.org) := by
  have h1 := k.btR
  exact ⟨by simp [World.cell?, h1], four_box k.dx⟩
theorem RoundI.room (k : RoundI w w4 wd t td LK F a Bt Bc cs j D q false) (hn : LK.Nodup) (hq : LK[j]? = some q) (hf : (freshM t.M LK : Int) ≤ 512 - t.M.length) : findT td.T q = none → td.T.length < 512 := by
  intro h
  have hm := k.m
  rw [if_neg (by simp)] at hm
  have hj := (List.getElem?_eq_some_iff.1 hq).1
  rw [← M_len]
  refine room_of (M := t.M) hn hq (by rw [hm, note_len t.M hn F (by omega)]) (by rw [getM_findT, h]; rfl) (by rw [hm, getM_note_other (not_mem_take hn hq)]) hf
theorem RoundI.made (k : RoundI w w4 wd t td LK F a Bt Bc cs j D q false) (hg : TGo wd td w5 t1) (hm : t1.M = addM td.M q) (hl : t1.last = td.last) (hp : t1.top = td.top) : RoundI w w4 w5 t t1 LK F a Bt Bc cs j D q true := by
  have hm0 := k.m
  rw [if_neg (by simp)] at hm0
  have hdl := (Array.getElem?_eq_some_iff.1 k.dx).1
  exact ⟨k.k0, k.bel, k.go.trans hg, by rw [hm, hm0, if_pos rfl], hl.trans k.last, hp.trans k.top, k.kin, k.kout, k.bt, k.btn, k.bc, k.bcn, (hg.off.block D hdl k.dn).trans k.dx, fun ho => by
    rcases hg.own D ho with h | h
    · exact k.dn h
    · omega⟩
theorem RoundI.found (k : RoundI w w4 wd t td LK F a Bt Bc cs j D q true) (hn : LK.Nodup) (hq : LK[j]? = some q) : ∃ x, findT td.T q = some x ∧ x.n = (getM t.M q).getD .zero ∧ x.n.last ≤ t.top := by
  have hm := k.m
  rw [if_pos rfl] at hm
  have h1 : getM td.M q = some ((getM t.M q).getD .zero) := by rw [hm, getM_add, if_pos rfl, getM_note_other (not_mem_take hn hq)]
  rw [getM_findT] at h1
  cases hx : findT td.T q with
  | none => rw [hx] at h1; cases h1
  | some x =>
    rw [hx] at h1
    refine ⟨x, rfl, Option.some.inj h1, ?_⟩
    rw [← k.top]
    exact (k.go.at_.nodes x (findT_mem hx).1).2
theorem RoundI.callOne (k : RoundI w w4 wd t td LK F a Bt Bc cs j D q true) {x : TN} {full : Bool} {id : FuncId} {caps : Array Value} {at_ : Int} (hx : findT td.T q = some x) (hxn : x.n = (getM t.M q).getD .zero) (hxl : x.n.last ≤ t.top) (hq : q ∈ LK) (hfull : full = true → ∀ q, q ∈ LK → flightM t.M q < 4096) (htop : t.top = at_)
    (hone : ∀ (wx : World) (kb : NBk) (n : NodeM), (∀ i, i < w.heap.size → ¬ TOwn t i → wx.heap[i]? = w.heap[i]?) → NodeAt wx kb n.last n.flight n.notes → n.last ≤ at_ → (full = true → n.flight < 4096) → Calls Try.prog id (#[.pointer (some ⟨kb.q, 0, none⟩)] ++ caps) wx (OnePost F kb n wx)) :
    Calls Try.prog id (#[.pointer (some ⟨x.k.q, 0, none⟩)] ++ caps) wd.drew (OnePost F x.k x.n wd.drew) := by
  refine hone wd.drew x.k x.n (fun i hi ho => ?_) ((k.go.at_.nodes x (findT_mem hx).1).1.kept (fun _ _ => rfl)) (by rw [← htop]; exact hxl) (fun hf => ?_)
  · show wd.heap[i]? = _
    exact (k.go.off.block i (by have := k.bel.size; omega) ho).trans (k.bel.block i hi)
  · rw [hxn]
    have := hfull hf q hq
    unfold flightM at this
    cases h : getM t.M q with
    | none => simp [NodeM.zero]
    | some n => rw [h] at this; simpa using this
theorem s18_of {wx : World} {tx : TreeV} {Bt D tb xq : Nat} {q : KeyS} (h : TreeAt wx tx) (htb : tx.tb = tb) (h1 : wx.heap[Bt]? = some (.cells #[.pointer (some ⟨tb, 0, none⟩)] 24)) (h2 : wx.heap[D]? = some (.cells #[.int .u8 q.kind, .string q.ctx, .string q.res, .string q.org] 30)) (hp : ptrT (findT tx.T q) = some (.pointer (some ⟨xq, 0, none⟩))) (hok : KeyOk q) :
    wx.cell? ⟨Bt, 0, none⟩ = some (.pointer (some ⟨tb, 0, none⟩)) ∧ (wx.cell? ⟨D, 0, none⟩ = some (.int .u8 q.kind) ∧ wx.cell? ⟨D, 1, none⟩ = some (.string q.ctx) ∧ wx.cell? ⟨D, 2, none⟩ = some (.string q.res) ∧ wx.cell? ⟨D, 3, none⟩ = some (.string q.org)) ∧ wx.cell? ⟨tb, 0, none⟩ = some (.map (some tx.mb)) ∧
    (Instr.lookup 55 (.map (some tx.mb)) (.agg #[.int .u8 q.kind, .string q.ctx, .string q.res, .string q.org]) false).run Try.prog wx = .ok (.pointer (some ⟨xq, 0, none⟩)) wx := by
  have h3 := h.cells.1
  rw [htb] at h3
  have h4 := h.map.look hok
  unfold nodeP at h4
  rw [hp] at h4
  exact ⟨by simp [World.cell?, h1], four_box h2, h3, h4⟩
theorem RoundI.one (k : RoundI w w4 wd t td LK F a Bt Bc cs j D q true) {w6 : World} {x : TN} (hx : findT td.T q = some x) (hq : LK[j]? = some q) (hok : KeyOk q) (hF : ∀ n, (F n).last = t.top) (hn : NodeAt w6 x.k (F x.n).last (F x.n).flight (F x.n).notes) (ho : Off (NOwn x.k) wd.drew w6) :
    NoteI w w4 w6 t { td with T := updT td.T q (F x.n) } LK F a Bt Bc cs (j + 1) ∧
      (w6.cell? ⟨Bt, 0, none⟩ = some (.pointer (some ⟨t.tb, 0, none⟩)) ∧ (w6.cell? ⟨D, 0, none⟩ = some (.int .u8 q.kind) ∧ w6.cell? ⟨D, 1, none⟩ = some (.string q.ctx) ∧ w6.cell? ⟨D, 2, none⟩ = some (.string q.res) ∧ w6.cell? ⟨D, 3, none⟩ = some (.string q.org)) ∧ w6.cell? ⟨t.tb, 0, none⟩ = some (.map (some td.mb)) ∧
    (Instr.lookup 55 (.map (some td.mb)) (.agg #[.int .u8 q.kind, .string q.ctx, .string q.res, .string q.org]) false).run Try.prog w6 = .ok (.pointer (some ⟨x.k.q, 0, none⟩)) w6) := by
  obtain ⟨hxm, hxk⟩ := findT_mem hx
  have ho : Off (NOwn x.k) wd w6 := ⟨ho.os, ho.tape, ho.output, ho.size, ho.block⟩
  have hm := k.m
  rw [if_pos rfl] at hm
  have hst := k.go.at_.nodeStep hxm hn (by rw [hF, k.top]; exact Int.le_refl _) ho
  rw [hxk] at hst
  have hg : TGo wd td w6 { td with T := updT td.T q (F x.n) } := ⟨hst, rfl, ho.mono (fun i _ hi => Or.inr (Or.inr (Or.inr ⟨x, hxm, hi⟩))), fun i hi => by
    rcases hi with h | h | h | ⟨y, hy, h⟩
    · exact Or.inl (Or.inl h)
    · exact Or.inl (Or.inr (Or.inl h))
    · exact Or.inl (Or.inr (Or.inr (Or.inl h)))
    · obtain ⟨z, hz, e1, _, _⟩ := updT_mem hy
      rw [e1] at h
      exact Or.inl (Or.inr (Or.inr (Or.inr ⟨z, hz, h⟩)))⟩
  have hgo := k.go.trans hg
  have hM : ({ td with T := updT td.T q (F x.n) } : TreeV).M = noteM t.M (LK.take (j + 1)) F := by
    have h1 := updT_M td k.go.at_.keys hxm F
    rw [hxk] at h1
    rw [h1, hm, take_snocT hq, noteM_snoc]
  refine ⟨⟨k.k0, k.bel, hgo, hM, k.last, k.top, k.kin, k.kout, k.bt, k.btn, k.bc, k.bcn⟩, ?_⟩
  refine s18_of (tx := { td with T := updT td.T q (F x.n) }) hst hgo.tb ((hgo.off.block Bt (Array.getElem?_eq_some_iff.1 k.bt).1 (k.out_ k.btn)).trans k.bt) ((ho.block D (Array.getElem?_eq_some_iff.1 k.dx).1 (fun h => k.dn (Or.inr (Or.inr (Or.inr ⟨x, hxm, h⟩))))).trans k.dx) ?_ hok
  show ptrT (findT (updT td.T q (F x.n)) q) = _
  rw [updT_find, hx]; rfl
theorem NoteI.cellsEnd (k : NoteI w w4 wr t tj LK F a Bt Bc cs j) {at_ : Int} (hc : cs[0]? = some (.int .i64 at_)) : wr.cell? ⟨Bt, 0, none⟩ = some (.pointer (some ⟨t.tb, 0, none⟩)) ∧ wr.cell? ⟨Bc, 0, none⟩ = some (.int .i64 at_) ∧ wr.cell? ⟨t.tb, 2, none⟩ = some (.int .i64 t.last) ∧ wr.frozen? ⟨t.tb, 2, none⟩ = false := by
  have h1 := k.btR
  have h2 := k.bcR
  have h3 := k.go.at_.head
  rw [k.tbE, k.last] at h3
  exact ⟨by simp [World.cell?, h1], by simp only [World.cell?, h2]; exact hc, by simp [World.cell?, h3], by simp only [World.frozen?, h3]; simp⟩
/-- The end of note. -/
theorem NoteI.done (k : NoteI w w4 wr t tj LK F a Bt Bc cs j) (hj : LK.length ≤ j) {at_ : Int} (htop : t.top = at_) (h0 : 0 ≤ at_) (h1 : at_ ≤ 1152921504606846976) :
    ∃ t', TGo w t (wr.setCell ⟨t.tb, 2, none⟩ (.int .i64 at_)) t' ∧ t'.M = noteM t.M LK F ∧ t'.last = at_ ∧ t'.top = at_ := by
  have hm := k.m
  rw [List.take_of_length_le hj] at hm
  obtain ⟨g1, g2⟩ := k.go.at_.headStep h0 h1 (by rw [k.top, htop]; exact Int.le_refl _)
  rw [← k.tbE]
  refine ⟨{ tj with last := at_ }, k.fin.trans ⟨g1, rfl, g2.mono (fun i _ hi => Or.inl hi), fun i hi => Or.inl hi⟩, hm, rfl, by show tj.top = _; rw [k.top, htop]⟩
end

set_option maxHeartbeats 12800000 in
set_option maxRecDepth 100000 in
theorem note_any {w : World} {t : TreeV} (k : TreeAt w t) (htop : t.top = t.last) (c : CallS) (z1 : c.res.size ≤ maxLen) (z2 : c.ctx.size ≤ maxLen) (z3 : c.org.size ≤ maxLen) (full : Bool) (id : FuncId) (caps : Array Value) (F : NodeM → NodeM) (hF : ∀ n, (F n).last = c.at_)
    (he : ∀ (b : Nat) (wx : World), (callFunc id (#[.pointer (some ⟨b, 0, none⟩)] ++ caps)).run Try.prog wx = .ok (.enter id (#[.pointer (some ⟨b, 0, none⟩)] ++ caps)) wx)
    (hone : isT c.at_ = true → badN c.cnt = false → ∀ (wx : World) (kb : NBk) (n : NodeM), (∀ i, i < w.heap.size → ¬ TOwn t i → wx.heap[i]? = w.heap[i]?) → NodeAt wx kb n.last n.flight n.notes → n.last ≤ c.at_ → (full = true → n.flight < 4096) → Calls Try.prog id (#[.pointer (some ⟨kb.q, 0, none⟩)] ++ caps) wx (OnePost F kb n wx)) :
    Calls Try.prog 30 #[.pointer (some ⟨t.tb, 0, none⟩), .agg c.c, .bool full, .func (.func id) #[] caps] w (NotePost w t c full F) := by
  have HBAD := Lib.hid (fun (wx : World) (h : namesB c = false) => keys_bad (w := wx) c z1 z2 z3 h)
  have HGOOD := Lib.hid (fun (wx : World) (h : namesB c = true) => keys_ok (w := wx) c z1 z2 z3 h)
  have HOK := Lib.hid (keysL_ok z1 z2 z3)
  have HND := Lib.hid (keysL_nodup c)
  have HFEW := Lib.hid (keysL_few c)
  have HENI := Lib.hid he
  have HEE := Lib.hid (fun (x : Int) (h : noteE t.M t.last c full = x) (hx : x ≠ 0) (wx : World) (hb : Below w.heap.size w wx) => NotePost.mkNo (F := F) h hx rfl hb)
  have HE0 := Lib.hid (show noteE t.M t.last c full = (if namesB c = false then 10 else if (isT c.at_ && !badN c.cnt) = false then 2 else if c.at_ < t.last then 7 else if 512 - (t.M.length : Int) < freshM t.M (keysL c) then 3 else if (full && (keysL c).any (fun k => decide (4096 ≤ flightM t.M k))) then 3 else 0) from rfl)
  obtain ⟨LK, hLK⟩ : ∃ LK, keysL c = LK := ⟨_, rfl⟩
  obtain ⟨nB, hnm⟩ : ∃ b, namesB c = b := ⟨_, rfl⟩
  rw [hLK] at HOK HND HFEW HE0
  rw [hnm] at HE0
  have HLK := Lib.hid hLK
  have HNB := Lib.hid hnm
  have HK := Lib.hid k
  have HTOP := Lib.hid htop
  have HFL := Lib.hid hF
  have HONE := Lib.hid hone
  have hT := fun wx => tisTime_any c.at_ wx
  have HT := Lib.hid hT
  have HMT := Lib.hid (M_len t)
  have hfew := k.few
  obtain ⟨aR, capR, hvr⟩ := k.slice
  obtain ⟨at_, res, ctx, org, inb, cnt, aa, al, ac⟩ := c
  obtain ⟨tb, mb, vr, T, last, top⟩ := t
  dsimp only at hvr
  subst hvr
  unfold CallS.c at HBAD HGOOD ⊢
  dsimp only at HBAD HGOOD HE0 HT HMT hfew HFL HTOP ⊢
  obtain ⟨n0, hn0⟩ : ∃ n0, T.length = n0 := ⟨_, rfl⟩
  have hk1 := k.cells
  dsimp only at hk1
  rw [hn0] at hfew hk1
  have HN0 := Lib.hid hn0
  have hA : Below w.heap.size w (w.alloc (.cells #[.pointer (some ⟨tb, 0, none⟩)] 24)) := (Below.refl _ _).alloc (Nat.le_refl _) _
  have hzA : (w.alloc (.cells #[.pointer (some ⟨tb, 0, none⟩)] 24)).heap.size = w.heap.size + 1 := by simp
  have hnA := new_blockS w (.cells #[.pointer (some ⟨tb, 0, none⟩)] 24)
  obtain ⟨wA, hwA⟩ : ∃ wA, w.alloc (.cells #[.pointer (some ⟨tb, 0, none⟩)] 24) = wA := ⟨_, rfl⟩
  rw [hwA] at hA hzA hnA
  have hB : Below wA.heap.size wA (wA.alloc (.cells #[.int .i64 at_, .string res, .string ctx, .string org, .bool inb, .int .i64 cnt, .slice aa al ac] 40)) := (Below.refl _ _).alloc (Nat.le_refl _) _
  have hzB : (wA.alloc (.cells #[.int .i64 at_, .string res, .string ctx, .string org, .bool inb, .int .i64 cnt, .slice aa al ac] 40)).heap.size = wA.heap.size + 1 := by simp
  have hnB := new_blockS wA (.cells #[.int .i64 at_, .string res, .string ctx, .string org, .bool inb, .int .i64 cnt, .slice aa al ac] 40)
  obtain ⟨w1, hw1⟩ : ∃ w1, wA.alloc (.cells #[.int .i64 at_, .string res, .string ctx, .string org, .bool inb, .int .i64 cnt, .slice aa al ac] 40) = w1 := ⟨_, rfl⟩
  rw [hw1] at hB hzB hnB
  obtain ⟨Bt, hBt⟩ : ∃ Bt, w.heap.size = Bt := ⟨_, rfl⟩
  obtain ⟨Bc, hBc⟩ : ∃ Bc, wA.heap.size = Bc := ⟨_, rfl⟩
  rw [hBt] at hnA hzA
  rw [hBc] at hnB hzB hzA
  have hb1 := hA.trans (hB.mono hA.size)
  have hbt1 := (hB.block Bt (by rw [hBc]; omega)).trans hnA
  have HB1 := Lib.hid hb1
  have HBT := Lib.hid hbt1
  have HBC := Lib.hid hnB
  have HZ1 := Lib.hid (show w1.heap.size = Bt + 2 ∧ Bc = Bt + 1 by omega)
  have HBTE := Lib.hid hBt
  have hcc := call_cells hnB
  have hbt0 : w1.cell? ⟨Bt, 0, none⟩ = some (.pointer (some ⟨tb, 0, none⟩)) := by simp [World.cell?, hbt1]
  have HCC := Lib.hid (fun (wx : World) (hx : Below w1.heap.size w1 wx) => note_cells (tb := tb) (vr := .slice aR n0 capR) (last := last) (mb := mb) hx hbt1 hnB ((hb1.cell (World.block_lt_of_cell? _ _ hk1.1)).trans hk1.1) ((hb1.cell (World.block_lt_of_cell? _ _ hk1.2.1)).trans hk1.2.1) ((hb1.cell (World.block_lt_of_cell? _ _ hk1.2.2)).trans hk1.2.2))
  obtain ⟨q0, q1, q2, q3, q4, q5, q6⟩ := hcc
  clear k htop hF hone he hT hLK hnm hn0 hk1 hA hzA hnA hB hzB hnB hb1 hbt1
  go_enter Try.func30, Try.ntmps30
  go_wp2_with (fail)
  clear hwA hw1
  cases nB with
  | false =>
    have HE := Lib.hid (HE0.out.trans (if_pos rfl))
    clear HE0
    refine (HBAD.out _ HNB.out).mono ?_
    rintro e w2 ⟨rfl, hb2⟩
    go_wp2_with (fail)
    go_ret
    exact HEE.out 10 HE.out (by decide) _ (HB1.out.trans (hb2.mono HB1.out.size))
  | true =>
    have HE1 := Lib.hid (HE0.out.trans (if_neg (by simp)))
    clear HE0
    refine (HGOOD.out _ HNB.out).mono ?_
    rintro e w2 ⟨vK, rfl, hoK, hb2⟩
    have hlk := HLK.out
    rw [hlk] at hoK
    obtain ⟨aK, capK, rfl⟩ := own_sliceT hoK
    have HOK2 := Lib.hid hoK
    have HB2 := Lib.hid hb2
    obtain ⟨nK, hnK⟩ : ∃ nK, LK.length = nK := ⟨_, rfl⟩
    have HLN := Lib.hid hnK
    rw [hnK] at HOK2 HFEW ⊢
    obtain ⟨c0, c1, c2, c3, c4, c5⟩ := HCC.out w2 hb2
    clear hoK hb2 hlk hnK
    obtain ⟨M0, hM0⟩ : ∃ M0, (⟨tb, mb, .slice aR T.length capR, T, last, top⟩ : TreeV).M = M0 := ⟨_, rfl⟩
    obtain ⟨FM, hFM⟩ : ∃ FM, freshM M0 LK = FM := ⟨_, rfl⟩
    obtain ⟨AN, hAN⟩ : ∃ AN, (LK.any fun k => decide (4096 ≤ flightM M0 k)) = AN := ⟨_, rfl⟩
    rw [hM0] at HE1 HMT HEE
    rw [hFM, hAN, HMT.out, HN0.out] at HE1
    have HM0 := Lib.hid hM0
    have HFM := Lib.hid hFM
    have HAN := Lib.hid hAN
    clear hM0 hFM hAN
    go_wp2_with (fail)
    refine (HT.out _).mono ?_
    rintro e w3 ⟨rfl, hq⟩
    have hq := hq.symm
    subst hq
    cases hTa : isT at_ with
    | false =>
      have HE := Lib.hid (HE1.out.trans (if_pos (by rw [hTa]; rfl)))
      clear HE1
      go_wp2_with (fail)
      go_ret
      exact HEE.out 2 HE.out (by decide) _ (HB1.out.trans (HB2.out.mono HB1.out.size))
    | true =>
      have HTA := Lib.hid hTa
      by_cases h1 : cnt < 1
      · have HE := Lib.hid (HE1.out.trans (if_pos (by rw [hTa]; unfold badN; rw [decide_eq_true h1]; rfl)))
        clear HE1 hTa
        go_wp2_with (fail)
        go_ret
        exact HEE.out 2 HE.out (by decide) _ (HB1.out.trans (HB2.out.mono HB1.out.size))
      · by_cases h2 : 1099511627776 < cnt
        · have HE := Lib.hid (HE1.out.trans (if_pos (by rw [hTa]; unfold badN; rw [decide_eq_true h2, Bool.or_true]; rfl)))
          clear HE1 hTa
          go_wp2_with (fail)
          go_ret
          exact HEE.out 2 HE.out (by decide) _ (HB1.out.trans (HB2.out.mono HB1.out.size))
        · have HBN := Lib.hid (show badN cnt = false by unfold badN; rw [decide_eq_false h1, decide_eq_false h2]; rfl)
          have HE2 := Lib.hid (HE1.out.trans (if_neg (by rw [hTa, HBN.out]; simp)))
          clear HE1 hTa
          by_cases hlt : at_ < last
          · have HE := Lib.hid (HE2.out.trans (if_pos hlt))
            clear HE2
            go_wp2_with (fail)
            go_quiet (fail)
            go_wp2_with (fail)
            go_ret
            exact HEE.out 7 HE.out (by decide) _ (below_drewG (HB1.out.trans (HB2.out.mono HB1.out.size)) _)
          · have HE3 := Lib.hid (HE2.out.trans (if_neg hlt))
            clear HE2
            go_wp2_with (fail)
            go_quiet (fail)
            have HFR := Lib.hid (fun (wx : World) (hx : Below w2.heap.size w2 wx) => fresh_any (HK.out.below (HB1.out.trans ((HB2.out.trans (hx.mono HB2.out.size)).mono HB1.out.size))) aK nK capK LK HLN.out (by have := HFEW.out; omega) HND.out HOK.out ((keysAt_row HOK2.out HLN.out).below hx))
            simp only [HM0.out, HFM.out] at HFR
            have HS10 := Lib.hid (fun (wx : World) (hx : Below w1.heap.size w1 wx) => And.intro (HCC.out wx hx).1 (HCC.out wx hx).2.2.2.2.1)
            have hs10 := HS10.out w2 HB2.out
            have hw512 : IntKind.i64.wrap (512 - (n0 : Int)) = 512 - n0 := by rw [IntKind.wrap_i64]; omega
            clear c0 c1 c2 c3 c4 c5
            go_wp2_with (fail)
            refine wp_region_noPanic ?_
            refine wp_region_held_drew (S := (fun wx => wx.cell? ⟨Bt, 0, none⟩ = some (.pointer (some ⟨tb, 0, none⟩)) ∧ wx.cell? ⟨tb, 1, none⟩ = some (.slice aR n0 capR))) (by kernel_rfl) ?_ (fun hHeld => ?_)
            · exact hs10
            refine wpAnyH_take (i := 0) (v := ?_) rfl (by kernel_rfl) (by kernel_rfl) (by kernel_rfl) (fun _ _ _ h => h) (Or.inl ⟨by rfl, ?hy⟩) (by assumption) ?_
            case hy => intro w hSw; (try dsimp only at hSw); go_simp; try with_reducible rfl
            try simp only [Act.put, List.getElem_toArray, List.getElem_cons_succ, List.getElem_cons_zero, List.setIfInBounds_toArray, List.set_cons_zero, List.set_cons_succ]
            refine wpAnyH_take (i := 1) (v := ?_) rfl (by kernel_rfl) (by kernel_rfl) (by kernel_rfl) (fun _ _ _ h => h) (Or.inl ⟨by rfl, ?hy⟩) (by assumption) ?_
            case hy => intro w hSw; (try dsimp only at hSw); go_simp; try with_reducible rfl
            try simp only [Act.put, List.getElem_toArray, List.getElem_cons_succ, List.getElem_cons_zero, List.setIfInBounds_toArray, List.set_cons_zero, List.set_cons_succ]
            refine wpAnyH_take (i := 2) (v := ?_) rfl (by kernel_rfl) (by kernel_rfl) (by kernel_rfl) (fun _ _ _ h => h) (Or.inl ⟨by rfl, ?hy⟩) (by assumption) ?_
            case hy => intro w hSw; (try dsimp only at hSw); go_simp; try with_reducible rfl
            try simp only [Act.put, List.getElem_toArray, List.getElem_cons_succ, List.getElem_cons_zero, List.setIfInBounds_toArray, List.set_cons_zero, List.set_cons_succ]
            refine wpAnyH_take (i := 3) (v := ?_) rfl (by kernel_rfl) (by kernel_rfl) (by kernel_rfl) (fun _ _ _ h => h) (Or.inl ⟨by rfl, ?hy⟩) (by assumption) ?_
            case hy => intro w hSw; (try dsimp only at hSw); go_simp; try with_reducible rfl
            try simp only [Act.put, List.getElem_toArray, List.getElem_cons_succ, List.getElem_cons_zero, List.setIfInBounds_toArray, List.set_cons_zero, List.set_cons_succ]
            refine wpAnyH_take (i := 5) (v := ?_) rfl (by kernel_rfl) (by kernel_rfl) (by kernel_rfl) (fun _ _ _ h => h) (Or.inl ⟨by rfl, ?hy⟩) (by assumption) ?_
            case hy => intro w hSw; (try dsimp only at hSw); go_simp; try with_reducible rfl
            try simp only [Act.put, List.getElem_toArray, List.getElem_cons_succ, List.getElem_cons_zero, List.setIfInBounds_toArray, List.set_cons_zero, List.set_cons_succ]
            refine wpAnyH_take (i := 6) (v := ?_) rfl (by kernel_rfl) (by kernel_rfl) (by kernel_rfl) (fun _ _ _ h => h) (Or.inl ⟨by rfl, ?hy⟩) (by assumption) ?_
            case hy => intro w hSw; (try dsimp only at hSw); go_simp; try with_reducible rfl
            try simp only [Act.put, List.getElem_toArray, List.getElem_cons_succ, List.getElem_cons_zero, List.setIfInBounds_toArray, List.set_cons_zero, List.set_cons_succ]
            refine wpAnyH_take (i := 7) (v := ?_) rfl (by kernel_rfl) (by kernel_rfl) (by kernel_rfl) (fun _ _ _ h => h) (Or.inl ⟨by rfl, ?hy⟩) (by assumption) ?_
            case hy => intro w hSw; (try dsimp only at hSw); go_simp; try with_reducible rfl
            try simp only [Act.put, List.getElem_toArray, List.getElem_cons_succ, List.getElem_cons_zero, List.setIfInBounds_toArray, List.set_cons_zero, List.set_cons_succ]
            refine wpAnyH_take (i := 8) (v := ?_) rfl (by kernel_rfl) (by kernel_rfl) (by kernel_rfl) (fun _ _ _ h => h) (Or.inl ⟨by rfl, ?hy⟩) (by assumption) ?_
            case hy => intro w hSw; (try dsimp only at hSw); go_simp; try with_reducible rfl
            try simp only [Act.put, List.getElem_toArray, List.getElem_cons_succ, List.getElem_cons_zero, List.setIfInBounds_toArray, List.set_cons_zero, List.set_cons_succ]
            refine wpAnyH_take (i := 9) (v := ?_) rfl (by kernel_rfl) (by kernel_rfl) (by kernel_rfl) (fun _ _ _ h => h) (Or.inl ⟨by rfl, ?hy⟩) (by assumption) ?_
            case hy => intro w hSw; (try dsimp only at hSw); go_simp; try with_reducible rfl
            try simp only [Act.put, List.getElem_toArray, List.getElem_cons_succ, List.getElem_cons_zero, List.setIfInBounds_toArray, List.set_cons_zero, List.set_cons_succ]
            refine wpAnyH_take (i := 10) (v := ?_) rfl (by kernel_rfl) (by kernel_rfl) (by kernel_rfl) (fun _ _ _ h => h) (Or.inl ⟨by rfl, ?hy⟩) (by assumption) ?_
            case hy => intro w hSw; (try dsimp only at hSw); go_simp; try with_reducible rfl
            try simp only [Act.put, List.getElem_toArray, List.getElem_cons_succ, List.getElem_cons_zero, List.setIfInBounds_toArray, List.set_cons_zero, List.set_cons_succ]
            refine wpAnyH_take (i := 11) (v := ?_) rfl (by kernel_rfl) (by kernel_rfl) (by kernel_rfl) (fun _ _ _ h => h) (Or.inl ⟨by rfl, ?hy⟩) (by assumption) ?_
            case hy => intro w hSw; (try dsimp only at hSw); go_simp; try with_reducible rfl
            try simp only [Act.put, List.getElem_toArray, List.getElem_cons_succ, List.getElem_cons_zero, List.setIfInBounds_toArray, List.set_cons_zero, List.set_cons_succ]
            refine wpAnyH_ready (rs := [4]) (by kernel_rfl) (by simp) (AllReadyH.cons rfl (fun K hK => ?_) AllReadyH.nil)
            go_simp
            go_at_call 39; refine (HFR.out _ (by first | exact below_drewG (Below.refl _ _) _ | exact (below_drewG (Below.refl _ _) _).drew)).mono ?_; rintro e w3 ⟨rfl, hb3⟩; have HB3 := Lib.hid ((below_drewG HB2.out _).trans (hb3.mono HB2.out.size)); have HB23 := Lib.hid ((below_drewG (Below.refl _ w2) _).trans hb3); clear hb3
            try (go_wp2_with fail)
            refine hK.out _ _ ?_ (fun hHeld => ?_)
            · exact HS10.out _ HB3.out
            clear hK K
            try simp only [Act.put, List.getElem_toArray, List.getElem_cons_succ, List.getElem_cons_zero, List.setIfInBounds_toArray, List.set_cons_zero, List.set_cons_succ]
            refine wpAnyH_take (i := 12) (v := ?_) rfl (by kernel_rfl) (by kernel_rfl) (by kernel_rfl) (fun _ _ _ h => h) (Or.inl ⟨by rfl, ?hy⟩) (by assumption) ?_
            case hy => intro w hSw; (try dsimp only at hSw); go_simp; try with_reducible rfl
            try simp only [Act.put, List.getElem_toArray, List.getElem_cons_succ, List.getElem_cons_zero, List.setIfInBounds_toArray, List.set_cons_zero, List.set_cons_succ]
            refine wpAnyH_take (i := 13) (v := ?_) rfl (by kernel_rfl) (by kernel_rfl) (by kernel_rfl) (fun _ _ _ h => h) (Or.inl ⟨by rfl, ?hy⟩) (by assumption) ?_
            case hy => intro w hSw; (try dsimp only at hSw); go_simp; try with_reducible rfl
            try simp only [Act.put, List.getElem_toArray, List.getElem_cons_succ, List.getElem_cons_zero, List.setIfInBounds_toArray, List.set_cons_zero, List.set_cons_succ]
            refine wpAnyH_done (by kernel_rfl) ?_ _
            refine NoPanic.normal ?_
            clear hs10 hw512
            by_cases hfr : 512 - (n0 : Int) < FM
            · have HE := Lib.hid (HE3.out.trans (if_pos hfr))
              clear HE3
              go_wp2_with (fail)
              go_ret
              exact HEE.out 3 HE.out (by decide) _ (HB1.out.trans (HB3.out.mono HB1.out.size))
            · have HE4 := Lib.hid (HE3.out.trans (if_neg hfr))
              have HFS := Lib.hid (show (freshM (⟨tb, mb, .slice aR T.length capR, T, last, at_⟩ : TreeV).M LK : Int) ≤ 512 - (⟨tb, mb, .slice aR T.length capR, T, last, at_⟩ : TreeV).M.length by
                have e1 : (⟨tb, mb, .slice aR T.length capR, T, last, at_⟩ : TreeV).M = M0 := HM0.out
                rw [e1, HFM.out, HMT.out, HN0.out]; omega)
              have HLT := Lib.hid (show last ≤ at_ by omega)
              have HT0 := Lib.hid (show 0 ≤ at_ ∧ at_ ≤ 1152921504606846976 by have h := HTA.out; unfold isT at h; simpa using h)
              clear HE3
              cases full with
              | false =>
                have HE := Lib.hid (HE4.out.trans (if_neg (by simp)))
                clear HE4
                have HKW := Lib.hid ((keysAt_row HOK2.out HLN.out).below HB23.out)
                have HI0 := Lib.hid (note_start (F := F) HK.out HTOP.out HLT.out (HB1.out.trans (HB3.out.mono HB1.out.size)) HKW.out (fun g e => by have h := (HOK2.out.lt g (by rw [e]; rfl)).1; have := HB1.out.size; omega) ((HB3.out.block Bt (by have := HZ1.out; omega)).trans HBT.out) (by have := HBTE.out; omega) ((HB3.out.block Bc (by have := HZ1.out; omega)).trans HBC.out) (by have := HBTE.out; have := HZ1.out; omega))
                have HTP := Lib.hid (show (⟨tb, mb, .slice aR T.length capR, T, last, at_⟩ : TreeV).top = at_ from rfl)
                have HEN := Lib.hid HENI.out
                have HONE2 := Lib.hid (fun (wx : World) (kb : NBk) (n : NodeM) (h1 : ∀ i, i < w.heap.size → ¬ TOwn (⟨tb, mb, .slice aR T.length capR, T, last, at_⟩ : TreeV) i → wx.heap[i]? = w.heap[i]?) => HONE.out HTA.out HBN.out wx kb n h1)
                have HFULL : Hid (false = true → ∀ q, q ∈ LK → flightM (⟨tb, mb, .slice aR T.length capR, T, last, at_⟩ : TreeV).M q < 4096) := Lib.hid (fun h => by cases h)
                have HPOST := Lib.hid (fun (w9 : World) (h : ∃ t', TGo w (⟨tb, mb, .slice aR T.length capR, T, last, at_⟩ : TreeV) w9 t' ∧ t'.M = noteM (⟨tb, mb, .slice aR T.length capR, T, last, at_⟩ : TreeV).M LK F ∧ t'.last = at_ ∧ t'.top = at_) => note_yes (w := w) (t := ⟨tb, mb, .slice aR T.length capR, T, last, top⟩) (c := ⟨at_, res, ctx, org, inb, cnt, aa, al, ac⟩) (full := false) (aa := at_) (by have h := HE.out; rw [← HM0.out] at h; exact h) HLK.out h)
                rw [HN0.out] at HI0 HFS HFULL HONE2 HPOST
                obtain ⟨w4, hw4⟩ : ∃ w4, w4 = w3 := ⟨_, rfl⟩
                rw [← hw4] at HI0 ⊢
                clear hw4 HKW HE HB3 HB23
                go_wp2_with (fail)
                go_loopw [12, 69] (fun _ x69 wr => ∃ (j : Nat) (tj : TreeV), j ≤ nK ∧ x69 = .int .i64 j ∧ Hid (NoteI w w4 wr ⟨tb, mb, .slice aR n0 capR, T, last, at_⟩ tj LK F aK Bt Bc #[.int .i64 at_, .string res, .string ctx, .string org, .bool inb, .int .i64 cnt, .slice aa al ac] j)) (fun _ x69 _ => nK - (intOf x69).toNat)
                case atStart => exact ⟨0, _, Nat.zero_le _, rfl, HI0⟩
                case round =>
                  rename World => wr
                  clear HI0
                  obtain ⟨j, tj, hj, rfl, HI⟩ := hrel
                  by_cases hlt : j < nK
                  · have hjl : j < LK.length := by rw [HLN.out]; exact hlt
                    obtain ⟨⟨kind, qctx, qres, qorg⟩, hq⟩ : ∃ q, LK[j]? = some q := ⟨_, List.getElem?_eq_getElem hjl⟩
                    obtain ⟨gK, rfl, hgK, d0, d1, d2, d3⟩ := HI.out.keys.get hq
                    have j0 : (0 : Int) ≤ j := by omega
                    have j1 : (j : Int) < nK := by omega
                    have hn5 : nK ≤ 5 := HFEW.out
                    have HQ := Lib.hid hq
                    have halb : Below wr.heap.size wr (wr.alloc (.cells #[.int .u8 kind, .string qctx, .string qres, .string qorg] 30)) := (Below.refl _ _).alloc (Nat.le_refl _) _
                    have hnb := new_blockS wr (.cells #[.int .u8 kind, .string qctx, .string qres, .string qorg] 30)
                    obtain ⟨wd, hwd⟩ : ∃ wd, wr.alloc (.cells #[.int .u8 kind, .string qctx, .string qres, .string qorg] 30) = wd := ⟨_, rfl⟩
                    rw [hwd] at halb hnb
                    obtain ⟨D, hD⟩ : ∃ D, wr.heap.size = D := ⟨_, rfl⟩
                    have HRD := Lib.hid (NoteI.boxed (D := D) (q := ⟨kind, qctx, qres, qorg⟩) HI.out (halb.drew) (by rw [← hD]; exact hnb) (by rw [← hD]; exact Nat.le_refl _))
                    have HMK := Lib.hid (make1_any (w := wd.drew) HRD.out.go.at_ ⟨kind, qctx, qres, qorg⟩ (HOK.out _ (List.mem_of_getElem? hq)) (HRD.out.room HND.out hq HFS.out))
                    rw [HRD.out.tbE] at HMK
                    have hs17 := HRD.out.s17
                    dsimp only at hs17
                    clear hq hgK hjl hnb halb
                    go_wp2_with (fail)
                    clear hD hwd
                    refine wp_region_noPanic ?_
                    refine wp_region_held_drew (S := (fun wx => wx.cell? ⟨Bt, 0, none⟩ = some (.pointer (some ⟨tb, 0, none⟩)) ∧ wx.cell? ⟨D, 0, none⟩ = some (.int .u8 kind) ∧ wx.cell? ⟨D, 1, none⟩ = some (.string qctx) ∧ wx.cell? ⟨D, 2, none⟩ = some (.string qres) ∧ wx.cell? ⟨D, 3, none⟩ = some (.string qorg))) (by kernel_rfl) ?_ (fun hHeld => ?_)
                    · exact hs17
                    refine wpAnyH_take (i := 0) (v := ?_) rfl (by kernel_rfl) (by kernel_rfl) (by kernel_rfl) (fun _ _ _ h => h) (Or.inl ⟨by rfl, ?hy⟩) (by assumption) ?_
                    case hy => intro w hSw; (try dsimp only at hSw); go_simp; try with_reducible rfl
                    try simp only [Act.put, List.getElem_toArray, List.getElem_cons_succ, List.getElem_cons_zero, List.setIfInBounds_toArray, List.set_cons_zero, List.set_cons_succ]
                    refine wpAnyH_take (i := 1) (v := ?_) rfl (by kernel_rfl) (by kernel_rfl) (by kernel_rfl) (fun _ _ _ h => h) (Or.inl ⟨by rfl, ?hy⟩) (by assumption) ?_
                    case hy => intro w hSw; (try dsimp only at hSw); go_simp; try with_reducible rfl
                    try simp only [Act.put, List.getElem_toArray, List.getElem_cons_succ, List.getElem_cons_zero, List.setIfInBounds_toArray, List.set_cons_zero, List.set_cons_succ]
                    refine wpAnyH_take (i := 2) (v := ?_) rfl (by kernel_rfl) (by kernel_rfl) (by kernel_rfl) (fun _ _ _ h => h) (Or.inl ⟨by rfl, ?hy⟩) (by assumption) ?_
                    case hy => intro w hSw; (try dsimp only at hSw); go_simp; try with_reducible rfl
                    try simp only [Act.put, List.getElem_toArray, List.getElem_cons_succ, List.getElem_cons_zero, List.setIfInBounds_toArray, List.set_cons_zero, List.set_cons_succ]
                    refine wpAnyH_take (i := 3) (v := ?_) rfl (by kernel_rfl) (by kernel_rfl) (by kernel_rfl) (fun _ _ _ h => h) (Or.inl ⟨by rfl, ?hy⟩) (by assumption) ?_
                    case hy => intro w hSw; (try dsimp only at hSw); go_simp; try with_reducible rfl
                    try simp only [Act.put, List.getElem_toArray, List.getElem_cons_succ, List.getElem_cons_zero, List.setIfInBounds_toArray, List.set_cons_zero, List.set_cons_succ]
                    refine wpAnyH_ready (rs := [4]) (by kernel_rfl) (by simp) (AllReadyH.cons rfl (fun K hK => ?_) AllReadyH.nil)
                    go_simp
                    go_at_call 40; refine HMK.out.mono ?_; rintro e w5 ⟨rfl, t1, hgo1, hm1, hl1, hp1⟩; have HN1 := Lib.hid (HRD.out.made hgo1 hm1 hl1 hp1); clear hgo1 hm1 hl1 hp1
                    try (go_wp2_with fail)
                    refine hK.out _ _ ?_ (fun hHeld => ?_)
                    · exact HN1.out.s17
                    clear hK K
                    try simp only [Act.put, List.getElem_toArray, List.getElem_cons_succ, List.getElem_cons_zero, List.setIfInBounds_toArray, List.set_cons_zero, List.set_cons_succ]
                    refine wpAnyH_done (by kernel_rfl) ?_ _
                    refine NoPanic.normal ?_
                    have hx1 := HN1.out.found HND.out HQ.out
                    obtain ⟨x, hx, hxM, hxl⟩ := hx1
                    have HON := Lib.hid (HN1.out.callOne (full := false) hx hxM hxl (List.mem_of_getElem? HQ.out) (fun hf q hq => HFULL.out (by first | exact hf | trivial) q hq) rfl (fun wx kb n h1 h2 h3 h4 => HONE2.out wx kb n h1 h2 h3 (fun hf => h4 (by first | exact hf | rfl))))
                    have HN2 := Lib.hid (fun (w6 : World) hn ho => HN1.out.one (w6 := w6) hx HQ.out (HOK.out _ (List.mem_of_getElem? HQ.out)) HFL.out hn ho)
                    have hs18 := s18_of (wx := w5.drew) (HN1.out.go.at_.kept (fun _ _ => rfl)) HN1.out.go.tb HN1.out.btR HN1.out.dx (by rw [hx]; rfl) (HOK.out _ (List.mem_of_getElem? HQ.out))
                    have hen := HEN.out x.k.q
                    dsimp only at hs18
                    clear hs17 hx hxM hxl HMK
                    obtain ⟨mb1, hmb1⟩ : ∃ m, t1.mb = m := ⟨_, rfl⟩
                    obtain ⟨xq, hxq⟩ : ∃ m, x.k.q = m := ⟨_, rfl⟩
                    rw [hmb1] at hs18 HN2
                    rw [hxq] at hs18 HN2 HON hen
                    clear hmb1 hxq
                    go_wp2_with (fail)
                    refine wp_region_noPanic ?_
                    refine wp_region_held_drew (S := (fun wx => wx.cell? ⟨Bt, 0, none⟩ = some (.pointer (some ⟨tb, 0, none⟩)) ∧ (wx.cell? ⟨D, 0, none⟩ = some (.int .u8 kind) ∧ wx.cell? ⟨D, 1, none⟩ = some (.string qctx) ∧ wx.cell? ⟨D, 2, none⟩ = some (.string qres) ∧ wx.cell? ⟨D, 3, none⟩ = some (.string qorg)) ∧ wx.cell? ⟨tb, 0, none⟩ = some (.map (some mb1)) ∧ (Instr.lookup 55 (.map (some mb1)) (.agg #[.int .u8 kind, .string qctx, .string qres, .string qorg]) false).run Try.prog wx = .ok (.pointer (some ⟨xq, 0, none⟩)) wx)) (by kernel_rfl) ?_ (fun hHeld => ?_)
                    · exact hs18
                    refine wpAnyH_take (i := 0) (v := ?_) rfl (by kernel_rfl) (by kernel_rfl) (by kernel_rfl) (fun _ _ _ h => h) (Or.inl ⟨by rfl, ?hy⟩) (by assumption) ?_
                    case hy => intro w hSw; (try dsimp only at hSw); go_simp; try with_reducible rfl
                    try simp only [Act.put, List.getElem_toArray, List.getElem_cons_succ, List.getElem_cons_zero, List.setIfInBounds_toArray, List.set_cons_zero, List.set_cons_succ]
                    refine wpAnyH_take (i := 1) (v := ?_) rfl (by kernel_rfl) (by kernel_rfl) (by kernel_rfl) (fun _ _ _ h => h) (Or.inl ⟨by rfl, ?hy⟩) (by assumption) ?_
                    case hy => intro w hSw; (try dsimp only at hSw); go_simp; try with_reducible rfl
                    try simp only [Act.put, List.getElem_toArray, List.getElem_cons_succ, List.getElem_cons_zero, List.setIfInBounds_toArray, List.set_cons_zero, List.set_cons_succ]
                    refine wpAnyH_take (i := 2) (v := ?_) rfl (by kernel_rfl) (by kernel_rfl) (by kernel_rfl) (fun _ _ _ h => h) (Or.inl ⟨by rfl, ?hy⟩) (by assumption) ?_
                    case hy => intro w hSw; (try dsimp only at hSw); go_simp; try with_reducible rfl
                    try simp only [Act.put, List.getElem_toArray, List.getElem_cons_succ, List.getElem_cons_zero, List.setIfInBounds_toArray, List.set_cons_zero, List.set_cons_succ]
                    refine wpAnyH_take (i := 3) (v := ?_) rfl (by kernel_rfl) (by kernel_rfl) (by kernel_rfl) (fun _ _ _ h => h) (Or.inl ⟨by rfl, ?hy⟩) (by assumption) ?_
                    case hy => intro w hSw; (try dsimp only at hSw); go_simp; try with_reducible rfl
                    try simp only [Act.put, List.getElem_toArray, List.getElem_cons_succ, List.getElem_cons_zero, List.setIfInBounds_toArray, List.set_cons_zero, List.set_cons_succ]
                    refine wpAnyH_take (i := 4) (v := ?_) rfl (by kernel_rfl) (by kernel_rfl) (by kernel_rfl) (fun _ _ _ h => h) (Or.inl ⟨by rfl, ?hy⟩) (by assumption) ?_
                    case hy => intro w hSw; (try dsimp only at hSw); go_simp; try with_reducible rfl
                    try simp only [Act.put, List.getElem_toArray, List.getElem_cons_succ, List.getElem_cons_zero, List.setIfInBounds_toArray, List.set_cons_zero, List.set_cons_succ]
                    refine wpAnyH_take (i := 5) (v := ?_) rfl (by kernel_rfl) (by kernel_rfl) (by kernel_rfl) (fun _ _ _ h => h) (Or.inl ⟨by rfl, ?hy⟩) (by assumption) ?_
                    case hy => intro w hSw; (try dsimp only at hSw); go_simp; try with_reducible rfl
                    try simp only [Act.put, List.getElem_toArray, List.getElem_cons_succ, List.getElem_cons_zero, List.setIfInBounds_toArray, List.set_cons_zero, List.set_cons_succ]
                    refine wpAnyH_take (i := 6) (v := ?_) rfl (by kernel_rfl) (by kernel_rfl) (by kernel_rfl) (fun _ _ _ h => h) (Or.inl ⟨by rfl, ?hy⟩) (by assumption) ?_
                    case hy => intro w hSw; (try dsimp only at hSw); go_simp; try with_reducible rfl
                    try simp only [Act.put, List.getElem_toArray, List.getElem_cons_succ, List.getElem_cons_zero, List.setIfInBounds_toArray, List.set_cons_zero, List.set_cons_succ]
                    refine wpAnyH_take (i := 7) (v := ?_) rfl (by kernel_rfl) (by kernel_rfl) (by kernel_rfl) (fun _ _ _ h => h) (Or.inl ⟨by rfl, ?hy⟩) (by assumption) ?_
                    case hy => intro w hSw; (try dsimp only at hSw); go_simp; try with_reducible rfl
                    try simp only [Act.put, List.getElem_toArray, List.getElem_cons_succ, List.getElem_cons_zero, List.setIfInBounds_toArray, List.set_cons_zero, List.set_cons_succ]
                    refine wpAnyH_ready (rs := [8]) (by kernel_rfl) (by simp) (AllReadyH.cons rfl (fun K hK => ?_) AllReadyH.nil)
                    go_simp
                    refine HON.out.mono ?_; rintro e w6 ⟨⟨vone, rfl⟩, hn6, ho6⟩; have HN6 := Lib.hid (HN2.out w6 hn6 ho6); clear hn6 ho6
                    try (go_wp2_with fail)
                    refine hK.out _ _ ?_ (fun hHeld => ?_)
                    · exact HN6.out.2
                    clear hK K
                    try simp only [Act.put, List.getElem_toArray, List.getElem_cons_succ, List.getElem_cons_zero, List.setIfInBounds_toArray, List.set_cons_zero, List.set_cons_succ]
                    refine wpAnyH_done (by kernel_rfl) ?_ _
                    refine NoPanic.normal ?_
                    clear hs18 hen
                    go_wp2_with (fail)
                    refine ⟨⟨j + 1, _, by omega, by go_num, Lib.hid HN6.out.1⟩, by first | (simp [intOf]; done) | (simp [intOf]; omega)⟩
                  · have j1 : ¬ (j : Int) < nK := by omega
                    have hsc := HI.out.cellsEnd (at_ := at_) rfl
                    dsimp only at hsc
                    obtain ⟨s1, s2, s3, s4⟩ := hsc
                    have HDN := Lib.hid (HI.out.done (by rw [HLN.out]; omega) rfl HT0.out.1 HT0.out.2)
                    dsimp only at HDN
                    clear HI
                    go_wp2_with (fail)
                    go_ret
                    have hfin := HPOST.out _ HDN.out
                    rw [← HN0.out] at hfin
                    exact hfin
              | true =>
                have hcf := tcontains_any (w := w3) (cap := capK) ((keysAt_row HOK2.out HLN.out).below HB23.out) HLN.out (by have := HFEW.out; omega) 49 #[.pointer (some ⟨Bt, 0, none⟩)] (fullB ⟨tb, mb, .slice aR T.length capR, T, last, top⟩) (fun x _ wx => enN1 x Bt wx)
                  (fun x hx wx hwx => by
                    have h := note1_any (HK.out.below (HB1.out.trans ((HB3.out.trans (hwx.mono HB3.out.size)).mono HB1.out.size))) (HCC.out wx (HB3.out.trans (hwx.mono HB3.out.size))).1 x (HOK.out x hx)
                    exact h)
                rw [show LK.any (fullB ⟨tb, mb, .slice aR T.length capR, T, last, top⟩) = AN by rw [← HAN.out, ← HM0.out]; rfl] at hcf
                have HCF := Lib.hid hcf
                clear hcf
                cases AN with
                | true =>
                  have HE := Lib.hid (HE4.out.trans (if_pos rfl))
                  clear HE4
                  go_wp2_with (fail)
                  refine HCF.out.mono ?_
                  rintro e w5 ⟨rfl, hb5⟩
                  go_wp2_with (fail)
                  go_ret
                  exact HEE.out 3 HE.out (by decide) _ (HB1.out.trans ((HB3.out.trans (hb5.mono HB3.out.size)).mono HB1.out.size))
                | false =>
                  have HE := Lib.hid (HE4.out.trans (if_neg (by simp)))
                  clear HE4
                  go_wp2_with (fail)
                  refine HCF.out.mono ?_
                  rintro e w3b ⟨rfl, hb5⟩
                  have HB3b := Lib.hid (HB3.out.trans (hb5.mono HB3.out.size))
                  have HB23b := Lib.hid (HB23.out.trans (hb5.mono HB23.out.size))
                  clear hb5 HCF
                  have HKW := Lib.hid ((keysAt_row HOK2.out HLN.out).below HB23b.out)
                  have HI0 := Lib.hid (note_start (F := F) HK.out HTOP.out HLT.out (HB1.out.trans (HB3b.out.mono HB1.out.size)) HKW.out (fun g e => by have h := (HOK2.out.lt g (by rw [e]; rfl)).1; have := HB1.out.size; omega) ((HB3b.out.block Bt (by have := HZ1.out; omega)).trans HBT.out) (by have := HBTE.out; omega) ((HB3b.out.block Bc (by have := HZ1.out; omega)).trans HBC.out) (by have := HBTE.out; have := HZ1.out; omega))
                  have HTP := Lib.hid (show (⟨tb, mb, .slice aR T.length capR, T, last, at_⟩ : TreeV).top = at_ from rfl)
                  have HEN := Lib.hid HENI.out
                  have HONE2 := Lib.hid (fun (wx : World) (kb : NBk) (n : NodeM) (h1 : ∀ i, i < w.heap.size → ¬ TOwn (⟨tb, mb, .slice aR T.length capR, T, last, at_⟩ : TreeV) i → wx.heap[i]? = w.heap[i]?) => HONE.out HTA.out HBN.out wx kb n h1)
                  have HFULL : Hid (true = true → ∀ q, q ∈ LK → flightM (⟨tb, mb, .slice aR T.length capR, T, last, at_⟩ : TreeV).M q < 4096) := Lib.hid (fun _ q hq => by have h := List.any_eq_false.1 HAN.out q hq; rw [← HM0.out] at h; simp only [decide_eq_true_eq] at h; exact Int.not_le.1 h)
                  have HPOST := Lib.hid (fun (w9 : World) (h : ∃ t', TGo w (⟨tb, mb, .slice aR T.length capR, T, last, at_⟩ : TreeV) w9 t' ∧ t'.M = noteM (⟨tb, mb, .slice aR T.length capR, T, last, at_⟩ : TreeV).M LK F ∧ t'.last = at_ ∧ t'.top = at_) => note_yes (w := w) (t := ⟨tb, mb, .slice aR T.length capR, T, last, top⟩) (c := ⟨at_, res, ctx, org, inb, cnt, aa, al, ac⟩) (full := true) (aa := at_) (by have h := HE.out; rw [← HM0.out] at h; exact h) HLK.out h)
                  rw [HN0.out] at HI0 HFS HFULL HONE2 HPOST
                  obtain ⟨w4, hw4⟩ : ∃ w4, w4 = w3b := ⟨_, rfl⟩
                  rw [← hw4] at HI0 ⊢
                  clear hw4 HKW HE HB3 HB23 HB3b HB23b
                  go_wp2_with (fail)
                  go_loopw [12, 69] (fun _ x69 wr => ∃ (j : Nat) (tj : TreeV), j ≤ nK ∧ x69 = .int .i64 j ∧ Hid (NoteI w w4 wr ⟨tb, mb, .slice aR n0 capR, T, last, at_⟩ tj LK F aK Bt Bc #[.int .i64 at_, .string res, .string ctx, .string org, .bool inb, .int .i64 cnt, .slice aa al ac] j)) (fun _ x69 _ => nK - (intOf x69).toNat)
                  case atStart => exact ⟨0, _, Nat.zero_le _, rfl, HI0⟩
                  case round =>
                    rename World => wr
                    clear HI0
                    obtain ⟨j, tj, hj, rfl, HI⟩ := hrel
                    by_cases hlt : j < nK
                    · have hjl : j < LK.length := by rw [HLN.out]; exact hlt
                      obtain ⟨⟨kind, qctx, qres, qorg⟩, hq⟩ : ∃ q, LK[j]? = some q := ⟨_, List.getElem?_eq_getElem hjl⟩
                      obtain ⟨gK, rfl, hgK, d0, d1, d2, d3⟩ := HI.out.keys.get hq
                      have j0 : (0 : Int) ≤ j := by omega
                      have j1 : (j : Int) < nK := by omega
                      have hn5 : nK ≤ 5 := HFEW.out
                      have HQ := Lib.hid hq
                      have halb : Below wr.heap.size wr (wr.alloc (.cells #[.int .u8 kind, .string qctx, .string qres, .string qorg] 30)) := (Below.refl _ _).alloc (Nat.le_refl _) _
                      have hnb := new_blockS wr (.cells #[.int .u8 kind, .string qctx, .string qres, .string qorg] 30)
                      obtain ⟨wd, hwd⟩ : ∃ wd, wr.alloc (.cells #[.int .u8 kind, .string qctx, .string qres, .string qorg] 30) = wd := ⟨_, rfl⟩
                      rw [hwd] at halb hnb
                      obtain ⟨D, hD⟩ : ∃ D, wr.heap.size = D := ⟨_, rfl⟩
                      have HRD := Lib.hid (NoteI.boxed (D := D) (q := ⟨kind, qctx, qres, qorg⟩) HI.out (halb.drew) (by rw [← hD]; exact hnb) (by rw [← hD]; exact Nat.le_refl _))
                      have HMK := Lib.hid (make1_any (w := wd.drew) HRD.out.go.at_ ⟨kind, qctx, qres, qorg⟩ (HOK.out _ (List.mem_of_getElem? hq)) (HRD.out.room HND.out hq HFS.out))
                      rw [HRD.out.tbE] at HMK
                      have hs17 := HRD.out.s17
                      dsimp only at hs17
                      clear hq hgK hjl hnb halb
                      go_wp2_with (fail)
                      clear hD hwd
                      refine wp_region_noPanic ?_
                      refine wp_region_held_drew (S := (fun wx => wx.cell? ⟨Bt, 0, none⟩ = some (.pointer (some ⟨tb, 0, none⟩)) ∧ wx.cell? ⟨D, 0, none⟩ = some (.int .u8 kind) ∧ wx.cell? ⟨D, 1, none⟩ = some (.string qctx) ∧ wx.cell? ⟨D, 2, none⟩ = some (.string qres) ∧ wx.cell? ⟨D, 3, none⟩ = some (.string qorg))) (by kernel_rfl) ?_ (fun hHeld => ?_)
                      · exact hs17
                      refine wpAnyH_take (i := 0) (v := ?_) rfl (by kernel_rfl) (by kernel_rfl) (by kernel_rfl) (fun _ _ _ h => h) (Or.inl ⟨by rfl, ?hy⟩) (by assumption) ?_
                      case hy => intro w hSw; (try dsimp only at hSw); go_simp; try with_reducible rfl
                      try simp only [Act.put, List.getElem_toArray, List.getElem_cons_succ, List.getElem_cons_zero, List.setIfInBounds_toArray, List.set_cons_zero, List.set_cons_succ]
                      refine wpAnyH_take (i := 1) (v := ?_) rfl (by kernel_rfl) (by kernel_rfl) (by kernel_rfl) (fun _ _ _ h => h) (Or.inl ⟨by rfl, ?hy⟩) (by assumption) ?_
                      case hy => intro w hSw; (try dsimp only at hSw); go_simp; try with_reducible rfl
                      try simp only [Act.put, List.getElem_toArray, List.getElem_cons_succ, List.getElem_cons_zero, List.setIfInBounds_toArray, List.set_cons_zero, List.set_cons_succ]
                      refine wpAnyH_take (i := 2) (v := ?_) rfl (by kernel_rfl) (by kernel_rfl) (by kernel_rfl) (fun _ _ _ h => h) (Or.inl ⟨by rfl, ?hy⟩) (by assumption) ?_
                      case hy => intro w hSw; (try dsimp only at hSw); go_simp; try with_reducible rfl
                      try simp only [Act.put, List.getElem_toArray, List.getElem_cons_succ, List.getElem_cons_zero, List.setIfInBounds_toArray, List.set_cons_zero, List.set_cons_succ]
                      refine wpAnyH_take (i := 3) (v := ?_) rfl (by kernel_rfl) (by kernel_rfl) (by kernel_rfl) (fun _ _ _ h => h) (Or.inl ⟨by rfl, ?hy⟩) (by assumption) ?_
                      case hy => intro w hSw; (try dsimp only at hSw); go_simp; try with_reducible rfl
                      try simp only [Act.put, List.getElem_toArray, List.getElem_cons_succ, List.getElem_cons_zero, List.setIfInBounds_toArray, List.set_cons_zero, List.set_cons_succ]
                      refine wpAnyH_ready (rs := [4]) (by kernel_rfl) (by simp) (AllReadyH.cons rfl (fun K hK => ?_) AllReadyH.nil)
                      go_simp
                      go_at_call 40; refine HMK.out.mono ?_; rintro e w5 ⟨rfl, t1, hgo1, hm1, hl1, hp1⟩; have HN1 := Lib.hid (HRD.out.made hgo1 hm1 hl1 hp1); clear hgo1 hm1 hl1 hp1
                      try (go_wp2_with fail)
                      refine hK.out _ _ ?_ (fun hHeld => ?_)
                      · exact HN1.out.s17
                      clear hK K
                      try simp only [Act.put, List.getElem_toArray, List.getElem_cons_succ, List.getElem_cons_zero, List.setIfInBounds_toArray, List.set_cons_zero, List.set_cons_succ]
                      refine wpAnyH_done (by kernel_rfl) ?_ _
                      refine NoPanic.normal ?_
                      have hx1 := HN1.out.found HND.out HQ.out
                      obtain ⟨x, hx, hxM, hxl⟩ := hx1
                      have HON := Lib.hid (HN1.out.callOne (full := true) hx hxM hxl (List.mem_of_getElem? HQ.out) (fun hf q hq => HFULL.out (by first | exact hf | trivial) q hq) rfl (fun wx kb n h1 h2 h3 h4 => HONE2.out wx kb n h1 h2 h3 (fun hf => h4 (by first | exact hf | rfl))))
                      have HN2 := Lib.hid (fun (w6 : World) hn ho => HN1.out.one (w6 := w6) hx HQ.out (HOK.out _ (List.mem_of_getElem? HQ.out)) HFL.out hn ho)
                      have hs18 := s18_of (wx := w5.drew) (HN1.out.go.at_.kept (fun _ _ => rfl)) HN1.out.go.tb HN1.out.btR HN1.out.dx (by rw [hx]; rfl) (HOK.out _ (List.mem_of_getElem? HQ.out))
                      have hen := HEN.out x.k.q
                      dsimp only at hs18
                      clear hs17 hx hxM hxl HMK
                      obtain ⟨mb1, hmb1⟩ : ∃ m, t1.mb = m := ⟨_, rfl⟩
                      obtain ⟨xq, hxq⟩ : ∃ m, x.k.q = m := ⟨_, rfl⟩
                      rw [hmb1] at hs18 HN2
                      rw [hxq] at hs18 HN2 HON hen
                      clear hmb1 hxq
                      go_wp2_with (fail)
                      refine wp_region_noPanic ?_
                      refine wp_region_held_drew (S := (fun wx => wx.cell? ⟨Bt, 0, none⟩ = some (.pointer (some ⟨tb, 0, none⟩)) ∧ (wx.cell? ⟨D, 0, none⟩ = some (.int .u8 kind) ∧ wx.cell? ⟨D, 1, none⟩ = some (.string qctx) ∧ wx.cell? ⟨D, 2, none⟩ = some (.string qres) ∧ wx.cell? ⟨D, 3, none⟩ = some (.string qorg)) ∧ wx.cell? ⟨tb, 0, none⟩ = some (.map (some mb1)) ∧ (Instr.lookup 55 (.map (some mb1)) (.agg #[.int .u8 kind, .string qctx, .string qres, .string qorg]) false).run Try.prog wx = .ok (.pointer (some ⟨xq, 0, none⟩)) wx)) (by kernel_rfl) ?_ (fun hHeld => ?_)
                      · exact hs18
                      refine wpAnyH_take (i := 0) (v := ?_) rfl (by kernel_rfl) (by kernel_rfl) (by kernel_rfl) (fun _ _ _ h => h) (Or.inl ⟨by rfl, ?hy⟩) (by assumption) ?_
                      case hy => intro w hSw; (try dsimp only at hSw); go_simp; try with_reducible rfl
                      try simp only [Act.put, List.getElem_toArray, List.getElem_cons_succ, List.getElem_cons_zero, List.setIfInBounds_toArray, List.set_cons_zero, List.set_cons_succ]
                      refine wpAnyH_take (i := 1) (v := ?_) rfl (by kernel_rfl) (by kernel_rfl) (by kernel_rfl) (fun _ _ _ h => h) (Or.inl ⟨by rfl, ?hy⟩) (by assumption) ?_
                      case hy => intro w hSw; (try dsimp only at hSw); go_simp; try with_reducible rfl
                      try simp only [Act.put, List.getElem_toArray, List.getElem_cons_succ, List.getElem_cons_zero, List.setIfInBounds_toArray, List.set_cons_zero, List.set_cons_succ]
                      refine wpAnyH_take (i := 2) (v := ?_) rfl (by kernel_rfl) (by kernel_rfl) (by kernel_rfl) (fun _ _ _ h => h) (Or.inl ⟨by rfl, ?hy⟩) (by assumption) ?_
                      case hy => intro w hSw; (try dsimp only at hSw); go_simp; try with_reducible rfl
                      try simp only [Act.put, List.getElem_toArray, List.getElem_cons_succ, List.getElem_cons_zero, List.setIfInBounds_toArray, List.set_cons_zero, List.set_cons_succ]
                      refine wpAnyH_take (i := 3) (v := ?_) rfl (by kernel_rfl) (by kernel_rfl) (by kernel_rfl) (fun _ _ _ h => h) (Or.inl ⟨by rfl, ?hy⟩) (by assumption) ?_
                      case hy => intro w hSw; (try dsimp only at hSw); go_simp; try with_reducible rfl
                      try simp only [Act.put, List.getElem_toArray, List.getElem_cons_succ, List.getElem_cons_zero, List.setIfInBounds_toArray, List.set_cons_zero, List.set_cons_succ]
                      refine wpAnyH_take (i := 4) (v := ?_) rfl (by kernel_rfl) (by kernel_rfl) (by kernel_rfl) (fun _ _ _ h => h) (Or.inl ⟨by rfl, ?hy⟩) (by assumption) ?_
                      case hy => intro w hSw; (try dsimp only at hSw); go_simp; try with_reducible rfl
                      try simp only [Act.put, List.getElem_toArray, List.getElem_cons_succ, List.getElem_cons_zero, List.setIfInBounds_toArray, List.set_cons_zero, List.set_cons_succ]
                      refine wpAnyH_take (i := 5) (v := ?_) rfl (by kernel_rfl) (by kernel_rfl) (by kernel_rfl) (fun _ _ _ h => h) (Or.inl ⟨by rfl, ?hy⟩) (by assumption) ?_
                      case hy => intro w hSw; (try dsimp only at hSw); go_simp; try with_reducible rfl
                      try simp only [Act.put, List.getElem_toArray, List.getElem_cons_succ, List.getElem_cons_zero, List.setIfInBounds_toArray, List.set_cons_zero, List.set_cons_succ]
                      refine wpAnyH_take (i := 6) (v := ?_) rfl (by kernel_rfl) (by kernel_rfl) (by kernel_rfl) (fun _ _ _ h => h) (Or.inl ⟨by rfl, ?hy⟩) (by assumption) ?_
                      case hy => intro w hSw; (try dsimp only at hSw); go_simp; try with_reducible rfl
                      try simp only [Act.put, List.getElem_toArray, List.getElem_cons_succ, List.getElem_cons_zero, List.setIfInBounds_toArray, List.set_cons_zero, List.set_cons_succ]
                      refine wpAnyH_take (i := 7) (v := ?_) rfl (by kernel_rfl) (by kernel_rfl) (by kernel_rfl) (fun _ _ _ h => h) (Or.inl ⟨by rfl, ?hy⟩) (by assumption) ?_
                      case hy => intro w hSw; (try dsimp only at hSw); go_simp; try with_reducible rfl
                      try simp only [Act.put, List.getElem_toArray, List.getElem_cons_succ, List.getElem_cons_zero, List.setIfInBounds_toArray, List.set_cons_zero, List.set_cons_succ]
                      refine wpAnyH_ready (rs := [8]) (by kernel_rfl) (by simp) (AllReadyH.cons rfl (fun K hK => ?_) AllReadyH.nil)
                      go_simp
                      refine HON.out.mono ?_; rintro e w6 ⟨⟨vone, rfl⟩, hn6, ho6⟩; have HN6 := Lib.hid (HN2.out w6 hn6 ho6); clear hn6 ho6
                      try (go_wp2_with fail)
                      refine hK.out _ _ ?_ (fun hHeld => ?_)
                      · exact HN6.out.2
                      clear hK K
                      try simp only [Act.put, List.getElem_toArray, List.getElem_cons_succ, List.getElem_cons_zero, List.setIfInBounds_toArray, List.set_cons_zero, List.set_cons_succ]
                      refine wpAnyH_done (by kernel_rfl) ?_ _
                      refine NoPanic.normal ?_
                      clear hs18 hen
                      go_wp2_with (fail)
                      refine ⟨⟨j + 1, _, by omega, by go_num, Lib.hid HN6.out.1⟩, by first | (simp [intOf]; done) | (simp [intOf]; omega)⟩
                    · have j1 : ¬ (j : Int) < nK := by omega
                      have hsc := HI.out.cellsEnd (at_ := at_) rfl
                      dsimp only at hsc
                      obtain ⟨s1, s2, s3, s4⟩ := hsc
                      have HDN := Lib.hid (HI.out.done (by rw [HLN.out]; omega) rfl HT0.out.1 HT0.out.2)
                      dsimp only at HDN
                      clear HI
                      go_wp2_with (fail)
                      go_ret
                      have hfin := HPOST.out _ HDN.out
                      rw [← HN0.out] at hfin
                      exact hfin
end Go.Proofs.Ytpbbidijnmooaaa
