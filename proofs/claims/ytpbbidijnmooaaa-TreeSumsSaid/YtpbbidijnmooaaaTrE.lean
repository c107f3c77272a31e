/- tree: make1. -/
import Derived.Test.YtpbbidijnmooaaaTrD
import Derived.Test.YtpbbidijnmooaaaOwn
import Derived.Test.YtpbbidijnmooaaaTrB
import Derived.Deep.RegionHeld3
namespace Go.Proofs.Ytpbbidijnmooaaa
open Go.RowKit
set_option linter.unusedVariables false
set_option linter.unusedSimpArgs false

theorem wp_append_at {P : Program} (w : World) {o : Oper} {a : Act} {K : Act → World → Prop} {Q : Exit → Act → World → Prop} (s x : Operand) (t : TypeId)
    (ho : o.op = .call { callee := .builtin .append, args := #[s, x], argTypes := #[t, t] })
    (base : Nat) (e : TypeId) (i : TypeInfo) (z : Value) (size bytes : Nat) (ht : P.underlying t = some (.slice e)) (hi : P.info? e = some i) (hz : i.zero = some z)
    (hsize : i.size = size) (hby : i.bytes = bytes) (hzs : z.cells.size = size) (hsz : 0 < size)
    (v : Value) (n : Nat) (xs : List Value) (hs : a.eval s = v) (hown : w.ownsRow base e size v n xs)
    (ad : Addr) (m c : Nat) (news : List Value) (hx : a.eval x = .slice (some ad) m c) (hl : news.length = m * size) (hnews : ∀ j u, news[j]? = some u → w.cell? (ad.add j) = some u) (h1 : ∀ u ∈ news, u.oneCell' = true)
    (h63 : n + m ≤ maxLen) (hbytes : (n + m) * bytes ≤ 140737488355328) (hbase : base ≤ w.heap.size) (hm : m ≠ 0)
    (h : ∀ v' w', w'.ownsRow base e size v' (n + m) (xs ++ news) → w.grownBy w' v.ownBlock → (v'.ownBlock = v.ownBlock ∨ v'.ownBlock = some w.heap.size) → K (a.put o.dst v') w') : o.wp P a w K Q := by
  obtain ⟨v', w', hr, h2, h3, h4⟩ := run_append_where (P := P) w base t o.type e i z size bytes ht hi hz hsize hby hzs hsz v n xs hown ad m c news hl hnews h1 h63 hbytes hbase hm
  unfold Oper.wp execOp
  simp only [ho, resolve, invoke, builtin, Sem.run_bind, Sem.run_pure, Result.andThen_ok, List.map_toArray, List.map_cons, List.map_nil, hs, hx, hr]
  exact h v' w' h2 h3 h4


/-- A tree goes on as another one. -/
structure TGo (w : World) (t : TreeV) (w' : World) (t' : TreeV) : Prop where
  at_ : TreeAt w' t'
  tb : t'.tb = t.tb
  off : Off (TOwn t) w w'
  own : ∀ i, TOwn t' i → TOwn t i ∨ w.heap.size ≤ i
theorem TGo.refl {w : World} {t : TreeV} (k : TreeAt w t) : TGo w t w t := ⟨k, rfl, Off.refl _ _, fun i hi => Or.inl hi⟩
theorem TGo.trans {w w1 w2 : World} {t t1 t2 : TreeV} (h : TGo w t w1 t1) (k : TGo w1 t1 w2 t2) : TGo w t w2 t2 :=
  ⟨k.at_, k.tb.trans h.tb, h.off.trans k.off (fun i hi ho => by rcases h.own i ho with h1 | h1; exact h1; omega), fun i hi => by
    rcases k.own i hi with h1 | h1
    · exact h.own i h1
    · have := h.off.size; exact Or.inr (by omega)⟩
theorem TGo.belowR {w w1 w2 : World} {t t1 : TreeV} (h : TGo w t w1 t1) (hb : Below w1.heap.size w1 w2) : TGo w t w2 t1 :=
  h.trans ⟨h.at_.below hb, rfl, Off.ofBelow hb, fun i hi => Or.inl hi⟩
theorem TGo.belowL {w w1 w2 : World} {t t1 : TreeV} (hb : Below w.heap.size w w1) (k : TreeAt w t) (h : TGo w1 t w2 t1) : TGo w t w2 t1 :=
  TGo.trans (w1 := w1) (t1 := t) ⟨k.below hb, rfl, Off.ofBelow hb, fun i hi => Or.inl hi⟩ h
theorem four_alloc {wx : World} {D : Nat} {x y z u : Value} {o : Obj} (h : wx.cell? ⟨D, 0, none⟩ = some x ∧ wx.cell? ⟨D, 1, none⟩ = some y ∧ wx.cell? ⟨D, 2, none⟩ = some z ∧ wx.cell? ⟨D, 3, none⟩ = some u) :
    (wx.alloc o).cell? ⟨D, 0, none⟩ = some x ∧ (wx.alloc o).cell? ⟨D, 1, none⟩ = some y ∧ (wx.alloc o).cell? ⟨D, 2, none⟩ = some z ∧ (wx.alloc o).cell? ⟨D, 3, none⟩ = some u :=
  ⟨(World.cell?_alloc_lt wx o _ (World.block_lt_of_cell? _ _ h.1)).trans h.1, (World.cell?_alloc_lt wx o _ (World.block_lt_of_cell? _ _ h.2.1)).trans h.2.1, (World.cell?_alloc_lt wx o _ (World.block_lt_of_cell? _ _ h.2.2.1)).trans h.2.2.1, (World.cell?_alloc_lt wx o _ (World.block_lt_of_cell? _ _ h.2.2.2)).trans h.2.2.2⟩
theorem cell_farT {w : World} {a p : Addr} {u v : Value} (h : w.cell? a = some v) (hne : p.block ≠ a.block) : (w.setCell p u).cell? a = some v := (World.cell?_setCell_far w p a u hne).trans h
theorem four_far {wx : World} {D s o : Nat} {x y z u v : Value} (h : wx.cell? ⟨D, 0, none⟩ = some x ∧ wx.cell? ⟨D, 1, none⟩ = some y ∧ wx.cell? ⟨D, 2, none⟩ = some z ∧ wx.cell? ⟨D, 3, none⟩ = some u) (hne : s ≠ D) :
    (wx.setCell ⟨s, o, none⟩ v).cell? ⟨D, 0, none⟩ = some x ∧ (wx.setCell ⟨s, o, none⟩ v).cell? ⟨D, 1, none⟩ = some y ∧ (wx.setCell ⟨s, o, none⟩ v).cell? ⟨D, 2, none⟩ = some z ∧ (wx.setCell ⟨s, o, none⟩ v).cell? ⟨D, 3, none⟩ = some u :=
  ⟨cell_farT h.1 hne, cell_farT h.2.1 hne, cell_farT h.2.2.1 hne, cell_farT h.2.2.2 hne⟩
theorem four_box {wx : World} {D : Nat} {x y z u : Value} {ty : TypeId} (h : wx.heap[D]? = some (.cells #[x, y, z, u] ty)) : wx.cell? ⟨D, 0, none⟩ = some x ∧ wx.cell? ⟨D, 1, none⟩ = some y ∧ wx.cell? ⟨D, 2, none⟩ = some z ∧ wx.cell? ⟨D, 3, none⟩ = some u := by
  refine ⟨?_, ?_, ?_, ?_⟩ <;> simp [World.cell?, h]
theorem four_cellsT (w : World) (x y z u : Value) (t : TypeId) : ∀ j v, ([x, y, z, u] : List Value)[j]? = some v → (w.alloc (.cells #[x, y, z, u] t)).cell? ((⟨w.heap.size, 0, none⟩ : Addr).add j) = some v := by
  intro j v hj
  have hn := new_blockS w (.cells #[x, y, z, u] t)
  rw [WideShapes.add_plain]
  simp only [World.cell?, hn]
  match j, hj with
  | 0, h => simpa using h
  | 1, h => simpa using h
  | 2, h => simpa using h
  | 3, h => simpa using h
/-- A node is made and put into the map; w5: behind it. -/
structure Made1 (w w5 : World) (t : TreeV) (q : KeyS) (kb : NBk) : Prop where
  size : w.heap.size < w5.heap.size
  off : Off (fun i => i = t.mb) w w5
  map : MapT w5 t.mb (t.T ++ [⟨q, kb, .zero⟩])
  node : NodeAt w5 kb 0 0 []
  own : ∀ i, NOwn kb i → w.heap.size ≤ i ∧ i < w5.heap.size
theorem made1_of {w w1 : World} {t : TreeV} (k : TreeAt w t) (hb : Below w.heap.size w w1) (hlt : w.heap.size < w1.heap.size) {q : KeyS} (hq : KeyOk q) (hno : findT t.T q = none) :
    ∃ w5, (Instr.mapUpdate 55 (.map (some t.mb)) q.v (.pointer (some ⟨w1.heap.size + 4, 0, none⟩))).run Try.prog (nodeW w1) = .ok () w5 ∧ Made1 w w5 t q (madeN w1.heap.size) ∧ Off (fun i => i = t.mb) (nodeW w1) w5 := by
  obtain ⟨hn, hbn⟩ := node_made w1
  have k1 := k.below (hb.trans (hbn.mono hb.size))
  obtain ⟨w5, hrun, h1, h2, h3⟩ := k1.map.put (x := ⟨q, madeN w1.heap.size, .zero⟩) (by have := k.few; omega) hq hno
  have hz := hbn.size
  refine ⟨w5, hrun, ⟨by omega, (Off.ofBelow (S := fun i => i = t.mb) (hb.trans (hbn.mono hb.size))).trans h2 (fun _ _ h => h), h1, hn.kept (fun i hi => h2.block i (hn.lt hi) (fun e => ?_)), fun i hi => ⟨by have := nodeW_own hi; omega, by have := hn.lt hi; omega⟩⟩, h2⟩
  have := nodeW_own hi
  have := k.mbLt
  have := hb.size
  omega
/-- The key goes behind the others. -/
theorem made1_fin {w w5 w6 w7 : World} {t : TreeV} {q : KeyS} {kb : NBk} (k : TreeAt w t) (h : Made1 w w5 t q kb) (hb : Below w5.heap.size w5 w6) (hq : KeyOk q) (hno : findT t.T q = none) (hfew : t.T.length < 512) {v3 : Value}
    (hown : w7.ownsRow 0 30 4 v3 (t.T.length + 1) (flatT t.T ++ q.cs)) (hg : w6.grownBy w7 t.vr.ownBlock) (hk : v3.ownBlock = t.vr.ownBlock ∨ v3.ownBlock = some w6.heap.size) (hw6 : w5.heap.size < w6.heap.size) :
    TGo w t (w7.setCell ⟨t.tb, 1, none⟩ v3) { t with vr := v3, T := t.T ++ [⟨q, kb, .zero⟩] } := by
  obtain ⟨col, hc⟩ := k.col
  have z6 := hb.size
  have z7 := hg.size
  have hcm : t.mb ≠ t.tb := fun e => by have h1 := hc.map; have h2 := hc.head; rw [e] at h1; omega
  have hvt : t.vr.ownBlock ≠ some t.tb := fun e => by have h1 := hc.row _ e; have h2 := hc.head; omega
  have hvm : t.vr.ownBlock ≠ some t.mb := fun e => by have h1 := hc.row _ e; have h2 := hc.map; omega
  have g57 : ∀ i, i < w5.heap.size → t.vr.ownBlock ≠ some i → w7.heap[i]? = w5.heap[i]? := fun i hi hne => (hg.block i (by omega) (fun e => hne e.symm)).trans (hb.block i hi)
  have hs : ∀ i, i ≠ t.tb → (w7.setCell ⟨t.tb, 1, none⟩ v3).heap[i]? = w7.heap[i]? := fun i hi => heap_setCell_other _ _ _ _ (fun e => hi e)
  have keep : ∀ i, i < w.heap.size → i ≠ t.tb → i ≠ t.mb → t.vr.ownBlock ≠ some i → (w7.setCell ⟨t.tb, 1, none⟩ v3).heap[i]? = w.heap[i]? := fun i hi h1 h2 h3 => (hs i h1).trans ((g57 i (by have := h.size; omega) h3).trans (h.off.block i hi h2))
  have hrt : v3.ownBlock ≠ some t.tb := fun e => by
    rcases hk with h1 | h1
    · exact hvt (h1.symm.trans e)
    · rw [h1] at e; injection e with e; have := k.tbLt; have := h.size; omega
  have zs : (w7.setCell ⟨t.tb, 1, none⟩ v3).heap.size = w7.heap.size := by simp
  refine ⟨k.added (w' := w7.setCell ⟨t.tb, 1, none⟩ v3) hq hno (by rw [zs]; have := h.size; omega) keep ?_ ?_ ?_ ?_ ?_ (fun i hi => (h.own i hi).1) hfew, rfl, ⟨?_, ?_, ?_, by rw [zs]; have := h.size; omega, fun i hi ho => keep i hi (fun e => ho (Or.inl e)) (fun e => ho (Or.inr (Or.inl e))) (fun e => ho (Or.inr (Or.inr (Or.inl e))))⟩, fun i hi => ?_⟩
  · have hh := (g57 t.tb (by have := k.tbLt; have := h.size; omega) hvt).trans ((h.off.block t.tb k.tbLt (fun e => hcm e.symm)).trans k.head)
    exact heap_setCell_same _ _ 1 _ _ _ hh
  · exact rowKept hown (fun g e => hs g (fun e2 => hrt (by rw [← e2]; exact e)))
  · intro g e
    rcases hk with h1 | h1
    · exact Or.inl (h1.symm.trans e)
    · rw [h1] at e; injection e with e; subst e
      exact Or.inr ⟨by have := h.size; omega, fun ho => by have := (h.own _ ho).2; omega⟩
  · exact h.map.kept ((hs t.mb hcm).trans (g57 t.mb (by have := k.mbLt; have := h.size; omega) hvm))
  · exact h.node.kept (fun i hi => (hs i (fun e => by have := (h.own i hi).1; have := k.tbLt; omega)).trans (g57 i (h.own i hi).2 (fun e => by have := k.rowLt e; have := (h.own i hi).1; omega)))
  · exact hg.os.trans (hb.os.trans h.off.os)
  · exact hg.tape.trans (hb.tape.trans h.off.tape)
  · exact hg.output.trans (hb.output.trans h.off.output)
  · rcases hi with h1 | h1 | h1 | ⟨x, hx, h1⟩
    · exact Or.inl (Or.inl h1)
    · exact Or.inl (Or.inr (Or.inl h1))
    · rcases hk with h2 | h2
      · exact Or.inl (Or.inr (Or.inr (Or.inl (h2.symm.trans h1))))
      · have h1 : v3.ownBlock = some i := h1
        rw [h2] at h1; injection h1 with h1
        have := h.size
        exact Or.inr (by omega)
    · rcases List.mem_append.1 hx with h2 | h2
      · exact Or.inl (Or.inr (Or.inr (Or.inr ⟨x, h2, h1⟩)))
      · obtain rfl := List.mem_singleton.1 h2
        exact Or.inr (h.own i h1).1
theorem addM_some {t : TreeV} {q : KeyS} {x : TN} (h : findT t.T q = some x) : addM t.M q = t.M := by
  unfold addM
  rw [getM_findT, h]; rfl
theorem addM_none {t : TreeV} {q : KeyS} {kb : NBk} {v3 : Value} (h : findT t.T q = none) : ({ t with vr := v3, T := t.T ++ [⟨q, kb, .zero⟩] } : TreeV).M = addM t.M q := by
  unfold addM
  rw [getM_findT, h]
  show (t.T ++ [_]).map _ = t.T.map _ ++ _
  rw [List.map_append]; rfl
theorem row_of1 {w w5 : World} {t : TreeV} {q : KeyS} {kb : NBk} (k : TreeAt w t) (h : Made1 w w5 t q kb) : w5.cell? ⟨t.tb, 1, none⟩ = some t.vr ∧ w5.ownsRow 0 30 4 t.vr t.T.length (flatT t.T) := by
  obtain ⟨col, hc⟩ := k.col
  have hcm : t.tb ≠ t.mb := fun e => by have h1 := hc.map; have h2 := hc.head; rw [← e] at h1; omega
  have hh := (h.off.block t.tb k.tbLt hcm).trans k.head
  exact ⟨by simp [World.cell?, hh], rowKept k.row (fun g e => h.off.block g (k.rowLt e) (fun e2 => by have h1 := hc.row g e; have h2 := hc.map; rw [e2] at h1; omega))⟩
def MkPost (w : World) (t : TreeV) (q : KeyS) (e : Ending) (w' : World) : Prop := e = .returned (.tuple #[]) ∧ ∃ t', TGo w t w' t' ∧ t'.M = addM t.M q ∧ t'.last = t.last ∧ t'.top = t.top
theorem sn_of {wb wn : World} {tb D : Nat} {x y z u v : Value} (hb : Below wb.heap.size wb wn) (h : wb.cell? ⟨tb, 0, none⟩ = some x ∧ wb.cell? ⟨D, 0, none⟩ = some y ∧ wb.cell? ⟨D, 1, none⟩ = some z ∧ wb.cell? ⟨D, 2, none⟩ = some u ∧ wb.cell? ⟨D, 3, none⟩ = some v) :
    wn.cell? ⟨tb, 0, none⟩ = some x ∧ wn.cell? ⟨D, 0, none⟩ = some y ∧ wn.cell? ⟨D, 1, none⟩ = some z ∧ wn.cell? ⟨D, 2, none⟩ = some u ∧ wn.cell? ⟨D, 3, none⟩ = some v := by
  obtain ⟨a, b, c, d, e⟩ := h
  exact ⟨(hb.cell (World.block_lt_of_cell? _ _ a)).trans a, (hb.cell (World.block_lt_of_cell? _ _ b)).trans b, (hb.cell (World.block_lt_of_cell? _ _ c)).trans c, (hb.cell (World.block_lt_of_cell? _ _ d)).trans d, (hb.cell (World.block_lt_of_cell? _ _ e)).trans e⟩
theorem sn_off {wb wn : World} {tb D mb : Nat} {x y z u v : Value} (ho : Off (fun i => i = mb) wb wn) (h : wb.cell? ⟨tb, 0, none⟩ = some x ∧ wb.cell? ⟨D, 0, none⟩ = some y ∧ wb.cell? ⟨D, 1, none⟩ = some z ∧ wb.cell? ⟨D, 2, none⟩ = some u ∧ wb.cell? ⟨D, 3, none⟩ = some v) (h1 : tb ≠ mb) (h2 : D ≠ mb) :
    wn.cell? ⟨tb, 0, none⟩ = some x ∧ wn.cell? ⟨D, 0, none⟩ = some y ∧ wn.cell? ⟨D, 1, none⟩ = some z ∧ wn.cell? ⟨D, 2, none⟩ = some u ∧ wn.cell? ⟨D, 3, none⟩ = some v := by
  obtain ⟨a, b, c, d, e⟩ := h
  exact ⟨ho.cell a h1, ho.cell b h2, ho.cell c h2, ho.cell d h2, ho.cell e h2⟩
/-- What the appending leaves. -/
theorem made1_put {w w5 w6 : World} {t : TreeV} {q : KeyS} {kb : NBk} {D : Nat} (k : TreeAt w t) (h : Made1 w w5 t q kb) (hb : Below w5.heap.size w5 w6) (hq : KeyOk q) (hno : findT t.T q = none) (hfew : t.T.length < 512) (hw6 : w5.heap.size < w6.heap.size)
    (hD : w6.heap[D]? = some (.cells #[.int .u8 q.kind, .string q.ctx, .string q.res, .string q.org] 30)) (hD0 : w.heap.size ≤ D) (hD1 : D < w6.heap.size) (v3 : Value) (w7 : World)
    (hown : w7.ownsRow 0 30 4 v3 (t.T.length + 1) (flatT t.T ++ q.cs)) (hg : w6.grownBy w7 t.vr.ownBlock) (hk : v3.ownBlock = t.vr.ownBlock ∨ v3.ownBlock = some w6.heap.size) :
    w7.cell? ⟨t.tb, 1, none⟩ = some t.vr ∧ w7.frozen? ⟨t.tb, 1, none⟩ = false ∧ (w7.cell? ⟨D, 0, none⟩ = some (.int .u8 q.kind) ∧ w7.cell? ⟨D, 1, none⟩ = some (.string q.ctx) ∧ w7.cell? ⟨D, 2, none⟩ = some (.string q.res) ∧ w7.cell? ⟨D, 3, none⟩ = some (.string q.org)) ∧
      ∃ t', TGo w t (w7.setCell ⟨t.tb, 1, none⟩ v3) t' ∧ t'.M = addM t.M q ∧ t'.last = t.last ∧ t'.top = t.top := by
  obtain ⟨col, hc⟩ := k.col
  have hvt : t.vr.ownBlock ≠ some t.tb := fun e => by have h1 := hc.row _ e; have h2 := hc.head; omega
  have hcm : t.tb ≠ t.mb := fun e => by have h1 := hc.map; have h2 := hc.head; rw [← e] at h1; omega
  have hh := (hg.block t.tb (by have := k.tbLt; have := h.size; omega) (fun e => hvt e.symm)).trans ((hb.block t.tb (by have := k.tbLt; have := h.size; omega)).trans ((h.off.block t.tb k.tbLt hcm).trans k.head))
  have hd := (hg.block D hD1 (fun e => by have := k.rowLt e.symm; omega)).trans hD
  refine ⟨by simp [World.cell?, hh], by simp only [World.frozen?, hh]; simp, four_box hd, _, made1_fin k h hb hq hno hfew hown hg hk hw6, addM_none hno, rfl, rfl⟩

set_option maxHeartbeats 6400000 in
set_option maxRecDepth 100000 in
theorem make1_any {w : World} {t : TreeV} (k : TreeAt w t) (q : KeyS) (hq : KeyOk q) (hfew : findT t.T q = none → t.T.length < 512) :
    Calls Try.prog 40 #[.pointer (some ⟨t.tb, 0, none⟩), q.v] w (MkPost w t q) := by
  have halb : Below w.heap.size w (w.alloc (.cells #[.int .u8 q.kind, .string q.ctx, .string q.res, .string q.org] 30)) := (Below.refl _ _).alloc (Nat.le_refl _) _
  have hzb : (w.alloc (.cells #[.int .u8 q.kind, .string q.ctx, .string q.res, .string q.org] 30)).heap.size = w.heap.size + 1 := by simp
  have hnb := new_blockS w (.cells #[.int .u8 q.kind, .string q.ctx, .string q.res, .string q.org] 30)
  obtain ⟨wb, hwb⟩ : ∃ wb, w.alloc (.cells #[.int .u8 q.kind, .string q.ctx, .string q.res, .string q.org] 30) = wb := ⟨_, rfl⟩
  rw [hwb] at halb hzb hnb
  have HK := Lib.hid k
  have HQ := Lib.hid hq
  have HFEW := Lib.hid hfew
  have HAL := Lib.hid halb
  have HZB := Lib.hid hzb
  have HNB := Lib.hid hnb
  have hc0 := (k.below halb).cells.1
  have hlk := fun n => (k.below (below_drewG halb n)).map.look hq
  obtain ⟨f0, f1, f2, f3⟩ := four_box hnb
  obtain ⟨tb, mb, vr, T, last, top⟩ := t
  obtain ⟨kind, ctx, res, org⟩ := q
  unfold KeyS.v at hlk ⊢
  dsimp only at hlk hc0 f0 f1 f2 f3 hwb HNB ⊢
  obtain ⟨D, hD⟩ : ∃ D, w.heap.size = D := ⟨_, rfl⟩
  rw [hD] at f0 f1 f2 f3 HZB HNB
  have HD := Lib.hid hD
  clear k hq hfew halb hzb hnb
  cases hf : findT T ⟨kind, ctx, res, org⟩ with
  | some x =>
    simp only [hf, nodeP_some] at hlk
    have HF := Lib.hid hf
    clear hf
    go_enter Try.func40, Try.ntmps40
    go_wp2_with (fail)
    clear hwb hD
    go_quiet (fail)
    go_wp2_with (fail)
    go_end0
    exact ⟨rfl, _, TGo.belowR (TGo.refl HK.out) (below_drewG HAL.out nq), (addM_some (t := ⟨tb, mb, vr, T, last, top⟩) HF.out).symm, rfl, rfl⟩
  | none =>
    simp only [hf, nodeP, ptrT, Option.map_none, Option.getD_none] at hlk
    have HF := Lib.hid hf
    clear hf
    go_enter Try.func40, Try.ntmps40
    go_wp2_with (fail)
    clear hwb hD
    go_quiet (fail)
    have hbq := below_drewG HAL.out (nq + 1)
    obtain ⟨w5, hup, hm5, ho5⟩ := made1_of (w1 := (wb.drewN (nq + 1))) HK.out hbq (show w.heap.size < wb.heap.size by have := HZB.out; have := HD.out; omega) HQ.out HF.out
    have hnn := (node_made (wb.drewN (nq + 1))).2
    unfold KeyS.v at hup
    have hup : (Instr.mapUpdate 55 (.map (some mb)) (.agg #[.int .u8 kind, .string ctx, .string res, .string org]) (.pointer (some ⟨wb.heap.size + 4, 0, none⟩))).run Try.prog (nodeW (wb.drewN (nq + 1))) = .ok () w5 := hup
    have hs2 := And.intro hc0 (And.intro f0 (And.intro f1 (And.intro f2 f3)))
    have HNN := Lib.hid (And.intro (hnn.block D (show D < wb.heap.size by have := HZB.out; omega)) (hnn.block tb (show tb < wb.heap.size from World.block_lt_of_cell? _ _ hc0)))
    have HSN := Lib.hid (sn_of (D := D) (x := .map (some mb)) (y := .int .u8 kind) (z := .string ctx) (u := .string res) (v := .string org) (wb := (wb.drewN (nq + 1))) hnn hs2)
    have HSU := Lib.hid (sn_off (D := D) ho5 HSN.out (show tb ≠ mb from by
      obtain ⟨col, hc⟩ := HK.out.col
      intro e; have h1 := hc.map; have h2 := hc.head; dsimp only at h1 h2; rw [← e] at h1; omega) (show D ≠ mb from by have hm : mb < w.heap.size := HK.out.mbLt; have := HD.out; omega))
    have HM5 := Lib.hid hm5
    have HD5 := Lib.hid ((ho5.block D (by have := hnn.size; have := HZB.out; show D < _; have h : wb.heap.size ≤ (nodeW (wb.drewN (nq + 1))).heap.size := hnn.size; omega) (fun e => by have hm : mb < w.heap.size := HK.out.mbLt; have := HD.out; have e : D = mb := e; omega)).trans (HNN.out.1.trans HNB.out))
    clear hc0 hlk hbq hm5 ho5 hnn f0 f1 f2 f3
    go_wp2_with (fail)
    refine wp_region_noPanic ?_
    refine wp_region_held_drew (S := (fun wx => wx.cell? ⟨tb, 0, none⟩ = some (.map (some mb)) ∧ wx.cell? ⟨D, 0, none⟩ = some (.int .u8 kind) ∧ wx.cell? ⟨D, 1, none⟩ = some (.string ctx) ∧ wx.cell? ⟨D, 2, none⟩ = some (.string res) ∧ wx.cell? ⟨D, 3, none⟩ = some (.string org))) (by kernel_rfl) ?_ (fun hHeld => ?_)
    · exact hs2
    refine wpAnyH_take (i := 0) (v := ?_) rfl (by kernel_rfl) (by kernel_rfl) (by kernel_rfl) (fun _ _ _ h => h) (Or.inl ⟨by rfl, ?hy⟩) (by assumption) ?_
    case hy => intro w hSw; (try dsimp only at hSw); go_simp; try with_reducible rfl
    try simp only [Act.put, List.getElem_toArray, List.getElem_cons_succ, List.getElem_cons_zero, List.setIfInBounds_toArray, List.set_cons_zero, List.set_cons_succ]
    refine wpAnyH_take (i := 1) (v := ?_) rfl (by kernel_rfl) (by kernel_rfl) (by kernel_rfl) (fun _ _ _ h => h) (Or.inl ⟨by rfl, ?hy⟩) (by assumption) ?_
    case hy => intro w hSw; (try dsimp only at hSw); go_simp; try with_reducible rfl
    try simp only [Act.put, List.getElem_toArray, List.getElem_cons_succ, List.getElem_cons_zero, List.setIfInBounds_toArray, List.set_cons_zero, List.set_cons_succ]
    refine wpAnyH_take (i := 2) (v := ?_) rfl (by kernel_rfl) (by kernel_rfl) (by kernel_rfl) (fun _ _ _ h => h) (Or.inl ⟨by rfl, ?hy⟩) (by assumption) ?_
    case hy => intro w hSw; (try dsimp only at hSw); go_simp; try with_reducible rfl
    try simp only [Act.put, List.getElem_toArray, List.getElem_cons_succ, List.getElem_cons_zero, List.setIfInBounds_toArray, List.set_cons_zero, List.set_cons_succ]
    refine wpAnyH_take (i := 3) (v := ?_) rfl (by kernel_rfl) (by kernel_rfl) (by kernel_rfl) (fun _ _ _ h => h) (Or.inl ⟨by rfl, ?hy⟩) (by assumption) ?_
    case hy => intro w hSw; (try dsimp only at hSw); go_simp; try with_reducible rfl
    try simp only [Act.put, List.getElem_toArray, List.getElem_cons_succ, List.getElem_cons_zero, List.setIfInBounds_toArray, List.set_cons_zero, List.set_cons_succ]
    refine wpAnyH_take (i := 4) (v := ?_) rfl (by kernel_rfl) (by kernel_rfl) (by kernel_rfl) (fun _ _ _ h => h) (Or.inl ⟨by rfl, ?hy⟩) (by assumption) ?_
    case hy => intro w hSw; (try dsimp only at hSw); go_simp; try with_reducible rfl
    try simp only [Act.put, List.getElem_toArray, List.getElem_cons_succ, List.getElem_cons_zero, List.setIfInBounds_toArray, List.set_cons_zero, List.set_cons_succ]
    refine wpAnyH_ready (rs := [5]) (by kernel_rfl) (by simp) (AllReadyH.cons rfl (fun K hK => ?_) AllReadyH.nil)
    go_simp
    go_at_call 51; refine (snew_any _).mono ?_; rintro e w3 ⟨rfl, hw3⟩; subst hw3
    try (go_wp2_with fail)
    refine hK.out _ _ ?_ (fun hHeld => ?_)
    · exact HSN.out
    clear hK K
    try simp only [Act.put, List.getElem_toArray, List.getElem_cons_succ, List.getElem_cons_zero, List.setIfInBounds_toArray, List.set_cons_zero, List.set_cons_succ]
    refine wpAnyH_ready (rs := [6]) (by kernel_rfl) (by simp) (AllReadyH.cons rfl (fun K hK => ?_) AllReadyH.nil)
    go_simp
    skip
    try (go_wp2_with fail)
    refine hK.out _ _ ?_ (fun hHeld => ?_)
    · exact HSU.out
    clear hK K
    try simp only [Act.put, List.getElem_toArray, List.getElem_cons_succ, List.getElem_cons_zero, List.setIfInBounds_toArray, List.set_cons_zero, List.set_cons_succ]
    refine wpAnyH_done (by kernel_rfl) ?_ _
    refine NoPanic.normal ?_
    clear hup hs2
    obtain ⟨aR, capR, hvr⟩ := HK.out.slice
    dsimp only at hvr
    subst hvr
    have hmw := HM5.out.size
    have hfew0 : T.length < 512 := HFEW.out HF.out
    have k5 := row_of1 HK.out HM5.out
    dsimp only at k5
    obtain ⟨n0, hn0⟩ : ∃ n0, T.length = n0 := ⟨_, rfl⟩
    have HN0 := Lib.hid hn0
    have c1 : w5.cell? ⟨tb, 1, none⟩ = some (.slice aR n0 capR) := by rw [← hn0]; exact k5.1
    have c1B : ∀ o, (w5.alloc o).cell? ⟨tb, 1, none⟩ = some (.slice aR n0 capR) := fun o => (World.cell?_alloc_lt w5 o _ (World.block_lt_of_cell? _ _ c1)).trans c1
    have hb6 : Below w5.heap.size w5 (w5.alloc (.cells #[.int .u8 kind, .string ctx, .string res, .string org] 30)).drew := ((Below.refl _ _).alloc (Nat.le_refl _) _).drew
    have hDl : D < w5.heap.size := (Array.getElem?_eq_some_iff.1 HD5.out).1
    have hz6 : w5.heap.size < ((w5.alloc (.cells #[.int .u8 kind, .string ctx, .string res, .string org] 30)).drew).heap.size := by show w5.heap.size < (w5.alloc _).heap.size; simp
    have HROW := Lib.hid (show (w5.alloc (.cells #[.int .u8 kind, .string ctx, .string res, .string org] 30)).drew.ownsRow 0 30 4 (.slice aR n0 capR) n0 (flatT T) by
      rw [← hn0]; exact rowKept k5.2 (fun g e => hb6.block g (k5.2.lt g e).2))
    have HTC := Lib.hid (show ∀ j u, ([.int .u8 kind, .string ctx, .string res, .string org] : List Value)[j]? = some u → (w5.alloc (.cells #[.int .u8 kind, .string ctx, .string res, .string org] 30)).drew.cell? ((⟨w5.heap.size, 0, none⟩ : Addr).add j) = some u from fun j u hu => four_cellsT w5 _ _ _ _ 30 j u hu)
    have HPUT := Lib.hid (fun (v3 : Value) (w7 : World) => made1_put (w6 := (w5.alloc (.cells #[.int .u8 kind, .string ctx, .string res, .string org] 30)).drew) HK.out HM5.out hb6 HQ.out HF.out hfew0 hz6 ((hb6.block D hDl).trans HD5.out) (by rw [HD.out]; exact Nat.le_refl _) (Nat.lt_trans hDl hz6) v3 w7)
    dsimp only at HPUT
    rw [hn0] at HPUT hfew0
    have HNE := Lib.hid (show tb ≠ D from by have h : tb < w.heap.size := HK.out.tbLt; have := HD.out; omega)
    obtain ⟨i0, hi, hz0, hz1, hz2⟩ := info_partsT info_keyT
    have hs3 := four_box HD5.out
    clear hn0 k5 hb6 hDl hz6 hmw
    go_wp2_with (fail)
    refine wp_region_noPanic ?_
    refine wp_region_held_drew (S := (fun wx => wx.cell? ⟨D, 0, none⟩ = some (.int .u8 kind) ∧ wx.cell? ⟨D, 1, none⟩ = some (.string ctx) ∧ wx.cell? ⟨D, 2, none⟩ = some (.string res) ∧ wx.cell? ⟨D, 3, none⟩ = some (.string org))) (by kernel_rfl) ?_ (fun hHeld => ?_)
    · exact hs3
    refine wpAnyH_take (i := 0) (v := ?_) rfl (by kernel_rfl) (by kernel_rfl) (by kernel_rfl) (fun _ _ _ h => h) (Or.inl ⟨by rfl, ?hy⟩) (by assumption) ?_
    case hy => intro w hSw; (try dsimp only at hSw); go_simp; try with_reducible rfl
    try simp only [Act.put, List.getElem_toArray, List.getElem_cons_succ, List.getElem_cons_zero, List.setIfInBounds_toArray, List.set_cons_zero, List.set_cons_succ]
    refine wpAnyH_take (i := 1) (v := ?_) rfl (by kernel_rfl) (by kernel_rfl) (by kernel_rfl) (fun _ _ _ h => h) (Or.inl ⟨by rfl, ?hy⟩) (by assumption) ?_
    case hy => intro w hSw; (try dsimp only at hSw); go_simp; try with_reducible rfl
    try simp only [Act.put, List.getElem_toArray, List.getElem_cons_succ, List.getElem_cons_zero, List.setIfInBounds_toArray, List.set_cons_zero, List.set_cons_succ]
    refine wpAnyH_take (i := 2) (v := ?_) rfl (by kernel_rfl) (by kernel_rfl) (by kernel_rfl) (fun _ _ _ h => h) (Or.inl ⟨by rfl, ?hy⟩) (by assumption) ?_
    case hy => intro w hSw; (try dsimp only at hSw); go_simp; try with_reducible rfl
    try simp only [Act.put, List.getElem_toArray, List.getElem_cons_succ, List.getElem_cons_zero, List.setIfInBounds_toArray, List.set_cons_zero, List.set_cons_succ]
    refine wpAnyH_take (i := 3) (v := ?_) rfl (by kernel_rfl) (by kernel_rfl) (by kernel_rfl) (fun _ _ _ h => h) (Or.inl ⟨by rfl, ?hy⟩) (by assumption) ?_
    case hy => intro w hSw; (try dsimp only at hSw); go_simp; try with_reducible rfl
    try simp only [Act.put, List.getElem_toArray, List.getElem_cons_succ, List.getElem_cons_zero, List.setIfInBounds_toArray, List.set_cons_zero, List.set_cons_succ]
    refine wpAnyH_take (i := 5) (v := ?_) rfl (by kernel_rfl) (by kernel_rfl) (by kernel_rfl) (fun _ _ _ h => h) (Or.inl ⟨by rfl, ?hy⟩) (by assumption) ?_
    case hy => intro w hSw; (try dsimp only at hSw); go_simp; try with_reducible rfl
    try simp only [Act.put, List.getElem_toArray, List.getElem_cons_succ, List.getElem_cons_zero, List.setIfInBounds_toArray, List.set_cons_zero, List.set_cons_succ]
    refine wpAnyH_ready (rs := [4, 6]) (by kernel_rfl) (by simp) (AllReadyH.cons rfl (fun K hK => ?_) (AllReadyH.cons rfl (fun K hK => ?_) AllReadyH.nil))
    · go_simp
      try (go_wp2_with fail)
      refine hK.out _ _ ?_ (fun hHeld => ?_)
      · exact hHeld
      clear hK K
      try simp only [Act.put, List.getElem_toArray, List.getElem_cons_succ, List.getElem_cons_zero, List.setIfInBounds_toArray, List.set_cons_zero, List.set_cons_succ]
      refine wpAnyH_ready (rs := [6]) (by kernel_rfl) (by simp) (AllReadyH.cons rfl (fun K hK => ?_) AllReadyH.nil)
      go_simp
      skip
      try (go_wp2_with fail)
      refine hK.out _ _ ?_ (fun hHeld => ?_)
      · exact four_alloc hHeld
      clear hK K
      try simp only [Act.put, List.getElem_toArray, List.getElem_cons_succ, List.getElem_cons_zero, List.setIfInBounds_toArray, List.set_cons_zero, List.set_cons_succ]
      refine wpAnyH_ready (rs := [7]) (by kernel_rfl) (by simp) (AllReadyH.cons rfl (fun K hK => ?_) AllReadyH.nil)
      rw [if_pos (by rfl)]
      refine wp_append_at _ (.tmp 21) (.tmp 23) 26 rfl 0 30 i0 (.agg #[.int .u8 0, .string ⟨#[]⟩, .string ⟨#[]⟩, .string ⟨#[]⟩]) 4 56 Try.underlying26 hi hz0 hz1 hz2 rfl (by decide) (.slice aR n0 capR) n0 (flatT T) rfl HROW.out ⟨w5.heap.size, 0, none⟩ 1 1 [.int .u8 kind, .string ctx, .string res, .string org] rfl rfl HTC.out (one4 _ _ _ _) (by unfold maxLen; omega) (by omega) (Nat.zero_le _) (by decide) ?_
      intro v3 w7 hown7 hg7 hk7
      obtain ⟨g3, cap3, rfl⟩ : ∃ g c, v3 = .slice (some ⟨g, 0, none⟩) (n0 + 1) c := by
        rcases hown7.2 with ⟨_, hz⟩ | ⟨g, c, cur, hz, _⟩
        · omega
        · exact ⟨g, c, hz⟩
      have HFIN := Lib.hid (HPUT.out _ w7 hown7 hg7 hk7)
      obtain ⟨c7, f7, hHB, _⟩ := HPUT.out _ w7 hown7 hg7 hk7
      clear hown7 hg7 hk7
      have HHB := Lib.hid hHB
      clear hHB
      refine hK.out _ _ HHB.out (fun hHeld => ?_)
      clear hK K
      try simp only [Act.put, List.getElem_toArray, List.getElem_cons_succ, List.getElem_cons_zero, List.setIfInBounds_toArray, List.set_cons_zero, List.set_cons_succ]
      refine wpAnyH_take (i := 8) (v := ?_) rfl (by kernel_rfl) (by kernel_rfl) (by kernel_rfl) (fun _ _ _ h => h) (Or.inl ⟨by rfl, ?hy⟩) (by assumption) ?_
      case hy => intro w hSw; (try dsimp only at hSw); go_simp; try with_reducible rfl
      try simp only [Act.put, List.getElem_toArray, List.getElem_cons_succ, List.getElem_cons_zero, List.setIfInBounds_toArray, List.set_cons_zero, List.set_cons_succ]
      refine wpAnyH_take (i := 9) (v := ?_) rfl (by kernel_rfl) (by kernel_rfl) (by kernel_rfl) (fun _ _ _ h => h) (Or.inl ⟨by rfl, ?hy⟩) (by assumption) ?_
      case hy => intro w hSw; (try dsimp only at hSw); go_simp; try with_reducible rfl
      try simp only [Act.put, List.getElem_toArray, List.getElem_cons_succ, List.getElem_cons_zero, List.setIfInBounds_toArray, List.set_cons_zero, List.set_cons_succ]
      refine wpAnyH_ready (rs := [10]) (by kernel_rfl) (by simp) (AllReadyH.cons rfl (fun K hK => ?_) AllReadyH.nil)
      go_simp
      skip
      try (go_wp2_with fail)
      refine hK.out _ _ ?_ (fun hHeld => ?_)
      · exact four_far hHeld HNE.out
      clear hK K
      try simp only [Act.put, List.getElem_toArray, List.getElem_cons_succ, List.getElem_cons_zero, List.setIfInBounds_toArray, List.set_cons_zero, List.set_cons_succ]
      refine wpAnyH_done (by kernel_rfl) ?_ _
      refine NoPanic.normal ?_
      go_wp2_with (fail)
      go_end0
      have hfin := HFIN.out.2.2.2
      rw [← HN0.out] at hfin ⊢
      exact ⟨rfl, hfin⟩
    · go_simp
      try (go_wp2_with fail)
      refine hK.out _ _ ?_ (fun hHeld => ?_)
      · exact four_alloc hHeld
      clear hK K
      try simp only [Act.put, List.getElem_toArray, List.getElem_cons_succ, List.getElem_cons_zero, List.setIfInBounds_toArray, List.set_cons_zero, List.set_cons_succ]
      refine wpAnyH_ready (rs := [4]) (by kernel_rfl) (by simp) (AllReadyH.cons rfl (fun K hK => ?_) AllReadyH.nil)
      go_simp
      skip
      try (go_wp2_with fail)
      refine hK.out _ _ ?_ (fun hHeld => ?_)
      · exact hHeld
      clear hK K
      try simp only [Act.put, List.getElem_toArray, List.getElem_cons_succ, List.getElem_cons_zero, List.setIfInBounds_toArray, List.set_cons_zero, List.set_cons_succ]
      refine wpAnyH_ready (rs := [7]) (by kernel_rfl) (by simp) (AllReadyH.cons rfl (fun K hK => ?_) AllReadyH.nil)
      rw [if_pos (by rfl)]
      refine wp_append_at _ (.tmp 21) (.tmp 23) 26 rfl 0 30 i0 (.agg #[.int .u8 0, .string ⟨#[]⟩, .string ⟨#[]⟩, .string ⟨#[]⟩]) 4 56 Try.underlying26 hi hz0 hz1 hz2 rfl (by decide) (.slice aR n0 capR) n0 (flatT T) rfl HROW.out ⟨w5.heap.size, 0, none⟩ 1 1 [.int .u8 kind, .string ctx, .string res, .string org] rfl rfl HTC.out (one4 _ _ _ _) (by unfold maxLen; omega) (by omega) (Nat.zero_le _) (by decide) ?_
      intro v3 w7 hown7 hg7 hk7
      obtain ⟨g3, cap3, rfl⟩ : ∃ g c, v3 = .slice (some ⟨g, 0, none⟩) (n0 + 1) c := by
        rcases hown7.2 with ⟨_, hz⟩ | ⟨g, c, cur, hz, _⟩
        · omega
        · exact ⟨g, c, hz⟩
      have HFIN := Lib.hid (HPUT.out _ w7 hown7 hg7 hk7)
      obtain ⟨c7, f7, hHB, _⟩ := HPUT.out _ w7 hown7 hg7 hk7
      clear hown7 hg7 hk7
      have HHB := Lib.hid hHB
      clear hHB
      refine hK.out _ _ HHB.out (fun hHeld => ?_)
      clear hK K
      try simp only [Act.put, List.getElem_toArray, List.getElem_cons_succ, List.getElem_cons_zero, List.setIfInBounds_toArray, List.set_cons_zero, List.set_cons_succ]
      refine wpAnyH_take (i := 8) (v := ?_) rfl (by kernel_rfl) (by kernel_rfl) (by kernel_rfl) (fun _ _ _ h => h) (Or.inl ⟨by rfl, ?hy⟩) (by assumption) ?_
      case hy => intro w hSw; (try dsimp only at hSw); go_simp; try with_reducible rfl
      try simp only [Act.put, List.getElem_toArray, List.getElem_cons_succ, List.getElem_cons_zero, List.setIfInBounds_toArray, List.set_cons_zero, List.set_cons_succ]
      refine wpAnyH_take (i := 9) (v := ?_) rfl (by kernel_rfl) (by kernel_rfl) (by kernel_rfl) (fun _ _ _ h => h) (Or.inl ⟨by rfl, ?hy⟩) (by assumption) ?_
      case hy => intro w hSw; (try dsimp only at hSw); go_simp; try with_reducible rfl
      try simp only [Act.put, List.getElem_toArray, List.getElem_cons_succ, List.getElem_cons_zero, List.setIfInBounds_toArray, List.set_cons_zero, List.set_cons_succ]
      refine wpAnyH_ready (rs := [10]) (by kernel_rfl) (by simp) (AllReadyH.cons rfl (fun K hK => ?_) AllReadyH.nil)
      go_simp
      skip
      try (go_wp2_with fail)
      refine hK.out _ _ ?_ (fun hHeld => ?_)
      · exact four_far hHeld HNE.out
      clear hK K
      try simp only [Act.put, List.getElem_toArray, List.getElem_cons_succ, List.getElem_cons_zero, List.setIfInBounds_toArray, List.set_cons_zero, List.set_cons_succ]
      refine wpAnyH_done (by kernel_rfl) ?_ _
      refine NoPanic.normal ?_
      go_wp2_with (fail)
      go_end0
      have hfin := HFIN.out.2.2.2
      rw [← HN0.out] at hfin ⊢
      exact ⟨rfl, hfin⟩
end Go.Proofs.Ytpbbidijnmooaaa
