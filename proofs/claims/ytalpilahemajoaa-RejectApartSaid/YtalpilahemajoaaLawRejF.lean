/- The laws of the layer reject: RejectApart. -/
import Derived.Test.YtalpilahemajoaaLawRejE
namespace Go.Proofs.Ytalpilahemajoaa
open Go.RowKit
set_option linter.unusedVariables false
set_option linter.unusedSimpArgs false

theorem wp_append_fl {P : Program} (w : World) {o : Oper} {a : Act} {K : Act → World → Prop} {Q : Exit → Act → World → Prop} (s x : Operand) (t : TypeId)
    (ho : o.op = .call { callee := .builtin .append, args := #[s, x], argTypes := #[t, t] })
    (base : Nat) (e : TypeId) (i : TypeInfo) (z : Value) (size bytes : Nat) (ht : P.underlying t = some (.slice e)) (hi : P.info? e = some i) (hz : i.zero = some z)
    (hsize : i.size = size) (hby : i.bytes = bytes) (hzs : z.cells.size = size) (hsz : 0 < size)
    (v : Value) (n : Nat) (xs : List Value) (hs : a.eval s = v) (hown : w.ownsRow base e size v n xs)
    (ad : Option Addr) (m c : Nat) (news : List Value) (hx : a.eval x = .slice ad m c) (hnil : ad = none → m = 0 ∧ c = 0) (hl : news.length = m * size) (hnews : ∀ b, ad = some b → ∀ j u, news[j]? = some u → w.cell? (b.add j) = some u) (h1 : ∀ u ∈ news, u.oneCell' = true)
    (h63 : n + m ≤ maxLen) (hbytes : (n + m) * bytes ≤ 140737488355328) (hbase : base ≤ w.heap.size)
    (h : ∀ v' w', w'.ownsRow base e size v' (n + m) (xs ++ news) → w.grownBy w' v.ownBlock → K (a.put o.dst v') w') : o.wp P a w K Q := by
  rcases ad with _ | b
  · obtain ⟨rfl, rfl⟩ := hnil rfl
    obtain rfl : news = [] := List.length_eq_zero_iff.1 (by omega)
    refine wp_append_none s x t ho base e i size ht hi v n xs hs hown hx (h _ _ (by rw [List.append_nil]; exact hown) ⟨rfl, rfl, rfl, Nat.le_refl _, fun _ _ _ => rfl⟩)
  · exact wp_append_own w s x t ho base e i z size bytes ht hi hz hsize hby hzs hsz v n xs hs hown b m c news hx hl (hnews b rfl) h1 h63 hbytes hbase (fun v' w' p q _ => h v' w' p q)

set_option maxHeartbeats 6400000 in
set_option maxRecDepth 100000 in
theorem rejapart_law (w : World) (fs : List FlowS) (a : Option Addr) (len cap : Nat) (hl : fs.length = len) (hm : len * 120 ≤ 140737488351232) (hf : FlowsAt w a fs) (hnil : a = none → len = 0 ∧ cap = 0) (c : CallS) (hargs : c.args.oneCell' = true) (o : FlowS) :
    Calls Try.prog 4 #[.slice a len cap, c.v, o.v] w fun e w' => e = .returned (.bool true) ∧ Below w.heap.size w w' := by
  obtain ⟨i0, hi, hz0, hz1, hz2⟩ := info_parts info_flowA
  have Hl := Lib.hid hl
  have CEQ : c.v = .agg #[.int .i64 c.at_, .string c.res, .string c.ctx, .string c.org, .bool c.inb, .int .i64 c.cnt, c.args] := rfl
  have OEQ : o.v = .agg #[.string o.res, .string o.org, .bool o.thr, .int .i64 o.cnt, .int .u8 o.strat, .string o.ref, .int .u8 o.shape, .int .i64 o.warm, .int .i64 o.queue, .bool o.cl, .int .i64 o.id, .bool o.fb] := rfl
  have HLV := Lib.hid (fun (w : World) => rejlive_any w)
  have HM := Lib.hid (fun (wx : World) (hb : Below w.heap.size w wx) => mine_call a len cap fs c hargs wx hl (by omega) (hf.below (Nat.le_refl _) hb))
  have HM2 := Lib.hid (fun (a' : Option Addr) (cap' : Nat) (wx : World) (hb : FlowsAt wx a' (o :: fs)) => mine_call a' (1 + len) cap' (o :: fs) c hargs wx (by rw [List.length_cons, hl]; omega) (by omega) hb)
  rw [CEQ] at HM HM2
  rw [CEQ, OEQ]
  have B1 := ((Below.refl w.heap.size w).alloc (Nat.le_refl _) (.cells #[.int .i64 c.at_, .string c.res, .string c.ctx, .string c.org, .bool c.inb, .int .i64 c.cnt, c.args] 34)).alloc (by simp) (.cells #[.string o.res, .string o.org, .bool o.thr, .int .i64 o.cnt, .int .u8 o.strat, .string o.ref, .int .u8 o.shape, .int .i64 o.warm, .int .i64 o.queue, .bool o.cl, .int .i64 o.id, .bool o.fb] 25)
  have H1 : ((w.alloc (.cells #[.int .i64 c.at_, .string c.res, .string c.ctx, .string c.org, .bool c.inb, .int .i64 c.cnt, c.args] 34)).alloc (.cells #[.string o.res, .string o.org, .bool o.thr, .int .i64 o.cnt, .int .u8 o.strat, .string o.ref, .int .u8 o.shape, .int .i64 o.warm, .int .i64 o.queue, .bool o.cl, .int .i64 o.id, .bool o.fb] 25)).heap[w.heap.size]? = some (.cells #[.int .i64 c.at_, .string c.res, .string c.ctx, .string c.org, .bool c.inb, .int .i64 c.cnt, c.args] 34) := by
    rw [Below.heap_alloc _ _ _ (by simp)]
    exact World.alloc_heap_new w _
  have H2 : ((w.alloc (.cells #[.int .i64 c.at_, .string c.res, .string c.ctx, .string c.org, .bool c.inb, .int .i64 c.cnt, c.args] 34)).alloc (.cells #[.string o.res, .string o.org, .bool o.thr, .int .i64 o.cnt, .int .u8 o.strat, .string o.ref, .int .u8 o.shape, .int .i64 o.warm, .int .i64 o.queue, .bool o.cl, .int .i64 o.id, .bool o.fb] 25)).heap[w.heap.size + 1]? = some (.cells #[.string o.res, .string o.org, .bool o.thr, .int .i64 o.cnt, .int .u8 o.strat, .string o.ref, .int .u8 o.shape, .int .i64 o.warm, .int .i64 o.queue, .bool o.cl, .int .i64 o.id, .bool o.fb] 25) := by
    have := World.alloc_heap_new (w.alloc (.cells #[.int .i64 c.at_, .string c.res, .string c.ctx, .string c.org, .bool c.inb, .int .i64 c.cnt, c.args] 34)) (.cells #[.string o.res, .string o.org, .bool o.thr, .int .i64 o.cnt, .int .u8 o.strat, .string o.ref, .int .u8 o.shape, .int .i64 o.warm, .int .i64 o.queue, .bool o.cl, .int .i64 o.id, .bool o.fb] 25)
    rwa [World.size_alloc] at this
  have Z0 : ((w.alloc (.cells #[.int .i64 c.at_, .string c.res, .string c.ctx, .string c.org, .bool c.inb, .int .i64 c.cnt, c.args] 34)).alloc (.cells #[.string o.res, .string o.org, .bool o.thr, .int .i64 o.cnt, .int .u8 o.strat, .string o.ref, .int .u8 o.shape, .int .i64 o.warm, .int .i64 o.queue, .bool o.cl, .int .i64 o.id, .bool o.fb] 25)).heap.size = w.heap.size + 2 := by simp
  cases hE : (o.res.toList == c.res.toList)
  · have hME := Lib.hid (mine_cons (fs := fs) hE)
    have hBD := Lib.hid (fun x hx => mine_bd (fs := fs) (c := c) (x := x) hx)
    go_enter Try.func4, Try.ntmps4
    go_wp2_with (fail)
    generalize ((w.alloc (.cells #[.int .i64 c.at_, .string c.res, .string c.ctx, .string c.org, .bool c.inb, .int .i64 c.cnt, c.args] 34)).alloc (.cells #[.string o.res, .string o.org, .bool o.thr, .int .i64 o.cnt, .int .u8 o.strat, .string o.ref, .int .u8 o.shape, .int .i64 o.warm, .int .i64 o.queue, .bool o.cl, .int .i64 o.id, .bool o.fb] 25)) = w2 at *
    refine (HM.out _ B1).mono ?_
    rintro e wa ⟨⟨v1, rfl, hr1⟩, ha⟩
    obtain ⟨a1, c1, rfl, hi1, hn1⟩ := IntsAt.own hr1
    have hza := ha.size
    have hBA : Below w.heap.size w wa := B1.trans (ha.mono B1.size)
    have SB := Lib.hid (show ∀ wx : World, Below wa.heap.size wa wx → (fun wx => (wx.cell? ⟨w.heap.size, 0, none⟩ = some (.int .i64 c.at_) ∧ wx.cell? ⟨w.heap.size, 1, none⟩ = some (.string c.res) ∧ wx.cell? ⟨w.heap.size, 2, none⟩ = some (.string c.ctx) ∧ wx.cell? ⟨w.heap.size, 3, none⟩ = some (.string c.org) ∧ wx.cell? ⟨w.heap.size, 4, none⟩ = some (.bool c.inb) ∧ wx.cell? ⟨w.heap.size, 5, none⟩ = some (.int .i64 c.cnt) ∧ wx.cell? ⟨w.heap.size, 6, none⟩ = some (c.args) ∧ wx.cell? ⟨w.heap.size + 1, 0, none⟩ = some (.string o.res) ∧ wx.cell? ⟨w.heap.size + 1, 1, none⟩ = some (.string o.org) ∧ wx.cell? ⟨w.heap.size + 1, 2, none⟩ = some (.bool o.thr) ∧ wx.cell? ⟨w.heap.size + 1, 3, none⟩ = some (.int .i64 o.cnt) ∧ wx.cell? ⟨w.heap.size + 1, 4, none⟩ = some (.int .u8 o.strat) ∧ wx.cell? ⟨w.heap.size + 1, 5, none⟩ = some (.string o.ref) ∧ wx.cell? ⟨w.heap.size + 1, 6, none⟩ = some (.int .u8 o.shape) ∧ wx.cell? ⟨w.heap.size + 1, 7, none⟩ = some (.int .i64 o.warm) ∧ wx.cell? ⟨w.heap.size + 1, 8, none⟩ = some (.int .i64 o.queue) ∧ wx.cell? ⟨w.heap.size + 1, 9, none⟩ = some (.bool o.cl) ∧ wx.cell? ⟨w.heap.size + 1, 10, none⟩ = some (.int .i64 o.id) ∧ wx.cell? ⟨w.heap.size + 1, 11, none⟩ = some (.bool o.fb)) ∧ Below wa.heap.size wa wx) wx from fun wx hb => by
      have g1 : wx.heap[w.heap.size]? = some (.cells #[.int .i64 c.at_, .string c.res, .string c.ctx, .string c.org, .bool c.inb, .int .i64 c.cnt, c.args] 34) := (hb.block _ (by omega)).trans ((ha.block _ (by omega)).trans H1)
      have g2 : wx.heap[w.heap.size + 1]? = some (.cells #[.string o.res, .string o.org, .bool o.thr, .int .i64 o.cnt, .int .u8 o.strat, .string o.ref, .int .u8 o.shape, .int .i64 o.warm, .int .i64 o.queue, .bool o.cl, .int .i64 o.id, .bool o.fb] 25) := (hb.block _ (by omega)).trans ((ha.block _ (by omega)).trans H2)
      refine ⟨?_, hb⟩
      simp only [World.cell?, g1, g2]
      repeat' apply And.intro
      all_goals rfl)
    have SS := Lib.hid (show ∀ wb wc : World, (fun wx => (wx.cell? ⟨w.heap.size, 0, none⟩ = some (.int .i64 c.at_) ∧ wx.cell? ⟨w.heap.size, 1, none⟩ = some (.string c.res) ∧ wx.cell? ⟨w.heap.size, 2, none⟩ = some (.string c.ctx) ∧ wx.cell? ⟨w.heap.size, 3, none⟩ = some (.string c.org) ∧ wx.cell? ⟨w.heap.size, 4, none⟩ = some (.bool c.inb) ∧ wx.cell? ⟨w.heap.size, 5, none⟩ = some (.int .i64 c.cnt) ∧ wx.cell? ⟨w.heap.size, 6, none⟩ = some (c.args) ∧ wx.cell? ⟨w.heap.size + 1, 0, none⟩ = some (.string o.res) ∧ wx.cell? ⟨w.heap.size + 1, 1, none⟩ = some (.string o.org) ∧ wx.cell? ⟨w.heap.size + 1, 2, none⟩ = some (.bool o.thr) ∧ wx.cell? ⟨w.heap.size + 1, 3, none⟩ = some (.int .i64 o.cnt) ∧ wx.cell? ⟨w.heap.size + 1, 4, none⟩ = some (.int .u8 o.strat) ∧ wx.cell? ⟨w.heap.size + 1, 5, none⟩ = some (.string o.ref) ∧ wx.cell? ⟨w.heap.size + 1, 6, none⟩ = some (.int .u8 o.shape) ∧ wx.cell? ⟨w.heap.size + 1, 7, none⟩ = some (.int .i64 o.warm) ∧ wx.cell? ⟨w.heap.size + 1, 8, none⟩ = some (.int .i64 o.queue) ∧ wx.cell? ⟨w.heap.size + 1, 9, none⟩ = some (.bool o.cl) ∧ wx.cell? ⟨w.heap.size + 1, 10, none⟩ = some (.int .i64 o.id) ∧ wx.cell? ⟨w.heap.size + 1, 11, none⟩ = some (.bool o.fb)) ∧ Below wa.heap.size wa wx) wb → Below wb.heap.size wb wc → (fun wx => (wx.cell? ⟨w.heap.size, 0, none⟩ = some (.int .i64 c.at_) ∧ wx.cell? ⟨w.heap.size, 1, none⟩ = some (.string c.res) ∧ wx.cell? ⟨w.heap.size, 2, none⟩ = some (.string c.ctx) ∧ wx.cell? ⟨w.heap.size, 3, none⟩ = some (.string c.org) ∧ wx.cell? ⟨w.heap.size, 4, none⟩ = some (.bool c.inb) ∧ wx.cell? ⟨w.heap.size, 5, none⟩ = some (.int .i64 c.cnt) ∧ wx.cell? ⟨w.heap.size, 6, none⟩ = some (c.args) ∧ wx.cell? ⟨w.heap.size + 1, 0, none⟩ = some (.string o.res) ∧ wx.cell? ⟨w.heap.size + 1, 1, none⟩ = some (.string o.org) ∧ wx.cell? ⟨w.heap.size + 1, 2, none⟩ = some (.bool o.thr) ∧ wx.cell? ⟨w.heap.size + 1, 3, none⟩ = some (.int .i64 o.cnt) ∧ wx.cell? ⟨w.heap.size + 1, 4, none⟩ = some (.int .u8 o.strat) ∧ wx.cell? ⟨w.heap.size + 1, 5, none⟩ = some (.string o.ref) ∧ wx.cell? ⟨w.heap.size + 1, 6, none⟩ = some (.int .u8 o.shape) ∧ wx.cell? ⟨w.heap.size + 1, 7, none⟩ = some (.int .i64 o.warm) ∧ wx.cell? ⟨w.heap.size + 1, 8, none⟩ = some (.int .i64 o.queue) ∧ wx.cell? ⟨w.heap.size + 1, 9, none⟩ = some (.bool o.cl) ∧ wx.cell? ⟨w.heap.size + 1, 10, none⟩ = some (.int .i64 o.id) ∧ wx.cell? ⟨w.heap.size + 1, 11, none⟩ = some (.bool o.fb)) ∧ Below wa.heap.size wa wx) wc from fun wb wc hs hb => SB.out wc (hs.2.trans (hb.mono hs.2.size)))
    have HS0 := Lib.hid (SB.out _ (Below.refl _ _).drew)
    have hgs : ∀ wx : World, Below wa.heap.size wa wx → wa.heap.size ≤ wx.heap.size := fun wx hb => hb.size
    have HNW := Lib.hid (show ∀ wx : World, Below wa.heap.size wa wx → ∀ ad, a = some ad → ∀ j u, (flatF fs)[j]? = some u → (wx.alloc (.cells #[.string o.res, .string o.org, .bool o.thr, .int .i64 o.cnt, .int .u8 o.strat, .string o.ref, .int .u8 o.shape, .int .i64 o.warm, .int .i64 o.queue, .bool o.cl, .int .i64 o.id, .bool o.fb] 25)).cell? (ad.add j) = some u from fun wx hb ad e j u hu => by
      rcases hf with h | ⟨b, off, rfl, hlt, hc⟩
      · subst h; cases j <;> simp [flatF] at hu
      · obtain rfl : (⟨b, off, none⟩ : Addr) = ad := by simpa using e
        have hbx : b < wx.heap.size := Nat.lt_of_lt_of_le hlt (Nat.le_trans hBA.size hb.size)
        refine flat_cells (fun j f hj => ((hc j f hj).of_block ((hb.block b (by have := hBA.size; omega)).trans (hBA.block b hlt))).of_block (Below.heap_alloc _ _ _ hbx)) j u hu)
    clear H1 H2 Z0 CEQ OEQ HM hl hf hr1
    go_wp2_with (fail)
    refine wp_region_held_drew (S := fun wx => (wx.cell? ⟨w.heap.size, 0, none⟩ = some (.int .i64 c.at_) ∧ wx.cell? ⟨w.heap.size, 1, none⟩ = some (.string c.res) ∧ wx.cell? ⟨w.heap.size, 2, none⟩ = some (.string c.ctx) ∧ wx.cell? ⟨w.heap.size, 3, none⟩ = some (.string c.org) ∧ wx.cell? ⟨w.heap.size, 4, none⟩ = some (.bool c.inb) ∧ wx.cell? ⟨w.heap.size, 5, none⟩ = some (.int .i64 c.cnt) ∧ wx.cell? ⟨w.heap.size, 6, none⟩ = some (c.args) ∧ wx.cell? ⟨w.heap.size + 1, 0, none⟩ = some (.string o.res) ∧ wx.cell? ⟨w.heap.size + 1, 1, none⟩ = some (.string o.org) ∧ wx.cell? ⟨w.heap.size + 1, 2, none⟩ = some (.bool o.thr) ∧ wx.cell? ⟨w.heap.size + 1, 3, none⟩ = some (.int .i64 o.cnt) ∧ wx.cell? ⟨w.heap.size + 1, 4, none⟩ = some (.int .u8 o.strat) ∧ wx.cell? ⟨w.heap.size + 1, 5, none⟩ = some (.string o.ref) ∧ wx.cell? ⟨w.heap.size + 1, 6, none⟩ = some (.int .u8 o.shape) ∧ wx.cell? ⟨w.heap.size + 1, 7, none⟩ = some (.int .i64 o.warm) ∧ wx.cell? ⟨w.heap.size + 1, 8, none⟩ = some (.int .i64 o.queue) ∧ wx.cell? ⟨w.heap.size + 1, 9, none⟩ = some (.bool o.cl) ∧ wx.cell? ⟨w.heap.size + 1, 10, none⟩ = some (.int .i64 o.id) ∧ wx.cell? ⟨w.heap.size + 1, 11, none⟩ = some (.bool o.fb)) ∧ Below wa.heap.size wa wx) (by kernel_rfl) ?_ (fun hHeld => ?_)
    · exact HS0.out
    refine wpAnyH_take (i := 0) (v := ?_) rfl (by kernel_rfl) (by kernel_rfl) (by kernel_rfl) (fun _ _ _ h => h) (Or.inl ⟨by rfl, ?hy⟩) (by assumption) ?_
    case hy => intro w hSw; (try dsimp only at hSw); go_simp; try with_reducible rfl
    try simp only [Act.put, List.getElem_toArray, List.getElem_cons_succ, List.getElem_cons_zero, List.setIfInBounds_toArray, List.set_cons_zero, List.set_cons_succ]
    refine wpAnyH_take (i := 2) (v := ?_) rfl (by kernel_rfl) (by kernel_rfl) (by kernel_rfl) (fun _ _ _ h => h) (Or.inl ⟨by rfl, ?hy⟩) (by assumption) ?_
    case hy => intro w hSw; (try dsimp only at hSw); go_simp; try with_reducible rfl
    try simp only [Act.put, List.getElem_toArray, List.getElem_cons_succ, List.getElem_cons_zero, List.setIfInBounds_toArray, List.set_cons_zero, List.set_cons_succ]
    refine wpAnyH_take (i := 4) (v := ?_) rfl (by kernel_rfl) (by kernel_rfl) (by kernel_rfl) (fun _ _ _ h => h) (Or.inl ⟨by rfl, ?hy⟩) (by assumption) ?_
    case hy => intro w hSw; (try dsimp only at hSw); go_simp; try with_reducible rfl
    try simp only [Act.put, List.getElem_toArray, List.getElem_cons_succ, List.getElem_cons_zero, List.setIfInBounds_toArray, List.set_cons_zero, List.set_cons_succ]
    refine wpAnyH_ready (rs := [1]) (by kernel_rfl) (by simp) (AllReadyH.cons rfl (fun K hK => ?_) AllReadyH.nil)
    go_simp
    skip
    try (go_wp2_with fail)
    refine hK.out _ _ ?_ (fun hHeld => ?_)
    · exact SS.out _ _ hHeld ((Below.refl _ _).alloc (Nat.le_refl _) _)
    clear hK K
    try simp only [Act.put, List.getElem_toArray, List.getElem_cons_succ, List.getElem_cons_zero, List.setIfInBounds_toArray, List.set_cons_zero, List.set_cons_succ]
    have hbS := hHeld.2
    refine wpAnyH_ready (rs := [3]) (by kernel_rfl) (by simp) (AllReadyH.cons rfl (fun K hK => ?_) AllReadyH.nil)
    rw [if_pos (by rfl)]
    refine wp_append_fl _ (.tmp 20) (.tmp 21) 31 rfl wa.heap.size 25 i0 _ 12 120 Try.underlying31 hi hz0 hz1 hz2 rfl (by decide) (.slice (some ⟨wa.heap.size, 0, none⟩) 1 1) 1 _ rfl (World.ownsRow_lit _ #[.string o.res, .string o.org, .bool o.thr, .int .i64 o.cnt, .int .u8 o.strat, .string o.ref, .int .u8 o.shape, .int .i64 o.warm, .int .i64 o.queue, .bool o.cl, .int .i64 o.id, .bool o.fb] 1 (Nat.le_refl _) (by decide) rfl) a len cap (flatF fs) rfl hnil (by rw [flat_len, Hl.out]) ?n1 flat_one (by unfold maxLen; omega) (by omega) ?n2 ?n3
    case n1 => exact fun ad e => HNW.out wa (Below.refl _ _) ad e
    case n2 => simp
    case n3 =>
      intro v' w' hown hgr
      have hbA : Below wa.heap.size wa w' := ((Below.refl _ _).alloc (Nat.le_refl _) _).drew.grown hgr (by simp) (fun k e => by
        have : wa.heap.size = k := by simpa [Value.ownBlock] using e
        omega)
      obtain ⟨a2, c2, rfl, hfl2, _⟩ := flows_own (fs := o :: fs) hown
      refine hK.out _ _ (SB.out _ hbA) (fun hHeld => ?_)
      clear hK K
      try simp only [Act.put, List.getElem_toArray, List.getElem_cons_succ, List.getElem_cons_zero, List.setIfInBounds_toArray, List.set_cons_zero, List.set_cons_succ]
      refine wpAnyH_ready (rs := [5]) (by kernel_rfl) (by simp) (AllReadyH.cons rfl (fun K hK => ?_) AllReadyH.nil)
      go_simp
      go_at_call 9
      refine (HM2.out _ _ _ hfl2).mono ?_
      rintro e wb ⟨⟨v2, rfl, hr2⟩, hb⟩
      obtain ⟨a3, c3, rfl, hi3, hn3⟩ := IntsAt.own hr2
      try (go_wp2_with fail)
      have hbB : Below wa.heap.size wa wb := hbA.trans (hb.mono hbA.size)
      refine hK.out _ _ (SB.out _ hbB) (fun hHeld => ?_)
      clear hK K
      try simp only [Act.put, List.getElem_toArray, List.getElem_cons_succ, List.getElem_cons_zero, List.setIfInBounds_toArray, List.set_cons_zero, List.set_cons_succ]
      refine wpAnyH_take (i := 6) (v := ?_) rfl (by kernel_rfl) (by kernel_rfl) (by kernel_rfl) (fun _ _ _ h => h) (Or.inl ⟨by rfl, ?hy⟩) (by assumption) ?_
      case hy => intro w hSw; (try dsimp only at hSw); go_simp; try with_reducible rfl
      try simp only [Act.put, List.getElem_toArray, List.getElem_cons_succ, List.getElem_cons_zero, List.setIfInBounds_toArray, List.set_cons_zero, List.set_cons_succ]
      refine wpAnyH_done (by kernel_rfl) ?_ _
      have HI1 := Lib.hid (hi1.below' hbB)
      rw [hME.out] at hi3
      have hlen3 : (mineN (o :: fs) c).length = (mineN fs c).length := by rw [hME.out, List.length_map]
      rw [hlen3]
      have HI3 := Lib.hid hi3
      have hXm : (mineN fs c).length ≤ len := by
        have h1 := outN_le c (came fs c fs.length)
        have h2 := came_le fs c fs.length
        have h3 := Hl.out
        unfold mineN
        omega
      have hBX := Lib.hid (show ∀ x ∈ mineN fs c, 0 ≤ x ∧ x < len from fun x hx => by have := hBD.out x hx; rw [Hl.out] at this; exact this)
      generalize mineN fs c = XS at *
      have hBW : Below w.heap.size w wb := hBA.trans (hbB.mono hBA.size)
      clear hHeld hi3 hlen3 hME hBD hr2 hn3 hfl2 hown hgr hb hbA hbS SB SS HS0 HNW hgs hi1 hn1 HM2 ha B1 hza hBA hbB
      go_wp2_with (fail)
      go_loopw [9] (fun i wr => ∃ k : Nat, k ≤ XS.length ∧ i = .int .i64 k ∧ Below wb.heap.size wb wr) (fun i _ => XS.length - (intOf i).toNat)
      case atStart => exact ⟨0, Nat.zero_le _, rfl, Below.refl _ _⟩
      case round =>
        obtain ⟨k, hk, rfl, hbr⟩ := hrel
        by_cases hlt : k < XS.length
        · rcases HI1.out.below' hbr with h | ⟨b1, o1, rfl, hlt1, hc1⟩
          · exfalso; subst h; simp at hlt
          · rcases HI3.out.below' hbr with h | ⟨b2, o2, rfl, hlt2, hc2⟩
            · exfalso; have := congrArg List.length h; simp at this; subst this; simp at hlt
            · have d1 := hc1 k hlt
              have d2 := hc2 k (by rw [List.length_map]; exact hlt)
              have hx : XS.getD k 0 ∈ XS := by rw [List.getD, List.getElem?_eq_getElem hlt]; exact List.getElem_mem hlt
              obtain ⟨hx0, hx1⟩ := hBX.out _ hx
              have hm1 : (XS.map (· + 1)).getD k 0 = XS.getD k 0 + 1 := by simp [List.getD, List.getElem?_eq_getElem hlt]
              rw [hm1] at d2
              generalize XS.getD k 0 = X at *
              clear hc1 hc2 hm1 hx
              have k0 : (0 : Int) ≤ k := by omega
              have k1 : (k : Int) < XS.length := by omega
              have hw : IntKind.i64.wrap (X + 1) = X + 1 := by
                rw [IntKind.wrap_i64]; omega
              have hne : (X + 1 != X + 1) = false := by simp
              go_wp2_with (fail)
              go_quiet (fail)
              go_wp2_with (fail)
              exact ⟨⟨k + 1, by omega, by go_num, below_drewF hbr _⟩, by simp [intOf]; omega⟩
        · have hkl : k = XS.length := by omega
          subst hkl
          go_wp2_with (fail)
          refine (HLV.out _).mono ?_
          rintro e wf ⟨rfl, hbf⟩
          go_wp2_with (fail)
          go_ret
          have hbW2 : Below w.heap.size w _ := hBW.trans (hbr.mono hBW.size)
          exact ⟨rfl, hbW2.trans (hbf.mono hbW2.size)⟩

  · go_enter Try.func4, Try.ntmps4
    go_wp2_with (fail)
    generalize ((w.alloc (.cells #[.int .i64 c.at_, .string c.res, .string c.ctx, .string c.org, .bool c.inb, .int .i64 c.cnt, c.args] 34)).alloc (.cells #[.string o.res, .string o.org, .bool o.thr, .int .i64 o.cnt, .int .u8 o.strat, .string o.ref, .int .u8 o.shape, .int .i64 o.warm, .int .i64 o.queue, .bool o.cl, .int .i64 o.id, .bool o.fb] 25)) = w2 at *
    refine (HLV.out _).mono ?_
    rintro e wb ⟨rfl, hb⟩
    go_wp2_with (fail)
    go_ret
    exact ⟨rfl, B1.trans (hb.mono B1.size)⟩

set_option maxHeartbeats 1600000 in
theorem rejapart_walk (w : World) (a : Option Addr) (len cap : Nat) (V : Nat → Nat → Value) (hm : len ≤ 140737488351232) (hr : RecsAt w a 12 len V) (hB : len * 120 ≤ 140737488351232) (hnn : a = none → len = 0 ∧ cap = 0)
    (f0 : ∀ j, j < len → V j 0 = .string (strOf (V j 0))) (f1 : ∀ j, j < len → V j 1 = .string (strOf (V j 1))) (f2 : ∀ j, j < len → V j 2 = .bool (boolOf (V j 2)))
    (f3 : ∀ j, j < len → V j 3 = .int .i64 (intOf (V j 3)) ∧ (Lit.int .i64 (intOf (V j 3))).wf = true) (f4 : ∀ j, j < len → V j 4 = .int .u8 (intOf (V j 4)) ∧ (Lit.int .u8 (intOf (V j 4))).wf = true)
    (f5 : ∀ j, j < len → V j 5 = .string (strOf (V j 5))) (f6 : ∀ j, j < len → V j 6 = .int .u8 (intOf (V j 6)) ∧ (Lit.int .u8 (intOf (V j 6))).wf = true)
    (f7 : ∀ j, j < len → V j 7 = .int .i64 (intOf (V j 7)) ∧ (Lit.int .i64 (intOf (V j 7))).wf = true) (f8 : ∀ j, j < len → V j 8 = .int .i64 (intOf (V j 8)) ∧ (Lit.int .i64 (intOf (V j 8))).wf = true)
    (f9 : ∀ j, j < len → V j 9 = .bool (boolOf (V j 9))) (f10 : ∀ j, j < len → V j 10 = .int .i64 (intOf (V j 10)) ∧ (Lit.int .i64 (intOf (V j 10))).wf = true) (f11 : ∀ j, j < len → V j 11 = .bool (boolOf (V j 11)))
    (at_ : Int) (y0 : (Lit.int .i64 at_).wf = true) (res ctx org : ByteArray) (inb : Bool) (cnt : Int) (y5 : (Lit.int .i64 cnt).wf = true) (ba : Option Addr) (bl bc : Nat)
    (s0 s1 : ByteArray) (thr : Bool) (ocnt : Int) (w3 : (Lit.int .i64 ocnt).wf = true) (strat : Int) (w4 : (Lit.int .u8 strat).wf = true) (ref : ByteArray) (shape : Int) (w6 : (Lit.int .u8 shape).wf = true) (warm : Int) (w7 : (Lit.int .i64 warm).wf = true) (queue : Int) (w8 : (Lit.int .i64 queue).wf = true) (cl : Bool) (id : Int) (w10 : (Lit.int .i64 id).wf = true) (fb : Bool) :
    Calls Try.prog 4 #[.slice a len cap, .agg #[.int .i64 at_, .string res, .string ctx, .string org, .bool inb, .int .i64 cnt, .slice ba bl bc], .agg #[.string s0, .string s1, .bool thr, .int .i64 ocnt, .int .u8 strat, .string ref, .int .u8 shape, .int .i64 warm, .int .i64 queue, .bool cl, .int .i64 id, .bool fb]] w fun e w' => e = .returned (.bool true) ∧ Below w.heap.size w w' :=
  rejapart_law w (flowsOf V len) a len cap (flowsOf_length V len) hB (flows_at hr f0 f1 f2 f3 f4 f5 f6 f7 f8 f9 f10 f11) hnn ⟨at_, res, ctx, org, inb, cnt, .slice ba bl bc⟩ rfl ⟨s0, s1, thr, ocnt, strat, ref, shape, warm, queue, cl, id, fb⟩
end Go.Proofs.Ytalpilahemajoaa
