/- reject.Mine: a range over the iterator that collects. -/
import Derived.Test.YtalpilahemajoaaMineA
import Derived.Maps.AppendAt
namespace Go.Proofs.Ytalpilahemajoaa
open Go.RowKit Go.Shelf Go.Maps
set_option linter.unusedVariables false
set_option linter.unusedSimpArgs false
attribute [local go_sem] Oper.semAt_some

def outN (c : CallS) (ps : List (Nat × FlowS)) : List Int := ps.filterMap fun p => if (whereL p.2 c).skip then none else some (p.1 : Int)
theorem outN_yes {c : CallS} {pre : List (Nat × FlowS)} {p : Nat × FlowS} (h : (whereL p.2 c).skip = false) : outN c (pre ++ [p]) = outN c pre ++ [(p.1 : Int)] := by simp [outN, List.filterMap_append, h]
theorem outN_no {c : CallS} {pre : List (Nat × FlowS)} {p : Nat × FlowS} (h : (whereL p.2 c).skip = true) : outN c (pre ++ [p]) = outN c pre := by simp [outN, List.filterMap_append, h]
theorem outN_le (c : CallS) (ps : List (Nat × FlowS)) : (outN c ps).length ≤ ps.length := List.length_filterMap_le _ _
def mineN (fs : List FlowS) (c : CallS) : List Int := outN c (came fs c fs.length)
def intV (xs : List Int) : List Value := xs.map (Value.int .i64)
theorem info_intM : (Try.prog.info? 3).map (fun i => (i.zero, i.size, i.bytes)) = some (some (.int .i64 0), 1, 8) := by kernel_rfl

/-- Between two rounds. -/
structure MineI (w : World) (c : CallS) (pre : List (Nat × FlowS)) (W : World) : Prop where
  out : ∃ v, Boxed W (w.heap.size + 1) 35 v ∧ W.ownsRow (w.heap.size + 4) 3 1 v (outN c pre).length (intV (outN c pre))
  call : W.heap[w.heap.size]? = some (.cells (callCells c) 34)
  below : Below w.heap.size w W
  size : w.heap.size + 4 ≤ W.heap.size

theorem keep_cells {W W' : World} {row : Option Nat} {B k : Nat} {cs : Array Value} {t : TypeId} {fr : Nat × Nat} (hg : W.grownBy W' row) (hr : ∀ r, row = some r → B ≤ r ∧ ∃ o : Obj, W.heap[r]? = some o ∧ o.isCells = false) (h : W.heap[k]? = some (.cells cs t fr)) : some k ≠ row ∧ W'.heap[k]? = some (.cells cs t fr) := by
  have hne : some k ≠ row := fun e => by
    obtain ⟨_, o, ho, hc⟩ := hr k e.symm
    rw [h] at ho
    cases ho
    cases hc
  exact ⟨hne, (hg.block k (Array.getElem?_eq_some_iff.1 h).1 hne).trans h⟩
theorem row_kept {W W' : World} {row : Option Nat} {B base : Nat} {e : TypeId} {size n : Nat} {v : Value} {xs : List Value} (h : W.ownsRow base e size v n xs) (hg : W.grownBy W' row) (hr : ∀ r, row = some r → B ≤ r ∧ ∃ o : Obj, W.heap[r]? = some o ∧ o.isCells = false) : W'.ownsRow base e size v n xs := by
  refine h.kept hg ?_
  rcases h.2 with ⟨rfl, _⟩ | ⟨g, cap, cur, rfl, _, hgb, _⟩
  · exact .inl rfl
  · exact .inr (keep_cells hg hr hgb).1
theorem mineI_own (w : World) (B : Nat) (c : CallS) (hB : w.heap.size ≤ B) : OwnFrom B (MineI w c) := fun pre W W' row h hg hr => by
  obtain ⟨v, hv, hrow⟩ := h.out
  exact ⟨⟨v, (keep_cells hg hr hv).2, row_kept hrow hg hr⟩, (keep_cells hg hr h.call).2, h.below.grown hg h.below.size (fun k e => Nat.le_trans hB (hr k e).1), Nat.le_trans h.size hg.size⟩

theorem keepEx_b {n₀ x : Nat} (W : World) (l : Nat) (o o' : Obj) (hl : n₀ ≤ l) (h : W.heap[l]? = some o) (_ : o.isCells = false) (_ : o.isWalk = false) : KeepEx n₀ x W (W.putObj l o') :=
  ⟨(grownBy_putObj' W l o').size, fun k hk _ => World.putObj_heap_other (fun e => by omega)⟩

theorem field_skip (r x o : ByteArray) (b : Bool) : ∀ w : World, (Instr.field 45 (.agg #[.string r, .string x, .string o, .bool b]) 3).run Try.prog w = .ok (.bool b) w := fun _ => by kernel_rfl
theorem mine_appended {W w1 : World} {n₀ B : Nat} {t e : TypeId} {size : Nat} {v v' : Value} {k m : Nat} {xs ys : List Value} {tmp : Obj}
    (hv : Boxed W B t v) (hte : t ≠ e) (hrow : W.ownsRow n₀ e size v k xs) (hn₀ : n₀ ≤ W.heap.size)
    (hown' : w1.ownsRow n₀ e size v' m ys) (hgrow : (W.alloc tmp).grownBy w1 v.ownBlock) :
    Boxed w1 B t v ∧ Boxed (w1.setCell ⟨B, 0, none⟩ v') B t v' ∧ (w1.setCell ⟨B, 0, none⟩ v').ownsRow n₀ e size v' m ys ∧ KeepsOthers W (w1.setCell ⟨B, 0, none⟩ v') ∧ KeepEx n₀ B W (w1.setCell ⟨B, 0, none⟩ v') := by
  have hv1 : Boxed w1 B t v := (hv.alloc tmp).kept hgrow (hv.not_row hte hrow)
  refine ⟨hv1, hv1.set v', hown'.kept (grownBy_setCell' w1 B v') (.inr (hv1.not_row hte hown').symm), ?_, ?_, ?_⟩
  · refine ((KeepsOthers.alloc W tmp).trans (KeepsOthers.of_grownBy hgrow fun j o ej hj => ?_)).trans (KeepsOthers.setCell _ _ _)
    rcases (hrow.alloc tmp).2 with ⟨rfl, _⟩ | ⟨g, cap, cur, rfl, _, hgb, _⟩
    · simp [Value.ownBlock] at ej
    · obtain rfl : g = j := by simpa [Value.ownBlock] using ej
      rw [hgb] at hj; cases hj; rfl
  · have := hgrow.size; simp [World.setCell] at this ⊢; omega
  · intro i hi hne
    refine (Below.heap_setCell w1 ⟨B, 0, none⟩ v' i (fun e => hne e)).trans ?_
    refine (hgrow.block i (by simp; omega) (fun e => ?_)).trans (Below.heap_alloc _ _ _ (by omega))
    have := (hrow.lt i e.symm).1
    omega

set_option maxRecDepth 100000 in
set_option maxHeartbeats 8000000 in
theorem minel_any (n : Nat) (hn : 4 ≤ n) (a : Option Addr) (len cap : Nat) (fs : List FlowS) (c : CallS) (hargs : c.args.oneCell' = true) (w : World) (hl : fs.length = len) (hm : len * 8 ≤ 140737488351232) (hf : FlowsAt w a fs) :
    CallsIn Fence.wide n Try.prog 9 #[.slice a len cap, c.v] w fun e W' => (∃ v, e = .returned v ∧ W'.ownsRow (w.heap.size + 4) 3 1 v (mineN fs c).length (intV (mineN fs c))) ∧ Below w.heap.size w W' := by
  obtain ⟨i0, hi, hz0, hz1, hz2⟩ := info_parts info_intM
  have hro : Fence.wide.round = none := rfl
  have h1 : 1 ≤ n := by omega
  have Hmk := Lib.hid (fun w => mine_any a len cap c hargs w)
  have CV : c.v = .agg #[.int .i64 c.at_, .string c.res, .string c.ctx, .string c.org, .bool c.inb, .int .i64 c.cnt, c.args] := rfl
  rw [CV] at Hmk ⊢
  refine callsIn_of_wp_marks Try.func9 rfl trivial ?_ hro
  simp only [Try.ntmps9, List.size_toArray, List.length_cons, List.length_nil, Nat.reduceAdd, Nat.reduceSub, Array.replicate_succ, Array.replicate_zero, List.push_toArray, List.append_toArray, List.nil_append, List.cons_append]
  gi_wp2_with (fail)
  refine ⟨trivial, ?_⟩
  gi_at_call 16
  refine (callsIn_wide.2 (Hmk.out _)).mono ?_
  rintro e w' ⟨rfl, rfl⟩
  obtain ⟨W0, hW0⟩ : ∃ W0, (((w.alloc (.cells #[.int .i64 c.at_, .string c.res, .string c.ctx, .string c.org, .bool c.inb, .int .i64 c.cnt, c.args] 34)).alloc (.cells #[.slice none 0 0] 35)).alloc (.cells #[.slice a len cap] 31)).alloc (.cells (callCells c) 34) = W0 := ⟨_, rfl⟩
  have hB0 : Below w.heap.size w W0 := by rw [← hW0]; exact ((((Below.refl _ _).alloc (Nat.le_refl _) _).alloc (by simp) _).alloc (by simp; omega) _).alloc (by simp; omega) _
  have hsz : W0.heap.size = w.heap.size + 4 := by rw [← hW0]; simp
  have hbO : Boxed W0 (w.heap.size + 1) 35 (.slice none 0 0) := by
    rw [← hW0]
    have := (((Boxed.new (w.alloc (.cells #[.int .i64 c.at_, .string c.res, .string c.ctx, .string c.org, .bool c.inb, .int .i64 c.cnt, c.args] 34)) 35 (.slice none 0 0)).alloc (.cells #[.slice a len cap] 31)).alloc (.cells (callCells c) 34))
    rwa [World.size_alloc] at this
  have hbC : W0.heap[w.heap.size]? = some (.cells (callCells c) 34) := by
    rw [← hW0]
    rw [Below.heap_alloc _ _ _ (by simp; omega), Below.heap_alloc _ _ _ (by simp; omega), Below.heap_alloc _ _ _ (by simp)]
    exact World.alloc_heap_new w _
  have x1 : W0.cell? ⟨w.heap.size + 1 + 1, 0, none⟩ = some (.slice a len cap) := by rw [← hW0]; simp [go_sem]
  have x2 : W0.cell? ⟨w.heap.size + 1 + 1 + 1, 1, none⟩ = some (.string c.res) := by rw [← hW0]; simp [go_sem, callCells]
  have x3 : W0.cell? ⟨w.heap.size + 1 + 1 + 1, 3, none⟩ = some (.string c.org) := by rw [← hW0]; simp [go_sem, callCells]
  gi_wp2_with (fail)
  clear hW0
  have hf' : fs = [] ∨ ∃ b off, a = some ⟨b, off, none⟩ ∧ b < W0.heap.size ∧ b ≠ w.heap.size + 1 ∧ ∀ j f, fs[j]? = some f → FlowAt W0 b (off + j * 12) f := by
    rcases hf with h | ⟨b, off, h1, h2, h3⟩
    · exact .inl h
    · exact .inr ⟨b, off, h1, by omega, by omega, fun j f hj => (h3 j f hj).of_block (hB0.block b h2)⟩
  refine wpIn_rangeFunc_ownH hro h1 (gf := 20) (lb := #[.pointer (some ⟨w.heap.size + 1 + 1, 0, none⟩), .pointer (some ⟨w.heap.size + 1 + 1 + 1, 0, none⟩)]) rfl trivial (enters_of Try.func20 (by kernel_rfl) rfl)
    (mine_stops (n - 1) (by omega) (w.heap.size + 1 + 1) (w.heap.size + 1 + 1 + 1) len cap (w.heap.size + 4) (w.heap.size + 1) a fs c W0 hl (by omega) x1 x2 x3 (by rw [← hsz]; exact hf') (by omega) (by omega) (by omega) (by omega) (by omega))
    KeepEx.trans (fun W l o o' hl h h1 h2 => keepEx_b W l o o' (by omega) h h1 h2) (Below.refl _ _) (fun _ => rfl)
    (MineI w c) (fun _ _ _ => False) (mineI_own w _ c (by omega)) (fun _ _ _ _ _ hs _ _ => hs)
    ⟨⟨_, hbO, World.ownsRow_nil _ _ _ _⟩, hbC, hB0, by omega⟩
    (fun p a' W => ∃ Bx, w.heap.size + 4 ≤ Bx ∧ W.heap[Bx]? = some (.cells p.2.cells 25) ∧ a' = { tmps := #[.slice a len cap, .agg #[.int .i64 c.at_, .string c.res, .string c.ctx, .string c.org, .bool c.inb, .int .i64 c.cnt, c.args], undef, .pointer (some ⟨w.heap.size, 0, none⟩), .slice none 0 0, .pointer (some ⟨w.heap.size + 1, 0, none⟩), .int .i64 (p.1 : Int), .pointer (some ⟨Bx, 0, none⟩), .slice a len cap, .agg #[.int .i64 c.at_, .string c.res, .string c.ctx, .string c.org, .bool c.inb, .int .i64 c.cnt, c.args], .func (.func 20) #[] #[.pointer (some ⟨w.heap.size + 1 + 1, 0, none⟩), .pointer (some ⟨w.heap.size + 1 + 1 + 1, 0, none⟩)], .int .i64 (p.1 : Int), p.2.v, undef, undef, undef, undef, undef, undef, undef, undef, undef, undef], defers := [] })
    (fun p a' _ X Y row hs hg hr => by obtain ⟨Bx, h1, h2, h3⟩ := hs; exact ⟨Bx, h1, (keep_cells hg hr h2).2, h3⟩)
    ?assign ?body ?done ?stop
  case assign =>
    rintro l pre p W K hI hK
    obtain ⟨i, f⟩ := p
    dsimp only [FlowS.v, FlowS.cells] at *
    gi_wp2
    have hs := hI.below.size
    have hz := hsz
    obtain ⟨v, hv, hrow⟩ := hI.out
    have hlt4 : w.heap.size + 4 ≤ W.heap.size := hI.size
    exact hK _ _ ((KeepsOthers.alloc _ _).from _) (KeepEx.below ((Below.refl _ _).alloc (Nat.le_refl _) _) hlt4) ⟨⟨v, hv.alloc _, hrow.alloc _⟩, (Below.heap_alloc _ _ _ (Array.getElem?_eq_some_iff.1 hI.call).1).trans hI.call, hI.below.alloc hs _, by simp; omega⟩ ⟨W.heap.size, hlt4, World.alloc_heap_new W _, rfl⟩
  case body =>
    rintro l pre p a' W hlW ⟨r, hr⟩ hI ⟨Bx, hBx, hX, rfl⟩ hlt
    obtain ⟨v, hv, hrow⟩ := hI.out
    have hsz4 := hI.size
    have b0 : W.cell? ⟨Bx, 0, none⟩ = some (.string p.2.res) := by simp only [World.cell?, hX]; rfl
    have b1 : W.cell? ⟨Bx, 1, none⟩ = some (.string p.2.org) := by simp only [World.cell?, hX]; rfl
    have b2 : W.cell? ⟨Bx, 2, none⟩ = some (.bool p.2.thr) := by simp only [World.cell?, hX]; rfl
    have b3 : W.cell? ⟨Bx, 3, none⟩ = some (.int .i64 p.2.cnt) := by simp only [World.cell?, hX]; rfl
    have b4 : W.cell? ⟨Bx, 4, none⟩ = some (.int .u8 p.2.strat) := by simp only [World.cell?, hX]; rfl
    have b5 : W.cell? ⟨Bx, 5, none⟩ = some (.string p.2.ref) := by simp only [World.cell?, hX]; rfl
    have b6 : W.cell? ⟨Bx, 6, none⟩ = some (.int .u8 p.2.shape) := by simp only [World.cell?, hX]; rfl
    have b7 : W.cell? ⟨Bx, 7, none⟩ = some (.int .i64 p.2.warm) := by simp only [World.cell?, hX]; rfl
    have b8 : W.cell? ⟨Bx, 8, none⟩ = some (.int .i64 p.2.queue) := by simp only [World.cell?, hX]; rfl
    have b9 : W.cell? ⟨Bx, 9, none⟩ = some (.bool p.2.cl) := by simp only [World.cell?, hX]; rfl
    have b10 : W.cell? ⟨Bx, 10, none⟩ = some (.int .i64 p.2.id) := by simp only [World.cell?, hX]; rfl
    have b11 : W.cell? ⟨Bx, 11, none⟩ = some (.bool p.2.fb) := by simp only [World.cell?, hX]; rfl
    have q0 : W.cell? ⟨w.heap.size, 0, none⟩ = some (.int .i64 c.at_) := by simp only [World.cell?, hI.call]; rfl
    have q1 : W.cell? ⟨w.heap.size, 1, none⟩ = some (.string c.res) := by simp only [World.cell?, hI.call]; rfl
    have q2 : W.cell? ⟨w.heap.size, 2, none⟩ = some (.string c.ctx) := by simp only [World.cell?, hI.call]; rfl
    have q3 : W.cell? ⟨w.heap.size, 3, none⟩ = some (.string c.org) := by simp only [World.cell?, hI.call]; rfl
    have q4 : W.cell? ⟨w.heap.size, 4, none⟩ = some (.bool c.inb) := by simp only [World.cell?, hI.call]; rfl
    have q5 : W.cell? ⟨w.heap.size, 5, none⟩ = some (.int .i64 c.cnt) := by simp only [World.cell?, hI.call]; rfl
    have q6 : W.cell? ⟨w.heap.size, 6, none⟩ = some (c.args) := by simp only [World.cell?, hI.call]; rfl
    have gn : ∀ {w2 : World}, Below W.heap.size W w2 → W.grownBy w2 none := fun h => ⟨h.os, h.tape, h.output, h.size, fun k hk _ => h.block k hk⟩
    have HI := Lib.hid hI
    have HV := Lib.hid hv
    have HR := Lib.hid hrow
    have HX := Lib.hid hX
    have hOL := outN_le c pre
    clear hX hr
    cases hsk : (whereL p.2 c).skip
    · have Hwh := Lib.hid (fun (w : World) => (show Calls Try.prog 15 #[p.2.v, c.v] w fun e w' => e = .returned (.agg #[.string (whereL p.2 c).res, .string (whereL p.2 c).ctx, .string (whereL p.2 c).org, .bool false]) ∧ Below w.heap.size w w' by
        have := where_any p.2 c hargs w
        unfold LookS.v at this
        rw [hsk] at this
        exact this))
      gi_wp2_with (fail)
      refine ⟨trivial, (fun _ => by omega), ?_⟩
      gi_at_call 15
      refine (CallsIn.inRound l (callsIn_wide.2 (Hwh.out _))).mono ?_
      rintro e w2 ⟨rfl, hb2⟩
      have hv2 := HV.out.kept (gn hb2) (by simp)
      have hrow2 := HR.out.kept (gn hb2) (by cases v.ownBlock <;> simp)
      have hsz2 : w.heap.size + 4 ≤ w2.heap.size := Nat.le_trans hsz4 hb2.size
      have cv2 := hv2.cell
      have fv2 := hv2.frozen
      have hfd := field_skip (whereL p.2 c).res (whereL p.2 c).ctx (whereL p.2 c).org false
      gi_wp2_with (gi_at_builtin; refine wpListIn_append_own _ rfl _ _ 35 rfl (w.heap.size + 4) 3 i0 (.int .i64 0) 1 8 Try.underlying35 hi hz0 hz1 hz2 rfl (by decide) _ _ _ rfl (hrow2.alloc _) ⟨w2.heap.size, 0, none⟩ 1 1 [.int .i64 (p.1 : Int)] rfl rfl (cell_one_new _ _ _) (by simp [Value.oneCell']) (by unfold maxLen; omega) (by omega) (by simp; omega) ?_; intro v' w3 hown' hgrow _; obtain ⟨g', cap', rfl⟩ := ownsRow_succ hown'; obtain ⟨hv1, hv3, hr3, hk3, hx3⟩ := mine_appended hv2 (by decide) hrow2 hsz2 hown' hgrow; have hc1 := hv1.cell; have hf1 := hv1.frozen)
      have L3 : Below w.heap.size w w3 := (HI.out.below.trans (hb2.mono HI.out.below.size)).trans (by
        exact ((Below.refl w2.heap.size w2).alloc (Nat.le_refl _) _ |>.mono (by omega)).grown hgrow (by have := HI.out.below.size; have := hb2.size; simp; omega) (fun k e => by have := (hrow2.lt k e).1; omega))
      have KT : KeepEx (w.heap.size + 4) (w.heap.size + 1) W _ := (KeepEx.below hb2 hsz4).trans hx3
      have KO : KeepsOthers W _ := KeepsOthers.trans ⟨hb2.size, fun k o hk _ => (hb2.block k (Array.getElem?_eq_some_iff.1 hk).1).trans hk⟩ hk3
      exact ⟨KO.from _, KT, ⟨⟨_, hv3, by rw [outN_yes hsk, intV, List.map_append, List.length_append]; exact hr3⟩, (KT.block _ (by omega) (by omega)).trans HI.out.call, L3.setCell (by simp) _, by have := KT.size; omega⟩⟩
    · have Hwh := Lib.hid (fun (w : World) => (show Calls Try.prog 15 #[p.2.v, c.v] w fun e w' => e = .returned (.agg #[.string (whereL p.2 c).res, .string (whereL p.2 c).ctx, .string (whereL p.2 c).org, .bool true]) ∧ Below w.heap.size w w' by
        have := where_any p.2 c hargs w
        unfold LookS.v at this
        rw [hsk] at this
        exact this))
      gi_wp2_with (fail)
      refine ⟨trivial, (fun _ => by omega), ?_⟩
      gi_at_call 15
      refine (CallsIn.inRound l (callsIn_wide.2 (Hwh.out _))).mono ?_
      rintro e w2 ⟨rfl, hb2⟩
      have hv2 := HV.out.kept (gn hb2) (by simp)
      have hrow2 := HR.out.kept (gn hb2) (by cases v.ownBlock <;> simp)
      have hsz2 : w.heap.size + 4 ≤ w2.heap.size := Nat.le_trans hsz4 hb2.size
      have hfd := field_skip (whereL p.2 c).res (whereL p.2 c).ctx (whereL p.2 c).org true
      gi_wp2_with (fail)
      have KT : KeepEx (w.heap.size + 4) (w.heap.size + 1) W w2 := KeepEx.below hb2 hsz4
      have KO : KeepsOthers W w2 := ⟨hb2.size, fun k o hk _ => (hb2.block k (Array.getElem?_eq_some_iff.1 hk).1).trans hk⟩
      exact ⟨KO.from _, KT, ⟨⟨_, hv2, by rw [outN_no hsk]; exact hrow2⟩, (KT.block _ (by omega) (by omega)).trans HI.out.call, HI.out.below.trans (hb2.mono HI.out.below.size), hsz2⟩⟩
  case done =>
    rintro D ys W hD rfl hI hK
    obtain ⟨v, hv, hrow⟩ := hI.out
    have cS := hv.cell
    gi_wp2
    refine ⟨by simp, .inl ⟨_, _, rfl, run_takeDeferred hK, ?_⟩⟩
    have em : mineN fs c = outN c (came fs c len) := by unfold mineN; rw [hl]
    rw [em]
    exact ⟨_, results_tmp rfl _ _ _, ⟨v, rfl, ownsRow_putObj hrow _ hK rfl⟩, hI.below.trans (belowK_b (w := w) (Nat.le_refl _) W D _ _ (by omega) hK rfl rfl)⟩
  case stop =>
    rintro D cc pre W _ _ h _
    exact h.elim
end Go.Proofs.Ytalpilahemajoaa
