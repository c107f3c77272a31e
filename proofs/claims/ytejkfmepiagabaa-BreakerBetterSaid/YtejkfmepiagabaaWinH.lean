/- window: Most. -/
import Derived.Test.YtejkfmepiagabaaWinG
namespace Go.Proofs.Ytejkfmepiagabaa
open Go.RowKit Go.Shelf
set_option linter.unusedVariables false
set_option linter.unusedSimpArgs false
attribute [local go_sem] Oper.semAt_some

def mostF (K : Int) (g : Int) (x : Int × CntS) : Int := if x.1 = K then g else max g x.2.p
def mostBk (K : Int) (l : List (Int × CntS)) : Int := l.foldl (mostF K) 0
theorem mostBk_snoc (K : Int) (l : List (Int × CntS)) (x : Int × CntS) : mostBk K (l ++ [x]) = mostF K (mostBk K l) x := by simp [mostBk, List.foldl_append]
structure SameW (V w : World) : Prop where
  heap : w.heap = V.heap
  os : w.os = V.os
  tape : w.tape = V.tape
  output : w.output = V.output
theorem keep_one {n1 s : Nat} {W w1 : World} {v : Value} {t : TypeId} (hz : w1.heap = W.heap) (hs : W.heap[s]? = some (.cells #[v] t)) (u : Value) : KeepW n1 s W (w1.setCell ⟨s, 0, none⟩ u) ∧ ∀ B, KeepsFrom B W (w1.setCell ⟨s, 0, none⟩ u) := by
  have hsz : (w1.setCell ⟨s, 0, none⟩ u).heap.size = W.heap.size := by rw [← hz]; simp [World.setCell]
  have ho : ∀ i, i ≠ s → (w1.setCell ⟨s, 0, none⟩ u).heap[i]? = W.heap[i]? := fun i hi => (heap_setCell_other w1 ⟨s, 0, none⟩ i u hi).trans (by rw [hz])
  refine ⟨⟨by rw [hsz]; exact Nat.le_refl _, fun i hi hne => ho i hne, fun i o hi _ hne => (ho i hne).trans hi⟩, fun B => ⟨by rw [hsz]; exact Nat.le_refl _, fun k o _ hk hx => ?_⟩⟩
  have hne : k ≠ s := fun e => by
    subst e
    rw [hs] at hk; cases hk; cases hx
  exact (ho k hne).trans hk
theorem keep_none {n1 s : Nat} {W w1 : World} (hz : w1.heap = W.heap) : KeepW n1 s W w1 ∧ ∀ B, KeepsFrom B W w1 :=
  ⟨⟨by rw [hz]; exact Nat.le_refl _, fun i _ _ => by rw [hz], fun i o hi _ _ => by rw [hz]; exact hi⟩, fun B => ⟨by rw [hz]; exact Nat.le_refl _, fun k o _ hk _ => by rw [hz]; exact hk⟩⟩
theorem box_cell {w : World} {g : Nat} {v : Value} {t : TypeId} (h : w.heap[g]? = some (.cells #[v] t)) : w.cell? ⟨g, 0, none⟩ = some v := by simp [World.cell?, h]
theorem box_free {w : World} {g : Nat} {v : Value} {t : TypeId} (h : w.heap[g]? = some (.cells #[v] t)) : w.frozen? ⟨g, 0, none⟩ = false := by simp [World.frozen?, h]
theorem results_tmp_tmp {P : Program} {fn : Func} {p q : Tmp} (h : fn.results = #[.tmp p, .tmp q]) (tmps : Array Value) (w : World) (u v : Value) (hp : tmps.getD p undef = u) (hq : tmps.getD q undef = v) : (results fn tmps).run P w = .ok (.tuple #[u, v]) w := by
  have hp' : tmps[p]?.getD undef = u := by simpa using hp
  have hq' : tmps[q]?.getD undef = v := by simpa using hq
  simp [results, h, hp', hq']

set_option maxHeartbeats 6400000 in
set_option maxRecDepth 100000 in
theorem wmost_in {w : World} {p m : Nat} {W B last at_ : Int} {f : Int → Option CntS} (h : WinAt w p m W B last f) (hE : lookW last at_ = 0) (K : Int) (hK : at_ / (W / B) = K) (cnt : Nat) (lo : Int) (hlo : lo = max 0 (K - B + 1)) (hcnt : (cnt : Int) = K - lo + 1) :
    CallsIn Fence.wide 9 Try.prog 51 #[.pointer (some ⟨p, 0, none⟩), .int .i64 at_] w fun e w' => e = .returned (.tuple #[.int .i64 (mostBk K (bksW f lo cnt)), .int .i64 0]) ∧ Below w.heap.size w w' := by
  obtain ⟨a0, a1, a2⟩ := lookW_ok hE
  have HWR := Lib.hid (fun (wx : World) (hb : Below w.heap.size w wx) => wwrong_any p last at_ wx (h.below hb).cells.2.2.1)
  rw [hE] at HWR
  have HH := Lib.hid h
  have hslot := h.shape.slot
  obtain ⟨hpl, hml⟩ := h.lt
  have HBK := Lib.hid (fun (x : Int) (x0 : 0 ≤ x) (x1 : x ≤ 9223372036854775807) (wx : World) (hx : WinAt wx p m W B last f) => wbucket_any p W B x h.shape x0 x1 wx hx.cells.1 hx.cells.2.1)
  have HB2 := Lib.hid (show Below w.heap.size w ((w.alloc (.cells #[.pointer (some ⟨p, 0, none⟩)] 25)).alloc (.cells #[.int .i64 at_] 3)) from ((Below.refl _ _).alloc (Nat.le_refl _) _).alloc (by simp) _)
  have HB3 := Lib.hid (show Below w.heap.size w (((((w.alloc (.cells #[.pointer (some ⟨p, 0, none⟩)] 25)).alloc (.cells #[.int .i64 at_] 3)).alloc (.cells #[.int .i64 0] 3)).alloc (.cells #[.pointer (some ⟨p, 0, none⟩)] 25)).alloc (.cells #[.int .i64 at_] 3)) from ((HB2.out.alloc (by simp; omega) _).alloc (by simp; omega) _).alloc (by simp; omega) _)
  have HSZ := Lib.hid (show (((((w.alloc (.cells #[.pointer (some ⟨p, 0, none⟩)] 25)).alloc (.cells #[.int .i64 at_] 3)).alloc (.cells #[.int .i64 0] 3)).alloc (.cells #[.pointer (some ⟨p, 0, none⟩)] 25)).alloc (.cells #[.int .i64 at_] 3)).heap.size = w.heap.size + 5 by simp)
  have G0 := Lib.hid (show (((((w.alloc (.cells #[.pointer (some ⟨p, 0, none⟩)] 25)).alloc (.cells #[.int .i64 at_] 3)).alloc (.cells #[.int .i64 0] 3)).alloc (.cells #[.pointer (some ⟨p, 0, none⟩)] 25)).alloc (.cells #[.int .i64 at_] 3)).heap[w.heap.size]? = some (.cells #[.pointer (some ⟨p, 0, none⟩)] 25) by
    rw [get_allocW, if_neg (by simp; omega), get_allocW, if_neg (by simp; omega), get_allocW, if_neg (by simp; omega), get_allocW, if_neg (by simp), get_allocW, if_pos rfl])
  have G1 := Lib.hid (show (((((w.alloc (.cells #[.pointer (some ⟨p, 0, none⟩)] 25)).alloc (.cells #[.int .i64 at_] 3)).alloc (.cells #[.int .i64 0] 3)).alloc (.cells #[.pointer (some ⟨p, 0, none⟩)] 25)).alloc (.cells #[.int .i64 at_] 3)).heap[w.heap.size + 1]? = some (.cells #[.int .i64 at_] 3) by
    rw [get_allocW, if_neg (by simp), get_allocW, if_neg (by simp), get_allocW, if_neg (by simp), get_allocW, if_pos (by simp)])
  have G2 := Lib.hid (show (((((w.alloc (.cells #[.pointer (some ⟨p, 0, none⟩)] 25)).alloc (.cells #[.int .i64 at_] 3)).alloc (.cells #[.int .i64 0] 3)).alloc (.cells #[.pointer (some ⟨p, 0, none⟩)] 25)).alloc (.cells #[.int .i64 at_] 3)).heap[w.heap.size + 1 + 1]? = some (.cells #[.int .i64 0] 3) by
    rw [get_allocW, if_neg (by simp), get_allocW, if_neg (by simp), get_allocW, if_pos (by simp)])
  have C2 := Lib.hid (show (((((w.alloc (.cells #[.pointer (some ⟨p, 0, none⟩)] 25)).alloc (.cells #[.int .i64 at_] 3)).alloc (.cells #[.int .i64 0] 3)).alloc (.cells #[.pointer (some ⟨p, 0, none⟩)] 25)).alloc (.cells #[.int .i64 at_] 3)).cell? ⟨w.heap.size + 1 + 1 + 1, 0, none⟩ = some (.pointer (some ⟨p, 0, none⟩)) by
    simp only [World.cell?]
    rw [get_allocW, if_neg (by simp), get_allocW, if_pos (by simp)]
    rfl)
  have C3 := Lib.hid (show (((((w.alloc (.cells #[.pointer (some ⟨p, 0, none⟩)] 25)).alloc (.cells #[.int .i64 at_] 3)).alloc (.cells #[.int .i64 0] 3)).alloc (.cells #[.pointer (some ⟨p, 0, none⟩)] 25)).alloc (.cells #[.int .i64 at_] 3)).cell? ⟨w.heap.size + 1 + 1 + 1 + 1, 0, none⟩ = some (.int .i64 at_) by
    simp only [World.cell?]
    rw [get_allocW, if_pos (by simp)]
    rfl)
  clear h hE
  refine callsIn_of_wp_marks Try.func51 rfl trivial ?_ rfl
  simp only [Try.ntmps51, List.size_toArray, List.length_cons, List.length_nil, Nat.reduceAdd, Nat.reduceSub, Array.replicate_succ, Array.replicate_zero, List.push_toArray, List.append_toArray, List.nil_append, List.cons_append]
  gi_wp2
  refine ⟨trivial, (callsIn_wide.2 (HWR.out _ HB2.out)).mono ?_⟩
  rintro e wq ⟨rfl, hq⟩
  subst hq
  gi_wp2
  refine ⟨trivial, (callsIn_wide.2 (wat_any p at_ _)).mono ?_⟩
  rintro e wq ⟨rfl, hq⟩
  subst hq
  gi_wp2
  generalize hW0 : ((((w.alloc (.cells #[.pointer (some ⟨p, 0, none⟩)] 25)).alloc (.cells #[.int .i64 at_] 3)).alloc (.cells #[.int .i64 0] 3)).alloc (.cells #[.pointer (some ⟨p, 0, none⟩)] 25)).alloc (.cells #[.int .i64 at_] 3) = W0 at *
  clear hW0
  have hsz := HSZ.out
  refine wpIn_rangeFunc_ownH (F := Fence.wide) (n := 9) rfl (by decide) (gf := 63) (lb := #[.pointer (some ⟨w.heap.size + 1 + 1 + 1, 0, none⟩), .pointer (some ⟨w.heap.size + 1 + 1 + 1 + 1, 0, none⟩)]) rfl trivial (enters_of Try.func63 (by kernel_rfl) rfl)
    (wat_stops a0 a1 8 (by decide) (w.heap.size + 5) (w.heap.size + 1 + 1) (w.heap.size + 1 + 1 + 1) (w.heap.size + 1 + 1 + 1 + 1) ⟨by omega, by omega⟩ ⟨by omega, by omega⟩ ⟨by omega, by omega⟩ ⟨by omega, by omega⟩ (by omega) K hK cnt lo hlo hcnt W0 (HH.out.below HB3.out) (by omega) C2.out C3.out) keepW_t (keepW_b (by omega)) (Below.refl _ _) (fun _ => rfl)
    (fun pre V => (V.heap[w.heap.size + 1 + 1]? = some (.cells #[.int .i64 (mostBk K (pre.map (·.1)))] 3) ∧ V.heap[w.heap.size]? = some (.cells #[.pointer (some ⟨p, 0, none⟩)] 25) ∧ V.heap[w.heap.size + 1]? = some (.cells #[.int .i64 at_] 3) ∧ w.heap.size + 5 ≤ V.heap.size) ∧ Below w.heap.size w V)
    (fun _ _ _ => False)
    (OwnFrom.and (fun s X Y row hs hg hr => ⟨(hg.block _ (Array.getElem?_eq_some_iff.1 hs.1).1 (fun e => by have := (hr _ e.symm).1; omega)).trans hs.1, (hg.block _ (Array.getElem?_eq_some_iff.1 hs.2.1).1 (fun e => by have := (hr _ e.symm).1; omega)).trans hs.2.1, (hg.block _ (Array.getElem?_eq_some_iff.1 hs.2.2.1).1 (fun e => by have := (hr _ e.symm).1; omega)).trans hs.2.2.1, Nat.le_trans hs.2.2.2 hg.size⟩) (ownFrom_below (Nat.le_refl _) (by omega)))
    (fun _ _ _ _ _ hs _ _ => hs)
    ⟨⟨G2.out, G0.out, G1.out, by omega⟩, HB3.out⟩
    (fun x a' V => ∃ Bx, w.heap.size + 5 ≤ Bx ∧ V.heap[Bx]? = some (bkO (W / B) x.1) ∧ a' = { tmps := #[.pointer (some ⟨p, 0, none⟩), .int .i64 at_, .pointer (some ⟨w.heap.size, 0, none⟩), .pointer (some ⟨w.heap.size + 1, 0, none⟩), .int .i64 0, .int .i64 0, .int .i64 0, .pointer (some ⟨w.heap.size + 1 + 1, 0, none⟩), .pointer (some ⟨Bx, 0, none⟩), .pointer (some ⟨p, 0, none⟩), .int .i64 at_, .int .i64 0, .int .i64 0, .bool false, undef, .pointer (some ⟨p, 0, none⟩), .int .i64 at_, .func (.func 63) #[] #[.pointer (some ⟨w.heap.size + 1 + 1 + 1, 0, none⟩), .pointer (some ⟨w.heap.size + 1 + 1 + 1 + 1, 0, none⟩)], bkV (W / B) x.1, undef, undef, undef, undef, undef, undef, undef, undef, undef, undef, undef, undef, undef, undef], defers := [] })
    (fun x a' _ X Y row hs hg hr => by
      obtain ⟨Bx, h1, h2, h3⟩ := hs
      refine ⟨Bx, h1, (hg.block Bx (Array.getElem?_eq_some_iff.1 h2).1 (fun e => ?_)).trans h2, h3⟩
      obtain ⟨_, o, ho, hc⟩ := hr Bx e.symm
      rw [h2] at ho; cases ho; cases hc)
    ?assign ?body ?done ?stop
  case assign =>
    rintro l pre ⟨⟨xi, xp, xb, xd, xe, xr, xm⟩, hx⟩ V KK ⟨⟨g2, g0, g1, gz⟩, hB⟩ hKK
    unfold bkV
    dsimp only
    gi_wp2
    exact hKK _ _ ((KeepsOthers.alloc _ _).from _) (keepW_alloc gz _) ⟨⟨(Below.heap_alloc V _ _ (by omega)).trans g2, (Below.heap_alloc V _ _ (by omega)).trans g0, (Below.heap_alloc V _ _ (by omega)).trans g1, by simp; omega⟩, hB.alloc hB.size _⟩ ⟨V.heap.size, gz, (get_allocW V _ _).trans (if_pos rfl), rfl⟩
  case body =>
    rintro l pre ⟨⟨xi, xp, xb, xd, xe, xr, xm⟩, hx⟩ a' V hl ⟨r, hr⟩ ⟨⟨g2, g0, g1, gz⟩, hB⟩ ⟨Bx, hBx, bX, rfl⟩ hlt
    have HSN := Lib.hid (show mostBk K ((pre ++ [(⟨(xi, ⟨xp, xb, xd, xe, xr, xm⟩), hx⟩ : BkT (W / B))]).map (fun x => x.1)) = mostF K (mostBk K (pre.map (·.1))) (xi, ⟨xp, xb, xd, xe, xr, xm⟩) by rw [List.map_append]; exact mostBk_snoc K _ _)
    obtain ⟨G, hG⟩ : ∃ G, mostBk K (pre.map (·.1)) = G := ⟨_, rfl⟩
    rw [hG] at g2 HSN
    clear hG
    have HWV := Lib.hid (HH.out.below hB)
    have hgood := hx.2
    have HBK1 := Lib.hid (fun (wx : World) (hzz : SameW V wx) => have hz := hzz.heap; HBK.out (xi * (W / B)) hgood.1 (by have := hgood.2; dsimp only at this; omega) wx (HWV.out.kept (by rw [hz]) (by rw [hz])))
    have HBK2 := Lib.hid (fun (wx : World) (hzz : SameW V wx) => have hz := hzz.heap; HBK.out at_ a0 (by omega) wx (HWV.out.kept (by rw [hz]) (by rw [hz])))
    rw [hK] at HBK2
    rw [Int.mul_ediv_cancel _ (show W / B ≠ 0 by omega)] at HBK1
    obtain ⟨x0, x1, x2, x3, x4, x5, x6⟩ := bk_cells bX
    have HSC := Lib.hid (fun (wx : World) (hzz : SameW V wx) => have hz := hzz.heap; show wx.cell? ⟨w.heap.size, 0, none⟩ = some (.pointer (some ⟨p, 0, none⟩)) ∧ wx.cell? ⟨w.heap.size + 1, 0, none⟩ = some (.int .i64 at_) ∧ wx.cell? ⟨Bx, 0, none⟩ = some (.int .i64 (xi * (W / B))) from
      ⟨(World.cell?_of_block (w := V) (a := ⟨w.heap.size, 0, none⟩) (by rw [hz])).trans (box_cell g0), (World.cell?_of_block (w := V) (a := ⟨w.heap.size + 1, 0, none⟩) (by rw [hz])).trans (box_cell g1), (World.cell?_of_block (w := V) (a := ⟨Bx, 0, none⟩) (by rw [hz])).trans x0⟩)
    have HX1 := Lib.hid x1
    have HG2 := Lib.hid g2
    have HG0 := Lib.hid g0
    have HG1 := Lib.hid g1
    have HBV := Lib.hid hB
    have HGZ := Lib.hid gz
    have HHX := Lib.hid hx
    clear hgood x0 x1 x2 x3 x4 x5 x6 g0 g1 g2 hB gz bX hr hlt
    gi_wp2
    refine wpIn_region_noPanic ?_
    refine held_region (y := none) (S := fun wx => SameW V wx) (by kernel_rfl) ⟨rfl, rfl, rfl, rfl⟩ (fun hHeld => ?_)
    refine held_take (i := 0) (y := none) (v := ?_) (fun _ => trivial) (by kernel_rfl) rfl (fun z hz => by cases hz) 0 (fun z hz => by cases hz) (by kernel_rfl) (by kernel_rfl) (by kernel_rfl) (fun _ _ _ h => h) (Or.inl ⟨by rfl, ?hy⟩) (by assumption) ?_
    case hy => intro wq hSw; obtain ⟨s0, s1, s2⟩ := HSC.out wq hSw; go_simp; try with_reducible rfl
    try simp only [Act.put, List.getElem_toArray, List.getElem_cons_succ, List.getElem_cons_zero, List.setIfInBounds_toArray, List.set_cons_zero, List.set_cons_succ]
    refine held_take (i := 1) (y := none) (v := ?_) (fun _ => trivial) (by kernel_rfl) rfl (fun z hz => by cases hz) 0 (fun z hz => by cases hz) (by kernel_rfl) (by kernel_rfl) (by kernel_rfl) (fun _ _ _ h => h) (Or.inl ⟨by rfl, ?hy⟩) (by assumption) ?_
    case hy => intro wq hSw; obtain ⟨s0, s1, s2⟩ := HSC.out wq hSw; go_simp; try with_reducible rfl
    try simp only [Act.put, List.getElem_toArray, List.getElem_cons_succ, List.getElem_cons_zero, List.setIfInBounds_toArray, List.set_cons_zero, List.set_cons_succ]
    refine held_take (i := 2) (y := none) (v := ?_) (fun _ => trivial) (by kernel_rfl) rfl (fun z hz => by cases hz) 0 (fun z hz => by cases hz) (by kernel_rfl) (by kernel_rfl) (by kernel_rfl) (fun _ _ _ h => h) (Or.inl ⟨by rfl, ?hy⟩) (by assumption) ?_
    case hy => intro wq hSw; obtain ⟨s0, s1, s2⟩ := HSC.out wq hSw; go_simp; try with_reducible rfl
    try simp only [Act.put, List.getElem_toArray, List.getElem_cons_succ, List.getElem_cons_zero, List.setIfInBounds_toArray, List.set_cons_zero, List.set_cons_succ]
    refine held_take (i := 4) (y := none) (v := ?_) (fun _ => trivial) (by kernel_rfl) rfl (fun z hz => by cases hz) 0 (fun z hz => by cases hz) (by kernel_rfl) (by kernel_rfl) (by kernel_rfl) (fun _ _ _ h => h) (Or.inl ⟨by rfl, ?hy⟩) (by assumption) ?_
    case hy => intro wq hSw; obtain ⟨s0, s1, s2⟩ := HSC.out wq hSw; go_simp; try with_reducible rfl
    try simp only [Act.put, List.getElem_toArray, List.getElem_cons_succ, List.getElem_cons_zero, List.setIfInBounds_toArray, List.set_cons_zero, List.set_cons_succ]
    refine held_take (i := 5) (y := none) (v := ?_) (fun _ => trivial) (by kernel_rfl) rfl (fun z hz => by cases hz) 0 (fun z hz => by cases hz) (by kernel_rfl) (by kernel_rfl) (by kernel_rfl) (fun _ _ _ h => h) (Or.inl ⟨by rfl, ?hy⟩) (by assumption) ?_
    case hy => intro wq hSw; obtain ⟨s0, s1, s2⟩ := HSC.out wq hSw; go_simp; try with_reducible rfl
    try simp only [Act.put, List.getElem_toArray, List.getElem_cons_succ, List.getElem_cons_zero, List.setIfInBounds_toArray, List.set_cons_zero, List.set_cons_succ]
    refine held_call (i := 3) (by kernel_rfl) rfl (by rfl) (fun KK hKK => ?_)
    go_simp
    refine ⟨trivial, ((callsIn_wide.2 (HBK1.out _ hHeld)).inRound l).mono ?_⟩
    rintro e wz ⟨rfl, nz, hz⟩
    have hHeld2 : SameW V wz := by rw [hz]; exact ⟨hHeld.1, hHeld.2, hHeld.3, hHeld.4⟩
    clear hz hHeld
    refine hKK.out _ _ hHeld2 ?_
    have hHeld := hHeld2
    clear hHeld2 hKK KK
    try simp only [Act.put, List.getElem_toArray, List.getElem_cons_succ, List.getElem_cons_zero, List.setIfInBounds_toArray, List.set_cons_zero, List.set_cons_succ]
    refine held_call (i := 6) (by kernel_rfl) rfl (by rfl) (fun KK hKK => ?_)
    go_simp
    refine ⟨trivial, ((callsIn_wide.2 (HBK2.out _ hHeld)).inRound l).mono ?_⟩
    rintro e wz ⟨rfl, nz, hz⟩
    have hHeld2 : SameW V wz := by rw [hz]; exact ⟨hHeld.1, hHeld.2, hHeld.3, hHeld.4⟩
    clear hz hHeld
    refine hKK.out _ _ hHeld2 ?_
    have hHeld := hHeld2
    clear hHeld2 hKK KK
    try simp only [Act.put, List.getElem_toArray, List.getElem_cons_succ, List.getElem_cons_zero, List.setIfInBounds_toArray, List.set_cons_zero, List.set_cons_succ]
    refine held_take (i := 7) (y := none) (v := ?_) (fun _ => trivial) (by kernel_rfl) rfl (fun z hz => by cases hz) 0 (fun z hz => by cases hz) (by kernel_rfl) (by kernel_rfl) (by kernel_rfl) (fun _ _ _ h => h) (Or.inl ⟨by rfl, ?hy⟩) (by assumption) ?_
    case hy => intro wq hSw; obtain ⟨s0, s1, s2⟩ := HSC.out wq hSw; go_simp; try with_reducible rfl
    try simp only [Act.put, List.getElem_toArray, List.getElem_cons_succ, List.getElem_cons_zero, List.setIfInBounds_toArray, List.set_cons_zero, List.set_cons_succ]
    refine held_done (by kernel_rfl) ?_ _
    refine NoPanic.normal ?_
    have HZS := Lib.hid hHeld
    have hHeld := hHeld.heap
    have HZ := Lib.hid hHeld
    have c7 : wz.cell? ⟨w.heap.size + 1 + 1, 0, none⟩ = some (.int .i64 G) := (World.cell?_of_block (w := V) (a := ⟨w.heap.size + 1 + 1, 0, none⟩) (by rw [hHeld])).trans (box_cell HG2.out)
    have f7 : wz.frozen? ⟨w.heap.size + 1 + 1, 0, none⟩ = false := (World.frozen?_of_block (w := V) (a := ⟨w.heap.size + 1 + 1, 0, none⟩) (by rw [hHeld])).trans (box_free HG2.out)
    have c8 : wz.cell? ⟨Bx, 1, none⟩ = some (.int .i64 xp) := (World.cell?_of_block (w := V) (a := ⟨Bx, 1, none⟩) (by rw [hHeld])).trans HX1.out
    clear hHeld
    by_cases hq : xi = K
    · have hq2 : (xi != K) = false := by simp [hq]
      have HQ := Lib.hid hq
      clear hq
      gi_wp2
      have hk := keep_none (n1 := w.heap.size + 5) (s := w.heap.size + 1 + 1) HZ.out
      refine ⟨hk.2 _, hk.1, ⟨?_, by rw [HZ.out]; exact HG0.out, by rw [HZ.out]; exact HG1.out, by rw [HZ.out]; exact HGZ.out⟩, ?_⟩
      · rw [HSN.out, HZ.out]
        unfold mostF
        rw [if_pos HQ.out]
        exact HG2.out
      · exact HBV.out.trans ⟨HZS.out.os, HZS.out.tape, HZS.out.output, by rw [HZ.out]; exact Nat.le_refl _, fun k _ => by rw [HZ.out]⟩
    · have hq2 : (xi != K) = true := by simp [hq]
      have HQ := Lib.hid hq
      clear hq
      gi_wp2
      have hk := keep_one (n1 := w.heap.size + 5) (s := w.heap.size + 1 + 1) HZ.out HG2.out (.int .i64 (max G xp))
      have hbz : Below w.heap.size w wz := HBV.out.trans ⟨HZS.out.os, HZS.out.tape, HZS.out.output, by rw [HZ.out]; exact Nat.le_refl _, fun k _ => by rw [HZ.out]⟩
      refine ⟨hk.2 _, hk.1, ⟨?_, ?_, ?_, ?_⟩, hbz.setCell (by simp; omega) _⟩
      · rw [HSN.out]
        unfold mostF
        rw [if_neg HQ.out]
        exact heap_setCell_same wz _ 0 _ _ _ (by rw [HZ.out]; exact HG2.out)
      · exact (heap_setCell_other wz ⟨w.heap.size + 1 + 1, 0, none⟩ w.heap.size _ (by simp; omega)).trans (by rw [HZ.out]; exact HG0.out)
      · exact (heap_setCell_other wz ⟨w.heap.size + 1 + 1, 0, none⟩ (w.heap.size + 1) _ (by simp)).trans (by rw [HZ.out]; exact HG1.out)
      · have h1 : (wz.setCell ⟨w.heap.size + 1 + 1, 0, none⟩ (.int .i64 (max G xp))).heap.size = V.heap.size := by rw [← HZ.out]; simp [World.setCell]
        rw [h1]; exact HGZ.out
  case done =>
    rintro D ys V hD hS ⟨⟨g2, g0, g1, gz⟩, hB⟩ hK'
    rw [hS] at g2
    have c7 := box_cell g2
    have HKK := Lib.hid hK'
    clear hK' hlo hcnt hS
    gi_wp2
    refine ⟨by simp, .inl ⟨_, _, rfl, run_takeDeferred HKK.out, ?_⟩⟩
    have hgr := grownBy_putObj' V D (.deferred none)
    exact ⟨_, results_tmp_tmp (P := Try.prog) rfl _ _ (.int .i64 (mostBk K (bksW f lo cnt))) (.int .i64 0) (by rfl) (by rfl), rfl, hB.grown hgr hB.size (fun k e => by cases e; omega)⟩
  case stop =>
    rintro D c pre V _ _ h _
    exact h.elim
theorem wMost_any {w : World} {p m : Nat} {W B last at_ : Int} {f : Int → Option CntS} (h : WinAt w p m W B last f) (hE : lookW last at_ = 0) (K : Int) (hK : at_ / (W / B) = K) (cnt : Nat) (lo : Int) (hlo : lo = max 0 (K - B + 1)) (hcnt : (cnt : Int) = K - lo + 1) :
    Calls Try.prog 51 #[.pointer (some ⟨p, 0, none⟩), .int .i64 at_] w fun e w' => e = .returned (.tuple #[.int .i64 (mostBk K (bksW f lo cnt)), .int .i64 0]) ∧ Below w.heap.size w w' :=
  (callsIn_wide (n := 9)).1 (wmost_in h hE K hK cnt lo hlo hcnt)
end Go.Proofs.Ytejkfmepiagabaa
