/- spillwaymem.HandRules. -/
import Derived.Test.YtnobfmlfhaaghaaHandI
import Derived.Test.YtnobfmlfhaaghaaHandFl
import Derived.Test.YtnobfmlfhaaghaaHandBr
import Derived.Deep.RegionHeld3
namespace Go.Proofs.Ytnobfmlfhaaghaa
open Go.RowKit
set_option linter.unusedVariables false
set_option linter.unusedSimpArgs false

theorem get_allocJ (w : World) (o : Obj) (i : Nat) : (w.alloc o).heap[i]? = if i = w.heap.size then some o else w.heap[i]? := by
  show (w.heap.push o)[i]? = _
  rw [Array.getElem?_push]
theorem row_atJ (w : World) (cs : List Value) (t : TypeId) {b : Nat} (hb : b = w.heap.size) : ∀ j u, cs[j]? = some u → (w.alloc (.cells cs.toArray t)).cell? ((⟨b, 0, none⟩ : Addr).add j) = some u := by
  intro j u h
  subst hb
  rw [Go.WideShapes.add_plain, World.cell?_alloc_mark, Nat.zero_add]
  simpa using h
theorem infoHt : (Try.prog.info? 69).map (fun i => (i.zero, i.size, i.bytes)) = some (some (.agg #[.string ⟨#[]⟩, .int .i64 0, .int .i64 0, .int .i64 0, .slice none 0 0]), 5, 64) := by kernel_rfl
theorem infoAu : (Try.prog.info? 37).map (fun i => (i.zero, i.size, i.bytes)) = some (some (.agg #[.string ⟨#[]⟩, .bool false, .slice none 0 0]), 3, 48) := by kernel_rfl
theorem own_sliceJ {w : World} {base n size : Nat} {e : TypeId} {v : Value} {xs : List Value} (h : w.ownsRow base e size v n xs) : ∃ a cap, v = .slice a n cap := by
  rcases h.2 with ⟨rfl, rfl⟩ | ⟨g, cap, cur, rfl, _⟩
  · exact ⟨none, 0, rfl⟩
  · exact ⟨_, cap, rfl⟩
theorem flows_rows {w : World} {a : Option Addr} {fs : List FlowS} (h : FlowsAt w a fs) : RowsAt w a 12 (fs.map FlowS.cs) := by
  rcases h with h | ⟨b, off, e, hl, hc⟩
  · exact Or.inl (by rw [h]; rfl)
  · refine Or.inr ⟨b, off, e, hl, fun j r hj k u hk hu => ?_⟩
    rw [List.getElem?_map] at hj
    cases hf : fs[j]? with
    | none => rw [hf] at hj; cases hj
    | some f =>
      rw [hf] at hj
      obtain rfl : FlowS.cs f = r := Option.some.inj hj
      have c := hc j f hf
      match k, hk with
      | 0, _ => obtain rfl := Option.some.inj hu; exact c.c0
      | 1, _ => obtain rfl := Option.some.inj hu; exact c.c1
      | 2, _ => obtain rfl := Option.some.inj hu; exact c.c2
      | 3, _ => obtain rfl := Option.some.inj hu; exact c.c3
      | 4, _ => obtain rfl := Option.some.inj hu; exact c.c4
      | 5, _ => obtain rfl := Option.some.inj hu; exact c.c5
      | 6, _ => obtain rfl := Option.some.inj hu; exact c.c6
      | 7, _ => obtain rfl := Option.some.inj hu; exact c.c7
      | 8, _ => obtain rfl := Option.some.inj hu; exact c.c8
      | 9, _ => obtain rfl := Option.some.inj hu; exact c.c9
      | 10, _ => obtain rfl := Option.some.inj hu; exact c.c10
      | 11, _ => obtain rfl := Option.some.inj hu; exact c.c11

theorem wp_midH {P : Program} {c : Code} {K : Exit → Act → World → Prop} {a : Act} {w : World} (R : Act → Act → World → Prop) (h1 : c.wp P (fun e a' w' => e = .normal ∧ R a a' w') a w) (h2 : ∀ a' w', R a a' w' → K .normal a' w') : c.wp P K a w :=
  wp_mono h1 (fun e a' w' h => by obtain ⟨rfl, h⟩ := h; exact h2 a' w' h)
structure HandF (W : World) (r : RulesS) (gF gB gS B : Nat) (w' : World) : Prop where
  bel : Below W.heap.size W w'
  bz : W.heap.size ≤ B
  box : w'.heap[B]? = some (.cells #[.slice (some ⟨gF, 0, none⟩) r.n0 (r.n0 + 9), .slice (some ⟨gB, 0, none⟩) r.n1 (r.n1 + 9), .slice none 0 0, .slice (some ⟨gS, 0, none⟩) r.n3 (r.n3 + 9), .slice none 0 0] 45)
  rF : ∃ b, w'.ownsRow b 101 12 (.slice (some ⟨gF, 0, none⟩) (r.n0 + 9) (r.n0 + 9)) (r.n0 + 9) (fullFl (r.fl.map FlowS.cs)).flatten
  rB : ∃ b, w'.ownsRow b 104 7 (.slice (some ⟨gB, 0, none⟩) (r.n1 + 9) (r.n1 + 9)) (r.n1 + 9) (fullBr (r.br.map BreakS.cs)).flatten
  rS : ∃ b, w'.ownsRow b 23 5 (.slice (some ⟨gS, 0, none⟩) (r.n3 + 9) (r.n3 + 9)) (r.n3 + 9) (fullSy (r.sy.map SysR.cs)).flatten
def HandM (W : World) (g1 : Nat) (r : RulesS) (a a' : Act) (w' : World) : Prop := ∃ gF gB gS B,
  a' = (((((((((((a.put (some 8) (.pointer (some ⟨g1, 0, none⟩))).put (some 9) (.slice r.a0 r.n0 r.c0)).put (some 10) (.slice (some ⟨gF, 0, none⟩) r.n0 (r.n0 + 9))).put (some 11) (.pointer (some ⟨g1, 1, none⟩))).put (some 12) (.slice r.a1 r.n1 r.c1)).put (some 13) (.slice (some ⟨gB, 0, none⟩) r.n1 (r.n1 + 9))).put (some 14) (.pointer (some ⟨g1, 3, none⟩))).put (some 15) (.slice r.a3 r.n3 r.c3)).put (some 16) (.slice (some ⟨gS, 0, none⟩) r.n3 (r.n3 + 9))).put (some 17) (.agg #[.slice (some ⟨gF, 0, none⟩) r.n0 (r.n0 + 9), .slice (some ⟨gB, 0, none⟩) r.n1 (r.n1 + 9), .slice none 0 0, .slice (some ⟨gS, 0, none⟩) r.n3 (r.n3 + 9), .slice none 0 0])).put (some 3) (.pointer (some ⟨B, 0, none⟩))) ∧ HandF W r gF gB gS B w'
theorem off_setCells (b : Nat) : ∀ (vs : List Value) (o : Nat) (a w : World), Off (fun j => j = b) a w → Off (fun j => j = b) a (w.setCells b o vs)
  | [], _, _, _, h => h
  | v :: vs, o, a, w, h => off_setCells b vs (o + 1) a _ (h.setCell (p := ⟨b, o, none⟩) (fun _ => rfl) v)
theorem handF_put {W wL : World} {r : RulesS} {gF gB gS B : Nat} (hb : Below W.heap.size W wL) (hz : W.heap.size ≤ B) (box : wL.heap[B]? = some (.cells #[.slice none 0 0, .slice none 0 0, .slice none 0 0, .slice none 0 0, .slice none 0 0] 45))
    (rF : ∃ b, wL.ownsRow b 101 12 (.slice (some ⟨gF, 0, none⟩) (r.n0 + 9) (r.n0 + 9)) (r.n0 + 9) (fullFl (r.fl.map FlowS.cs)).flatten) (rB : ∃ b, wL.ownsRow b 104 7 (.slice (some ⟨gB, 0, none⟩) (r.n1 + 9) (r.n1 + 9)) (r.n1 + 9) (fullBr (r.br.map BreakS.cs)).flatten) (rS : ∃ b, wL.ownsRow b 23 5 (.slice (some ⟨gS, 0, none⟩) (r.n3 + 9) (r.n3 + 9)) (r.n3 + 9) (fullSy (r.sy.map SysR.cs)).flatten) :
    HandF W r gF gB gS B (wL.setCells B 0 [.slice (some ⟨gF, 0, none⟩) r.n0 (r.n0 + 9), .slice (some ⟨gB, 0, none⟩) r.n1 (r.n1 + 9), .slice none 0 0, .slice (some ⟨gS, 0, none⟩) r.n3 (r.n3 + 9), .slice none 0 0]) := by
  have ht : typeAtH wL B = some 45 := by unfold typeAtH; rw [box]
  have hoff : Off (fun j => j = B) wL (wL.setCells B 0 [.slice (some ⟨gF, 0, none⟩) r.n0 (r.n0 + 9), .slice (some ⟨gB, 0, none⟩) r.n1 (r.n1 + 9), .slice none 0 0, .slice (some ⟨gS, 0, none⟩) r.n3 (r.n3 + 9), .slice none 0 0]) := by
    exact off_setCells B _ _ _ _ (Off.refl _ _)
  refine ⟨hb.trans (hoff.below hb.size (fun j hj e => by omega)), hz, ?_, ?_, ?_, ?_⟩
  · have e0 := heap_setCell_same wL B 0 _ _ (.slice (some ⟨gF, 0, none⟩) r.n0 (r.n0 + 9)) box
    have e1 := heap_setCell_same _ B 1 _ _ (.slice (some ⟨gB, 0, none⟩) r.n1 (r.n1 + 9)) e0
    have e2 := heap_setCell_same _ B 2 _ _ (.slice none 0 0) e1
    have e3 := heap_setCell_same _ B 3 _ _ (.slice (some ⟨gS, 0, none⟩) r.n3 (r.n3 + 9)) e2
    exact heap_setCell_same _ B 4 _ _ (.slice none 0 0) e3
  · obtain ⟨b, h⟩ := rF
    exact ⟨b, ownH_off h hoff (fun j ej e => by have := (typeAtH_own h ej).1; rw [e, ht] at this; exact absurd this (by decide))⟩
  · obtain ⟨b, h⟩ := rB
    exact ⟨b, ownH_off h hoff (fun j ej e => by have := (typeAtH_own h ej).1; rw [e, ht] at this; exact absurd this (by decide))⟩
  · obtain ⟨b, h⟩ := rS
    exact ⟨b, ownH_off h hoff (fun j ej e => by have := (typeAtH_own h ej).1; rw [e, ht] at this; exact absurd this (by decide))⟩

theorem box_put {w : World} {b : Nat} (h : w.heap[b]? = some (.cells #[.slice none 0 0, .slice none 0 0, .slice none 0 0, .slice none 0 0, .slice none 0 0] 45)) (v0 v1 v2 v3 v4 : Value) : (w.setCells b 0 [v0, v1, v2, v3, v4]).heap[b]? = some (.cells #[v0, v1, v2, v3, v4] 45) := by
  have e0 := heap_setCell_same w b 0 _ _ v0 h
  have e1 := heap_setCell_same _ b 1 _ _ v1 e0
  have e2 := heap_setCell_same _ b 2 _ _ v2 e1
  have e3 := heap_setCell_same _ b 3 _ _ v3 e2
  exact heap_setCell_same _ b 4 _ _ v4 e3
/-- x is r as HandRules gave it. -/
structure HandedR (w : World) (r x : RulesS) : Prop where
  f : ∃ g b, x.a0 = some ⟨g, 0, none⟩ ∧ x.n0 = r.n0 ∧ x.c0 = r.n0 + 9 ∧ x.fl = r.fl ∧ w.ownsRow b 101 12 (.slice (some ⟨g, 0, none⟩) (r.n0 + 9) (r.n0 + 9)) (r.n0 + 9) (fullFl (r.fl.map FlowS.cs)).flatten
  b : ∃ g b, x.a1 = some ⟨g, 0, none⟩ ∧ x.n1 = r.n1 ∧ x.c1 = r.n1 + 9 ∧ x.br = r.br ∧ w.ownsRow b 104 7 (.slice (some ⟨g, 0, none⟩) (r.n1 + 9) (r.n1 + 9)) (r.n1 + 9) (fullBr (r.br.map BreakS.cs)).flatten
  s : ∃ g b, x.a3 = some ⟨g, 0, none⟩ ∧ x.n3 = r.n3 ∧ x.c3 = r.n3 + 9 ∧ x.sy = r.sy ∧ w.ownsRow b 23 5 (.slice (some ⟨g, 0, none⟩) (r.n3 + 9) (r.n3 + 9)) (r.n3 + 9) (fullSy (r.sy.map SysR.cs)).flatten
  n2 : x.n2 = r.n2
  n4 : x.n4 = r.n4
  l2 : x.ho.length = x.n2
  l4 : x.au.length = x.n4
  hk : x.ho.map HotS.kern = r.ho.map HotS.kern
  ak : x.au.map AuthS.kern = r.au.map AuthS.kern
  h : ∃ base, w.ownsRow base 69 5 (.slice x.a2 x.n2 x.c2) x.n2 (x.ho.map HotS.cs).flatten ∧ ∀ y ∈ x.ho, HotHand w base y
  a : ∃ base, w.ownsRow base 37 3 (.slice x.a4 x.n4 x.c4) x.n4 (x.au.map AuthS.cs).flatten ∧ ∀ y ∈ x.au, AuthHand w base y
theorem HandedR.below {w w' : World} {r x : RulesS} (h : HandedR w r x) (hb : Below w.heap.size w w') : HandedR w' r x := by
  obtain ⟨⟨g0, b0, p1, p2, p3, p4, p5⟩, ⟨g1, b1, q1, q2, q3, q4, q5⟩, ⟨g2, b2, s1, s2, s3, s4, s5⟩, n2, n4, l2, l4, hk, ak, ⟨ba, h1, h2⟩, ⟨bb, a1, a2⟩⟩ := h
  exact ⟨⟨g0, b0, p1, p2, p3, p4, below_ownT p5 hb⟩, ⟨g1, b1, q1, q2, q3, q4, below_ownT q5 hb⟩, ⟨g2, b2, s1, s2, s3, s4, below_ownT s5 hb⟩, n2, n4, l2, l4, hk, ak, ⟨ba, below_ownT h1 hb, fun y hy => (h2 y hy).below hb⟩, ⟨bb, below_ownT a1 hb, fun y hy => (a2 y hy).below hb⟩⟩
def HandP (w : World) (r : RulesS) : Ending → World → Prop := fun e w' => ∃ x : RulesS, e = .returned (.agg x.cs) ∧ HandedR w' r x ∧ Below w.heap.size w w'
theorem handed_of {w W w1 wz : World} {r : RulesS} {gF gB gS B N : Nat} {va2 va4 : Option Addr} {vc2 vc4 : Nat} {ho : List HotS} {au : List AuthS} (hb0 : Below w.heap.size w W) (hF : HandF W r gF gB gS B w1)
    (hI : HandI w1 B N (.slice (some ⟨gF, 0, none⟩) r.n0 (r.n0 + 9)) (.slice (some ⟨gB, 0, none⟩) r.n1 (r.n1 + 9)) (.slice (some ⟨gS, 0, none⟩) r.n3 (r.n3 + 9)) (.slice va2 ho.length vc2) (.slice va4 au.length vc4) ho au wz) (hh : ho.map HotS.kern = r.ho.map HotS.kern) (ha : au.map AuthS.kern = r.au.map AuthS.kern) (l2 : ho.length = r.n2) (l4 : au.length = r.n4)
    (hB2 : wz.heap[w.heap.size + 1]? = some (.cells #[.slice none 0 0, .slice none 0 0, .slice none 0 0, .slice none 0 0, .slice none 0 0] 45)) (hz : W.heap.size = w.heap.size + 2) (v0 v1 v2 v3 v4 : Value) :
    HandP w r (.returned (.agg #[.slice (some ⟨gF, 0, none⟩) r.n0 (r.n0 + 9), .slice (some ⟨gB, 0, none⟩) r.n1 (r.n1 + 9), .slice va2 ho.length vc2, .slice (some ⟨gS, 0, none⟩) r.n3 (r.n3 + 9), .slice va4 au.length vc4])) (wz.setCells (w.heap.size + 1) 0 [v0, v1, v2, v3, v4]) := by
  have ht : typeAtH wz (w.heap.size + 1) = some 45 := by unfold typeAtH; rw [hB2]
  have ht1 : typeAtH w1 B = some 45 := by unfold typeAtH; rw [hF.box]
  have hoff : Off (fun j => j = w.heap.size + 1) wz (wz.setCells (w.heap.size + 1) 0 [v0, v1, v2, v3, v4]) := off_setCells (w.heap.size + 1) _ _ _ _ (Off.refl _ _)
  have hne : ∀ {n size b : Nat} {e : TypeId} {v : Value} {xs : List Value}, wz.ownsRow b e size v n xs → e ≠ 45 → ∀ j, v.ownBlock = some j → ¬ j = w.heap.size + 1 := fun hw he j ej e => by
    have h := (typeAtH_own hw ej).1
    rw [e, ht] at h
    exact he (Option.some.inj h).symm
  have hne1 : ∀ {n size b : Nat} {e : TypeId} {v : Value} {xs : List Value}, w1.ownsRow b e size v n xs → e ≠ 45 → ∀ j, v.ownBlock = some j → ¬ j = B := fun hw he j ej e => by
    have h := (typeAtH_own hw ej).1
    rw [e, ht1] at h
    exact he (Option.some.inj h).symm
  obtain ⟨bF, rF⟩ := hF.rF
  obtain ⟨bB, rB⟩ := hF.rB
  obtain ⟨bS, rS⟩ := hF.rS
  have sF := ownH_off rF hI.off (hne1 rF (by decide))
  have sB := ownH_off rB hI.off (hne1 rB (by decide))
  have sS := ownH_off rS hI.off (hne1 rS (by decide))
  have hWz : Below W.heap.size W wz := hF.bel.trans (hI.off.below hF.bel.size (fun i hi e => by have := hF.bz; omega))
  refine ⟨⟨some ⟨gF, 0, none⟩, r.n0, r.n0 + 9, some ⟨gB, 0, none⟩, r.n1, r.n1 + 9, va2, ho.length, vc2, some ⟨gS, 0, none⟩, r.n3, r.n3 + 9, va4, au.length, vc4, r.fl, r.br, ho, r.sy, au⟩, rfl, ?_, (hb0.trans (hWz.mono hb0.size)).trans (hoff.below (Nat.le_trans (hb0.size) hWz.size) (fun j hj e => by omega))⟩
  exact ⟨⟨gF, bF, rfl, rfl, rfl, rfl, ownH_off sF hoff (hne sF (by decide))⟩, ⟨gB, bB, rfl, rfl, rfl, rfl, ownH_off sB hoff (hne sB (by decide))⟩, ⟨gS, bS, rfl, rfl, rfl, rfl, ownH_off sS hoff (hne sS (by decide))⟩, l2, l4, rfl, rfl, hh, ha,
    ⟨N, ownH_off hI.r2 hoff (hne hI.r2 (by decide)), fun y hy => by obtain ⟨g, b, c1, c2, c3, c4, c5⟩ := hI.oh y hy; exact ⟨g, b, c1, c2, c3, c4, ownH_off c5 hoff (hne c5 (by decide))⟩⟩,
    ⟨N, ownH_off hI.r4 hoff (hne hI.r4 (by decide)), fun y hy => by obtain ⟨g, b, c1, c2, c3, c4, c5⟩ := hI.oa y hy; exact ⟨g, b, c1, c2, c3, c4, ownH_off c5 hoff (hne c5 (by decide))⟩⟩⟩

set_option maxHeartbeats 25600000 in
set_option maxRecDepth 100000 in
theorem handR_any {w : World} (r : RulesS) (hr : RulesAt w r) : Calls Try.prog 15 #[.agg r.cs] w (HandP w r) := by
  obtain ⟨ihi, ih, ih0, ih1, ih2⟩ := info_partsO infoHt
  obtain ⟨iai, ia, ia0, ia1, ia2⟩ := info_partsO infoAu
  have HRW := Lib.hid hr
  have hb0 : Below w.heap.size w ((w.alloc (.cells r.cs 45)).alloc (.cells #[.slice none 0 0, .slice none 0 0, .slice none 0 0, .slice none 0 0, .slice none 0 0] 45)) := ((Below.refl _ _).alloc (Nat.le_refl _) _).alloc (by simp) _
  have h0 : ((w.alloc (.cells r.cs 45)).alloc (.cells #[.slice none 0 0, .slice none 0 0, .slice none 0 0, .slice none 0 0, .slice none 0 0] 45)).heap[w.heap.size]? = some (.cells r.cs 45) := by rw [get_allocJ, if_neg (by simp), get_allocJ, if_pos rfl]
  have h1 : ((w.alloc (.cells r.cs 45)).alloc (.cells #[.slice none 0 0, .slice none 0 0, .slice none 0 0, .slice none 0 0, .slice none 0 0] 45)).heap[w.heap.size + 1]? = some (.cells #[.slice none 0 0, .slice none 0 0, .slice none 0 0, .slice none 0 0, .slice none 0 0] 45) := by rw [get_allocJ, if_pos (by simp)]
  have hz : ((w.alloc (.cells r.cs 45)).alloc (.cells #[.slice none 0 0, .slice none 0 0, .slice none 0 0, .slice none 0 0, .slice none 0 0] 45)).heap.size = w.heap.size + 2 := by simp
  have HWF := Lib.hid (fun (wx : World) (hx : Below w.heap.size w wx) => flows_rows (HRW.out.fl.below (Nat.le_refl _) hx))
  have HWB := Lib.hid (fun (wx : World) (hx : Below w.heap.size w wx) => HRW.out.br.below (Nat.le_refl _) hx)
  have HWS := Lib.hid (fun (wx : World) (hx : Below w.heap.size w wx) => HRW.out.sy.below (Nat.le_refl _) hx)
  clear hr
  unfold RulesS.cs at *
  generalize hA2 : r.a2 = A2 at *
  generalize hA4 : r.a4 = A4 at *
  have HA2 := Lib.hid hA2
  have HA4 := Lib.hid hA4
  clear hA2 hA4
  go_enter Try.func15, Try.ntmps15
  go_wp2_with (fail)
  generalize ((w.alloc _).alloc _) = W at *
  have HB0 := Lib.hid hb0
  have HCF : Hid (∀ wx, Below W.heap.size W wx → Calls Try.prog 34 #[.slice r.a0 r.n0 r.c0] wx fun e w' => e = .returned (.slice (some ⟨wx.heap.size, 0, none⟩) r.n0 (r.n0 + 9)) ∧ w'.ownsRow wx.heap.size 101 12 (.slice (some ⟨wx.heap.size, 0, none⟩) (r.n0 + 9) (r.n0 + 9)) (r.n0 + 9) (fullFl (r.fl.map FlowS.cs)).flatten ∧ Below wx.heap.size wx w') := Lib.hid (fun wx hx => handFl_any r.a0 r.n0 r.c0 r.fl HRW.out.l0 HRW.out.s0 (HWF.out wx (HB0.out.trans (hx.mono HB0.out.size))))
  have HCB : Hid (∀ wx, Below W.heap.size W wx → Calls Try.prog 35 #[.slice r.a1 r.n1 r.c1] wx fun e w' => e = .returned (.slice (some ⟨wx.heap.size, 0, none⟩) r.n1 (r.n1 + 9)) ∧ w'.ownsRow wx.heap.size 104 7 (.slice (some ⟨wx.heap.size, 0, none⟩) (r.n1 + 9) (r.n1 + 9)) (r.n1 + 9) (fullBr (r.br.map BreakS.cs)).flatten ∧ Below wx.heap.size wx w') := Lib.hid (fun wx hx => handBr_any r.a1 r.n1 r.c1 r.br HRW.out.l1 HRW.out.s1 (HWB.out wx (HB0.out.trans (hx.mono HB0.out.size))))
  have HCS : Hid (∀ wx, Below W.heap.size W wx → Calls Try.prog 23 #[.slice r.a3 r.n3 r.c3] wx fun e w' => e = .returned (.slice (some ⟨wx.heap.size, 0, none⟩) r.n3 (r.n3 + 9)) ∧ w'.ownsRow wx.heap.size 23 5 (.slice (some ⟨wx.heap.size, 0, none⟩) (r.n3 + 9) (r.n3 + 9)) (r.n3 + 9) (fullSy (r.sy.map SysR.cs)).flatten ∧ Below wx.heap.size wx w') := Lib.hid (fun wx hx => handSy_any r.a3 r.n3 r.c3 r.sy HRW.out.l3 HRW.out.s3 (HWS.out wx (HB0.out.trans (hx.mono HB0.out.size))))
  have HBOX : Hid (∀ wx, Below W.heap.size W wx → wx.cell? ⟨w.heap.size, 0, none⟩ = some (.slice r.a0 r.n0 r.c0) ∧ wx.cell? ⟨w.heap.size, 1, none⟩ = some (.slice r.a1 r.n1 r.c1) ∧ wx.cell? ⟨w.heap.size, 2, none⟩ = some (.slice A2 r.n2 r.c2) ∧ wx.cell? ⟨w.heap.size, 3, none⟩ = some (.slice r.a3 r.n3 r.c3) ∧ wx.cell? ⟨w.heap.size, 4, none⟩ = some (.slice A4 r.n4 r.c4)) := Lib.hid (fun wx hb => by
    have g0 := (hb.block w.heap.size (by omega)).trans h0
    simp only [World.cell?, g0]
    exact ⟨rfl, rfl, rfl, rfl, rfl⟩)
  have SB : Hid (∀ wx, Below W.heap.size W wx → (fun wx => (wx.cell? ⟨w.heap.size, 0, none⟩ = some (.slice r.a0 r.n0 r.c0) ∧ wx.cell? ⟨w.heap.size, 1, none⟩ = some (.slice r.a1 r.n1 r.c1) ∧ wx.cell? ⟨w.heap.size, 3, none⟩ = some (.slice r.a3 r.n3 r.c3)) ∧ Below W.heap.size W wx) wx) := Lib.hid (fun wx hb => by
    obtain ⟨c0, c1, c2, c3, c4⟩ := HBOX.out wx hb
    exact ⟨⟨c0, c1, c3⟩, hb⟩)
  have HBOX2 : Hid (∀ wx, Below W.heap.size W wx → wx.heap[w.heap.size + 1]? = some (.cells #[.slice none 0 0, .slice none 0 0, .slice none 0 0, .slice none 0 0, .slice none 0 0] 45)) := Lib.hid (fun wx hb => (hb.block _ (by omega)).trans h1)
  have HW0Z := Lib.hid hz
  clear h0 h1 hz hb0
  refine wp_midH (HandM W w.heap.size r) ?_ ?_
  · refine wp_region_noPanic ?_
    refine wp_region_held_drew (S := (fun wx => (wx.cell? ⟨w.heap.size, 0, none⟩ = some (.slice r.a0 r.n0 r.c0) ∧ wx.cell? ⟨w.heap.size, 1, none⟩ = some (.slice r.a1 r.n1 r.c1) ∧ wx.cell? ⟨w.heap.size, 3, none⟩ = some (.slice r.a3 r.n3 r.c3)) ∧ Below W.heap.size W wx)) (by kernel_rfl) ?_ (fun hHeld => ?_)
    · exact SB.out _ (Below.refl _ _).drew
    generalize hW0 : W.drew = W0 at *
    clear hW0
    refine wpAnyH_take (i := 0) (v := ?_) rfl (by kernel_rfl) (by kernel_rfl) (by kernel_rfl) (fun _ _ _ h => h) (Or.inl ⟨by rfl, ?hy⟩) (by assumption) ?_
    case hy => intro w hSw; (try dsimp only at hSw); go_simp; try with_reducible rfl
    try simp only [Act.put, List.getElem_toArray, List.getElem_cons_succ, List.getElem_cons_zero, List.setIfInBounds_toArray, List.set_cons_zero, List.set_cons_succ]
    refine wpAnyH_take (i := 1) (v := ?_) rfl (by kernel_rfl) (by kernel_rfl) (by kernel_rfl) (fun _ _ _ h => h) (Or.inl ⟨by rfl, ?hy⟩) (by assumption) ?_
    case hy => intro w hSw; (try dsimp only at hSw); go_simp; try with_reducible rfl
    try simp only [Act.put, List.getElem_toArray, List.getElem_cons_succ, List.getElem_cons_zero, List.setIfInBounds_toArray, List.set_cons_zero, List.set_cons_succ]
    refine wpAnyH_take (i := 3) (v := ?_) rfl (by kernel_rfl) (by kernel_rfl) (by kernel_rfl) (fun _ _ _ h => h) (Or.inl ⟨by rfl, ?hy⟩) (by assumption) ?_
    case hy => intro w hSw; (try dsimp only at hSw); go_simp; try with_reducible rfl
    try simp only [Act.put, List.getElem_toArray, List.getElem_cons_succ, List.getElem_cons_zero, List.setIfInBounds_toArray, List.set_cons_zero, List.set_cons_succ]
    refine wpAnyH_take (i := 4) (v := ?_) rfl (by kernel_rfl) (by kernel_rfl) (by kernel_rfl) (fun _ _ _ h => h) (Or.inl ⟨by rfl, ?hy⟩) (by assumption) ?_
    case hy => intro w hSw; (try dsimp only at hSw); go_simp; try with_reducible rfl
    try simp only [Act.put, List.getElem_toArray, List.getElem_cons_succ, List.getElem_cons_zero, List.setIfInBounds_toArray, List.set_cons_zero, List.set_cons_succ]
    refine wpAnyH_take (i := 6) (v := ?_) rfl (by kernel_rfl) (by kernel_rfl) (by kernel_rfl) (fun _ _ _ h => h) (Or.inl ⟨by rfl, ?hy⟩) (by assumption) ?_
    case hy => intro w hSw; (try dsimp only at hSw); go_simp; try with_reducible rfl
    try simp only [Act.put, List.getElem_toArray, List.getElem_cons_succ, List.getElem_cons_zero, List.setIfInBounds_toArray, List.set_cons_zero, List.set_cons_succ]
    refine wpAnyH_take (i := 7) (v := ?_) rfl (by kernel_rfl) (by kernel_rfl) (by kernel_rfl) (fun _ _ _ h => h) (Or.inl ⟨by rfl, ?hy⟩) (by assumption) ?_
    case hy => intro w hSw; (try dsimp only at hSw); go_simp; try with_reducible rfl
    try simp only [Act.put, List.getElem_toArray, List.getElem_cons_succ, List.getElem_cons_zero, List.setIfInBounds_toArray, List.set_cons_zero, List.set_cons_succ]
    refine wpAnyH_ready (rs := [2, 10]) (by kernel_rfl) (by simp) (AllReadyH.cons rfl (fun K hK => ?_) (AllReadyH.cons rfl (fun K hK => ?_) AllReadyH.nil))
    · go_simp
      go_at_call 34; refine (HCF.out _ hHeld.2).mono ?_; rintro e wF ⟨rfl, hoF, hbF⟩
      try (go_wp2_with fail)
      refine hK.out _ _ ?_ (fun hHeld => ?_)
      · exact SB.out _ (hHeld.2.trans (hbF.mono hHeld.2.size))
      clear hK K hbF
      try simp only [Act.put, List.getElem_toArray, List.getElem_cons_succ, List.getElem_cons_zero, List.setIfInBounds_toArray, List.set_cons_zero, List.set_cons_succ]
      refine wpAnyH_ready (rs := [5, 10]) (by kernel_rfl) (by simp) (AllReadyH.cons rfl (fun K hK => ?_) (AllReadyH.cons rfl (fun K hK => ?_) AllReadyH.nil))
      · go_simp
        go_at_call 35; refine (HCB.out _ hHeld.2).mono ?_; rintro e wB ⟨rfl, hoB, hbB⟩
        try (go_wp2_with fail)
        have hoF := below_ownT hoF hbB
        refine hK.out _ _ ?_ (fun hHeld => ?_)
        · exact SB.out _ (hHeld.2.trans (hbB.mono hHeld.2.size))
        clear hK K hbB
        try simp only [Act.put, List.getElem_toArray, List.getElem_cons_succ, List.getElem_cons_zero, List.setIfInBounds_toArray, List.set_cons_zero, List.set_cons_succ]
        refine wpAnyH_ready (rs := [8, 10]) (by kernel_rfl) (by simp) (AllReadyH.cons rfl (fun K hK => ?_) (AllReadyH.cons rfl (fun K hK => ?_) AllReadyH.nil))
        · go_simp
          go_at_call 23; refine (HCS.out _ hHeld.2).mono ?_; rintro e wS ⟨rfl, hoS, hbS⟩
          try (go_wp2_with fail)
          have hoF := below_ownT hoF hbS
          have hoB := below_ownT hoB hbS
          refine hK.out _ _ ?_ (fun hHeld => ?_)
          · exact SB.out _ (hHeld.2.trans (hbS.mono hHeld.2.size))
          clear hK K hbS
          try simp only [Act.put, List.getElem_toArray, List.getElem_cons_succ, List.getElem_cons_zero, List.setIfInBounds_toArray, List.set_cons_zero, List.set_cons_succ]
          refine wpAnyH_take (i := 9) (v := ?_) rfl (by kernel_rfl) (by kernel_rfl) (by kernel_rfl) (fun _ _ _ h => h) (Or.inl ⟨by rfl, ?hy⟩) (by assumption) ?_
          case hy => intro w hSw; (try dsimp only at hSw); go_simp; try with_reducible rfl
          try simp only [Act.put, List.getElem_toArray, List.getElem_cons_succ, List.getElem_cons_zero, List.setIfInBounds_toArray, List.set_cons_zero, List.set_cons_succ]
          refine wpAnyH_ready (rs := [10]) (by kernel_rfl) (by simp) (AllReadyH.cons rfl (fun K hK => ?_) AllReadyH.nil)
          go_simp
          have hbA := (Below.refl _ wS).alloc (Nat.le_refl _) (.cells #[.slice none 0 0, .slice none 0 0, .slice none 0 0, .slice none 0 0, .slice none 0 0] 45)
          have hbx : (wS.alloc (.cells #[.slice none 0 0, .slice none 0 0, .slice none 0 0, .slice none 0 0, .slice none 0 0] 45)).heap[wS.heap.size]? = some (.cells #[.slice none 0 0, .slice none 0 0, .slice none 0 0, .slice none 0 0, .slice none 0 0] 45) := by rw [get_allocJ, if_pos rfl]
          have hbz : W.heap.size ≤ wS.heap.size := hHeld.2.size
          have hoF := below_ownT hoF hbA
          have hoB := below_ownT hoB hbA
          have hoS := below_ownT hoS hbA
          try (go_wp2_with fail)
          refine hK.out _ _ ?_ (fun hHeld => ?_)
          · exact SB.out _ (hHeld.2.trans (hbA.mono hHeld.2.size))
          clear hK K
          try simp only [Act.put, List.getElem_toArray, List.getElem_cons_succ, List.getElem_cons_zero, List.setIfInBounds_toArray, List.set_cons_zero, List.set_cons_succ]
          generalize wS.alloc (.cells #[.slice none 0 0, .slice none 0 0, .slice none 0 0, .slice none 0 0, .slice none 0 0] 45) = wA at *
          obtain ⟨B, hB⟩ : ∃ B, wS.heap.size = B := ⟨_, rfl⟩
          rw [hB] at hbx hbz
          try rw [hB]
          clear hbA
          refine wpAnyH_ready (rs := [11]) (by kernel_rfl) (by simp) (AllReadyH.cons rfl (fun K hK => ?_) AllReadyH.nil)
          have HFF := Lib.hid (handF_put hHeld.2 hbz hbx ⟨_, hoF⟩ ⟨_, hoB⟩ ⟨_, hoS⟩)
          have z0 : wA.cell? ⟨B, 0, none⟩ = some (.slice none 0 0) := by simp only [World.cell?, hbx]; rfl
          have y0 : wA.frozen? ⟨B, 0, none⟩ = false := by simp [World.frozen?, hbx]
          have z1 : wA.cell? ⟨B, 1, none⟩ = some (.slice none 0 0) := by simp only [World.cell?, hbx]; rfl
          have y1 : wA.frozen? ⟨B, 1, none⟩ = false := by simp [World.frozen?, hbx]
          have z2 : wA.cell? ⟨B, 2, none⟩ = some (.slice none 0 0) := by simp only [World.cell?, hbx]; rfl
          have y2 : wA.frozen? ⟨B, 2, none⟩ = false := by simp [World.frozen?, hbx]
          have z3 : wA.cell? ⟨B, 3, none⟩ = some (.slice none 0 0) := by simp only [World.cell?, hbx]; rfl
          have y3 : wA.frozen? ⟨B, 3, none⟩ = false := by simp [World.frozen?, hbx]
          have z4 : wA.cell? ⟨B, 4, none⟩ = some (.slice none 0 0) := by simp only [World.cell?, hbx]; rfl
          have y4 : wA.frozen? ⟨B, 4, none⟩ = false := by simp [World.frozen?, hbx]
          clear hbx hoF hoB hoS hbz
          go_simp
          try (go_wp2_with fail)
          refine hK.out _ _ ?_ (fun hHeld => ?_)
          · exact SB.out _ HFF.out.bel
          clear hK K
          try simp only [Act.put, List.getElem_toArray, List.getElem_cons_succ, List.getElem_cons_zero, List.setIfInBounds_toArray, List.set_cons_zero, List.set_cons_succ]
          refine wpAnyH_done (by kernel_rfl) ?_ _
          refine NoPanic.normal ?_
          exact ⟨rfl, _, _, _, _, by simp only [Act.put, List.setIfInBounds_toArray, List.set_cons_zero, List.set_cons_succ], HFF.out⟩
        · go_simp
          have hbA := (Below.refl _ wB).alloc (Nat.le_refl _) (.cells #[.slice none 0 0, .slice none 0 0, .slice none 0 0, .slice none 0 0, .slice none 0 0] 45)
          have hbx : (wB.alloc (.cells #[.slice none 0 0, .slice none 0 0, .slice none 0 0, .slice none 0 0, .slice none 0 0] 45)).heap[wB.heap.size]? = some (.cells #[.slice none 0 0, .slice none 0 0, .slice none 0 0, .slice none 0 0, .slice none 0 0] 45) := by rw [get_allocJ, if_pos rfl]
          have hbz : W.heap.size ≤ wB.heap.size := hHeld.2.size
          have hoF := below_ownT hoF hbA
          have hoB := below_ownT hoB hbA
          try (go_wp2_with fail)
          refine hK.out _ _ ?_ (fun hHeld => ?_)
          · exact SB.out _ (hHeld.2.trans (hbA.mono hHeld.2.size))
          clear hK K
          try simp only [Act.put, List.getElem_toArray, List.getElem_cons_succ, List.getElem_cons_zero, List.setIfInBounds_toArray, List.set_cons_zero, List.set_cons_succ]
          generalize wB.alloc (.cells #[.slice none 0 0, .slice none 0 0, .slice none 0 0, .slice none 0 0, .slice none 0 0] 45) = wA at *
          obtain ⟨B, hB⟩ : ∃ B, wB.heap.size = B := ⟨_, rfl⟩
          rw [hB] at hbx hbz
          try rw [hB]
          clear hbA
          refine wpAnyH_ready (rs := [8]) (by kernel_rfl) (by simp) (AllReadyH.cons rfl (fun K hK => ?_) AllReadyH.nil)
          go_simp
          go_at_call 23; refine (HCS.out _ hHeld.2).mono ?_; rintro e wS ⟨rfl, hoS, hbS⟩
          try (go_wp2_with fail)
          have hoF := below_ownT hoF hbS
          have hoB := below_ownT hoB hbS
          have hbx := (hbS.block _ (Array.getElem?_eq_some_iff.1 hbx).1).trans hbx
          refine hK.out _ _ ?_ (fun hHeld => ?_)
          · exact SB.out _ (hHeld.2.trans (hbS.mono hHeld.2.size))
          clear hK K hbS
          try simp only [Act.put, List.getElem_toArray, List.getElem_cons_succ, List.getElem_cons_zero, List.setIfInBounds_toArray, List.set_cons_zero, List.set_cons_succ]
          refine wpAnyH_take (i := 9) (v := ?_) rfl (by kernel_rfl) (by kernel_rfl) (by kernel_rfl) (fun _ _ _ h => h) (Or.inl ⟨by rfl, ?hy⟩) (by assumption) ?_
          case hy => intro w hSw; (try dsimp only at hSw); go_simp; try with_reducible rfl
          try simp only [Act.put, List.getElem_toArray, List.getElem_cons_succ, List.getElem_cons_zero, List.setIfInBounds_toArray, List.set_cons_zero, List.set_cons_succ]
          refine wpAnyH_ready (rs := [11]) (by kernel_rfl) (by simp) (AllReadyH.cons rfl (fun K hK => ?_) AllReadyH.nil)
          have HFF := Lib.hid (handF_put hHeld.2 hbz hbx ⟨_, hoF⟩ ⟨_, hoB⟩ ⟨_, hoS⟩)
          have z0 : wS.cell? ⟨B, 0, none⟩ = some (.slice none 0 0) := by simp only [World.cell?, hbx]; rfl
          have y0 : wS.frozen? ⟨B, 0, none⟩ = false := by simp [World.frozen?, hbx]
          have z1 : wS.cell? ⟨B, 1, none⟩ = some (.slice none 0 0) := by simp only [World.cell?, hbx]; rfl
          have y1 : wS.frozen? ⟨B, 1, none⟩ = false := by simp [World.frozen?, hbx]
          have z2 : wS.cell? ⟨B, 2, none⟩ = some (.slice none 0 0) := by simp only [World.cell?, hbx]; rfl
          have y2 : wS.frozen? ⟨B, 2, none⟩ = false := by simp [World.frozen?, hbx]
          have z3 : wS.cell? ⟨B, 3, none⟩ = some (.slice none 0 0) := by simp only [World.cell?, hbx]; rfl
          have y3 : wS.frozen? ⟨B, 3, none⟩ = false := by simp [World.frozen?, hbx]
          have z4 : wS.cell? ⟨B, 4, none⟩ = some (.slice none 0 0) := by simp only [World.cell?, hbx]; rfl
          have y4 : wS.frozen? ⟨B, 4, none⟩ = false := by simp [World.frozen?, hbx]
          clear hbx hoF hoB hoS hbz
          go_simp
          try (go_wp2_with fail)
          refine hK.out _ _ ?_ (fun hHeld => ?_)
          · exact SB.out _ HFF.out.bel
          clear hK K
          try simp only [Act.put, List.getElem_toArray, List.getElem_cons_succ, List.getElem_cons_zero, List.setIfInBounds_toArray, List.set_cons_zero, List.set_cons_succ]
          refine wpAnyH_done (by kernel_rfl) ?_ _
          refine NoPanic.normal ?_
          exact ⟨rfl, _, _, _, _, by simp only [Act.put, List.setIfInBounds_toArray, List.set_cons_zero, List.set_cons_succ], HFF.out⟩
      · go_simp
        have hbA := (Below.refl _ wF).alloc (Nat.le_refl _) (.cells #[.slice none 0 0, .slice none 0 0, .slice none 0 0, .slice none 0 0, .slice none 0 0] 45)
        have hbx : (wF.alloc (.cells #[.slice none 0 0, .slice none 0 0, .slice none 0 0, .slice none 0 0, .slice none 0 0] 45)).heap[wF.heap.size]? = some (.cells #[.slice none 0 0, .slice none 0 0, .slice none 0 0, .slice none 0 0, .slice none 0 0] 45) := by rw [get_allocJ, if_pos rfl]
        have hbz : W.heap.size ≤ wF.heap.size := hHeld.2.size
        have hoF := below_ownT hoF hbA
        try (go_wp2_with fail)
        refine hK.out _ _ ?_ (fun hHeld => ?_)
        · exact SB.out _ (hHeld.2.trans (hbA.mono hHeld.2.size))
        clear hK K
        try simp only [Act.put, List.getElem_toArray, List.getElem_cons_succ, List.getElem_cons_zero, List.setIfInBounds_toArray, List.set_cons_zero, List.set_cons_succ]
        generalize wF.alloc (.cells #[.slice none 0 0, .slice none 0 0, .slice none 0 0, .slice none 0 0, .slice none 0 0] 45) = wA at *
        obtain ⟨B, hB⟩ : ∃ B, wF.heap.size = B := ⟨_, rfl⟩
        rw [hB] at hbx hbz
        try rw [hB]
        clear hbA
        refine wpAnyH_ready (rs := [5]) (by kernel_rfl) (by simp) (AllReadyH.cons rfl (fun K hK => ?_) AllReadyH.nil)
        go_simp
        go_at_call 35; refine (HCB.out _ hHeld.2).mono ?_; rintro e wB ⟨rfl, hoB, hbB⟩
        try (go_wp2_with fail)
        have hoF := below_ownT hoF hbB
        have hbx := (hbB.block _ (Array.getElem?_eq_some_iff.1 hbx).1).trans hbx
        refine hK.out _ _ ?_ (fun hHeld => ?_)
        · exact SB.out _ (hHeld.2.trans (hbB.mono hHeld.2.size))
        clear hK K hbB
        try simp only [Act.put, List.getElem_toArray, List.getElem_cons_succ, List.getElem_cons_zero, List.setIfInBounds_toArray, List.set_cons_zero, List.set_cons_succ]
        refine wpAnyH_ready (rs := [8]) (by kernel_rfl) (by simp) (AllReadyH.cons rfl (fun K hK => ?_) AllReadyH.nil)
        go_simp
        go_at_call 23; refine (HCS.out _ hHeld.2).mono ?_; rintro e wS ⟨rfl, hoS, hbS⟩
        try (go_wp2_with fail)
        have hoF := below_ownT hoF hbS
        have hoB := below_ownT hoB hbS
        have hbx := (hbS.block _ (Array.getElem?_eq_some_iff.1 hbx).1).trans hbx
        refine hK.out _ _ ?_ (fun hHeld => ?_)
        · exact SB.out _ (hHeld.2.trans (hbS.mono hHeld.2.size))
        clear hK K hbS
        try simp only [Act.put, List.getElem_toArray, List.getElem_cons_succ, List.getElem_cons_zero, List.setIfInBounds_toArray, List.set_cons_zero, List.set_cons_succ]
        refine wpAnyH_take (i := 9) (v := ?_) rfl (by kernel_rfl) (by kernel_rfl) (by kernel_rfl) (fun _ _ _ h => h) (Or.inl ⟨by rfl, ?hy⟩) (by assumption) ?_
        case hy => intro w hSw; (try dsimp only at hSw); go_simp; try with_reducible rfl
        try simp only [Act.put, List.getElem_toArray, List.getElem_cons_succ, List.getElem_cons_zero, List.setIfInBounds_toArray, List.set_cons_zero, List.set_cons_succ]
        refine wpAnyH_ready (rs := [11]) (by kernel_rfl) (by simp) (AllReadyH.cons rfl (fun K hK => ?_) AllReadyH.nil)
        have HFF := Lib.hid (handF_put hHeld.2 hbz hbx ⟨_, hoF⟩ ⟨_, hoB⟩ ⟨_, hoS⟩)
        have z0 : wS.cell? ⟨B, 0, none⟩ = some (.slice none 0 0) := by simp only [World.cell?, hbx]; rfl
        have y0 : wS.frozen? ⟨B, 0, none⟩ = false := by simp [World.frozen?, hbx]
        have z1 : wS.cell? ⟨B, 1, none⟩ = some (.slice none 0 0) := by simp only [World.cell?, hbx]; rfl
        have y1 : wS.frozen? ⟨B, 1, none⟩ = false := by simp [World.frozen?, hbx]
        have z2 : wS.cell? ⟨B, 2, none⟩ = some (.slice none 0 0) := by simp only [World.cell?, hbx]; rfl
        have y2 : wS.frozen? ⟨B, 2, none⟩ = false := by simp [World.frozen?, hbx]
        have z3 : wS.cell? ⟨B, 3, none⟩ = some (.slice none 0 0) := by simp only [World.cell?, hbx]; rfl
        have y3 : wS.frozen? ⟨B, 3, none⟩ = false := by simp [World.frozen?, hbx]
        have z4 : wS.cell? ⟨B, 4, none⟩ = some (.slice none 0 0) := by simp only [World.cell?, hbx]; rfl
        have y4 : wS.frozen? ⟨B, 4, none⟩ = false := by simp [World.frozen?, hbx]
        clear hbx hoF hoB hoS hbz
        go_simp
        try (go_wp2_with fail)
        refine hK.out _ _ ?_ (fun hHeld => ?_)
        · exact SB.out _ HFF.out.bel
        clear hK K
        try simp only [Act.put, List.getElem_toArray, List.getElem_cons_succ, List.getElem_cons_zero, List.setIfInBounds_toArray, List.set_cons_zero, List.set_cons_succ]
        refine wpAnyH_done (by kernel_rfl) ?_ _
        refine NoPanic.normal ?_
        exact ⟨rfl, _, _, _, _, by simp only [Act.put, List.setIfInBounds_toArray, List.set_cons_zero, List.set_cons_succ], HFF.out⟩
    · go_simp
      have hbA := (Below.refl _ W0).alloc (Nat.le_refl _) (.cells #[.slice none 0 0, .slice none 0 0, .slice none 0 0, .slice none 0 0, .slice none 0 0] 45)
      have hbx : (W0.alloc (.cells #[.slice none 0 0, .slice none 0 0, .slice none 0 0, .slice none 0 0, .slice none 0 0] 45)).heap[W0.heap.size]? = some (.cells #[.slice none 0 0, .slice none 0 0, .slice none 0 0, .slice none 0 0, .slice none 0 0] 45) := by rw [get_allocJ, if_pos rfl]
      have hbz : W.heap.size ≤ W0.heap.size := hHeld.2.size
      try (go_wp2_with fail)
      refine hK.out _ _ ?_ (fun hHeld => ?_)
      · exact SB.out _ (hHeld.2.trans (hbA.mono hHeld.2.size))
      clear hK K
      try simp only [Act.put, List.getElem_toArray, List.getElem_cons_succ, List.getElem_cons_zero, List.setIfInBounds_toArray, List.set_cons_zero, List.set_cons_succ]
      generalize W0.alloc (.cells #[.slice none 0 0, .slice none 0 0, .slice none 0 0, .slice none 0 0, .slice none 0 0] 45) = wA at *
      obtain ⟨B, hB⟩ : ∃ B, W0.heap.size = B := ⟨_, rfl⟩
      rw [hB] at hbx hbz
      try rw [hB]
      clear hbA
      refine wpAnyH_ready (rs := [2]) (by kernel_rfl) (by simp) (AllReadyH.cons rfl (fun K hK => ?_) AllReadyH.nil)
      go_simp
      go_at_call 34; refine (HCF.out _ hHeld.2).mono ?_; rintro e wF ⟨rfl, hoF, hbF⟩
      try (go_wp2_with fail)
      have hbx := (hbF.block _ (Array.getElem?_eq_some_iff.1 hbx).1).trans hbx
      refine hK.out _ _ ?_ (fun hHeld => ?_)
      · exact SB.out _ (hHeld.2.trans (hbF.mono hHeld.2.size))
      clear hK K hbF
      try simp only [Act.put, List.getElem_toArray, List.getElem_cons_succ, List.getElem_cons_zero, List.setIfInBounds_toArray, List.set_cons_zero, List.set_cons_succ]
      refine wpAnyH_ready (rs := [5]) (by kernel_rfl) (by simp) (AllReadyH.cons rfl (fun K hK => ?_) AllReadyH.nil)
      go_simp
      go_at_call 35; refine (HCB.out _ hHeld.2).mono ?_; rintro e wB ⟨rfl, hoB, hbB⟩
      try (go_wp2_with fail)
      have hoF := below_ownT hoF hbB
      have hbx := (hbB.block _ (Array.getElem?_eq_some_iff.1 hbx).1).trans hbx
      refine hK.out _ _ ?_ (fun hHeld => ?_)
      · exact SB.out _ (hHeld.2.trans (hbB.mono hHeld.2.size))
      clear hK K hbB
      try simp only [Act.put, List.getElem_toArray, List.getElem_cons_succ, List.getElem_cons_zero, List.setIfInBounds_toArray, List.set_cons_zero, List.set_cons_succ]
      refine wpAnyH_ready (rs := [8]) (by kernel_rfl) (by simp) (AllReadyH.cons rfl (fun K hK => ?_) AllReadyH.nil)
      go_simp
      go_at_call 23; refine (HCS.out _ hHeld.2).mono ?_; rintro e wS ⟨rfl, hoS, hbS⟩
      try (go_wp2_with fail)
      have hoF := below_ownT hoF hbS
      have hoB := below_ownT hoB hbS
      have hbx := (hbS.block _ (Array.getElem?_eq_some_iff.1 hbx).1).trans hbx
      refine hK.out _ _ ?_ (fun hHeld => ?_)
      · exact SB.out _ (hHeld.2.trans (hbS.mono hHeld.2.size))
      clear hK K hbS
      try simp only [Act.put, List.getElem_toArray, List.getElem_cons_succ, List.getElem_cons_zero, List.setIfInBounds_toArray, List.set_cons_zero, List.set_cons_succ]
      refine wpAnyH_take (i := 9) (v := ?_) rfl (by kernel_rfl) (by kernel_rfl) (by kernel_rfl) (fun _ _ _ h => h) (Or.inl ⟨by rfl, ?hy⟩) (by assumption) ?_
      case hy => intro w hSw; (try dsimp only at hSw); go_simp; try with_reducible rfl
      try simp only [Act.put, List.getElem_toArray, List.getElem_cons_succ, List.getElem_cons_zero, List.setIfInBounds_toArray, List.set_cons_zero, List.set_cons_succ]
      refine wpAnyH_ready (rs := [11]) (by kernel_rfl) (by simp) (AllReadyH.cons rfl (fun K hK => ?_) AllReadyH.nil)
      have HFF := Lib.hid (handF_put hHeld.2 hbz hbx ⟨_, hoF⟩ ⟨_, hoB⟩ ⟨_, hoS⟩)
      have z0 : wS.cell? ⟨B, 0, none⟩ = some (.slice none 0 0) := by simp only [World.cell?, hbx]; rfl
      have y0 : wS.frozen? ⟨B, 0, none⟩ = false := by simp [World.frozen?, hbx]
      have z1 : wS.cell? ⟨B, 1, none⟩ = some (.slice none 0 0) := by simp only [World.cell?, hbx]; rfl
      have y1 : wS.frozen? ⟨B, 1, none⟩ = false := by simp [World.frozen?, hbx]
      have z2 : wS.cell? ⟨B, 2, none⟩ = some (.slice none 0 0) := by simp only [World.cell?, hbx]; rfl
      have y2 : wS.frozen? ⟨B, 2, none⟩ = false := by simp [World.frozen?, hbx]
      have z3 : wS.cell? ⟨B, 3, none⟩ = some (.slice none 0 0) := by simp only [World.cell?, hbx]; rfl
      have y3 : wS.frozen? ⟨B, 3, none⟩ = false := by simp [World.frozen?, hbx]
      have z4 : wS.cell? ⟨B, 4, none⟩ = some (.slice none 0 0) := by simp only [World.cell?, hbx]; rfl
      have y4 : wS.frozen? ⟨B, 4, none⟩ = false := by simp [World.frozen?, hbx]
      clear hbx hoF hoB hoS hbz
      go_simp
      try (go_wp2_with fail)
      refine hK.out _ _ ?_ (fun hHeld => ?_)
      · exact SB.out _ HFF.out.bel
      clear hK K
      try simp only [Act.put, List.getElem_toArray, List.getElem_cons_succ, List.getElem_cons_zero, List.setIfInBounds_toArray, List.set_cons_zero, List.set_cons_succ]
      refine wpAnyH_done (by kernel_rfl) ?_ _
      refine NoPanic.normal ?_
      exact ⟨rfl, _, _, _, _, by simp only [Act.put, List.setIfInBounds_toArray, List.set_cons_zero, List.set_cons_succ], HFF.out⟩
  · intro a' w1 hM
    obtain ⟨gF, gB, gS, B, rfl, hF⟩ := hM
    simp only [Act.put, List.setIfInBounds_toArray, List.set_cons_zero, List.set_cons_succ]
    have HFM := Lib.hid hF
    obtain ⟨N, hN1⟩ : ∃ N, w1.heap.size = N := ⟨_, rfl⟩
    have HI0 : Hid (HandI w1 B N (.slice (some ⟨gF, 0, none⟩) r.n0 (r.n0 + 9)) (.slice (some ⟨gB, 0, none⟩) r.n1 (r.n1 + 9)) (.slice (some ⟨gS, 0, none⟩) r.n3 (r.n3 + 9)) (.slice none 0 0) (.slice none 0 0) [] [] w1) := Lib.hid ⟨Off.refl _ _, by rw [← hN1]; exact (Array.getElem?_eq_some_iff.1 hF.box).1, hN1, hF.box, World.ownsRow_nil _ _ _ _, World.ownsRow_nil _ _ _ _, by simp, by simp⟩
    clear hF hN1 HCF HCB HCS HWF HWB HWS SB
    go_wp2_with (fail)
    go_loopw [4, 5] (fun s _ wr => ∃ (k : Nat) (v2 : Value) (ho : List HotS), k ≤ r.n2 ∧ s = .int .i64 k ∧ Hid (HandI w1 B N (.slice (some ⟨gF, 0, none⟩) r.n0 (r.n0 + 9)) (.slice (some ⟨gB, 0, none⟩) r.n1 (r.n1 + 9)) (.slice (some ⟨gS, 0, none⟩) r.n3 (r.n3 + 9)) v2 (.slice none 0 0) ho [] wr) ∧ Hid (ho.map HotS.kern = (r.ho.take k).map HotS.kern)) (fun s _ _ => r.n2 - (intOf s).toNat)
    case atStart => exact ⟨0, _, [], Nat.zero_le _, rfl, HI0, Lib.hid rfl⟩
    case round =>
      rename World => wy
      obtain ⟨k, v2, ho, hk, rfl, HI, HKH⟩ := hrel
      obtain ⟨va2, vc2, rfl⟩ := own_sliceJ HI.out.r2
      have HWH := Lib.hid (HFM.out.bel.trans (HI.out.off.below HFM.out.bel.size (fun i hi e => by have := HFM.out.bz; omega)))
      have hN : N ≤ wy.heap.size := by have := HI.out.nz; have := HI.out.off.size; omega
      have hBN : B < N := HI.out.bz
      obtain ⟨b0, b1, b2, b3, b4⟩ := HBOX.out _ HWH.out
      obtain ⟨o0, o1, o2, o3, o4⟩ := HI.out.cells
      have HLENH : Hid (ho.length = k) := Lib.hid <| by have h := congrArg List.length HKH.out; rw [List.length_map, List.length_map, List.length_take, HRW.out.l2] at h; omega
      have k0 : (0 : Int) ≤ k := by omega
      by_cases hlt : k < r.n2
      · have k1 : (k : Int) < r.n2 := by omega
        have hkl : k < r.ho.length := by rw [HRW.out.l2]; exact hlt
        have HRX := Lib.hid (HRW.out.below (Nat.le_refl _) (HB0.out.trans (HWH.out.mono HB0.out.size)))
        obtain ⟨yb, yo, hya, hyl, hyc⟩ := rowsAt_getH HRX.out.ho (j := k) (x := HotS.cs (r.ho[k]'hkl)) (by rw [List.getElem?_map, List.getElem?_eq_getElem hkl]; rfl)
        have HY := Lib.hid (HRX.out.zh _ (List.getElem_mem hkl))
        have HKN := Lib.hid (show (r.ho.take (k + 1)).map HotS.kern = (r.ho.take k).map HotS.kern ++ [(r.ho[k]'hkl).kern] by rw [show r.ho.take (k + 1) = r.ho.take k ++ [r.ho[k]'hkl] from List.take_succ_eq_append_getElem hkl, List.map_append]; rfl)
        generalize r.ho[k]'hkl = y at *
        have d0 : wy.cell? ⟨yb, yo + k * 5, none⟩ = some (.string y.res) := hyc 0 (.string y.res) (by decide) rfl
        have d1 : wy.cell? ⟨yb, yo + k * 5 + 1, none⟩ = some (.int .i64 y.idx) := hyc 1 (.int .i64 y.idx) (by decide) rfl
        have d2 : wy.cell? ⟨yb, yo + k * 5 + 2, none⟩ = some (.int .i64 y.cnt) := hyc 2 (.int .i64 y.cnt) (by decide) rfl
        have d3 : wy.cell? ⟨yb, yo + k * 5 + 3, none⟩ = some (.int .i64 y.secs) := hyc 3 (.int .i64 y.secs) (by decide) rfl
        have d4 : wy.cell? ⟨yb, yo + k * 5 + 4, none⟩ = some (.slice y.ia y.il y.ic) := hyc 4 (.slice y.ia y.il y.ic) (by decide) rfl
        obtain rfl : A2 = some ⟨yb, yo, none⟩ := HA2.out.symm.trans hya
        clear hyc hya
        skip
        have hal := (Below.refl _ wy).alloc (Nat.le_refl _) (.cells #[.string y.res, .int .i64 y.idx, .int .i64 y.cnt, .int .i64 y.secs, .slice y.ia y.il y.ic] 69)
        have hbl : (wy.alloc (.cells #[.string y.res, .int .i64 y.idx, .int .i64 y.cnt, .int .i64 y.secs, .slice y.ia y.il y.ic] 69)).heap[wy.heap.size]? = some (.cells #[.string y.res, .int .i64 y.idx, .int .i64 y.cnt, .int .i64 y.secs, .slice y.ia y.il y.ic] 69) := by rw [get_allocJ, if_pos rfl]
        have HCON := Lib.hid (handIt_any (w := wy.alloc (.cells #[.string y.res, .int .i64 y.idx, .int .i64 y.cnt, .int .i64 y.secs, .slice y.ia y.il y.ic] 69)) y.ia y.il y.ic y.items HY.out.l HY.out.b (HY.out.at_.below (Nat.le_refl _) hal))
        go_wp2_with (fail)
        refine HCON.out.mono ?_
        rintro e w2 ⟨rfl, how, hb2⟩
        have hwz : (wy.alloc (.cells #[.string y.res, .int .i64 y.idx, .int .i64 y.cnt, .int .i64 y.secs, .slice y.ia y.il y.ic] 69)).heap.size = wy.heap.size + 1 := by simp
        generalize hg : (wy.alloc (.cells #[.string y.res, .int .i64 y.idx, .int .i64 y.cnt, .int .i64 y.secs, .slice y.ia y.il y.ic] 69)).heap.size = g at *
        have hb7 : w2.heap[wy.heap.size]? = some (.cells #[.string y.res, .int .i64 y.idx, .int .i64 y.cnt, .int .i64 y.secs, .slice y.ia y.il y.ic] 69) := (hb2.block _ (by omega)).trans hbl
        have hb02 : Below wy.heap.size wy w2 := hal.trans (hb2.mono (by omega))
        obtain ⟨p, hp⟩ : ∃ p, wy.heap.size = p := ⟨_, rfl⟩
        rw [hp] at hb7 hwz hN
        rw [hp]
        have HI2 := Lib.hid (HI.out.below hb02)
        have hb8 : (w2.setCell ⟨p, 4, none⟩ (.slice (some ⟨g, 0, none⟩) y.il (y.il + 9))).heap[p]? = some (.cells #[.string y.res, .int .i64 y.idx, .int .i64 y.cnt, .int .i64 y.secs, .slice (some ⟨g, 0, none⟩) y.il (y.il + 9)] 69) := heap_setCell_same w2 p 4 _ _ _ hb7
        have hb03 : Below wy.heap.size wy (w2.setCell ⟨p, 4, none⟩ (.slice (some ⟨g, 0, none⟩) y.il (y.il + 9))) := hb02.setCell (by rw [hp]; exact Nat.le_refl _) _
        have how3 : (w2.setCell ⟨p, 4, none⟩ (.slice (some ⟨g, 0, none⟩) y.il (y.il + 9))).ownsRow g 106 2 (.slice (some ⟨g, 0, none⟩) (y.il + 9) (y.il + 9)) (y.il + 9) (fullIt (y.items.map ItemS.cs)).flatten := ownH_off (S := fun i => i = p) how ⟨rfl, rfl, rfl, by simp [World.setCell], fun i hi hn => heap_setCell_other _ _ _ _ hn⟩ (fun i ei e => by have := (how.lt i ei).1; omega)
        have e0 : w2.cell? ⟨p, 0, none⟩ = some (.string y.res) := by simp only [World.cell?, hb7]; rfl
        have e1 : w2.cell? ⟨p, 1, none⟩ = some (.int .i64 y.idx) := by simp only [World.cell?, hb7]; rfl
        have e2 : w2.cell? ⟨p, 2, none⟩ = some (.int .i64 y.cnt) := by simp only [World.cell?, hb7]; rfl
        have e3 : w2.cell? ⟨p, 3, none⟩ = some (.int .i64 y.secs) := by simp only [World.cell?, hb7]; rfl
        have e4 : w2.cell? ⟨p, 4, none⟩ = some (.slice y.ia y.il y.ic) := by simp only [World.cell?, hb7]; rfl
        have ef : w2.frozen? ⟨p, 4, none⟩ = false := by simp [World.frozen?, hb7]
        have n0 : (w2.setCell ⟨p, 4, none⟩ (.slice (some ⟨g, 0, none⟩) y.il (y.il + 9))).cell? ⟨p, 0, none⟩ = some (.string y.res) := by simp only [World.cell?, hb8]; rfl
        have n1 : (w2.setCell ⟨p, 4, none⟩ (.slice (some ⟨g, 0, none⟩) y.il (y.il + 9))).cell? ⟨p, 1, none⟩ = some (.int .i64 y.idx) := by simp only [World.cell?, hb8]; rfl
        have n2 : (w2.setCell ⟨p, 4, none⟩ (.slice (some ⟨g, 0, none⟩) y.il (y.il + 9))).cell? ⟨p, 2, none⟩ = some (.int .i64 y.cnt) := by simp only [World.cell?, hb8]; rfl
        have n3 : (w2.setCell ⟨p, 4, none⟩ (.slice (some ⟨g, 0, none⟩) y.il (y.il + 9))).cell? ⟨p, 3, none⟩ = some (.int .i64 y.secs) := by simp only [World.cell?, hb8]; rfl
        have n4 : (w2.setCell ⟨p, 4, none⟩ (.slice (some ⟨g, 0, none⟩) y.il (y.il + 9))).cell? ⟨p, 4, none⟩ = some (.slice (some ⟨g, 0, none⟩) y.il (y.il + 9)) := by simp only [World.cell?, hb8]; rfl
        obtain ⟨q0, q1, q2, q3, q4⟩ := (HI.out.below hb03).cells
        have HI3 := Lib.hid (HI.out.below hb03)
        have HX3 : Hid (HotHand _ N ⟨y.res, y.idx, y.cnt, y.secs, some ⟨g, 0, none⟩, y.il, y.il + 9, y.items⟩) := Lib.hid ⟨g, g, by omega, rfl, rfl, HY.out.l, how3⟩
        have H03 := Lib.hid hb03
        have HGP := Lib.hid (And.intro hwz (And.intro hN (And.intro hBN hp)))
        clear hwz hg hN hBN hp hb7 hb8 how how3 hb02 hb03 hb2 hal hbl b0 b1 b2 b3 b4 o0 o1 o2 o3 o4 d0 d1 d2 d3 d4
        have HAL := Lib.hid ((Below.refl _ (w2.setCell ⟨p, 4, none⟩ (.slice (some ⟨g, 0, none⟩) y.il (y.il + 9)))).alloc (Nat.le_refl _) (.cells #[.string y.res, .int .i64 y.idx, .int .i64 y.cnt, .int .i64 y.secs, .slice (some ⟨g, 0, none⟩) y.il (y.il + 9)] 69))
        have HI4 := Lib.hid (HI3.out.below HAL.out)
        have HX4 := Lib.hid (HX3.out.below HAL.out)
        have hsz : ho.length + 1 ≤ r.n2 := by have := HLENH.out; omega
        have hbz2 : N ≤ w2.heap.size := by have h := HI2.out.nz; have h2 := HI2.out.off.size; omega
        have hby := HRW.out.s2
        go_wp2_with (at_builtin; refine wpList_append_own _ rfl (.tmp 35) (.tmp 37) 42 rfl N 69 ihi (.agg #[.string ⟨#[]⟩, .int .i64 0, .int .i64 0, .int .i64 0, .slice none 0 0]) 5 64 Try.underlying42 ih ih0 ih1 ih2 rfl (by decide) (.slice va2 ho.length vc2) ho.length ((ho.map HotS.cs).flatten) (by rfl) HI4.out.r2 ⟨w2.heap.size, 0, none⟩ 1 1 [.string y.res, .int .i64 y.idx, .int .i64 y.cnt, .int .i64 y.secs, .slice (some ⟨g, 0, none⟩) y.il (y.il + 9)] (by rfl) (by rfl) (row_atJ (w2.setCell ⟨p, 4, none⟩ (.slice (some ⟨g, 0, none⟩) y.il (y.il + 9))) [.string y.res, .int .i64 y.idx, .int .i64 y.cnt, .int .i64 y.secs, .slice (some ⟨g, 0, none⟩) y.il (y.il + 9)] _ (by simp)) (by intro u hu; simp only [List.mem_cons, List.not_mem_nil, or_false] at hu; rcases hu with rfl | rfl | rfl | rfl | rfl <;> rfl) (by unfold maxLen; omega) (by omega) (by simp; omega) ?_; intro v5 w5 hown5 hg5 _; obtain ⟨va5, vc5, rfl⟩ := own_sliceJ hown5; have HI5 := Lib.hid (HI4.out.app2 HX4.out hown5 hg5); have hbx := (hg5.block B (Array.getElem?_eq_some_iff.1 HI4.out.box).1 (fun e => by have h1 := (typeAtH_own HI4.out.r2 e.symm).2.1; have := HGP.out.2.2.1; omega)).trans HI4.out.box; have fz : w5.frozen? ⟨B, 2, none⟩ = false := (by simp [World.frozen?, hbx]); have cz : w5.cell? ⟨B, 2, none⟩ = some (.slice va2 ho.length vc2) := (by simp only [World.cell?, hbx]; rfl); clear hbx hown5 hg5)
        clear q0 q1 q2 q3 q4 hsz hbz2 hby ef n0 n1 n2 n3 n4 e0 e1 e2 e3 e4
        go_wp2_with (fail)
        exact ⟨⟨k + 1, _, ho ++ [⟨y.res, y.idx, y.cnt, y.secs, some ⟨g, 0, none⟩, y.il, y.il + 9, y.items⟩], by omega, by go_num, HI5, Lib.hid (by rw [List.map_append, HKH.out, HKN.out]; rfl)⟩, by first | (simp [intOf]; done) | (simp [intOf]; omega)⟩
      · have k1 : ¬ (k : Int) < r.n2 := by omega
        have HKFH : Hid (ho.map HotS.kern = r.ho.map HotS.kern) := Lib.hid (by have h := HKH.out; rwa [List.take_of_length_le (by rw [HRW.out.l2]; omega)] at h)
        have HLFH : Hid (ho.length = r.n2) := Lib.hid (by rw [HLENH.out]; omega)
        go_wp2_with (fail)
        clear k0 k1 hlt hk HKH HLENH b0 b1 b2 b3 b4 o0 o1 o2 o3 o4 hN hBN
        go_loopw [6, 7] (fun s _ wr => ∃ (k : Nat) (v4 : Value) (au : List AuthS), k ≤ r.n4 ∧ s = .int .i64 k ∧ Hid (HandI w1 B N (.slice (some ⟨gF, 0, none⟩) r.n0 (r.n0 + 9)) (.slice (some ⟨gB, 0, none⟩) r.n1 (r.n1 + 9)) (.slice (some ⟨gS, 0, none⟩) r.n3 (r.n3 + 9)) (.slice va2 ho.length vc2) v4 ho au wr) ∧ Hid (au.map AuthS.kern = (r.au.take k).map AuthS.kern)) (fun s _ _ => r.n4 - (intOf s).toNat)
        case atStart => exact ⟨0, _, [], Nat.zero_le _, rfl, HI, Lib.hid rfl⟩
        case round =>
          rename World => wz
          clear HI
          obtain ⟨j, v4, au, hj, rfl, HI, HKA⟩ := hrel
          obtain ⟨va4, vc4, rfl⟩ := own_sliceJ HI.out.r4
          have HWA := Lib.hid (HFM.out.bel.trans (HI.out.off.below HFM.out.bel.size (fun i hi e => by have := HFM.out.bz; omega)))
          have hN : N ≤ wz.heap.size := by have := HI.out.nz; have := HI.out.off.size; omega
          have hBN : B < N := HI.out.bz
          obtain ⟨b0, b1, b2, b3, b4⟩ := HBOX.out _ HWA.out
          obtain ⟨o0, o1, o2, o3, o4⟩ := HI.out.cells
          have HLENA : Hid (au.length = j) := Lib.hid <| by have h := congrArg List.length HKA.out; rw [List.length_map, List.length_map, List.length_take, HRW.out.l4] at h; omega
          have k0 : (0 : Int) ≤ j := by omega
          by_cases hlt : j < r.n4
          · have k1 : (j : Int) < r.n4 := by omega
            have hkl : j < r.au.length := by rw [HRW.out.l4]; exact hlt
            have HRX := Lib.hid (HRW.out.below (Nat.le_refl _) (HB0.out.trans (HWA.out.mono HB0.out.size)))
            obtain ⟨yb, yo, hya, hyl, hyc⟩ := rowsAt_getH HRX.out.au (j := j) (x := AuthS.cs (r.au[j]'hkl)) (by rw [List.getElem?_map, List.getElem?_eq_getElem hkl]; rfl)
            have HY := Lib.hid (HRX.out.za _ (List.getElem_mem hkl))
            have HKN := Lib.hid (show (r.au.take (j + 1)).map AuthS.kern = (r.au.take j).map AuthS.kern ++ [(r.au[j]'hkl).kern] by rw [show r.au.take (j + 1) = r.au.take j ++ [r.au[j]'hkl] from List.take_succ_eq_append_getElem hkl, List.map_append]; rfl)
            generalize r.au[j]'hkl = y at *
            have d0 : wz.cell? ⟨yb, yo + j * 3, none⟩ = some (.string y.res) := hyc 0 (.string y.res) (by decide) rfl
            have d1 : wz.cell? ⟨yb, yo + j * 3 + 1, none⟩ = some (.bool y.white) := hyc 1 (.bool y.white) (by decide) rfl
            have d2 : wz.cell? ⟨yb, yo + j * 3 + 2, none⟩ = some (.slice y.oa y.ol y.oc) := hyc 2 (.slice y.oa y.ol y.oc) (by decide) rfl
            obtain rfl : A4 = some ⟨yb, yo, none⟩ := HA4.out.symm.trans hya
            clear hyc hya
            skip
            have hal := (Below.refl _ wz).alloc (Nat.le_refl _) (.cells #[.string y.res, .bool y.white, .slice y.oa y.ol y.oc] 37)
            have hbl : (wz.alloc (.cells #[.string y.res, .bool y.white, .slice y.oa y.ol y.oc] 37)).heap[wz.heap.size]? = some (.cells #[.string y.res, .bool y.white, .slice y.oa y.ol y.oc] 37) := by rw [get_allocJ, if_pos rfl]
            have HCON := Lib.hid (handTx_any (w := wz.alloc (.cells #[.string y.res, .bool y.white, .slice y.oa y.ol y.oc] 37)) y.oa y.ol y.oc y.orig HY.out.l HY.out.b ((texts_rows HY.out.at_).below (Nat.le_refl _) hal))
            go_wp2_with (fail)
            refine HCON.out.mono ?_
            rintro e w2 ⟨rfl, how, hb2⟩
            have hwz : (wz.alloc (.cells #[.string y.res, .bool y.white, .slice y.oa y.ol y.oc] 37)).heap.size = wz.heap.size + 1 := by simp
            generalize hg : (wz.alloc (.cells #[.string y.res, .bool y.white, .slice y.oa y.ol y.oc] 37)).heap.size = g at *
            have hb7 : w2.heap[wz.heap.size]? = some (.cells #[.string y.res, .bool y.white, .slice y.oa y.ol y.oc] 37) := (hb2.block _ (by omega)).trans hbl
            have hb02 : Below wz.heap.size wz w2 := hal.trans (hb2.mono (by omega))
            obtain ⟨p, hp⟩ : ∃ p, wz.heap.size = p := ⟨_, rfl⟩
            rw [hp] at hb7 hwz hN
            rw [hp]
            have HI2 := Lib.hid (HI.out.below hb02)
            have hb8 : (w2.setCell ⟨p, 2, none⟩ (.slice (some ⟨g, 0, none⟩) y.ol (y.ol + 9))).heap[p]? = some (.cells #[.string y.res, .bool y.white, .slice (some ⟨g, 0, none⟩) y.ol (y.ol + 9)] 37) := heap_setCell_same w2 p 2 _ _ _ hb7
            have hb03 : Below wz.heap.size wz (w2.setCell ⟨p, 2, none⟩ (.slice (some ⟨g, 0, none⟩) y.ol (y.ol + 9))) := hb02.setCell (by rw [hp]; exact Nat.le_refl _) _
            have how3 : (w2.setCell ⟨p, 2, none⟩ (.slice (some ⟨g, 0, none⟩) y.ol (y.ol + 9))).ownsRow g 9 1 (.slice (some ⟨g, 0, none⟩) (y.ol + 9) (y.ol + 9)) (y.ol + 9) (fullTx (y.orig.map strR)).flatten := ownH_off (S := fun i => i = p) how ⟨rfl, rfl, rfl, by simp [World.setCell], fun i hi hn => heap_setCell_other _ _ _ _ hn⟩ (fun i ei e => by have := (how.lt i ei).1; omega)
            have e0 : w2.cell? ⟨p, 0, none⟩ = some (.string y.res) := by simp only [World.cell?, hb7]; rfl
            have e1 : w2.cell? ⟨p, 1, none⟩ = some (.bool y.white) := by simp only [World.cell?, hb7]; rfl
            have e2 : w2.cell? ⟨p, 2, none⟩ = some (.slice y.oa y.ol y.oc) := by simp only [World.cell?, hb7]; rfl
            have ef : w2.frozen? ⟨p, 2, none⟩ = false := by simp [World.frozen?, hb7]
            have n0 : (w2.setCell ⟨p, 2, none⟩ (.slice (some ⟨g, 0, none⟩) y.ol (y.ol + 9))).cell? ⟨p, 0, none⟩ = some (.string y.res) := by simp only [World.cell?, hb8]; rfl
            have n1 : (w2.setCell ⟨p, 2, none⟩ (.slice (some ⟨g, 0, none⟩) y.ol (y.ol + 9))).cell? ⟨p, 1, none⟩ = some (.bool y.white) := by simp only [World.cell?, hb8]; rfl
            have n2 : (w2.setCell ⟨p, 2, none⟩ (.slice (some ⟨g, 0, none⟩) y.ol (y.ol + 9))).cell? ⟨p, 2, none⟩ = some (.slice (some ⟨g, 0, none⟩) y.ol (y.ol + 9)) := by simp only [World.cell?, hb8]; rfl
            obtain ⟨q0, q1, q2, q3, q4⟩ := (HI.out.below hb03).cells
            have HI3 := Lib.hid (HI.out.below hb03)
            have HX3 : Hid (AuthHand _ N ⟨y.res, y.white, some ⟨g, 0, none⟩, y.ol, y.ol + 9, y.orig⟩) := Lib.hid ⟨g, g, by omega, rfl, rfl, HY.out.l, how3⟩
            have H03 := Lib.hid hb03
            have HGP := Lib.hid (And.intro hwz (And.intro hN (And.intro hBN hp)))
            clear hwz hg hN hBN hp hb7 hb8 how how3 hb02 hb03 hb2 hal hbl b0 b1 b2 b3 b4 o0 o1 o2 o3 o4 d0 d1 d2
            have HAL := Lib.hid ((Below.refl _ (w2.setCell ⟨p, 2, none⟩ (.slice (some ⟨g, 0, none⟩) y.ol (y.ol + 9)))).alloc (Nat.le_refl _) (.cells #[.string y.res, .bool y.white, .slice (some ⟨g, 0, none⟩) y.ol (y.ol + 9)] 37))
            have HI4 := Lib.hid (HI3.out.below HAL.out)
            have HX4 := Lib.hid (HX3.out.below HAL.out)
            have hsz : au.length + 1 ≤ r.n4 := by have := HLENA.out; omega
            have hbz2 : N ≤ w2.heap.size := by have h := HI2.out.nz; have h2 := HI2.out.off.size; omega
            have hby := HRW.out.s4
            go_wp2_with (at_builtin; refine wpList_append_own _ rfl (.tmp 57) (.tmp 59) 39 rfl N 37 iai (.agg #[.string ⟨#[]⟩, .bool false, .slice none 0 0]) 3 48 Try.underlying39 ia ia0 ia1 ia2 rfl (by decide) (.slice va4 au.length vc4) au.length ((au.map AuthS.cs).flatten) (by rfl) HI4.out.r4 ⟨w2.heap.size, 0, none⟩ 1 1 [.string y.res, .bool y.white, .slice (some ⟨g, 0, none⟩) y.ol (y.ol + 9)] (by rfl) (by rfl) (row_atJ (w2.setCell ⟨p, 2, none⟩ (.slice (some ⟨g, 0, none⟩) y.ol (y.ol + 9))) [.string y.res, .bool y.white, .slice (some ⟨g, 0, none⟩) y.ol (y.ol + 9)] _ (by simp)) (by intro u hu; simp only [List.mem_cons, List.not_mem_nil, or_false] at hu; rcases hu with rfl | rfl | rfl <;> rfl) (by unfold maxLen; omega) (by omega) (by simp; omega) ?_; intro v5 w5 hown5 hg5 _; obtain ⟨va5, vc5, rfl⟩ := own_sliceJ hown5; have HI5 := Lib.hid (HI4.out.app4 HX4.out hown5 hg5); have hbx := (hg5.block B (Array.getElem?_eq_some_iff.1 HI4.out.box).1 (fun e => by have h1 := (typeAtH_own HI4.out.r4 e.symm).2.1; have := HGP.out.2.2.1; omega)).trans HI4.out.box; have fz : w5.frozen? ⟨B, 4, none⟩ = false := (by simp [World.frozen?, hbx]); have cz : w5.cell? ⟨B, 4, none⟩ = some (.slice va4 au.length vc4) := (by simp only [World.cell?, hbx]; rfl); clear hbx hown5 hg5)
            clear q0 q1 q2 q3 q4 hsz hbz2 hby ef n0 n1 n2 e0 e1 e2
            go_wp2_with (fail)
            exact ⟨⟨j + 1, _, au ++ [⟨y.res, y.white, some ⟨g, 0, none⟩, y.ol, y.ol + 9, y.orig⟩], by omega, by go_num, HI5, Lib.hid (by rw [List.map_append, HKA.out, HKN.out]; rfl)⟩, by first | (simp [intOf]; done) | (simp [intOf]; omega)⟩
          · have k1 : ¬ (j : Int) < r.n4 := by omega
            have HKFA : Hid (au.map AuthS.kern = r.au.map AuthS.kern) := Lib.hid (by have h := HKA.out; rwa [List.take_of_length_le (by rw [HRW.out.l4]; omega)] at h)
            have HLFA : Hid (au.length = r.n4) := Lib.hid (by rw [HLENA.out]; omega)
            have hB2 := HBOX2.out _ HWA.out
            have z0 : wz.cell? ⟨w.heap.size + 1, 0, none⟩ = some (.slice none 0 0) := by simp only [World.cell?, hB2]; rfl
            have y0 : wz.frozen? ⟨w.heap.size + 1, 0, none⟩ = false := by simp [World.frozen?, hB2]
            have z1 : wz.cell? ⟨w.heap.size + 1, 1, none⟩ = some (.slice none 0 0) := by simp only [World.cell?, hB2]; rfl
            have y1 : wz.frozen? ⟨w.heap.size + 1, 1, none⟩ = false := by simp [World.frozen?, hB2]
            have z2 : wz.cell? ⟨w.heap.size + 1, 2, none⟩ = some (.slice none 0 0) := by simp only [World.cell?, hB2]; rfl
            have y2 : wz.frozen? ⟨w.heap.size + 1, 2, none⟩ = false := by simp [World.frozen?, hB2]
            have z3 : wz.cell? ⟨w.heap.size + 1, 3, none⟩ = some (.slice none 0 0) := by simp only [World.cell?, hB2]; rfl
            have y3 : wz.frozen? ⟨w.heap.size + 1, 3, none⟩ = false := by simp [World.frozen?, hB2]
            have z4 : wz.cell? ⟨w.heap.size + 1, 4, none⟩ = some (.slice none 0 0) := by simp only [World.cell?, hB2]; rfl
            have y4 : wz.frozen? ⟨w.heap.size + 1, 4, none⟩ = false := by simp [World.frozen?, hB2]
            have HB2 := Lib.hid hB2
            clear hB2 hlt k0
            go_wp2_with (fail)
            (try simp only [Exit.inBlock, Exit.then])
            refine bodyPost_ret (results_cell_row (P := Try.prog) rfl _ _ (w.heap.size + 1) 45 #[.slice (some ⟨gF, 0, none⟩) r.n0 (r.n0 + 9), .slice (some ⟨gB, 0, none⟩) r.n1 (r.n1 + 9), .slice va2 ho.length vc2, .slice (some ⟨gS, 0, none⟩) r.n3 (r.n3 + 9), .slice va4 au.length vc4] (0, 0) _ (by rfl) ?hh Try.underlying45 rfl (by kernel_rfl)) rfl ?_
            case hh => exact box_put HB2.out _ _ _ _ _
            exact handed_of HB0.out HFM.out HI.out HKFH.out HKFA.out HLFH.out HLFA.out HB2.out HW0Z.out _ _ _ _ _
end Go.Proofs.Ytnobfmlfhaaghaa
