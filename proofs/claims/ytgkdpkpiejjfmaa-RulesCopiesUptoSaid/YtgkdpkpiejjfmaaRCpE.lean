/- rules.Same: decided. -/
import Derived.Test.YtgkdpkpiejjfmaaRCpD
namespace Go.Proofs.Ytgkdpkpiejjfmaa
open Go.RowKit
set_option linter.unusedVariables false
set_option linter.unusedSimpArgs false

/-- Two rules hold the same. -/
structure SameRR (x y : RulesS) : Prop where
  fl : x.fl = y.fl
  br : x.br = y.br
  ho : x.ho.map hK = y.ho.map hK
  sy : x.sy = y.sy
  au : x.au.map aK = y.au.map aK
theorem FlowsAt.rows {w : World} {a : Option Addr} {fs : List FlowS} (h : FlowsAt w a fs) : RowsAt w a 12 (fs.map FlowS.cs) := by
  rcases h with h | ⟨b, off, rfl, hb, hc⟩
  · exact Or.inl (by rw [h]; rfl)
  · refine Or.inr ⟨b, off, rfl, hb, fun j r hj k u hk hu => ?_⟩
    rw [List.getElem?_map] at hj
    obtain ⟨f, hf, rfl⟩ := Option.map_eq_some_iff.1 hj
    have h := hc j f hf
    have hcs : f.cs = [.string f.res, .string f.org, .bool f.thr, .int .i64 f.cnt, .int .u8 f.strat, .string f.ref, .int .u8 f.shape, .int .i64 f.warm, .int .i64 f.queue, .bool f.cl, .int .i64 f.id, .bool f.fb] := rfl
    rw [hcs] at hu
    rcases k with _ | _ | _ | _ | _ | _ | _ | _ | _ | _ | _ | _ | k
    · cases hu; exact h.c0
    · cases hu; exact h.c1
    · cases hu; exact h.c2
    · cases hu; exact h.c3
    · cases hu; exact h.c4
    · cases hu; exact h.c5
    · cases hu; exact h.c6
    · cases hu; exact h.c7
    · cases hu; exact h.c8
    · cases hu; exact h.c9
    · cases hu; exact h.c10
    · cases hu; exact h.c11
    · omega
set_option maxHeartbeats 6400000 in
set_option maxRecDepth 20000 in
theorem same_any {w : World} (x y : RulesS) (hx : RulesAt w x) (hy : RulesAt w y) :
    Calls Try.prog 9 #[.agg x.cs, .agg y.cs] w (Tells (SameRR x y) w) := by
  have HX := Lib.hid (fun wx (hb : Below w.heap.size w wx) => hx.below (Nat.le_refl _) hb)
  have HY := Lib.hid (fun wx (hb : Below w.heap.size w wx) => hy.below (Nat.le_refl _) hb)
  have HE0 := Lib.hid (fun wx (hb : Below w.heap.size w wx) => eqFl_any (w := wx) x.a0 y.a0 x.n0 y.n0 x.c0 y.c0 x.fl y.fl hx.l0 hy.l0 (by have := hx.s0; omega) (HX.out wx hb).fl.rows (HY.out wx hb).fl.rows)
  have HE1 := Lib.hid (fun wx (hb : Below w.heap.size w wx) => eqBr_any (w := wx) x.a1 y.a1 x.n1 y.n1 x.c1 y.c1 x.br y.br hx.l1 hy.l1 (by have := hx.s1; omega) (HX.out wx hb).br (HY.out wx hb).br)
  have HE3 := Lib.hid (fun wx (hb : Below w.heap.size w wx) => eqSy_any (w := wx) x.a3 y.a3 x.n3 y.n3 x.c3 y.c3 x.sy y.sy hx.l3 hy.l3 (by have := hx.s3; omega) (HX.out wx hb).sy (HY.out wx hb).sy)
  have HE2 := Lib.hid (fun wx (hb : Below w.heap.size w wx) => eqfHotS_any (w := wx) x.a2 y.a2 x.n2 y.n2 x.c2 y.c2 x.ho y.ho hx.l2 hy.l2 (by have := hx.s2; omega) (HX.out wx hb).ho (HY.out wx hb).ho (HX.out wx hb).zh (HY.out wx hb).zh)
  have HE4 := Lib.hid (fun wx (hb : Below w.heap.size w wx) => eqfAuthS_any (w := wx) x.a4 y.a4 x.n4 y.n4 x.c4 y.c4 x.au y.au hx.l4 hy.l4 (by have := hx.s4; omega) (HX.out wx hb).au (HY.out wx hb).au (HX.out wx hb).za (HY.out wx hb).za)
  clear hx hy HX HY
  obtain ⟨N, hN⟩ : ∃ N, w.heap.size = N := ⟨_, rfl⟩
  have h0 : ((w.alloc (.cells #[.slice x.a0 x.n0 x.c0, .slice x.a1 x.n1 x.c1, .slice x.a2 x.n2 x.c2, .slice x.a3 x.n3 x.c3, .slice x.a4 x.n4 x.c4] 28)).alloc (.cells #[.slice y.a0 y.n0 y.c0, .slice y.a1 y.n1 y.c1, .slice y.a2 y.n2 y.c2, .slice y.a3 y.n3 y.c3, .slice y.a4 y.n4 y.c4] 28)).heap[N]? = some (.cells #[.slice x.a0 x.n0 x.c0, .slice x.a1 x.n1 x.c1, .slice x.a2 x.n2 x.c2, .slice x.a3 x.n3 x.c3, .slice x.a4 x.n4 x.c4] 28) := by rw [get_allocC, if_neg (by rw [World.size_alloc]; omega), get_allocC, if_pos hN.symm]
  have h1 : ((w.alloc (.cells #[.slice x.a0 x.n0 x.c0, .slice x.a1 x.n1 x.c1, .slice x.a2 x.n2 x.c2, .slice x.a3 x.n3 x.c3, .slice x.a4 x.n4 x.c4] 28)).alloc (.cells #[.slice y.a0 y.n0 y.c0, .slice y.a1 y.n1 y.c1, .slice y.a2 y.n2 y.c2, .slice y.a3 y.n3 y.c3, .slice y.a4 y.n4 y.c4] 28)).heap[N + 1]? = some (.cells #[.slice y.a0 y.n0 y.c0, .slice y.a1 y.n1 y.c1, .slice y.a2 y.n2 y.c2, .slice y.a3 y.n3 y.c3, .slice y.a4 y.n4 y.c4] 28) := by rw [get_allocC, if_pos (by rw [World.size_alloc]; omega)]
  have HB := Lib.hid (show Below w.heap.size w ((w.alloc (.cells #[.slice x.a0 x.n0 x.c0, .slice x.a1 x.n1 x.c1, .slice x.a2 x.n2 x.c2, .slice x.a3 x.n3 x.c3, .slice x.a4 x.n4 x.c4] 28)).alloc (.cells #[.slice y.a0 y.n0 y.c0, .slice y.a1 y.n1 y.c1, .slice y.a2 y.n2 y.c2, .slice y.a3 y.n3 y.c3, .slice y.a4 y.n4 y.c4] 28)) from ((Below.refl _ _).alloc (Nat.le_refl _) _).alloc (by simp) _)
  unfold RulesS.cs
  obtain ⟨w0, hw0⟩ : ∃ w0, (w.alloc (.cells #[.slice x.a0 x.n0 x.c0, .slice x.a1 x.n1 x.c1, .slice x.a2 x.n2 x.c2, .slice x.a3 x.n3 x.c3, .slice x.a4 x.n4 x.c4] 28)).alloc (.cells #[.slice y.a0 y.n0 y.c0, .slice y.a1 y.n1 y.c1, .slice y.a2 y.n2 y.c2, .slice y.a3 y.n3 y.c3, .slice y.a4 y.n4 y.c4] 28) = w0 := ⟨_, rfl⟩
  rw [hw0] at HB h0 h1
  have d0 : w0.cell? ⟨N, 0, none⟩ = some (.slice x.a0 x.n0 x.c0) := by simp only [World.cell?, h0]; rfl
  have d1 : w0.cell? ⟨N, 1, none⟩ = some (.slice x.a1 x.n1 x.c1) := by simp only [World.cell?, h0]; rfl
  have d2 : w0.cell? ⟨N, 2, none⟩ = some (.slice x.a2 x.n2 x.c2) := by simp only [World.cell?, h0]; rfl
  have d3 : w0.cell? ⟨N, 3, none⟩ = some (.slice x.a3 x.n3 x.c3) := by simp only [World.cell?, h0]; rfl
  have d4 : w0.cell? ⟨N, 4, none⟩ = some (.slice x.a4 x.n4 x.c4) := by simp only [World.cell?, h0]; rfl
  have e0 : w0.cell? ⟨N + 1, 0, none⟩ = some (.slice y.a0 y.n0 y.c0) := by simp only [World.cell?, h1]; rfl
  have e1 : w0.cell? ⟨N + 1, 1, none⟩ = some (.slice y.a1 y.n1 y.c1) := by simp only [World.cell?, h1]; rfl
  have e2 : w0.cell? ⟨N + 1, 2, none⟩ = some (.slice y.a2 y.n2 y.c2) := by simp only [World.cell?, h1]; rfl
  have e3 : w0.cell? ⟨N + 1, 3, none⟩ = some (.slice y.a3 y.n3 y.c3) := by simp only [World.cell?, h1]; rfl
  have e4 : w0.cell? ⟨N + 1, 4, none⟩ = some (.slice y.a4 y.n4 y.c4) := by simp only [World.cell?, h1]; rfl
  have HNZ := Lib.hid (show N < w0.heap.size ∧ N + 1 < w0.heap.size from ⟨(Array.getElem?_eq_some_iff.1 h0).1, (Array.getElem?_eq_some_iff.1 h1).1⟩)
  have HW0 := Lib.hid (Below.refl w0.heap.size w0)
  clear h0 h1
  go_enter Try.func9, Try.ntmps9
  go_wp2_with (fail)
  clear hw0 hN
  refine (HE0.out _ (HB.out.trans (HW0.out.mono HB.out.size))).mono ?_
  rintro e w1 ⟨⟨t, rfl, ht⟩, hb⟩
  have HT0 := Lib.hid ht
  have HW1 := Lib.hid (show Below w0.heap.size w0 w1 from HW0.out.trans (hb.mono HW0.out.size))
  clear ht
  have d1 := (hb.cell (p := ⟨N, 1, none⟩) (Nat.lt_of_lt_of_le HNZ.out.1 HW0.out.size)).trans d1
  have e1 := (hb.cell (p := ⟨N + 1, 1, none⟩) (Nat.lt_of_lt_of_le HNZ.out.2 HW0.out.size)).trans e1
  have d3 := (hb.cell (p := ⟨N, 3, none⟩) (Nat.lt_of_lt_of_le HNZ.out.1 HW0.out.size)).trans d3
  have e3 := (hb.cell (p := ⟨N + 1, 3, none⟩) (Nat.lt_of_lt_of_le HNZ.out.2 HW0.out.size)).trans e3
  have d2 := (hb.cell (p := ⟨N, 2, none⟩) (Nat.lt_of_lt_of_le HNZ.out.1 HW0.out.size)).trans d2
  have e2 := (hb.cell (p := ⟨N + 1, 2, none⟩) (Nat.lt_of_lt_of_le HNZ.out.2 HW0.out.size)).trans e2
  have d4 := (hb.cell (p := ⟨N, 4, none⟩) (Nat.lt_of_lt_of_le HNZ.out.1 HW0.out.size)).trans d4
  have e4 := (hb.cell (p := ⟨N + 1, 4, none⟩) (Nat.lt_of_lt_of_le HNZ.out.2 HW0.out.size)).trans e4
  clear hb
  cases t with
  | false =>
    go_wp2_with (fail)
    go_ret
    exact ⟨⟨false, rfl, fun h => absurd h (by decide), fun h => absurd (HT0.out.2 h.fl) (by decide)⟩, HB.out.trans (HW1.out.mono HB.out.size)⟩
  | true =>
    go_wp2_with (fail)
    refine (HE1.out _ (HB.out.trans (HW1.out.mono HB.out.size))).mono ?_
    rintro e w2 ⟨⟨t, rfl, ht⟩, hb⟩
    have HT1 := Lib.hid ht
    have HW2 := Lib.hid (show Below w0.heap.size w0 w2 from HW1.out.trans (hb.mono HW1.out.size))
    clear ht
    have d3 := (hb.cell (p := ⟨N, 3, none⟩) (Nat.lt_of_lt_of_le HNZ.out.1 HW1.out.size)).trans d3
    have e3 := (hb.cell (p := ⟨N + 1, 3, none⟩) (Nat.lt_of_lt_of_le HNZ.out.2 HW1.out.size)).trans e3
    have d2 := (hb.cell (p := ⟨N, 2, none⟩) (Nat.lt_of_lt_of_le HNZ.out.1 HW1.out.size)).trans d2
    have e2 := (hb.cell (p := ⟨N + 1, 2, none⟩) (Nat.lt_of_lt_of_le HNZ.out.2 HW1.out.size)).trans e2
    have d4 := (hb.cell (p := ⟨N, 4, none⟩) (Nat.lt_of_lt_of_le HNZ.out.1 HW1.out.size)).trans d4
    have e4 := (hb.cell (p := ⟨N + 1, 4, none⟩) (Nat.lt_of_lt_of_le HNZ.out.2 HW1.out.size)).trans e4
    clear hb
    cases t with
    | false =>
      go_wp2_with (fail)
      go_ret
      exact ⟨⟨false, rfl, fun h => absurd h (by decide), fun h => absurd (HT1.out.2 h.br) (by decide)⟩, HB.out.trans (HW2.out.mono HB.out.size)⟩
    | true =>
      go_wp2_with (fail)
      refine (HE3.out _ (HB.out.trans (HW2.out.mono HB.out.size))).mono ?_
      rintro e w3 ⟨⟨t, rfl, ht⟩, hb⟩
      have HT3 := Lib.hid ht
      have HW3 := Lib.hid (show Below w0.heap.size w0 w3 from HW2.out.trans (hb.mono HW2.out.size))
      clear ht
      have d2 := (hb.cell (p := ⟨N, 2, none⟩) (Nat.lt_of_lt_of_le HNZ.out.1 HW2.out.size)).trans d2
      have e2 := (hb.cell (p := ⟨N + 1, 2, none⟩) (Nat.lt_of_lt_of_le HNZ.out.2 HW2.out.size)).trans e2
      have d4 := (hb.cell (p := ⟨N, 4, none⟩) (Nat.lt_of_lt_of_le HNZ.out.1 HW2.out.size)).trans d4
      have e4 := (hb.cell (p := ⟨N + 1, 4, none⟩) (Nat.lt_of_lt_of_le HNZ.out.2 HW2.out.size)).trans e4
      clear hb
      cases t with
      | false =>
        go_wp2_with (fail)
        go_ret
        exact ⟨⟨false, rfl, fun h => absurd h (by decide), fun h => absurd (HT3.out.2 h.sy) (by decide)⟩, HB.out.trans (HW3.out.mono HB.out.size)⟩
      | true =>
        go_wp2_with (fail)
        refine (HE2.out _ (HB.out.trans (HW3.out.mono HB.out.size))).mono ?_
        rintro e w4 ⟨⟨t, rfl, ht⟩, hb⟩
        have HT2 := Lib.hid ht
        have HW4 := Lib.hid (show Below w0.heap.size w0 w4 from HW3.out.trans (hb.mono HW3.out.size))
        clear ht
        have d4 := (hb.cell (p := ⟨N, 4, none⟩) (Nat.lt_of_lt_of_le HNZ.out.1 HW3.out.size)).trans d4
        have e4 := (hb.cell (p := ⟨N + 1, 4, none⟩) (Nat.lt_of_lt_of_le HNZ.out.2 HW3.out.size)).trans e4
        clear hb
        cases t with
        | false =>
          go_wp2_with (fail)
          go_ret
          exact ⟨⟨false, rfl, fun h => absurd h (by decide), fun h => absurd (HT2.out.2 h.ho) (by decide)⟩, HB.out.trans (HW4.out.mono HB.out.size)⟩
        | true =>
          go_wp2_with (fail)
          refine (HE4.out _ (HB.out.trans (HW4.out.mono HB.out.size))).mono ?_
          rintro e w5 ⟨⟨t, rfl, ht⟩, hb⟩
          have HT4 := Lib.hid ht
          have HW5 := Lib.hid (show Below w0.heap.size w0 w5 from HW4.out.trans (hb.mono HW4.out.size))
          clear ht
          clear hb
          cases t with
          | false =>
            go_wp2_with (fail)
            go_ret
            exact ⟨⟨false, rfl, fun h => absurd h (by decide), fun h => absurd (HT4.out.2 h.au) (by decide)⟩, HB.out.trans (HW5.out.mono HB.out.size)⟩
          | true =>
            go_wp2_with (fail)
            go_ret
            exact ⟨⟨true, rfl, fun _ => ⟨HT0.out.1 (by trivial), HT1.out.1 (by trivial), HT2.out.1 (by trivial), HT3.out.1 (by trivial), HT4.out.1 (by trivial)⟩, fun _ => rfl⟩, HB.out.trans (HW5.out.mono HB.out.size)⟩
end Go.Proofs.Ytgkdpkpiejjfmaa
