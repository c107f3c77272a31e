/- How deeds that came in are opened. -/
import Derived.Test.YtpbbidijnmooaaaZin
import Derived.Test.YtpbbidijnmooaaaTrP
namespace Go.Proofs.Ytpbbidijnmooaaa
open Go.ChangeShapes Go.WideShapes Go.ChangeAt Go.RowKit Go.Deep
set_option linter.unusedVariables false
set_option linter.unusedSimpArgs false

def TDeed.cs (d : TDeed) : List Value := [.int .i64 d.kind, .int .i64 d.c.at_, .string d.c.res, .string d.c.ctx, .string d.c.org, .bool d.c.inb, .int .i64 d.c.cnt, .slice d.c.aa d.c.al d.c.ac, .int .i64 d.rt, .bool d.failed]
structure TDeed.Ok (d : TDeed) : Prop where
  z1 : d.c.res.size ≤ maxLen
  z2 : d.c.ctx.size ≤ maxLen
  z3 : d.c.org.size ≤ maxLen
structure DeedsL where
  a : Option Addr
  n : Nat
  c : Nat
  ds : List TDeed
def DeedsL.v (r : DeedsL) : Value := .slice r.a r.n r.c
/-- Where deeds lie. -/
def DeedRow (w : World) (a : Option Addr) (ds : List TDeed) : Prop :=
  ds = [] ∨ ∃ b off, a = some ⟨b, off, none⟩ ∧ b < w.heap.size ∧ ∀ j d, ds[j]? = some d → ∀ k u, d.cs[k]? = some u → w.cell? ⟨b, off + j * 10 + k, none⟩ = some u
theorem DeedRow.below {N : Nat} {w w' : World} {a : Option Addr} {ds : List TDeed} (h : DeedRow w a ds) (hn : w.heap.size ≤ N) (hb : Below N w w') : DeedRow w' a ds := by
  rcases h with h | ⟨b, off, rfl, hl, hc⟩
  · exact Or.inl h
  · exact Or.inr ⟨b, off, rfl, Nat.lt_of_lt_of_le hl hb.size, fun j d hj k u hu => (World.cell?_of_block (a := ⟨b, off + j * 10 + k, none⟩) (hb.block b (Nat.lt_of_lt_of_le hl hn))).trans (hc j d hj k u hu)⟩
structure DeedsAt (w : World) (r : DeedsL) : Prop where
  l : r.ds.length = r.n
  b : r.n * 120 ≤ 140737488351232
  z : ∀ d, d ∈ r.ds → d.Ok
  row : DeedRow w r.a r.ds
theorem some_ofT {α : Type} {xs : List α} {n k : Nat} (h : xs.length = n) (hk : k < n) : ∃ y, xs[k]? = some y := ⟨_, List.getElem?_eq_getElem (by omega)⟩
theorem ten_list {α : Type} {cs : List α} (h : cs.length = 10) : ∃ u0 u1 u2 u3 u4 u5 u6 u7 u8 u9, cs = [u0, u1, u2, u3, u4, u5, u6, u7, u8, u9] := by
  match cs, h with
  | [a, b, c, d, e, f, g, i, j, k], _ => exact ⟨a, b, c, d, e, f, g, i, j, k, rfl⟩
set_option maxRecDepth 100000 in
theorem read_deed {H : Type} {enc : TypeId × Value → H} {W : World} {spare : Nat → Bool} {held : Bool} {base m0 : Nat} {cs : List Value} {y : DataW H × List MemPlace} (hl : cs.length = 10)
    (hf : DataW.trod enc Try.prog W base spare held m0 42 cs = some y) : ∃ d : TDeed, cs = d.cs ∧ d.Ok := by
  have hCH : Try.prog.cellsOf 40 = 7 := by kernel_rfl
  have hC1 : Try.prog.cellsOf 3 = 1 := by kernel_rfl
  have hC2 : Try.prog.cellsOf 4 = 1 := by kernel_rfl
  have hC3 : Try.prog.cellsOf 9 = 1 := by kernel_rfl
  have hC4 : Try.prog.cellsOf 38 = 1 := by kernel_rfl
  obtain ⟨u0, u1, u2, u3, u4, u5, u6, u7, u8, u9, rfl⟩ := ten_list hl
  obtain ⟨xs, n, _, _, _, hxs, hff⟩ := DataW.trod_struct Try.underlying42 hf
  have hxs : xs.length = 4 := hxs
  obtain ⟨y0, hy0⟩ := some_ofT (k := 0) hxs (by omega)
  obtain ⟨y1, hy1⟩ := some_ofT (k := 1) hxs (by omega)
  obtain ⟨y2, hy2⟩ := some_ofT (k := 2) hxs (by omega)
  obtain ⟨y3, hy3⟩ := some_ofT (k := 3) hxs (by omega)
  have f0 : DataW.trod enc Try.prog W base spare held n 3 [u0] = some y0 := by
    have h : DataW.trod enc Try.prog W base spare held n 3 (List.take (Try.prog.cellsOf 3) (List.drop 0 [u0, u1, u2, u3, u4, u5, u6, u7, u8, u9])) = some y0 := (hff 0 _ rfl).trans hy0
    rw [hC1] at h
    exact h
  have f1 : DataW.trod enc Try.prog W base spare held n 40 [u1, u2, u3, u4, u5, u6, u7] = some y1 := by
    have h : DataW.trod enc Try.prog W base spare held n 40 (List.take (Try.prog.cellsOf 40) (List.drop 1 [u0, u1, u2, u3, u4, u5, u6, u7, u8, u9])) = some y1 := (hff 1 _ rfl).trans hy1
    rw [hCH] at h
    exact h
  have f2 : DataW.trod enc Try.prog W base spare held n 3 [u8] = some y2 := by
    have h : DataW.trod enc Try.prog W base spare held n 3 (List.take (Try.prog.cellsOf 3) (List.drop 8 [u0, u1, u2, u3, u4, u5, u6, u7, u8, u9])) = some y2 := (hff 2 _ rfl).trans hy2
    rw [hC1] at h
    exact h
  have f3 : DataW.trod enc Try.prog W base spare held n 4 [u9] = some y3 := by
    have h : DataW.trod enc Try.prog W base spare held n 4 (List.take (Try.prog.cellsOf 4) (List.drop 9 [u0, u1, u2, u3, u4, u5, u6, u7, u8, u9])) = some y3 := (hff 3 _ rfl).trans hy3
    rw [hC2] at h
    exact h
  obtain ⟨ys, n2, _, _, _, hys, hgg⟩ := DataW.trod_struct Try.underlying40 f1
  have hys : ys.length = 7 := hys
  obtain ⟨q0, hq0⟩ := some_ofT (k := 0) hys (by omega)
  obtain ⟨q1, hq1⟩ := some_ofT (k := 1) hys (by omega)
  obtain ⟨q2, hq2⟩ := some_ofT (k := 2) hys (by omega)
  obtain ⟨q3, hq3⟩ := some_ofT (k := 3) hys (by omega)
  obtain ⟨q4, hq4⟩ := some_ofT (k := 4) hys (by omega)
  obtain ⟨q5, hq5⟩ := some_ofT (k := 5) hys (by omega)
  obtain ⟨q6, hq6⟩ := some_ofT (k := 6) hys (by omega)
  have g0 : DataW.trod enc Try.prog W base spare held n2 3 [u1] = some q0 := by
    have h : DataW.trod enc Try.prog W base spare held n2 3 (List.take (Try.prog.cellsOf 3) (List.drop 0 [u1, u2, u3, u4, u5, u6, u7])) = some q0 := (hgg 0 _ rfl).trans hq0
    rw [hC1] at h
    exact h
  have g1 : DataW.trod enc Try.prog W base spare held n2 9 [u2] = some q1 := by
    have h : DataW.trod enc Try.prog W base spare held n2 9 (List.take (Try.prog.cellsOf 9) (List.drop 1 [u1, u2, u3, u4, u5, u6, u7])) = some q1 := (hgg 1 _ rfl).trans hq1
    rw [hC3] at h
    exact h
  have g2 : DataW.trod enc Try.prog W base spare held n2 9 [u3] = some q2 := by
    have h : DataW.trod enc Try.prog W base spare held n2 9 (List.take (Try.prog.cellsOf 9) (List.drop 2 [u1, u2, u3, u4, u5, u6, u7])) = some q2 := (hgg 2 _ rfl).trans hq2
    rw [hC3] at h
    exact h
  have g3 : DataW.trod enc Try.prog W base spare held n2 9 [u4] = some q3 := by
    have h : DataW.trod enc Try.prog W base spare held n2 9 (List.take (Try.prog.cellsOf 9) (List.drop 3 [u1, u2, u3, u4, u5, u6, u7])) = some q3 := (hgg 3 _ rfl).trans hq3
    rw [hC3] at h
    exact h
  have g4 : DataW.trod enc Try.prog W base spare held n2 4 [u5] = some q4 := by
    have h : DataW.trod enc Try.prog W base spare held n2 4 (List.take (Try.prog.cellsOf 4) (List.drop 4 [u1, u2, u3, u4, u5, u6, u7])) = some q4 := (hgg 4 _ rfl).trans hq4
    rw [hC2] at h
    exact h
  have g5 : DataW.trod enc Try.prog W base spare held n2 3 [u6] = some q5 := by
    have h : DataW.trod enc Try.prog W base spare held n2 3 (List.take (Try.prog.cellsOf 3) (List.drop 5 [u1, u2, u3, u4, u5, u6, u7])) = some q5 := (hgg 5 _ rfl).trans hq5
    rw [hC1] at h
    exact h
  have g6 : DataW.trod enc Try.prog W base spare held n2 38 [u7] = some q6 := by
    have h : DataW.trod enc Try.prog W base spare held n2 38 (List.take (Try.prog.cellsOf 38) (List.drop 6 [u1, u2, u3, u4, u5, u6, u7])) = some q6 := (hgg 6 _ rfl).trans hq6
    rw [hC4] at h
    exact h
  have k0 := (recs_int (k := .i64) (v := u0) Try.underlying3 f0).1
  have k1 := (recs_int (k := .i64) (v := u1) Try.underlying3 g0).1
  obtain ⟨k2, z2⟩ := recs_strZ (v := u2) Try.underlying9 g1
  obtain ⟨k3, z3⟩ := recs_strZ (v := u3) Try.underlying9 g2
  obtain ⟨k4, z4⟩ := recs_strZ (v := u4) Try.underlying9 g3
  have k5 := recs_bool (v := u5) Try.underlying4 g4
  have k6 := (recs_int (k := .i64) (v := u6) Try.underlying3 g5).1
  obtain ⟨a, l, c, k7⟩ := recs_slice (v := u7) Try.underlying38 g6
  have k8 := (recs_int (k := .i64) (v := u8) Try.underlying3 f2).1
  have k9 := recs_bool (v := u9) Try.underlying4 f3
  refine ⟨⟨intOf u0, ⟨intOf u1, strOf u2, strOf u3, strOf u4, boolOf u5, intOf u6, a, l, c⟩, intOf u8, boolOf u9⟩, ?_, z2, z3, z4⟩
  show [u0, u1, u2, u3, u4, u5, u6, u7, u8, u9] = [.int .i64 (intOf u0), .int .i64 (intOf u1), .string (strOf u2), .string (strOf u3), .string (strOf u4), .bool (boolOf u5), .int .i64 (intOf u6), .slice a l c, .int .i64 (intOf u8), .bool (boolOf u9)]
  rw [← k0, ← k1, ← k2, ← k3, ← k4, ← k5, ← k6, ← k7, ← k8, ← k9]
theorem pick_list {α : Type} (P : Nat → α → Prop) : ∀ n : Nat, (∀ i, i < n → ∃ x, P i x) → ∃ l : List α, l.length = n ∧ ∀ i x, l[i]? = some x → P i x
  | 0, _ => ⟨[], rfl, fun i x h => by simp at h⟩
  | n + 1, h => by
    obtain ⟨l, hl, hp⟩ := pick_list P n (fun i hi => h i (by omega))
    obtain ⟨x, hx⟩ := h n (by omega)
    refine ⟨l ++ [x], by simp [hl], fun i y hy => ?_⟩
    by_cases hi : i < n
    · exact hp i y (by rwa [List.getElem?_append_left (by omega)] at hy)
    · have hi2 : i = n := by have := (List.getElem?_eq_some_iff.1 hy).1; simp [hl] at this; omega
      subst hi2
      rw [List.getElem?_append_right (by omega), hl, Nat.sub_self] at hy
      obtain rfl : x = y := by simpa using hy
      exact hx
theorem deed_row {W : World} {x : Addr} {len : Nat} {ds : List TDeed} (hl : ds.length = len) (hc : ∀ i d, ds[i]? = some d → ∀ k u, d.cs[k]? = some u → W.cell? (x.add (i * 10 + k)) = some u) : DeedRow W (some x) ds := by
  by_cases h0 : len = 0
  · exact Or.inl (List.eq_nil_of_length_eq_zero (by omega))
  · right
    obtain ⟨d0, hd0⟩ := some_ofT (k := 0) hl (by omega)
    obtain ⟨b, off, spot⟩ := x
    have hv0 := hc 0 d0 hd0 0 _ rfl
    have hspot : spot = none := by simpa [Addr.add] using World.cell?_spot hv0
    subst hspot
    rw [Go.WideShapes.add_plain] at hv0
    refine ⟨b, off, rfl, World.block_lt_of_cell? W _ hv0, fun j d hj k u hu => ?_⟩
    have := hc j d hj k u hu
    rw [Go.WideShapes.add_plain, ← Nat.add_assoc] at this
    exact this
set_option maxRecDepth 100000 in
theorem open_deedsT {H : Type} {enc : TypeId × Value → H} {W : World} {spare : Nat → Bool} {held : Bool} {base b0 : Nat} {r : Reach} {v : Value} {d : DataW H} {p : List MemPlace}
    (hval : Value.okWide Try.prog W r b0 22 v) (hd : DataW.Trod enc Try.prog W base spare held 22 v d p) (hsz : Sz 22 d) :
    ∃ r : DeedsL, v = r.v ∧ DeedsAt W r := by
  obtain ⟨a, len, cap, rfl⟩ := okWide_slice Try.underlying22 hval
  obtain ⟨fuel, hf⟩ := hd
  rcases open_slice Try.underlying22 hf with ⟨hcs, hx⟩ | ⟨x, l, c, m, n, D, Pl, hcs, _, hl, hm, hmm, hx, hi⟩
  · simp [Value.cells] at hcs
    obtain ⟨rfl, rfl, rfl⟩ := hcs
    exact ⟨⟨none, 0, 0, []⟩, rfl, rfl, by show 0 * 120 ≤ _; omega, fun d hd => by simp at hd, Or.inl rfl⟩
  · simp [Value.cells] at hcs
    obtain ⟨rfl, rfl, rfl⟩ := hcs
    simp only [Prod.mk.injEq] at hx
    have hlm : len ≤ m := by rw [hmm]; split <;> omega
    have hs : len * 120 ≤ 140737488351232 := by
      rw [hx.1] at hsz
      have := sz_slice Try.underlying22 hsz
      rw [show Try.prog.bytesOf 42 = 120 from by kernel_rfl] at this
      simp only [List.length_map, List.length_range, reachBytes] at this
      refine Nat.le_trans (Nat.mul_le_mul_right _ ?_) this
      omega
    obtain ⟨ds, hdl, hds⟩ := pick_list (fun i (d : TDeed) => d.Ok ∧ ∀ k u, d.cs[k]? = some u → W.cell? (x.add (i * 10 + k)) = some u) len (fun i hil => by
      obtain ⟨cs', hc, ht'⟩ := hi i (by omega)
      rw [show Try.prog.cellsOf 42 = 10 from by kernel_rfl] at hc
      obtain ⟨_, hcl, hat⟩ := World.cells?_some hc
      obtain ⟨d, hd1, hd2⟩ := read_deed (by omega) ht'
      refine ⟨d, hd2, fun k u hu => ?_⟩
      have hk : k < 10 := by have := (List.getElem?_eq_some_iff.1 hu).1; simpa [TDeed.cs] using this
      rw [← Go.Deep.add_add, hat k hk, hd1, hu])
    exact ⟨⟨some x, len, cap, ds⟩, rfl, hdl, hs, fun d hd => by
      obtain ⟨i, hi2⟩ := List.mem_iff_getElem?.1 hd
      exact (hds i d hi2).1, deed_row hdl (fun i d h => (hds i d h).2)⟩
end Go.Proofs.Ytpbbidijnmooaaa
