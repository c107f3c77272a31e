/- tree: Keys, where the names are right. -/
import Derived.Test.YtpbbidijnmooaaaTrA
import Derived.Laws.OwnMore
namespace Go.Proofs.Ytpbbidijnmooaaa
open Go.RowKit
set_option linter.unusedVariables false
set_option linter.unusedSimpArgs false

theorem info_keyT : (Try.prog.info? 30).map (fun i => (i.zero, i.size, i.bytes)) = some (some (.agg #[.int .u8 0, .string ⟨#[]⟩, .string ⟨#[]⟩, .string ⟨#[]⟩]), 4, 56) := by kernel_rfl
theorem info_partsT {P : Program} {t : TypeId} {z : Value} {sz by_ : Nat} (h : (P.info? t).map (fun i => (i.zero, i.size, i.bytes)) = some (some z, sz, by_)) : ∃ i, P.info? t = some i ∧ i.zero = some z ∧ i.size = sz ∧ i.bytes = by_ := by
  cases hi : P.info? t with
  | none => rw [hi] at h; cases h
  | some i =>
    rw [hi] at h
    simp only [Option.map_some, Option.some.injEq, Prod.mk.injEq] at h
    exact ⟨i, rfl, h.1, h.2.1, h.2.2⟩
theorem own_sliceT {w : World} {base n size : Nat} {e : TypeId} {v : Value} {xs : List Value} (h : w.ownsRow base e size v n xs) : ∃ a cap, v = .slice a n cap := by
  rcases h.2 with ⟨rfl, rfl⟩ | ⟨g, cap, cur, rfl, _⟩
  · exact ⟨none, 0, rfl⟩
  · exact ⟨_, cap, rfl⟩
theorem row_atT (w : World) (cs : List Value) (t : TypeId) {b : Nat} (hb : b = w.heap.size) : ∀ j u, cs[j]? = some u → (w.alloc (.cells cs.toArray t)).cell? ((⟨b, 0, none⟩ : Addr).add j) = some u := by
  intro j u h
  subst hb
  rw [Go.WideShapes.add_plain, World.cell?_alloc_mark, Nat.zero_add]
  simpa using h
theorem ownsRow_leT {w : World} {base base' size n : Nat} {e : TypeId} {v : Value} {xs : List Value} (h : w.ownsRow base e size v n xs) (hb : base' ≤ base) : w.ownsRow base' e size v n xs := by
  refine ⟨h.1, ?_⟩
  rcases h.2 with h | ⟨g, cap, cur, h1, h2, h3⟩
  · exact Or.inl h
  · exact Or.inr ⟨g, cap, cur, h1, Nat.le_trans hb h2, h3⟩
def keysP (w : World) (c : CallS) : Ending → World → Prop := fun e w' => ∃ v, e = .returned (.tuple #[v, .int .i64 0]) ∧ w'.ownsRow w.heap.size 30 4 v (keysL c).length ((keysL c).map KeyS.cs).flatten ∧ Below w.heap.size w w'
theorem one4 (k : Int) (a b c : ByteArray) : ∀ u ∈ ([.int .u8 k, .string a, .string b, .string c] : List Value), u.oneCell' = true := by
  intro u hu; simp only [List.mem_cons, List.not_mem_nil, or_false] at hu; rcases hu with rfl | rfl | rfl | rfl <;> rfl

set_option maxHeartbeats 6400000 in
set_option maxRecDepth 100000 in
theorem keys_ok {w : World} (c : CallS) (z1 : c.res.size ≤ maxLen) (z2 : c.ctx.size ≤ maxLen) (z3 : c.org.size ≤ maxLen) (hgood : namesB c = true) :
    Calls Try.prog 34 #[.agg c.c] w (keysP w c) := by
  obtain ⟨i0, hi, hz0, hz1, hz2⟩ := info_partsT info_keyT
  obtain ⟨at_, res, ctx, org, inb, cnt, aa, al, ac⟩ := c
  unfold namesB CallS.c at *
  dsimp only at *
  have hbA : Below w.heap.size w (w.alloc (.cells #[.int .i64 at_, .string res, .string ctx, .string org, .bool inb, .int .i64 cnt, .slice aa al ac] 40)) := (Below.refl _ _).alloc (Nat.le_refl _) _
  have hA0 : (w.alloc (.cells #[.int .i64 at_, .string res, .string ctx, .string org, .bool inb, .int .i64 cnt, .slice aa al ac] 40)).heap[w.heap.size]? = some (.cells #[.int .i64 at_, .string res, .string ctx, .string org, .bool inb, .int .i64 cnt, .slice aa al ac] 40) := by rw [get_allocT, if_pos rfl]
  have hAz : (w.alloc (.cells #[.int .i64 at_, .string res, .string ctx, .string org, .bool inb, .int .i64 cnt, .slice aa al ac] 40)).heap.size = w.heap.size + 1 := by simp
  have HR := Lib.hid (fun w => isname_any res z1 w)
  have HC := Lib.hid (fun w => isname_any ctx z2 w)
  have HO := Lib.hid (fun w => isname_any org z3 w)
  have hrc : nameB res = true ∧ nameB ctx = true ∧ ((org.toList == []) || nameB org) = true := by simpa [Bool.and_eq_true] using hgood
  rw [hrc.1] at HR
  rw [hrc.2.1] at HC
  have hno := hrc.2.2
  obtain ⟨L, hL⟩ : ∃ L, keysL ⟨at_, res, ctx, org, inb, cnt, aa, al, ac⟩ = L := ⟨_, rfl⟩
  have HKL := Lib.hid hL
  clear hgood hrc hL
  go_enter Try.func34, Try.ntmps34
  go_wp2_with (fail)
  generalize w.alloc _ = A at *
  have HCEL : Hid (∀ wx, Below A.heap.size A wx → wx.cell? ⟨w.heap.size, 0, none⟩ = some (.int .i64 at_) ∧ wx.cell? ⟨w.heap.size, 1, none⟩ = some (.string res) ∧ wx.cell? ⟨w.heap.size, 2, none⟩ = some (.string ctx) ∧ wx.cell? ⟨w.heap.size, 3, none⟩ = some (.string org) ∧ wx.cell? ⟨w.heap.size, 4, none⟩ = some (.bool inb)) := Lib.hid (fun wx hb => by
    have g0 := (hb.block w.heap.size (by omega)).trans hA0
    simp only [World.cell?, g0]
    exact ⟨rfl, rfl, rfl, rfl, rfl⟩)
  have HBA := Lib.hid hbA
  have HAZ := Lib.hid hAz
  have hb0 : Below A.heap.size A (A.alloc (.cells #[.int .u8 3, .string ctx, .string res, .string ⟨#[]⟩, .int .u8 4, .string ⟨#[]⟩, .string res, .string ⟨#[]⟩] 30)) := (Below.refl _ _).alloc (Nat.le_refl _) _
  have ho0 : (A.alloc (.cells #[.int .u8 3, .string ctx, .string res, .string ⟨#[]⟩, .int .u8 4, .string ⟨#[]⟩, .string res, .string ⟨#[]⟩] 30)).ownsRow A.heap.size 30 4 (.slice (some ⟨A.heap.size, 0, none⟩) 2 2) 2 [.int .u8 3, .string ctx, .string res, .string ⟨#[]⟩, .int .u8 4, .string ⟨#[]⟩, .string res, .string ⟨#[]⟩] := World.ownsRow_lit (base := A.heap.size) (e := 30) (size := 4) A #[.int .u8 3, .string ctx, .string res, .string ⟨#[]⟩, .int .u8 4, .string ⟨#[]⟩, .string res, .string ⟨#[]⟩] 2 (Nat.le_refl _) (by decide) rfl
  have HO0 := Lib.hid ho0
  have HB0 := Lib.hid hb0
  clear hA0 hAz hbA ho0 hb0
  obtain ⟨x0, x1, x2, x3, x4⟩ := HCEL.out A (Below.refl _ _)
  refine (HR.out _).mono ?_
  rintro e w1 ⟨rfl, hq⟩
  have hq := hq.symm
  subst hq
  go_wp2_with (fail)
  refine (HC.out _).mono ?_
  rintro e w1 ⟨rfl, hq⟩
  have hq := hq.symm
  subst hq
  obtain ⟨y0, y1, y2, y3, y4⟩ := HCEL.out _ HB0.out
  cases hq0 : (org.toList == []) with
  | true =>
    have hq : org.toList = [] := by simpa using hq0
    cases inb with
    | false =>
      go_wp2_with (first | (at_builtin; refine wpList_append_own _ rfl (.tmp 46) (.tmp 50) 26 rfl A.heap.size 30 i0 (.agg #[.int .u8 0, .string ⟨#[]⟩, .string ⟨#[]⟩, .string ⟨#[]⟩]) 4 56 Try.underlying26 hi hz0 hz1 hz2 rfl (by decide) (.slice (some ⟨A.heap.size, 0, none⟩) 2 2) 2 ([.int .u8 3, .string ctx, .string res, .string ⟨#[]⟩, .int .u8 4, .string ⟨#[]⟩, .string res, .string ⟨#[]⟩]) (by rfl) (HO0.out.alloc _) ⟨A.heap.size + 1, 0, none⟩ 1 1 [.int .u8 2, .string ctx, .string ⟨#[]⟩, .string ⟨#[]⟩] (by rfl) (by rfl) (row_atT (A.alloc (.cells #[.int .u8 3, .string ctx, .string res, .string ⟨#[]⟩, .int .u8 4, .string ⟨#[]⟩, .string res, .string ⟨#[]⟩] 30)) [.int .u8 2, .string ctx, .string ⟨#[]⟩, .string ⟨#[]⟩] _ (by first | rfl | simp)) (one4 _ _ _ _) (by decide) (by decide) (by have := HB0.out.size; first | (simp; done) | (simp; omega) | omega) ?_; intro v1 w1 hown1 hg1 _; obtain ⟨va1, vc1, rfl⟩ := own_sliceT hown1; have HO1 := Lib.hid hown1; have HB1 := Lib.hid ((HB0.out.alloc HB0.out.size _).grown hg1 (by have := HB0.out.size; first | (simp; done) | (simp; omega) | omega) (fun k hk => (HO0.out.lt k hk).1)); clear hown1 hg1; obtain ⟨y0, y1, y2, y3, y4⟩ := HCEL.out _ HB1.out))
      go_ret2
      refine ⟨_, rfl, ?_, HBA.out.trans (HB1.out.mono HBA.out.size)⟩
      refine ownsRow_leT ?_ HBA.out.size
      have h := HO1.out
      first | exact h | simpa [keysL, noT, KeyS.cs, hq0] using h
    | true =>
      go_wp2_with (first | (at_builtin; refine wpList_append_own _ rfl (.tmp 46) (.tmp 50) 26 rfl A.heap.size 30 i0 (.agg #[.int .u8 0, .string ⟨#[]⟩, .string ⟨#[]⟩, .string ⟨#[]⟩]) 4 56 Try.underlying26 hi hz0 hz1 hz2 rfl (by decide) (.slice (some ⟨A.heap.size, 0, none⟩) 2 2) 2 ([.int .u8 3, .string ctx, .string res, .string ⟨#[]⟩, .int .u8 4, .string ⟨#[]⟩, .string res, .string ⟨#[]⟩]) (by rfl) (HO0.out.alloc _) ⟨A.heap.size + 1, 0, none⟩ 1 1 [.int .u8 2, .string ctx, .string ⟨#[]⟩, .string ⟨#[]⟩] (by rfl) (by rfl) (row_atT (A.alloc (.cells #[.int .u8 3, .string ctx, .string res, .string ⟨#[]⟩, .int .u8 4, .string ⟨#[]⟩, .string res, .string ⟨#[]⟩] 30)) [.int .u8 2, .string ctx, .string ⟨#[]⟩, .string ⟨#[]⟩] _ (by first | rfl | simp)) (one4 _ _ _ _) (by decide) (by decide) (by have := HB0.out.size; first | (simp; done) | (simp; omega) | omega) ?_; intro v1 w1 hown1 hg1 _; obtain ⟨va1, vc1, rfl⟩ := own_sliceT hown1; have HO1 := Lib.hid hown1; have HB1 := Lib.hid ((HB0.out.alloc HB0.out.size _).grown hg1 (by have := HB0.out.size; first | (simp; done) | (simp; omega) | omega) (fun k hk => (HO0.out.lt k hk).1)); clear hown1 hg1; obtain ⟨y0, y1, y2, y3, y4⟩ := HCEL.out _ HB1.out) | (at_builtin; refine wpList_append_own _ rfl (.tmp 54) (.tmp 56) 26 rfl A.heap.size 30 i0 (.agg #[.int .u8 0, .string ⟨#[]⟩, .string ⟨#[]⟩, .string ⟨#[]⟩]) 4 56 Try.underlying26 hi hz0 hz1 hz2 rfl (by decide) (.slice va1 3 vc1) 3 ([.int .u8 3, .string ctx, .string res, .string ⟨#[]⟩, .int .u8 4, .string ⟨#[]⟩, .string res, .string ⟨#[]⟩] ++ [.int .u8 2, .string ctx, .string ⟨#[]⟩, .string ⟨#[]⟩]) (by rfl) (HO1.out.alloc _) ⟨w1.heap.size, 0, none⟩ 1 1 [.int .u8 1, .string ⟨#[]⟩, .string ⟨#[]⟩, .string ⟨#[]⟩] (by rfl) (by rfl) (row_atT w1 [.int .u8 1, .string ⟨#[]⟩, .string ⟨#[]⟩, .string ⟨#[]⟩] _ (by first | rfl | simp)) (one4 _ _ _ _) (by decide) (by decide) (by have := HB1.out.size; first | (simp; done) | (simp; omega) | omega) ?_; intro v2 w2 hown2 hg2 _; obtain ⟨va2, vc2, rfl⟩ := own_sliceT hown2; have HO2 := Lib.hid hown2; have HB2 := Lib.hid ((HB1.out.alloc HB1.out.size _).grown hg2 (by have := HB1.out.size; first | (simp; done) | (simp; omega) | omega) (fun k hk => (HO1.out.lt k hk).1)); clear hown2 hg2; obtain ⟨y0, y1, y2, y3, y4⟩ := HCEL.out _ HB2.out))
      go_ret2
      refine ⟨_, rfl, ?_, HBA.out.trans (HB2.out.mono HBA.out.size)⟩
      refine ownsRow_leT ?_ HBA.out.size
      have h := HO2.out
      first | exact h | simpa [keysL, noT, KeyS.cs, hq0] using h
  | false =>
    have hq : ¬ org.toList = [] := by simpa using hq0
    rw [hq0] at hno
    have hno : nameB org = true := by simpa using hno
    rw [hno] at HO
    go_wp2_with (fail)
    refine (HO.out _).mono ?_
    rintro e w1 ⟨rfl, hq1⟩
    have hq1 := hq1.symm
    subst hq1
    cases inb with
    | false =>
      go_wp2_with (first | (at_builtin; refine wpList_append_own _ rfl (.tmp 38) (.tmp 44) 26 rfl A.heap.size 30 i0 (.agg #[.int .u8 0, .string ⟨#[]⟩, .string ⟨#[]⟩, .string ⟨#[]⟩]) 4 56 Try.underlying26 hi hz0 hz1 hz2 rfl (by decide) (.slice (some ⟨A.heap.size, 0, none⟩) 2 2) 2 ([.int .u8 3, .string ctx, .string res, .string ⟨#[]⟩, .int .u8 4, .string ⟨#[]⟩, .string res, .string ⟨#[]⟩]) (by rfl) (HO0.out.alloc _) ⟨A.heap.size + 1, 0, none⟩ 1 1 [.int .u8 5, .string ⟨#[]⟩, .string res, .string org] (by rfl) (by rfl) (row_atT (A.alloc (.cells #[.int .u8 3, .string ctx, .string res, .string ⟨#[]⟩, .int .u8 4, .string ⟨#[]⟩, .string res, .string ⟨#[]⟩] 30)) [.int .u8 5, .string ⟨#[]⟩, .string res, .string org] _ (by first | rfl | simp)) (one4 _ _ _ _) (by decide) (by decide) (by have := HB0.out.size; first | (simp; done) | (simp; omega) | omega) ?_; intro v1 w1 hown1 hg1 _; obtain ⟨va1, vc1, rfl⟩ := own_sliceT hown1; have HO1 := Lib.hid hown1; have HB1 := Lib.hid ((HB0.out.alloc HB0.out.size _).grown hg1 (by have := HB0.out.size; first | (simp; done) | (simp; omega) | omega) (fun k hk => (HO0.out.lt k hk).1)); clear hown1 hg1; obtain ⟨y0, y1, y2, y3, y4⟩ := HCEL.out _ HB1.out) | (at_builtin; refine wpList_append_own _ rfl (.tmp 46) (.tmp 50) 26 rfl A.heap.size 30 i0 (.agg #[.int .u8 0, .string ⟨#[]⟩, .string ⟨#[]⟩, .string ⟨#[]⟩]) 4 56 Try.underlying26 hi hz0 hz1 hz2 rfl (by decide) (.slice va1 3 vc1) 3 ([.int .u8 3, .string ctx, .string res, .string ⟨#[]⟩, .int .u8 4, .string ⟨#[]⟩, .string res, .string ⟨#[]⟩] ++ [.int .u8 5, .string ⟨#[]⟩, .string res, .string org]) (by rfl) (HO1.out.alloc _) ⟨w1.heap.size, 0, none⟩ 1 1 [.int .u8 2, .string ctx, .string ⟨#[]⟩, .string ⟨#[]⟩] (by rfl) (by rfl) (row_atT w1 [.int .u8 2, .string ctx, .string ⟨#[]⟩, .string ⟨#[]⟩] _ (by first | rfl | simp)) (one4 _ _ _ _) (by decide) (by decide) (by have := HB1.out.size; first | (simp; done) | (simp; omega) | omega) ?_; intro v2 w2 hown2 hg2 _; obtain ⟨va2, vc2, rfl⟩ := own_sliceT hown2; have HO2 := Lib.hid hown2; have HB2 := Lib.hid ((HB1.out.alloc HB1.out.size _).grown hg2 (by have := HB1.out.size; first | (simp; done) | (simp; omega) | omega) (fun k hk => (HO1.out.lt k hk).1)); clear hown2 hg2; obtain ⟨y0, y1, y2, y3, y4⟩ := HCEL.out _ HB2.out))
      go_ret2
      refine ⟨_, rfl, ?_, HBA.out.trans (HB2.out.mono HBA.out.size)⟩
      refine ownsRow_leT ?_ HBA.out.size
      have h := HO2.out
      first | exact h | simpa [keysL, noT, KeyS.cs, hq0] using h
    | true =>
      go_wp2_with (first | (at_builtin; refine wpList_append_own _ rfl (.tmp 38) (.tmp 44) 26 rfl A.heap.size 30 i0 (.agg #[.int .u8 0, .string ⟨#[]⟩, .string ⟨#[]⟩, .string ⟨#[]⟩]) 4 56 Try.underlying26 hi hz0 hz1 hz2 rfl (by decide) (.slice (some ⟨A.heap.size, 0, none⟩) 2 2) 2 ([.int .u8 3, .string ctx, .string res, .string ⟨#[]⟩, .int .u8 4, .string ⟨#[]⟩, .string res, .string ⟨#[]⟩]) (by rfl) (HO0.out.alloc _) ⟨A.heap.size + 1, 0, none⟩ 1 1 [.int .u8 5, .string ⟨#[]⟩, .string res, .string org] (by rfl) (by rfl) (row_atT (A.alloc (.cells #[.int .u8 3, .string ctx, .string res, .string ⟨#[]⟩, .int .u8 4, .string ⟨#[]⟩, .string res, .string ⟨#[]⟩] 30)) [.int .u8 5, .string ⟨#[]⟩, .string res, .string org] _ (by first | rfl | simp)) (one4 _ _ _ _) (by decide) (by decide) (by have := HB0.out.size; first | (simp; done) | (simp; omega) | omega) ?_; intro v1 w1 hown1 hg1 _; obtain ⟨va1, vc1, rfl⟩ := own_sliceT hown1; have HO1 := Lib.hid hown1; have HB1 := Lib.hid ((HB0.out.alloc HB0.out.size _).grown hg1 (by have := HB0.out.size; first | (simp; done) | (simp; omega) | omega) (fun k hk => (HO0.out.lt k hk).1)); clear hown1 hg1; obtain ⟨y0, y1, y2, y3, y4⟩ := HCEL.out _ HB1.out) | (at_builtin; refine wpList_append_own _ rfl (.tmp 46) (.tmp 50) 26 rfl A.heap.size 30 i0 (.agg #[.int .u8 0, .string ⟨#[]⟩, .string ⟨#[]⟩, .string ⟨#[]⟩]) 4 56 Try.underlying26 hi hz0 hz1 hz2 rfl (by decide) (.slice va1 3 vc1) 3 ([.int .u8 3, .string ctx, .string res, .string ⟨#[]⟩, .int .u8 4, .string ⟨#[]⟩, .string res, .string ⟨#[]⟩] ++ [.int .u8 5, .string ⟨#[]⟩, .string res, .string org]) (by rfl) (HO1.out.alloc _) ⟨w1.heap.size, 0, none⟩ 1 1 [.int .u8 2, .string ctx, .string ⟨#[]⟩, .string ⟨#[]⟩] (by rfl) (by rfl) (row_atT w1 [.int .u8 2, .string ctx, .string ⟨#[]⟩, .string ⟨#[]⟩] _ (by first | rfl | simp)) (one4 _ _ _ _) (by decide) (by decide) (by have := HB1.out.size; first | (simp; done) | (simp; omega) | omega) ?_; intro v2 w2 hown2 hg2 _; obtain ⟨va2, vc2, rfl⟩ := own_sliceT hown2; have HO2 := Lib.hid hown2; have HB2 := Lib.hid ((HB1.out.alloc HB1.out.size _).grown hg2 (by have := HB1.out.size; first | (simp; done) | (simp; omega) | omega) (fun k hk => (HO1.out.lt k hk).1)); clear hown2 hg2; obtain ⟨y0, y1, y2, y3, y4⟩ := HCEL.out _ HB2.out) | (at_builtin; refine wpList_append_own _ rfl (.tmp 54) (.tmp 56) 26 rfl A.heap.size 30 i0 (.agg #[.int .u8 0, .string ⟨#[]⟩, .string ⟨#[]⟩, .string ⟨#[]⟩]) 4 56 Try.underlying26 hi hz0 hz1 hz2 rfl (by decide) (.slice va2 4 vc2) 4 ([.int .u8 3, .string ctx, .string res, .string ⟨#[]⟩, .int .u8 4, .string ⟨#[]⟩, .string res, .string ⟨#[]⟩] ++ [.int .u8 5, .string ⟨#[]⟩, .string res, .string org] ++ [.int .u8 2, .string ctx, .string ⟨#[]⟩, .string ⟨#[]⟩]) (by rfl) (HO2.out.alloc _) ⟨w2.heap.size, 0, none⟩ 1 1 [.int .u8 1, .string ⟨#[]⟩, .string ⟨#[]⟩, .string ⟨#[]⟩] (by rfl) (by rfl) (row_atT w2 [.int .u8 1, .string ⟨#[]⟩, .string ⟨#[]⟩, .string ⟨#[]⟩] _ (by first | rfl | simp)) (one4 _ _ _ _) (by decide) (by decide) (by have := HB2.out.size; first | (simp; done) | (simp; omega) | omega) ?_; intro v3 w3 hown3 hg3 _; obtain ⟨va3, vc3, rfl⟩ := own_sliceT hown3; have HO3 := Lib.hid hown3; have HB3 := Lib.hid ((HB2.out.alloc HB2.out.size _).grown hg3 (by have := HB2.out.size; first | (simp; done) | (simp; omega) | omega) (fun k hk => (HO2.out.lt k hk).1)); clear hown3 hg3; obtain ⟨y0, y1, y2, y3, y4⟩ := HCEL.out _ HB3.out))
      go_ret2
      refine ⟨_, rfl, ?_, HBA.out.trans (HB3.out.mono HBA.out.size)⟩
      refine ownsRow_leT ?_ HBA.out.size
      have h := HO3.out
      first | exact h | simpa [keysL, noT, KeyS.cs, hq0] using h
end Go.Proofs.Ytpbbidijnmooaaa
