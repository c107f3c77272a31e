/- Texts of one chain, one behind the other: BrG, BrS, BrT, BrU, BrOp. -/
import Derived.Test.YtlipbkpbflgamaaGBrD
import Derived.Test.YtlipbkpbflgamaaGRecs
import Derived.Test.YtlipbkpbflgamaaGR7B
import Derived.Test.YtlipbkpbflgamaaGZin
import Derived.Test.YtlipbkpbflgamaaGRecsA

/- BreakerEnds: ends of entries while it is open change nothing. -/
namespace Go.Proofs.Ytlipbkpbflgamaa
open Go.RowKit
set_option linter.unusedVariables false
set_option linter.unusedSimpArgs false

theorem bdoneS_open {r : BreakS} {s : BrS} (h : s.st ≠ 1) (at_ rt : Int) (failed : Bool) : (bdoneS r s at_ rt failed false).st = s.st ∧ (bdoneS r s at_ rt failed false).un = s.un ∧ (bdoneS r s at_ rt failed false).tr = s.tr := by
  unfold bdoneS
  split
  · simp [h]
  · exact ⟨rfl, rfl, rfl⟩
/-- A row of deeds that came in: five cells each. -/
structure DeedsB (w : World) (a : Option Addr) (len : Nat) (K A R : Nat → Int) (F P : Nat → Bool) : Prop where
  at' : len = 0 ∨ ∃ b off, a = some ⟨b, off, none⟩ ∧ b < w.heap.size ∧ ∀ j, j < len → w.cell? ⟨b, off + j * 5, none⟩ = some (.int .i64 (K j)) ∧ w.cell? ⟨b, off + j * 5 + 1, none⟩ = some (.int .i64 (A j)) ∧ w.cell? ⟨b, off + j * 5 + 2, none⟩ = some (.int .i64 (R j)) ∧ w.cell? ⟨b, off + j * 5 + 3, none⟩ = some (.bool (F j)) ∧ w.cell? ⟨b, off + j * 5 + 4, none⟩ = some (.bool (P j))
theorem deedsB {w : World} {a : Option Addr} {len : Nat} {V : Nat → Nat → Value} (hr : RecsAt w a 5 len V)
    (h0 : ∀ j, j < len → V j 0 = .int .i64 (intOf (V j 0)) ∧ (Lit.int .i64 (intOf (V j 0))).wf = true) (h1 : ∀ j, j < len → V j 1 = .int .i64 (intOf (V j 1)) ∧ (Lit.int .i64 (intOf (V j 1))).wf = true)
    (h2 : ∀ j, j < len → V j 2 = .int .i64 (intOf (V j 2)) ∧ (Lit.int .i64 (intOf (V j 2))).wf = true) (h3 : ∀ j, j < len → V j 3 = .bool (boolOf (V j 3))) (h4 : ∀ j, j < len → V j 4 = .bool (boolOf (V j 4))) :
    DeedsB w a len (fun j => intOf (V j 0)) (fun j => intOf (V j 1)) (fun j => intOf (V j 2)) (fun j => boolOf (V j 3)) (fun j => boolOf (V j 4)) := by
  refine ⟨?_⟩
  rcases hr with h | ⟨b, off, rfl, hb, hc⟩
  · exact Or.inl h
  · refine Or.inr ⟨b, off, rfl, hb, fun j hj => ⟨?_, ?_, ?_, ?_, ?_⟩⟩
    · have := hc j hj 0 (by decide); rw [(h0 j hj).1] at this; exact this
    · have := hc j hj 1 (by decide); rw [(h1 j hj).1] at this; exact this
    · have := hc j hj 2 (by decide); rw [(h2 j hj).1] at this; exact this
    · have := hc j hj 3 (by decide); rw [h3 j hj] at this; exact this
    · have := hc j hj 4 (by decide); rw [h4 j hj] at this; exact this
theorem DeedsB.of {w : World} {a : Option Addr} {len : Nat} {K A R : Nat → Int} {F P : Nat → Bool} (h : DeedsB w a len K A R F P) {j : Nat} (hj : j < len) : ∃ b off, a = some ⟨b, off, none⟩ ∧ ∀ wx, Below w.heap.size w wx → wx.cell? ⟨b, off + j * 5, none⟩ = some (.int .i64 (K j)) ∧ wx.cell? ⟨b, off + j * 5 + 1, none⟩ = some (.int .i64 (A j)) ∧ wx.cell? ⟨b, off + j * 5 + 2, none⟩ = some (.int .i64 (R j)) ∧ wx.cell? ⟨b, off + j * 5 + 3, none⟩ = some (.bool (F j)) ∧ wx.cell? ⟨b, off + j * 5 + 4, none⟩ = some (.bool (P j)) := by
  rcases h.at' with h | ⟨b, off, e, hb, hc⟩
  · omega
  · obtain ⟨c0, c1, c2, c3, c4⟩ := hc j hj
    exact ⟨b, off, e, fun wx hx => ⟨(hx.cell (p := ⟨b, off + j * 5, none⟩) hb).trans c0, (hx.cell (p := ⟨b, off + j * 5 + 1, none⟩) hb).trans c1, (hx.cell (p := ⟨b, off + j * 5 + 2, none⟩) hb).trans c2, (hx.cell (p := ⟨b, off + j * 5 + 3, none⟩) hb).trans c3, (hx.cell (p := ⟨b, off + j * 5 + 4, none⟩) hb).trans c4⟩⟩

end Go.Proofs.Ytlipbkpbflgamaa

/- The law's pair: a deed on both. -/
namespace Go.Proofs.Ytlipbkpbflgamaa
open Go.RowKit
set_option linter.unusedVariables false
set_option linter.unusedSimpArgs false

theorem BothAt.rr1 {w w1 : World} {k : BothK} {r : BreakS} {s : BrS} {n : Nat} (h : BothAt w k r s n) {S : Nat → Prop} (ho : Off S w w1) (hS : ∀ i, S i → BOwn k.q k.p k.m i) : R14At w1 k.q' k.p' r s k.un k.v k.L :=
  h.rr.kept (fun i hi => ho.block i (h.rr.lt hi) (fun e => h.dis i (hS i e) hi))
/-- A step on both. -/
theorem BothAt.step {w w1 w2 : World} {k : BothK} {r : BreakS} {s s' : BrS} {n n' : Nat} (h : BothAt w k r s n) {p1 m1 : Nat} (hb : BrAt w1 k.q p1 m1 r s') (ho : Off (BOwn k.q k.p k.m) w w1) (hn : ∀ i, BOwn k.q p1 m1 i → BOwn k.q k.p k.m i ∨ w.heap.size ≤ i)
    {p2 : Nat} {un2 : Int} {v2 : Value} {L2 : List Bk3} (hr : R14At w2 k.q' p2 r s' un2 v2 L2) (ho2 : Off (R14Own k.q' k.p' k.v) w1 w2) (hn2 : ∀ i, R14Own k.q' p2 v2 i → R14Own k.q' k.p' k.v i ∨ w1.heap.size ≤ i) (h1 : OneL s'.notes) (hl : s'.notes.length ≤ n') :
    BothAt w2 ⟨k.q, p1, m1, k.q', p2, un2, v2, L2⟩ r s' n' ∧ Off k.own w w2 ∧ (∀ i, (⟨k.q, p1, m1, k.q', p2, un2, v2, L2⟩ : BothK).own i → k.own i ∨ w.heap.size ≤ i) := by
  have hs := ho.size
  have hd : ∀ i, BOwn k.q p1 m1 i → ¬ R14Own k.q' k.p' k.v i := fun i hi e => by
    have := h.rr.lt e
    rcases hn i hi with hi | hi
    · exact h.dis i hi e
    · omega
  refine ⟨⟨hb.kept (fun i hi => ho2.block i (hb.lt hi) (hd i hi)), hr, fun i hi e => ?_, h1, hl⟩, ?_, fun i hi => ?_⟩
  · rcases hn2 i e with e | e
    · exact hd i hi e
    · have := hb.lt hi; omega
  · exact (ho.mono (S' := k.own) (fun i _ e => Or.inl e)).trans (ho2.mono (S' := k.own) (fun i _ e => Or.inr e)) (fun _ _ e => e)
  · rcases hi with hi | hi
    · rcases hn i hi with e | e
      · exact Or.inl (Or.inl e)
      · exact Or.inr e
    · rcases hn2 i hi with e | e
      · exact Or.inl (Or.inr e)
      · exact Or.inr (by omega)
theorem bdoneS_one {r : BreakS} {s : BrS} {n : Nat} (h : OneL s.notes) (hl : s.notes.length ≤ n) (at_ rt : Int) (F P : Bool) : OneL (bdoneS r s at_ rt F P).notes ∧ (bdoneS r s at_ rt F P).notes.length ≤ n + 1 := by
  have ha : ∀ B, OneL (addS s at_ B).notes ∧ (addS s at_ B).notes.length ≤ n + 1 := fun B => ⟨oneL_snoc h at_ B, by show (s.notes ++ newW at_ [endC B]).length ≤ _; rw [List.length_append]; show s.notes.length + 1 ≤ _; omega⟩
  unfold bdoneS
  split
  · split
    · split
      · exact ⟨h, by show s.notes.length ≤ _; omega⟩
      · exact ⟨fun x hx => by simp at hx, by simp⟩
    · split
      · split
        · exact ha _
        · exact ha _
      · exact ⟨h, by show s.notes.length ≤ _; omega⟩
  · exact ⟨h, by omega⟩
theorem enterS_notes (s : BrS) (at_ : Int) : (enterS s at_).notes = s.notes := by unfold enterS; split <;> rfl
theorem giveS_notes (s : BrS) (at_ : Int) : (giveS s at_).notes = s.notes := by unfold giveS; split <;> rfl
theorem bown_done {q p m p' m' z : Nat} (h : (p' = p ∧ m' = m) ∨ (z ≤ p' ∧ z ≤ m')) : ∀ i, BOwn q p' m' i → BOwn q p m i ∨ z ≤ i := by
  intro i hi
  rcases h with ⟨rfl, rfl⟩ | ⟨h1, h2⟩
  · exact Or.inl hi
  · rcases hi with rfl | rfl | rfl
    · exact Or.inl (Or.inl rfl)
    · exact Or.inr h1
    · exact Or.inr h2
def doK (k : BothK) (p1 m1 p2 : Nat) (un2 : Int) (v2 : Value) (L2 : List Bk3) : BothK := ⟨k.q, p1, m1, k.q', p2, un2, v2, L2⟩
/-- What a deed on both leaves. -/
structure DoPost (w : World) (k : BothK) (r : BreakS) (n : Nat) (e : Ending) (w' : World) : Prop where
  e : e = .returned (.bool true)
  ex : ∃ k' s', BothAt w' k' r s' (n + 1) ∧ Off k.own w w' ∧ (∀ i, k'.own i → k.own i ∨ w.heap.size ≤ i) ∧ k'.q = k.q ∧ k'.q' = k.q'
set_option maxHeartbeats 12800000 in
set_option maxRecDepth 100000 in
theorem bothdo_none {w : World} {k : BothK} {r : BreakS} {s : BrS} {n : Nat} (h : BothAt w k r s n) (hn : n < 1125899906842624) (kind at_ rt : Int) (F P : Bool) (k0 : kind ≠ 0) (k1 : kind ≠ 1) (k2 : kind ≠ 2) :
    Calls Try.prog 7 #[bothV k, .agg #[.int .i64 kind, .int .i64 at_, .int .i64 rt, .bool F, .bool P]] w (DoPost w k r n) := by
  have n0 : (kind == 0) = false := by simpa using k0
  have n1 : (kind == 1) = false := by simpa using k1
  have n2 : (kind == 2) = false := by simpa using k2
  clear k0 k1 k2
  obtain ⟨N, hN⟩ : ∃ N, w.heap.size = N := ⟨_, rfl⟩
  have HN := Lib.hid hN
  have hB : Below w.heap.size w ((w.alloc (bothO k)).alloc (.cells #[.int .i64 kind, .int .i64 at_, .int .i64 rt, .bool F, .bool P] 42)) := ((Below.refl _ _).alloc (Nat.le_refl _) _).alloc (by simp) _
  have h0 : ((w.alloc (bothO k)).alloc (.cells #[.int .i64 kind, .int .i64 at_, .int .i64 rt, .bool F, .bool P] 42)).heap[N]? = some (bothO k) := by
    rw [get_allocW, if_neg (by rw [World.size_alloc]; omega), get_allocW, if_pos hN.symm]
  have h1 : ((w.alloc (bothO k)).alloc (.cells #[.int .i64 kind, .int .i64 at_, .int .i64 rt, .bool F, .bool P] 42)).heap[N + 1]? = some (.cells #[.int .i64 kind, .int .i64 at_, .int .i64 rt, .bool F, .bool P] 42) := by
    rw [get_allocW, if_pos (by rw [World.size_alloc]; omega)]
  have HH0 := Lib.hid (h.below hB)
  have HB := Lib.hid hB
  have H0 := Lib.hid h0
  have H1 := Lib.hid h1
  have HOW := Lib.hid (show ∀ i, k.own i → i < N from fun i hi => by have := h.lt hi; omega)
  clear h hB h0 h1
  unfold bothO at HH0 HB H0 H1
  unfold bothV
  go_enter Try.func7, Try.ntmps7
  obtain ⟨w0, hw0⟩ : ∃ w0, (w.alloc (.cells #[.pointer (some ⟨k.q, 0, none⟩), .pointer (some ⟨k.q', 0, none⟩)] 39)).alloc (.cells #[.int .i64 kind, .int .i64 at_, .int .i64 rt, .bool F, .bool P] 42) = w0 := ⟨_, rfl⟩
  have f0 : w0.cell? ⟨N, 0, none⟩ = some (.pointer (some ⟨k.q, 0, none⟩)) := by rw [← hw0]; simp only [World.cell?, H0.out]; rfl
  have f1 : w0.cell? ⟨N, 1, none⟩ = some (.pointer (some ⟨k.q', 0, none⟩)) := by rw [← hw0]; simp only [World.cell?, H0.out]; rfl
  have g0 : w0.cell? ⟨N + 1, 0, none⟩ = some (.int .i64 kind) := by rw [← hw0]; simp only [World.cell?, H1.out]; rfl
  have g1 : w0.cell? ⟨N + 1, 1, none⟩ = some (.int .i64 at_) := by rw [← hw0]; simp only [World.cell?, H1.out]; rfl
  have g2 : w0.cell? ⟨N + 1, 2, none⟩ = some (.int .i64 rt) := by rw [← hw0]; simp only [World.cell?, H1.out]; rfl
  have g3 : w0.cell? ⟨N + 1, 3, none⟩ = some (.bool F) := by rw [← hw0]; simp only [World.cell?, H1.out]; rfl
  have g4 : w0.cell? ⟨N + 1, 4, none⟩ = some (.bool P) := by rw [← hw0]; simp only [World.cell?, H1.out]; rfl
  have HSZ := Lib.hid (show N + 1 < w0.heap.size by rw [← hw0]; exact (Array.getElem?_eq_some_iff.1 H1.out).1)
  go_wp2_with (fail)
  rw [hw0] at HH0 HB
  clear hw0 H0 H1
  obtain ⟨w5, hw5⟩ : ∃ w5, w0 = w5 := ⟨_, rfl⟩
  have HH5 := Lib.hid (show BothAt w5 (doK k k.p k.m k.p' k.un k.v k.L) r s (n + 1) by rw [← hw5]; exact ⟨HH0.out.br, HH0.out.rr, HH0.out.dis, HH0.out.one, by have := HH0.out.len; omega⟩)
  have HO5 := Lib.hid (show Off k.own w w5 ∧ (∀ i, (doK k k.p k.m k.p' k.un k.v k.L).own i → k.own i ∨ w.heap.size ≤ i) by rw [← hw5]; exact ⟨Off.ofBelow HB.out, fun i hi => Or.inl hi⟩)
  have HZ5 := Lib.hid (show N < w5.heap.size ∧ N + 1 < w5.heap.size by rw [← hw5]; have := HSZ.out; exact ⟨by omega, this⟩)
  have HF5 := Lib.hid (show w5.cell? ⟨N, 0, none⟩ = some (.pointer (some ⟨k.q, 0, none⟩)) ∧ w5.cell? ⟨N, 1, none⟩ = some (.pointer (some ⟨k.q', 0, none⟩)) ∧ w5.cell? ⟨N + 1, 1, none⟩ = some (.int .i64 at_) by rw [← hw5]; exact ⟨f0, f1, g1⟩)
  rw [hw5]
  clear hw5 f0 f1 g0 g1 g2 g3 g4 HH0 HB
  generalize hs2 : s = s2 at HH5
  clear hs2
  obtain ⟨LA, hLA⟩ : ∃ LA, s2.la = LA := ⟨_, rfl⟩
  have la11 := HH5.out.rr.cells.c11
  rw [hLA] at la11
  have HLA := Lib.hid la11
  have HAL := Lib.hid (fun (wx : World) (hb : Below w5.heap.size w5 wx) (a : Int) => alike14_any (HH5.out.below hb) a)
  have HSB := Lib.hid (show ∀ wx, Below w5.heap.size w5 wx → (fun wx => wx.cell? ⟨N, 0, none⟩ = some (.pointer (some ⟨k.q, 0, none⟩)) ∧ wx.cell? ⟨N, 1, none⟩ = some (.pointer (some ⟨k.q', 0, none⟩)) ∧ wx.cell? ⟨N + 1, 1, none⟩ = some (.int .i64 at_) ∧ wx.cell? ⟨k.q', 11, none⟩ = some (.int .i64 LA) ∧ Below w5.heap.size w5 wx) wx from fun wx hb =>
    ⟨(hb.cell (p := ⟨N, 0, none⟩) HZ5.out.1).trans HF5.out.1, (hb.cell (p := ⟨N, 1, none⟩) HZ5.out.1).trans HF5.out.2.1, (hb.cell (p := ⟨N + 1, 1, none⟩) HZ5.out.2).trans HF5.out.2.2, (hb.cell (p := ⟨k.q', 11, none⟩) (HH5.out.lt (Or.inr (Or.inl rfl)))).trans HLA.out, hb⟩)
  unfold bothV at HAL
  try unfold doK at HAL
  dsimp only at HAL
  clear la11 hLA
  refine wp_region_noPanic ?_
  refine wp_region_held_drew (S := (fun wx => wx.cell? ⟨N, 0, none⟩ = some (.pointer (some ⟨k.q, 0, none⟩)) ∧ wx.cell? ⟨N, 1, none⟩ = some (.pointer (some ⟨k.q', 0, none⟩)) ∧ wx.cell? ⟨N + 1, 1, none⟩ = some (.int .i64 at_) ∧ wx.cell? ⟨k.q', 11, none⟩ = some (.int .i64 LA) ∧ Below w5.heap.size w5 wx)) (by kernel_rfl) ?_ (fun hHeld => ?_)
  · exact HSB.out _ (Below.refl _ w5).drew
  refine wpAnyH_take (i := 0) (v := ?_) rfl (by kernel_rfl) (by kernel_rfl) (by kernel_rfl) (fun _ _ _ h => h) (Or.inl ⟨by rfl, ?hy⟩) (by assumption) ?_
  case hy => intro w hSw; (try dsimp only at hSw); go_simp; try with_reducible rfl
  try simp only [Act.put, List.getElem_toArray, List.getElem_cons_succ, List.getElem_cons_zero, List.setIfInBounds_toArray, List.set_cons_zero, List.set_cons_succ]
  refine wpAnyH_take (i := 1) (v := ?_) rfl (by kernel_rfl) (by kernel_rfl) (by kernel_rfl) (fun _ _ _ h => h) (Or.inl ⟨by rfl, ?hy⟩) (by assumption) ?_
  case hy => intro w hSw; (try dsimp only at hSw); go_simp; try with_reducible rfl
  try simp only [Act.put, List.getElem_toArray, List.getElem_cons_succ, List.getElem_cons_zero, List.setIfInBounds_toArray, List.set_cons_zero, List.set_cons_succ]
  refine wpAnyH_take (i := 2) (v := ?_) rfl (by kernel_rfl) (by kernel_rfl) (by kernel_rfl) (fun _ _ _ h => h) (Or.inl ⟨by rfl, ?hy⟩) (by assumption) ?_
  case hy => intro w hSw; (try dsimp only at hSw); go_simp; try with_reducible rfl
  try simp only [Act.put, List.getElem_toArray, List.getElem_cons_succ, List.getElem_cons_zero, List.setIfInBounds_toArray, List.set_cons_zero, List.set_cons_succ]
  refine wpAnyH_ready (rs := [3]) (by kernel_rfl) (by simp) (AllReadyH.cons rfl (fun K hK => ?_) AllReadyH.nil)
  go_simp
  refine (HAL.out _ (Below.refl _ w5).drew at_).mono ?_
  rintro e w6 ⟨rfl, h6⟩
  have HB6 := Lib.hid (show Below w5.heap.size w5 w6 from ((Below.refl _ w5).drew).trans (h6.mono (Nat.le_refl _)))
  clear h6
  try (go_wp2_with fail)
  refine hK.out _ _ ?_ (fun hHeld => ?_)
  · exact HSB.out _ HB6.out
  clear hK K
  try simp only [Act.put, List.getElem_toArray, List.getElem_cons_succ, List.getElem_cons_zero, List.setIfInBounds_toArray, List.set_cons_zero, List.set_cons_succ]
  refine wpAnyH_take (i := 4) (v := ?_) rfl (by kernel_rfl) (by kernel_rfl) (by kernel_rfl) (fun _ _ _ h => h) (Or.inl ⟨by rfl, ?hy⟩) (by assumption) ?_
  case hy => intro w hSw; (try dsimp only at hSw); go_simp; try with_reducible rfl
  try simp only [Act.put, List.getElem_toArray, List.getElem_cons_succ, List.getElem_cons_zero, List.setIfInBounds_toArray, List.set_cons_zero, List.set_cons_succ]
  refine wpAnyH_take (i := 5) (v := ?_) rfl (by kernel_rfl) (by kernel_rfl) (by kernel_rfl) (fun _ _ _ h => h) (Or.inl ⟨by rfl, ?hy⟩) (by assumption) ?_
  case hy => intro w hSw; (try dsimp only at hSw); go_simp; try with_reducible rfl
  try simp only [Act.put, List.getElem_toArray, List.getElem_cons_succ, List.getElem_cons_zero, List.setIfInBounds_toArray, List.set_cons_zero, List.set_cons_succ]
  refine wpAnyH_take (i := 6) (v := ?_) rfl (by kernel_rfl) (by kernel_rfl) (by kernel_rfl) (fun _ _ _ h => h) (Or.inl ⟨by rfl, ?hy⟩) (by assumption) ?_
  case hy => intro w hSw; (try dsimp only at hSw); go_simp; try with_reducible rfl
  try simp only [Act.put, List.getElem_toArray, List.getElem_cons_succ, List.getElem_cons_zero, List.setIfInBounds_toArray, List.set_cons_zero, List.set_cons_succ]
  refine wpAnyH_take (i := 7) (v := ?_) rfl (by kernel_rfl) (by kernel_rfl) (by kernel_rfl) (fun _ _ _ h => h) (Or.inl ⟨by rfl, ?hy⟩) (by assumption) ?_
  case hy => intro w hSw; (try dsimp only at hSw); go_simp; try with_reducible rfl
  try simp only [Act.put, List.getElem_toArray, List.getElem_cons_succ, List.getElem_cons_zero, List.setIfInBounds_toArray, List.set_cons_zero, List.set_cons_succ]
  refine wpAnyH_take (i := 8) (v := ?_) rfl (by kernel_rfl) (by kernel_rfl) (by kernel_rfl) (fun _ _ _ h => h) (Or.inl ⟨by rfl, ?hy⟩) (by assumption) ?_
  case hy => intro w hSw; (try dsimp only at hSw); go_simp; try with_reducible rfl
  try simp only [Act.put, List.getElem_toArray, List.getElem_cons_succ, List.getElem_cons_zero, List.setIfInBounds_toArray, List.set_cons_zero, List.set_cons_succ]
  refine wpAnyH_take (i := 9) (v := ?_) rfl (by kernel_rfl) (by kernel_rfl) (by kernel_rfl) (fun _ _ _ h => h) (Or.inl ⟨by rfl, ?hy⟩) (by assumption) ?_
  case hy => intro w hSw; (try dsimp only at hSw); go_simp; try with_reducible rfl
  try simp only [Act.put, List.getElem_toArray, List.getElem_cons_succ, List.getElem_cons_zero, List.setIfInBounds_toArray, List.set_cons_zero, List.set_cons_succ]
  refine wpAnyH_take (i := 10) (v := ?_) rfl (by kernel_rfl) (by kernel_rfl) (by kernel_rfl) (fun _ _ _ h => h) (Or.inl ⟨by rfl, ?hy⟩) (by assumption) ?_
  case hy => intro w hSw; (try dsimp only at hSw); go_simp; try with_reducible rfl
  try simp only [Act.put, List.getElem_toArray, List.getElem_cons_succ, List.getElem_cons_zero, List.setIfInBounds_toArray, List.set_cons_zero, List.set_cons_succ]
  refine wpAnyH_ready (rs := [11]) (by kernel_rfl) (by simp) (AllReadyH.cons rfl (fun K hK => ?_) AllReadyH.nil)
  go_simp
  refine (HAL.out _ HB6.out LA).mono ?_
  rintro e w7 ⟨rfl, h7⟩
  have HB7 := Lib.hid (show Below w5.heap.size w5 w7 from HB6.out.trans (h7.mono HB6.out.size))
  clear h7
  try (go_wp2_with fail)
  refine hK.out _ _ ?_ (fun hHeld => ?_)
  · exact HSB.out _ HB7.out
  clear hK K
  try simp only [Act.put, List.getElem_toArray, List.getElem_cons_succ, List.getElem_cons_zero, List.setIfInBounds_toArray, List.set_cons_zero, List.set_cons_succ]
  refine wpAnyH_take (i := 12) (v := ?_) rfl (by kernel_rfl) (by kernel_rfl) (by kernel_rfl) (fun _ _ _ h => h) (Or.inl ⟨by rfl, ?hy⟩) (by assumption) ?_
  case hy => intro w hSw; (try dsimp only at hSw); go_simp; try with_reducible rfl
  try simp only [Act.put, List.getElem_toArray, List.getElem_cons_succ, List.getElem_cons_zero, List.setIfInBounds_toArray, List.set_cons_zero, List.set_cons_succ]
  refine wpAnyH_take (i := 13) (v := ?_) rfl (by kernel_rfl) (by kernel_rfl) (by kernel_rfl) (fun _ _ _ h => h) (Or.inl ⟨by rfl, ?hy⟩) (by assumption) ?_
  case hy => intro w hSw; (try dsimp only at hSw); go_simp; try with_reducible rfl
  try simp only [Act.put, List.getElem_toArray, List.getElem_cons_succ, List.getElem_cons_zero, List.setIfInBounds_toArray, List.set_cons_zero, List.set_cons_succ]
  refine wpAnyH_done (by kernel_rfl) ?_ _
  refine NoPanic.normal ?_
  go_wp2_with (fail)
  go_ret
  exact ⟨rfl, _, _, HH5.out.below HB7.out, HO5.out.1.trans (Off.ofBelow (S := k.own) HB7.out) (fun _ _ h => h), HO5.out.2, rfl, rfl⟩

set_option maxHeartbeats 12800000 in
set_option maxRecDepth 100000 in
theorem bothdo_enter {w : World} {k : BothK} {r : BreakS} {s : BrS} {n : Nat} (h : BothAt w k r s n) (hn : n < 1125899906842624) (kind at_ rt : Int) (F P : Bool) (k0 : kind = 0) :
    Calls Try.prog 7 #[bothV k, .agg #[.int .i64 kind, .int .i64 at_, .int .i64 rt, .bool F, .bool P]] w (DoPost w k r n) := by
  subst k0
  obtain ⟨N, hN⟩ : ∃ N, w.heap.size = N := ⟨_, rfl⟩
  have HN := Lib.hid hN
  have hB : Below w.heap.size w ((w.alloc (bothO k)).alloc (.cells #[.int .i64 0, .int .i64 at_, .int .i64 rt, .bool F, .bool P] 42)) := ((Below.refl _ _).alloc (Nat.le_refl _) _).alloc (by simp) _
  have h0 : ((w.alloc (bothO k)).alloc (.cells #[.int .i64 0, .int .i64 at_, .int .i64 rt, .bool F, .bool P] 42)).heap[N]? = some (bothO k) := by
    rw [get_allocW, if_neg (by rw [World.size_alloc]; omega), get_allocW, if_pos hN.symm]
  have h1 : ((w.alloc (bothO k)).alloc (.cells #[.int .i64 0, .int .i64 at_, .int .i64 rt, .bool F, .bool P] 42)).heap[N + 1]? = some (.cells #[.int .i64 0, .int .i64 at_, .int .i64 rt, .bool F, .bool P] 42) := by
    rw [get_allocW, if_pos (by rw [World.size_alloc]; omega)]
  have HH0 := Lib.hid (h.below hB)
  have HB := Lib.hid hB
  have H0 := Lib.hid h0
  have H1 := Lib.hid h1
  have HOW := Lib.hid (show ∀ i, k.own i → i < N from fun i hi => by have := h.lt hi; omega)
  clear h hB h0 h1
  unfold bothO at HH0 HB H0 H1
  unfold bothV
  go_enter Try.func7, Try.ntmps7
  obtain ⟨w0, hw0⟩ : ∃ w0, (w.alloc (.cells #[.pointer (some ⟨k.q, 0, none⟩), .pointer (some ⟨k.q', 0, none⟩)] 39)).alloc (.cells #[.int .i64 0, .int .i64 at_, .int .i64 rt, .bool F, .bool P] 42) = w0 := ⟨_, rfl⟩
  have f0 : w0.cell? ⟨N, 0, none⟩ = some (.pointer (some ⟨k.q, 0, none⟩)) := by rw [← hw0]; simp only [World.cell?, H0.out]; rfl
  have f1 : w0.cell? ⟨N, 1, none⟩ = some (.pointer (some ⟨k.q', 0, none⟩)) := by rw [← hw0]; simp only [World.cell?, H0.out]; rfl
  have g0 : w0.cell? ⟨N + 1, 0, none⟩ = some (.int .i64 0) := by rw [← hw0]; simp only [World.cell?, H1.out]; rfl
  have g1 : w0.cell? ⟨N + 1, 1, none⟩ = some (.int .i64 at_) := by rw [← hw0]; simp only [World.cell?, H1.out]; rfl
  have g2 : w0.cell? ⟨N + 1, 2, none⟩ = some (.int .i64 rt) := by rw [← hw0]; simp only [World.cell?, H1.out]; rfl
  have g3 : w0.cell? ⟨N + 1, 3, none⟩ = some (.bool F) := by rw [← hw0]; simp only [World.cell?, H1.out]; rfl
  have g4 : w0.cell? ⟨N + 1, 4, none⟩ = some (.bool P) := by rw [← hw0]; simp only [World.cell?, H1.out]; rfl
  have HSZ := Lib.hid (show N + 1 < w0.heap.size by rw [← hw0]; exact (Array.getElem?_eq_some_iff.1 H1.out).1)
  have HFF := Lib.hid (show w0.cell? ⟨N, 0, none⟩ = some (.pointer (some ⟨k.q, 0, none⟩)) ∧ w0.cell? ⟨N, 1, none⟩ = some (.pointer (some ⟨k.q', 0, none⟩)) ∧ w0.cell? ⟨N + 1, 0, none⟩ = some (.int .i64 0) ∧ w0.cell? ⟨N + 1, 1, none⟩ = some (.int .i64 at_) ∧ w0.cell? ⟨N + 1, 2, none⟩ = some (.int .i64 rt) ∧ w0.cell? ⟨N + 1, 3, none⟩ = some (.bool F) ∧ w0.cell? ⟨N + 1, 4, none⟩ = some (.bool P) from ⟨f0, f1, g0, g1, g2, g3, g4⟩)
  rw [hw0] at HH0 HB
  have HE1 := Lib.hid (benter_any HH0.out.br at_)
  have HST := Lib.hid HH0.out.br.st
  generalize hEA : enterA s at_ = EA at HE1
  generalize hEP : enterP s at_ = EP at HE1
  have HEQ := Lib.hid (And.intro hEA hEP)
  clear hEA hEP
  go_wp2_with (fail)
  clear hw0 H0 H1
  refine HE1.out.mono ?_
  rintro e w1 ⟨rfl, hb1, ho1⟩
  have hoB : Off (BOwn k.q k.p k.m) w0 w1 := off_q ho1
  have HR1 := Lib.hid (r14enter_any (HH0.out.rr1 hoB (fun i h => h)) HST.out at_)
  rw [HEQ.out.1, HEQ.out.2] at HR1
  have e1 : w1.cell? ⟨N, 1, none⟩ = some (.pointer (some ⟨k.q', 0, none⟩)) := ho1.cell f1 (fun hi => by have hi : N = k.q := hi; have := HOW.out k.q (Or.inl (Or.inl rfl)); omega)
  have e2 : w1.cell? ⟨N + 1, 1, none⟩ = some (.int .i64 at_) := ho1.cell g1 (fun hi => by have hi : N + 1 = k.q := hi; have := HOW.out k.q (Or.inl (Or.inl rfl)); omega)
  have HB1 := Lib.hid hb1
  have HOB := Lib.hid hoB
  clear f0 f1 g0 g1 g2 g3 g4 hb1 ho1 hoB HE1
  go_wp2_with (fail)
  refine HR1.out.mono ?_
  rintro e w5 ⟨rfl, hr5, ho5⟩
  obtain ⟨hh5, hoa, hown⟩ := HH0.out.step (n' := n + 1) HB1.out HOB.out (fun i hi => Or.inl hi) hr5 (off_q14 ho5) (fun i hi => Or.inl hi) (by rw [enterS_notes]; exact HH0.out.one) (by rw [enterS_notes]; have := HH0.out.len; omega)
  have HH5 := Lib.hid hh5
  have HOA := Lib.hid hoa
  have HO5 := Lib.hid (show Off k.own w w5 ∧ (∀ i, _ → k.own i ∨ w.heap.size ≤ i) from ⟨(Off.ofBelow (S := k.own) HB.out).trans hoa (fun _ _ h => h), fun i hi => (hown i hi).imp id (fun h => by have := HB.out.size; omega)⟩)
  have HZ5 := Lib.hid (show N < w5.heap.size ∧ N + 1 < w5.heap.size by have h1 := HSZ.out; have h2 := HOA.out.size; exact ⟨by omega, by omega⟩)
  have HF5 := Lib.hid (show w5.cell? ⟨N, 0, none⟩ = some (.pointer (some ⟨k.q, 0, none⟩)) ∧ w5.cell? ⟨N, 1, none⟩ = some (.pointer (some ⟨k.q', 0, none⟩)) ∧ w5.cell? ⟨N + 1, 1, none⟩ = some (.int .i64 at_) from
    ⟨HOA.out.cell HFF.out.1 (fun hi => by have h9 : N < N := HOW.out _ hi; omega), HOA.out.cell HFF.out.2.1 (fun hi => by have h9 : N < N := HOW.out _ hi; omega), HOA.out.cell HFF.out.2.2.2.1 (fun hi => by have h9 : N + 1 < N := HOW.out _ hi; omega)⟩)
  clear hr5 ho5 hh5 hoa hown HR1 e1 e2 HB1 HOB HFF
  go_wp2_with (fail)
  generalize hs2 : enterS s at_ = s2 at HH5
  clear hs2
  obtain ⟨LA, hLA⟩ : ∃ LA, s2.la = LA := ⟨_, rfl⟩
  have la11 := HH5.out.rr.cells.c11
  rw [hLA] at la11
  have HLA := Lib.hid la11
  have HAL := Lib.hid (fun (wx : World) (hb : Below w5.heap.size w5 wx) (a : Int) => alike14_any (HH5.out.below hb) a)
  have HSB := Lib.hid (show ∀ wx, Below w5.heap.size w5 wx → (fun wx => wx.cell? ⟨N, 0, none⟩ = some (.pointer (some ⟨k.q, 0, none⟩)) ∧ wx.cell? ⟨N, 1, none⟩ = some (.pointer (some ⟨k.q', 0, none⟩)) ∧ wx.cell? ⟨N + 1, 1, none⟩ = some (.int .i64 at_) ∧ wx.cell? ⟨k.q', 11, none⟩ = some (.int .i64 LA) ∧ Below w5.heap.size w5 wx) wx from fun wx hb =>
    ⟨(hb.cell (p := ⟨N, 0, none⟩) HZ5.out.1).trans HF5.out.1, (hb.cell (p := ⟨N, 1, none⟩) HZ5.out.1).trans HF5.out.2.1, (hb.cell (p := ⟨N + 1, 1, none⟩) HZ5.out.2).trans HF5.out.2.2, (hb.cell (p := ⟨k.q', 11, none⟩) (HH5.out.lt (Or.inr (Or.inl rfl)))).trans HLA.out, hb⟩)
  unfold bothV at HAL
  try unfold doK at HAL
  dsimp only at HAL
  clear la11 hLA
  refine wp_region_noPanic ?_
  refine wp_region_held_drew (S := (fun wx => wx.cell? ⟨N, 0, none⟩ = some (.pointer (some ⟨k.q, 0, none⟩)) ∧ wx.cell? ⟨N, 1, none⟩ = some (.pointer (some ⟨k.q', 0, none⟩)) ∧ wx.cell? ⟨N + 1, 1, none⟩ = some (.int .i64 at_) ∧ wx.cell? ⟨k.q', 11, none⟩ = some (.int .i64 LA) ∧ Below w5.heap.size w5 wx)) (by kernel_rfl) ?_ (fun hHeld => ?_)
  · exact HSB.out _ (Below.refl _ w5).drew
  refine wpAnyH_take (i := 0) (v := ?_) rfl (by kernel_rfl) (by kernel_rfl) (by kernel_rfl) (fun _ _ _ h => h) (Or.inl ⟨by rfl, ?hy⟩) (by assumption) ?_
  case hy => intro w hSw; (try dsimp only at hSw); go_simp; try with_reducible rfl
  try simp only [Act.put, List.getElem_toArray, List.getElem_cons_succ, List.getElem_cons_zero, List.setIfInBounds_toArray, List.set_cons_zero, List.set_cons_succ]
  refine wpAnyH_take (i := 1) (v := ?_) rfl (by kernel_rfl) (by kernel_rfl) (by kernel_rfl) (fun _ _ _ h => h) (Or.inl ⟨by rfl, ?hy⟩) (by assumption) ?_
  case hy => intro w hSw; (try dsimp only at hSw); go_simp; try with_reducible rfl
  try simp only [Act.put, List.getElem_toArray, List.getElem_cons_succ, List.getElem_cons_zero, List.setIfInBounds_toArray, List.set_cons_zero, List.set_cons_succ]
  refine wpAnyH_take (i := 2) (v := ?_) rfl (by kernel_rfl) (by kernel_rfl) (by kernel_rfl) (fun _ _ _ h => h) (Or.inl ⟨by rfl, ?hy⟩) (by assumption) ?_
  case hy => intro w hSw; (try dsimp only at hSw); go_simp; try with_reducible rfl
  try simp only [Act.put, List.getElem_toArray, List.getElem_cons_succ, List.getElem_cons_zero, List.setIfInBounds_toArray, List.set_cons_zero, List.set_cons_succ]
  refine wpAnyH_ready (rs := [3]) (by kernel_rfl) (by simp) (AllReadyH.cons rfl (fun K hK => ?_) AllReadyH.nil)
  go_simp
  refine (HAL.out _ (Below.refl _ w5).drew at_).mono ?_
  rintro e w6 ⟨rfl, h6⟩
  have HB6 := Lib.hid (show Below w5.heap.size w5 w6 from ((Below.refl _ w5).drew).trans (h6.mono (Nat.le_refl _)))
  clear h6
  try (go_wp2_with fail)
  refine hK.out _ _ ?_ (fun hHeld => ?_)
  · exact HSB.out _ HB6.out
  clear hK K
  try simp only [Act.put, List.getElem_toArray, List.getElem_cons_succ, List.getElem_cons_zero, List.setIfInBounds_toArray, List.set_cons_zero, List.set_cons_succ]
  refine wpAnyH_take (i := 4) (v := ?_) rfl (by kernel_rfl) (by kernel_rfl) (by kernel_rfl) (fun _ _ _ h => h) (Or.inl ⟨by rfl, ?hy⟩) (by assumption) ?_
  case hy => intro w hSw; (try dsimp only at hSw); go_simp; try with_reducible rfl
  try simp only [Act.put, List.getElem_toArray, List.getElem_cons_succ, List.getElem_cons_zero, List.setIfInBounds_toArray, List.set_cons_zero, List.set_cons_succ]
  refine wpAnyH_take (i := 5) (v := ?_) rfl (by kernel_rfl) (by kernel_rfl) (by kernel_rfl) (fun _ _ _ h => h) (Or.inl ⟨by rfl, ?hy⟩) (by assumption) ?_
  case hy => intro w hSw; (try dsimp only at hSw); go_simp; try with_reducible rfl
  try simp only [Act.put, List.getElem_toArray, List.getElem_cons_succ, List.getElem_cons_zero, List.setIfInBounds_toArray, List.set_cons_zero, List.set_cons_succ]
  refine wpAnyH_take (i := 6) (v := ?_) rfl (by kernel_rfl) (by kernel_rfl) (by kernel_rfl) (fun _ _ _ h => h) (Or.inl ⟨by rfl, ?hy⟩) (by assumption) ?_
  case hy => intro w hSw; (try dsimp only at hSw); go_simp; try with_reducible rfl
  try simp only [Act.put, List.getElem_toArray, List.getElem_cons_succ, List.getElem_cons_zero, List.setIfInBounds_toArray, List.set_cons_zero, List.set_cons_succ]
  refine wpAnyH_take (i := 7) (v := ?_) rfl (by kernel_rfl) (by kernel_rfl) (by kernel_rfl) (fun _ _ _ h => h) (Or.inl ⟨by rfl, ?hy⟩) (by assumption) ?_
  case hy => intro w hSw; (try dsimp only at hSw); go_simp; try with_reducible rfl
  try simp only [Act.put, List.getElem_toArray, List.getElem_cons_succ, List.getElem_cons_zero, List.setIfInBounds_toArray, List.set_cons_zero, List.set_cons_succ]
  refine wpAnyH_take (i := 8) (v := ?_) rfl (by kernel_rfl) (by kernel_rfl) (by kernel_rfl) (fun _ _ _ h => h) (Or.inl ⟨by rfl, ?hy⟩) (by assumption) ?_
  case hy => intro w hSw; (try dsimp only at hSw); go_simp; try with_reducible rfl
  try simp only [Act.put, List.getElem_toArray, List.getElem_cons_succ, List.getElem_cons_zero, List.setIfInBounds_toArray, List.set_cons_zero, List.set_cons_succ]
  refine wpAnyH_take (i := 9) (v := ?_) rfl (by kernel_rfl) (by kernel_rfl) (by kernel_rfl) (fun _ _ _ h => h) (Or.inl ⟨by rfl, ?hy⟩) (by assumption) ?_
  case hy => intro w hSw; (try dsimp only at hSw); go_simp; try with_reducible rfl
  try simp only [Act.put, List.getElem_toArray, List.getElem_cons_succ, List.getElem_cons_zero, List.setIfInBounds_toArray, List.set_cons_zero, List.set_cons_succ]
  refine wpAnyH_take (i := 10) (v := ?_) rfl (by kernel_rfl) (by kernel_rfl) (by kernel_rfl) (fun _ _ _ h => h) (Or.inl ⟨by rfl, ?hy⟩) (by assumption) ?_
  case hy => intro w hSw; (try dsimp only at hSw); go_simp; try with_reducible rfl
  try simp only [Act.put, List.getElem_toArray, List.getElem_cons_succ, List.getElem_cons_zero, List.setIfInBounds_toArray, List.set_cons_zero, List.set_cons_succ]
  refine wpAnyH_ready (rs := [11]) (by kernel_rfl) (by simp) (AllReadyH.cons rfl (fun K hK => ?_) AllReadyH.nil)
  go_simp
  refine (HAL.out _ HB6.out LA).mono ?_
  rintro e w7 ⟨rfl, h7⟩
  have HB7 := Lib.hid (show Below w5.heap.size w5 w7 from HB6.out.trans (h7.mono HB6.out.size))
  clear h7
  try (go_wp2_with fail)
  refine hK.out _ _ ?_ (fun hHeld => ?_)
  · exact HSB.out _ HB7.out
  clear hK K
  try simp only [Act.put, List.getElem_toArray, List.getElem_cons_succ, List.getElem_cons_zero, List.setIfInBounds_toArray, List.set_cons_zero, List.set_cons_succ]
  refine wpAnyH_take (i := 12) (v := ?_) rfl (by kernel_rfl) (by kernel_rfl) (by kernel_rfl) (fun _ _ _ h => h) (Or.inl ⟨by rfl, ?hy⟩) (by assumption) ?_
  case hy => intro w hSw; (try dsimp only at hSw); go_simp; try with_reducible rfl
  try simp only [Act.put, List.getElem_toArray, List.getElem_cons_succ, List.getElem_cons_zero, List.setIfInBounds_toArray, List.set_cons_zero, List.set_cons_succ]
  refine wpAnyH_take (i := 13) (v := ?_) rfl (by kernel_rfl) (by kernel_rfl) (by kernel_rfl) (fun _ _ _ h => h) (Or.inl ⟨by rfl, ?hy⟩) (by assumption) ?_
  case hy => intro w hSw; (try dsimp only at hSw); go_simp; try with_reducible rfl
  try simp only [Act.put, List.getElem_toArray, List.getElem_cons_succ, List.getElem_cons_zero, List.setIfInBounds_toArray, List.set_cons_zero, List.set_cons_succ]
  refine wpAnyH_done (by kernel_rfl) ?_ _
  refine NoPanic.normal ?_
  go_wp2_with (fail)
  go_ret
  exact ⟨rfl, _, _, HH5.out.below HB7.out, HO5.out.1.trans (Off.ofBelow (S := k.own) HB7.out) (fun _ _ h => h), HO5.out.2, rfl, rfl⟩

set_option maxHeartbeats 12800000 in
set_option maxRecDepth 100000 in
theorem bothdo_done {w : World} {k : BothK} {r : BreakS} {s : BrS} {n : Nat} (h : BothAt w k r s n) (hn : n < 1125899906842624) (kind at_ rt : Int) (F P : Bool) (k0 : kind = 1) :
    Calls Try.prog 7 #[bothV k, .agg #[.int .i64 kind, .int .i64 at_, .int .i64 rt, .bool F, .bool P]] w (DoPost w k r n) := by
  subst k0
  obtain ⟨N, hN⟩ : ∃ N, w.heap.size = N := ⟨_, rfl⟩
  have HN := Lib.hid hN
  have hB : Below w.heap.size w ((w.alloc (bothO k)).alloc (.cells #[.int .i64 1, .int .i64 at_, .int .i64 rt, .bool F, .bool P] 42)) := ((Below.refl _ _).alloc (Nat.le_refl _) _).alloc (by simp) _
  have h0 : ((w.alloc (bothO k)).alloc (.cells #[.int .i64 1, .int .i64 at_, .int .i64 rt, .bool F, .bool P] 42)).heap[N]? = some (bothO k) := by
    rw [get_allocW, if_neg (by rw [World.size_alloc]; omega), get_allocW, if_pos hN.symm]
  have h1 : ((w.alloc (bothO k)).alloc (.cells #[.int .i64 1, .int .i64 at_, .int .i64 rt, .bool F, .bool P] 42)).heap[N + 1]? = some (.cells #[.int .i64 1, .int .i64 at_, .int .i64 rt, .bool F, .bool P] 42) := by
    rw [get_allocW, if_pos (by rw [World.size_alloc]; omega)]
  have HH0 := Lib.hid (h.below hB)
  have HB := Lib.hid hB
  have H0 := Lib.hid h0
  have H1 := Lib.hid h1
  have HOW := Lib.hid (show ∀ i, k.own i → i < N from fun i hi => by have := h.lt hi; omega)
  clear h hB h0 h1
  unfold bothO at HH0 HB H0 H1
  unfold bothV
  go_enter Try.func7, Try.ntmps7
  obtain ⟨w0, hw0⟩ : ∃ w0, (w.alloc (.cells #[.pointer (some ⟨k.q, 0, none⟩), .pointer (some ⟨k.q', 0, none⟩)] 39)).alloc (.cells #[.int .i64 1, .int .i64 at_, .int .i64 rt, .bool F, .bool P] 42) = w0 := ⟨_, rfl⟩
  have f0 : w0.cell? ⟨N, 0, none⟩ = some (.pointer (some ⟨k.q, 0, none⟩)) := by rw [← hw0]; simp only [World.cell?, H0.out]; rfl
  have f1 : w0.cell? ⟨N, 1, none⟩ = some (.pointer (some ⟨k.q', 0, none⟩)) := by rw [← hw0]; simp only [World.cell?, H0.out]; rfl
  have g0 : w0.cell? ⟨N + 1, 0, none⟩ = some (.int .i64 1) := by rw [← hw0]; simp only [World.cell?, H1.out]; rfl
  have g1 : w0.cell? ⟨N + 1, 1, none⟩ = some (.int .i64 at_) := by rw [← hw0]; simp only [World.cell?, H1.out]; rfl
  have g2 : w0.cell? ⟨N + 1, 2, none⟩ = some (.int .i64 rt) := by rw [← hw0]; simp only [World.cell?, H1.out]; rfl
  have g3 : w0.cell? ⟨N + 1, 3, none⟩ = some (.bool F) := by rw [← hw0]; simp only [World.cell?, H1.out]; rfl
  have g4 : w0.cell? ⟨N + 1, 4, none⟩ = some (.bool P) := by rw [← hw0]; simp only [World.cell?, H1.out]; rfl
  have HSZ := Lib.hid (show N + 1 < w0.heap.size by rw [← hw0]; exact (Array.getElem?_eq_some_iff.1 H1.out).1)
  have HFF := Lib.hid (show w0.cell? ⟨N, 0, none⟩ = some (.pointer (some ⟨k.q, 0, none⟩)) ∧ w0.cell? ⟨N, 1, none⟩ = some (.pointer (some ⟨k.q', 0, none⟩)) ∧ w0.cell? ⟨N + 1, 0, none⟩ = some (.int .i64 1) ∧ w0.cell? ⟨N + 1, 1, none⟩ = some (.int .i64 at_) ∧ w0.cell? ⟨N + 1, 2, none⟩ = some (.int .i64 rt) ∧ w0.cell? ⟨N + 1, 3, none⟩ = some (.bool F) ∧ w0.cell? ⟨N + 1, 4, none⟩ = some (.bool P) from ⟨f0, f1, g0, g1, g2, g3, g4⟩)
  rw [hw0] at HH0 HB
  have hdr : Below w0.heap.size w0 w0.drew := (Below.refl _ _).drew
  have HD0 := Lib.hid (HH0.out.below hdr)
  have HE1 := Lib.hid (bdone_any HD0.out.br at_ rt F P)
  have HRR := Lib.hid (fun (wx : World) (ho : Off (BOwn k.q k.p k.m) w0.drew wx) => r14done_any (HD0.out.rr1 ho (fun i h => h)) HH0.out.br.ok HH0.out.one (by have := HH0.out.len; omega) at_ rt F P)
  generalize hBE : bdoneE s at_ rt P = BE
  have HBE := Lib.hid hBE
  clear hBE hdr
  have HSB8 := Lib.hid (show ∀ wx, Off k.own w0 wx → (fun wx => wx.cell? ⟨N, 0, none⟩ = some (.pointer (some ⟨k.q, 0, none⟩)) ∧ wx.cell? ⟨N, 1, none⟩ = some (.pointer (some ⟨k.q', 0, none⟩)) ∧ wx.cell? ⟨N + 1, 1, none⟩ = some (.int .i64 at_) ∧ wx.cell? ⟨N + 1, 2, none⟩ = some (.int .i64 rt) ∧ wx.cell? ⟨N + 1, 3, none⟩ = some (.bool F) ∧ wx.cell? ⟨N + 1, 4, none⟩ = some (.bool P)) wx from fun wx ho =>
    ⟨ho.cell HFF.out.1 (fun hi => by have h9 : N < N := HOW.out _ hi; omega), ho.cell HFF.out.2.1 (fun hi => by have h9 : N < N := HOW.out _ hi; omega), ho.cell HFF.out.2.2.2.1 (fun hi => by have h9 : N + 1 < N := HOW.out _ hi; omega), ho.cell HFF.out.2.2.2.2.1 (fun hi => by have h9 : N + 1 < N := HOW.out _ hi; omega), ho.cell HFF.out.2.2.2.2.2.1 (fun hi => by have h9 : N + 1 < N := HOW.out _ hi; omega), ho.cell HFF.out.2.2.2.2.2.2 (fun hi => by have h9 : N + 1 < N := HOW.out _ hi; omega)⟩)
  go_wp2_with (fail)
  clear hw0 H0 H1
  refine wp_region_noPanic ?_
  refine wp_region_held_drew (S := (fun wx => wx.cell? ⟨N, 0, none⟩ = some (.pointer (some ⟨k.q, 0, none⟩)) ∧ wx.cell? ⟨N, 1, none⟩ = some (.pointer (some ⟨k.q', 0, none⟩)) ∧ wx.cell? ⟨N + 1, 1, none⟩ = some (.int .i64 at_) ∧ wx.cell? ⟨N + 1, 2, none⟩ = some (.int .i64 rt) ∧ wx.cell? ⟨N + 1, 3, none⟩ = some (.bool F) ∧ wx.cell? ⟨N + 1, 4, none⟩ = some (.bool P))) (by kernel_rfl) ?_ (fun hHeld => ?_)
  · exact HSB8.out _ (Off.ofBelow (Below.refl _ w0).drew)
  refine wpAnyH_take (i := 0) (v := ?_) rfl (by kernel_rfl) (by kernel_rfl) (by kernel_rfl) (fun _ _ _ h => h) (Or.inl ⟨by rfl, ?hy⟩) (by assumption) ?_
  case hy => intro w hSw; (try dsimp only at hSw); go_simp; try with_reducible rfl
  try simp only [Act.put, List.getElem_toArray, List.getElem_cons_succ, List.getElem_cons_zero, List.setIfInBounds_toArray, List.set_cons_zero, List.set_cons_succ]
  refine wpAnyH_take (i := 1) (v := ?_) rfl (by kernel_rfl) (by kernel_rfl) (by kernel_rfl) (fun _ _ _ h => h) (Or.inl ⟨by rfl, ?hy⟩) (by assumption) ?_
  case hy => intro w hSw; (try dsimp only at hSw); go_simp; try with_reducible rfl
  try simp only [Act.put, List.getElem_toArray, List.getElem_cons_succ, List.getElem_cons_zero, List.setIfInBounds_toArray, List.set_cons_zero, List.set_cons_succ]
  refine wpAnyH_take (i := 2) (v := ?_) rfl (by kernel_rfl) (by kernel_rfl) (by kernel_rfl) (fun _ _ _ h => h) (Or.inl ⟨by rfl, ?hy⟩) (by assumption) ?_
  case hy => intro w hSw; (try dsimp only at hSw); go_simp; try with_reducible rfl
  try simp only [Act.put, List.getElem_toArray, List.getElem_cons_succ, List.getElem_cons_zero, List.setIfInBounds_toArray, List.set_cons_zero, List.set_cons_succ]
  refine wpAnyH_take (i := 3) (v := ?_) rfl (by kernel_rfl) (by kernel_rfl) (by kernel_rfl) (fun _ _ _ h => h) (Or.inl ⟨by rfl, ?hy⟩) (by assumption) ?_
  case hy => intro w hSw; (try dsimp only at hSw); go_simp; try with_reducible rfl
  try simp only [Act.put, List.getElem_toArray, List.getElem_cons_succ, List.getElem_cons_zero, List.setIfInBounds_toArray, List.set_cons_zero, List.set_cons_succ]
  refine wpAnyH_take (i := 4) (v := ?_) rfl (by kernel_rfl) (by kernel_rfl) (by kernel_rfl) (fun _ _ _ h => h) (Or.inl ⟨by rfl, ?hy⟩) (by assumption) ?_
  case hy => intro w hSw; (try dsimp only at hSw); go_simp; try with_reducible rfl
  try simp only [Act.put, List.getElem_toArray, List.getElem_cons_succ, List.getElem_cons_zero, List.setIfInBounds_toArray, List.set_cons_zero, List.set_cons_succ]
  refine wpAnyH_take (i := 5) (v := ?_) rfl (by kernel_rfl) (by kernel_rfl) (by kernel_rfl) (fun _ _ _ h => h) (Or.inl ⟨by rfl, ?hy⟩) (by assumption) ?_
  case hy => intro w hSw; (try dsimp only at hSw); go_simp; try with_reducible rfl
  try simp only [Act.put, List.getElem_toArray, List.getElem_cons_succ, List.getElem_cons_zero, List.setIfInBounds_toArray, List.set_cons_zero, List.set_cons_succ]
  refine wpAnyH_take (i := 6) (v := ?_) rfl (by kernel_rfl) (by kernel_rfl) (by kernel_rfl) (fun _ _ _ h => h) (Or.inl ⟨by rfl, ?hy⟩) (by assumption) ?_
  case hy => intro w hSw; (try dsimp only at hSw); go_simp; try with_reducible rfl
  try simp only [Act.put, List.getElem_toArray, List.getElem_cons_succ, List.getElem_cons_zero, List.setIfInBounds_toArray, List.set_cons_zero, List.set_cons_succ]
  refine wpAnyH_take (i := 7) (v := ?_) rfl (by kernel_rfl) (by kernel_rfl) (by kernel_rfl) (fun _ _ _ h => h) (Or.inl ⟨by rfl, ?hy⟩) (by assumption) ?_
  case hy => intro w hSw; (try dsimp only at hSw); go_simp; try with_reducible rfl
  try simp only [Act.put, List.getElem_toArray, List.getElem_cons_succ, List.getElem_cons_zero, List.setIfInBounds_toArray, List.set_cons_zero, List.set_cons_succ]
  refine wpAnyH_take (i := 8) (v := ?_) rfl (by kernel_rfl) (by kernel_rfl) (by kernel_rfl) (fun _ _ _ h => h) (Or.inl ⟨by rfl, ?hy⟩) (by assumption) ?_
  case hy => intro w hSw; (try dsimp only at hSw); go_simp; try with_reducible rfl
  try simp only [Act.put, List.getElem_toArray, List.getElem_cons_succ, List.getElem_cons_zero, List.setIfInBounds_toArray, List.set_cons_zero, List.set_cons_succ]
  refine wpAnyH_take (i := 9) (v := ?_) rfl (by kernel_rfl) (by kernel_rfl) (by kernel_rfl) (fun _ _ _ h => h) (Or.inl ⟨by rfl, ?hy⟩) (by assumption) ?_
  case hy => intro w hSw; (try dsimp only at hSw); go_simp; try with_reducible rfl
  try simp only [Act.put, List.getElem_toArray, List.getElem_cons_succ, List.getElem_cons_zero, List.setIfInBounds_toArray, List.set_cons_zero, List.set_cons_succ]
  refine wpAnyH_take (i := 11) (v := ?_) rfl (by kernel_rfl) (by kernel_rfl) (by kernel_rfl) (fun _ _ _ h => h) (Or.inl ⟨by rfl, ?hy⟩) (by assumption) ?_
  case hy => intro w hSw; (try dsimp only at hSw); go_simp; try with_reducible rfl
  try simp only [Act.put, List.getElem_toArray, List.getElem_cons_succ, List.getElem_cons_zero, List.setIfInBounds_toArray, List.set_cons_zero, List.set_cons_succ]
  refine wpAnyH_take (i := 12) (v := ?_) rfl (by kernel_rfl) (by kernel_rfl) (by kernel_rfl) (fun _ _ _ h => h) (Or.inl ⟨by rfl, ?hy⟩) (by assumption) ?_
  case hy => intro w hSw; (try dsimp only at hSw); go_simp; try with_reducible rfl
  try simp only [Act.put, List.getElem_toArray, List.getElem_cons_succ, List.getElem_cons_zero, List.setIfInBounds_toArray, List.set_cons_zero, List.set_cons_succ]
  refine wpAnyH_take (i := 13) (v := ?_) rfl (by kernel_rfl) (by kernel_rfl) (by kernel_rfl) (fun _ _ _ h => h) (Or.inl ⟨by rfl, ?hy⟩) (by assumption) ?_
  case hy => intro w hSw; (try dsimp only at hSw); go_simp; try with_reducible rfl
  try simp only [Act.put, List.getElem_toArray, List.getElem_cons_succ, List.getElem_cons_zero, List.setIfInBounds_toArray, List.set_cons_zero, List.set_cons_succ]
  refine wpAnyH_take (i := 14) (v := ?_) rfl (by kernel_rfl) (by kernel_rfl) (by kernel_rfl) (fun _ _ _ h => h) (Or.inl ⟨by rfl, ?hy⟩) (by assumption) ?_
  case hy => intro w hSw; (try dsimp only at hSw); go_simp; try with_reducible rfl
  try simp only [Act.put, List.getElem_toArray, List.getElem_cons_succ, List.getElem_cons_zero, List.setIfInBounds_toArray, List.set_cons_zero, List.set_cons_succ]
  refine wpAnyH_take (i := 15) (v := ?_) rfl (by kernel_rfl) (by kernel_rfl) (by kernel_rfl) (fun _ _ _ h => h) (Or.inl ⟨by rfl, ?hy⟩) (by assumption) ?_
  case hy => intro w hSw; (try dsimp only at hSw); go_simp; try with_reducible rfl
  try simp only [Act.put, List.getElem_toArray, List.getElem_cons_succ, List.getElem_cons_zero, List.setIfInBounds_toArray, List.set_cons_zero, List.set_cons_succ]
  refine wpAnyH_take (i := 16) (v := ?_) rfl (by kernel_rfl) (by kernel_rfl) (by kernel_rfl) (fun _ _ _ h => h) (Or.inl ⟨by rfl, ?hy⟩) (by assumption) ?_
  case hy => intro w hSw; (try dsimp only at hSw); go_simp; try with_reducible rfl
  try simp only [Act.put, List.getElem_toArray, List.getElem_cons_succ, List.getElem_cons_zero, List.setIfInBounds_toArray, List.set_cons_zero, List.set_cons_succ]
  refine wpAnyH_take (i := 17) (v := ?_) rfl (by kernel_rfl) (by kernel_rfl) (by kernel_rfl) (fun _ _ _ h => h) (Or.inl ⟨by rfl, ?hy⟩) (by assumption) ?_
  case hy => intro w hSw; (try dsimp only at hSw); go_simp; try with_reducible rfl
  try simp only [Act.put, List.getElem_toArray, List.getElem_cons_succ, List.getElem_cons_zero, List.setIfInBounds_toArray, List.set_cons_zero, List.set_cons_succ]
  refine wpAnyH_take (i := 18) (v := ?_) rfl (by kernel_rfl) (by kernel_rfl) (by kernel_rfl) (fun _ _ _ h => h) (Or.inl ⟨by rfl, ?hy⟩) (by assumption) ?_
  case hy => intro w hSw; (try dsimp only at hSw); go_simp; try with_reducible rfl
  try simp only [Act.put, List.getElem_toArray, List.getElem_cons_succ, List.getElem_cons_zero, List.setIfInBounds_toArray, List.set_cons_zero, List.set_cons_succ]
  refine wpAnyH_take (i := 19) (v := ?_) rfl (by kernel_rfl) (by kernel_rfl) (by kernel_rfl) (fun _ _ _ h => h) (Or.inl ⟨by rfl, ?hy⟩) (by assumption) ?_
  case hy => intro w hSw; (try dsimp only at hSw); go_simp; try with_reducible rfl
  try simp only [Act.put, List.getElem_toArray, List.getElem_cons_succ, List.getElem_cons_zero, List.setIfInBounds_toArray, List.set_cons_zero, List.set_cons_succ]
  refine wpAnyH_take (i := 20) (v := ?_) rfl (by kernel_rfl) (by kernel_rfl) (by kernel_rfl) (fun _ _ _ h => h) (Or.inl ⟨by rfl, ?hy⟩) (by assumption) ?_
  case hy => intro w hSw; (try dsimp only at hSw); go_simp; try with_reducible rfl
  try simp only [Act.put, List.getElem_toArray, List.getElem_cons_succ, List.getElem_cons_zero, List.setIfInBounds_toArray, List.set_cons_zero, List.set_cons_succ]
  refine wpAnyH_ready (rs := [10]) (by kernel_rfl) (by simp) (AllReadyH.cons rfl (fun K hK => ?_) AllReadyH.nil)
  go_simp
  refine HE1.out.mono ?_
  intro e w1 hd
  obtain ⟨he, p1, m1, hb1, ho1, hn1⟩ := hd
  rw [HBE.out] at he
  subst he
  have HB1 := Lib.hid hb1
  have HO1 := Lib.hid ho1
  have HN1 := Lib.hid (show ∀ i, BOwn k.q p1 m1 i → BOwn k.q k.p k.m i ∨ w0.drew.heap.size ≤ i from bown_done hn1)
  clear hb1 ho1 hn1 HE1
  try (go_wp2_with fail)
  refine hK.out _ _ ?_ (fun hHeld => ?_)
  · exact HSB8.out _ ((Off.ofBelow (S := k.own) (Below.refl _ w0).drew).trans (HO1.out.mono (S' := k.own) (fun i _ h => Or.inl h)) (fun _ _ h => h))
  clear hK K
  try simp only [Act.put, List.getElem_toArray, List.getElem_cons_succ, List.getElem_cons_zero, List.setIfInBounds_toArray, List.set_cons_zero, List.set_cons_succ]
  refine wpAnyH_ready (rs := [21]) (by kernel_rfl) (by simp) (AllReadyH.cons rfl (fun K hK => ?_) AllReadyH.nil)
  go_simp
  refine (HRR.out _ HO1.out).mono ?_
  intro e w5 hd
  obtain ⟨he, p2, un2, v2, L2, hr5, ho5, hn5⟩ := hd
  rw [HBE.out] at he
  subst he
  obtain ⟨hone, hlen⟩ := bdoneS_one (r := r) HD0.out.one HD0.out.len at_ rt F P
  obtain ⟨hh5, hoa, hown⟩ := HD0.out.step (n' := n + 1) HB1.out HO1.out HN1.out hr5 ho5 hn5 hone hlen
  have HH5 := Lib.hid hh5
  have HOA := Lib.hid (show Off k.own w0 w5 from (Off.ofBelow (S := k.own) (Below.refl _ w0).drew).trans hoa (fun _ _ h => h))
  have HO5 := Lib.hid (show Off k.own w w5 ∧ (∀ i, _ → k.own i ∨ w.heap.size ≤ i) from ⟨(Off.ofBelow (S := k.own) HB.out).trans HOA.out (fun _ _ h => h), fun i hi => (hown i hi).imp id (fun h => by have h1 := HB.out.size; have h2 := ((Below.refl w0.heap.size w0).drew).size; omega)⟩)
  clear hr5 ho5 hn5 hh5 hoa hown hone hlen HRR
  try (go_wp2_with fail)
  refine hK.out _ _ ?_ (fun hHeld => ?_)
  · exact HSB8.out _ HOA.out
  clear hK K
  try simp only [Act.put, List.getElem_toArray, List.getElem_cons_succ, List.getElem_cons_zero, List.setIfInBounds_toArray, List.set_cons_zero, List.set_cons_succ]
  refine wpAnyH_take (i := 22) (v := ?_) rfl (by kernel_rfl) (by kernel_rfl) (by kernel_rfl) (fun _ _ _ h => h) (Or.inl ⟨by rfl, ?hy⟩) (by assumption) ?_
  case hy => intro w hSw; (try dsimp only at hSw); go_simp; try with_reducible rfl
  try simp only [Act.put, List.getElem_toArray, List.getElem_cons_succ, List.getElem_cons_zero, List.setIfInBounds_toArray, List.set_cons_zero, List.set_cons_succ]
  refine wpAnyH_done (by kernel_rfl) ?_ _
  refine NoPanic.normal ?_
  have HZ5 := Lib.hid (show N < w5.heap.size ∧ N + 1 < w5.heap.size by have h1 := HSZ.out; have h2 := HOA.out.size; exact ⟨by omega, by omega⟩)
  have HF5 := Lib.hid (show w5.cell? ⟨N, 0, none⟩ = some (.pointer (some ⟨k.q, 0, none⟩)) ∧ w5.cell? ⟨N, 1, none⟩ = some (.pointer (some ⟨k.q', 0, none⟩)) ∧ w5.cell? ⟨N + 1, 1, none⟩ = some (.int .i64 at_) from
    ⟨HOA.out.cell HFF.out.1 (fun hi => by have h9 : N < N := HOW.out _ hi; omega), HOA.out.cell HFF.out.2.1 (fun hi => by have h9 : N < N := HOW.out _ hi; omega), HOA.out.cell HFF.out.2.2.2.1 (fun hi => by have h9 : N + 1 < N := HOW.out _ hi; omega)⟩)
  clear HFF HSB8 f0 f1 g0 g1 g2 g3 g4 HD0 HB1 HO1 HN1
  go_wp2_with (fail)
  generalize hs2 : bdoneS r s at_ rt F P = s2 at HH5
  clear hs2
  obtain ⟨LA, hLA⟩ : ∃ LA, s2.la = LA := ⟨_, rfl⟩
  have la11 := HH5.out.rr.cells.c11
  rw [hLA] at la11
  have HLA := Lib.hid la11
  have HAL := Lib.hid (fun (wx : World) (hb : Below w5.heap.size w5 wx) (a : Int) => alike14_any (HH5.out.below hb) a)
  have HSB := Lib.hid (show ∀ wx, Below w5.heap.size w5 wx → (fun wx => wx.cell? ⟨N, 0, none⟩ = some (.pointer (some ⟨k.q, 0, none⟩)) ∧ wx.cell? ⟨N, 1, none⟩ = some (.pointer (some ⟨k.q', 0, none⟩)) ∧ wx.cell? ⟨N + 1, 1, none⟩ = some (.int .i64 at_) ∧ wx.cell? ⟨k.q', 11, none⟩ = some (.int .i64 LA) ∧ Below w5.heap.size w5 wx) wx from fun wx hb =>
    ⟨(hb.cell (p := ⟨N, 0, none⟩) HZ5.out.1).trans HF5.out.1, (hb.cell (p := ⟨N, 1, none⟩) HZ5.out.1).trans HF5.out.2.1, (hb.cell (p := ⟨N + 1, 1, none⟩) HZ5.out.2).trans HF5.out.2.2, (hb.cell (p := ⟨k.q', 11, none⟩) (HH5.out.lt (Or.inr (Or.inl rfl)))).trans HLA.out, hb⟩)
  unfold bothV at HAL
  try unfold doK at HAL
  dsimp only at HAL
  clear la11 hLA
  refine wp_region_noPanic ?_
  refine wp_region_held_drew (S := (fun wx => wx.cell? ⟨N, 0, none⟩ = some (.pointer (some ⟨k.q, 0, none⟩)) ∧ wx.cell? ⟨N, 1, none⟩ = some (.pointer (some ⟨k.q', 0, none⟩)) ∧ wx.cell? ⟨N + 1, 1, none⟩ = some (.int .i64 at_) ∧ wx.cell? ⟨k.q', 11, none⟩ = some (.int .i64 LA) ∧ Below w5.heap.size w5 wx)) (by kernel_rfl) ?_ (fun hHeld => ?_)
  · exact HSB.out _ (Below.refl _ w5).drew
  refine wpAnyH_take (i := 0) (v := ?_) rfl (by kernel_rfl) (by kernel_rfl) (by kernel_rfl) (fun _ _ _ h => h) (Or.inl ⟨by rfl, ?hy⟩) (by assumption) ?_
  case hy => intro w hSw; (try dsimp only at hSw); go_simp; try with_reducible rfl
  try simp only [Act.put, List.getElem_toArray, List.getElem_cons_succ, List.getElem_cons_zero, List.setIfInBounds_toArray, List.set_cons_zero, List.set_cons_succ]
  refine wpAnyH_take (i := 1) (v := ?_) rfl (by kernel_rfl) (by kernel_rfl) (by kernel_rfl) (fun _ _ _ h => h) (Or.inl ⟨by rfl, ?hy⟩) (by assumption) ?_
  case hy => intro w hSw; (try dsimp only at hSw); go_simp; try with_reducible rfl
  try simp only [Act.put, List.getElem_toArray, List.getElem_cons_succ, List.getElem_cons_zero, List.setIfInBounds_toArray, List.set_cons_zero, List.set_cons_succ]
  refine wpAnyH_take (i := 2) (v := ?_) rfl (by kernel_rfl) (by kernel_rfl) (by kernel_rfl) (fun _ _ _ h => h) (Or.inl ⟨by rfl, ?hy⟩) (by assumption) ?_
  case hy => intro w hSw; (try dsimp only at hSw); go_simp; try with_reducible rfl
  try simp only [Act.put, List.getElem_toArray, List.getElem_cons_succ, List.getElem_cons_zero, List.setIfInBounds_toArray, List.set_cons_zero, List.set_cons_succ]
  refine wpAnyH_ready (rs := [3]) (by kernel_rfl) (by simp) (AllReadyH.cons rfl (fun K hK => ?_) AllReadyH.nil)
  go_simp
  refine (HAL.out _ (Below.refl _ w5).drew at_).mono ?_
  rintro e w6 ⟨rfl, h6⟩
  have HB6 := Lib.hid (show Below w5.heap.size w5 w6 from ((Below.refl _ w5).drew).trans (h6.mono (Nat.le_refl _)))
  clear h6
  try (go_wp2_with fail)
  refine hK.out _ _ ?_ (fun hHeld => ?_)
  · exact HSB.out _ HB6.out
  clear hK K
  try simp only [Act.put, List.getElem_toArray, List.getElem_cons_succ, List.getElem_cons_zero, List.setIfInBounds_toArray, List.set_cons_zero, List.set_cons_succ]
  refine wpAnyH_take (i := 4) (v := ?_) rfl (by kernel_rfl) (by kernel_rfl) (by kernel_rfl) (fun _ _ _ h => h) (Or.inl ⟨by rfl, ?hy⟩) (by assumption) ?_
  case hy => intro w hSw; (try dsimp only at hSw); go_simp; try with_reducible rfl
  try simp only [Act.put, List.getElem_toArray, List.getElem_cons_succ, List.getElem_cons_zero, List.setIfInBounds_toArray, List.set_cons_zero, List.set_cons_succ]
  refine wpAnyH_take (i := 5) (v := ?_) rfl (by kernel_rfl) (by kernel_rfl) (by kernel_rfl) (fun _ _ _ h => h) (Or.inl ⟨by rfl, ?hy⟩) (by assumption) ?_
  case hy => intro w hSw; (try dsimp only at hSw); go_simp; try with_reducible rfl
  try simp only [Act.put, List.getElem_toArray, List.getElem_cons_succ, List.getElem_cons_zero, List.setIfInBounds_toArray, List.set_cons_zero, List.set_cons_succ]
  refine wpAnyH_take (i := 6) (v := ?_) rfl (by kernel_rfl) (by kernel_rfl) (by kernel_rfl) (fun _ _ _ h => h) (Or.inl ⟨by rfl, ?hy⟩) (by assumption) ?_
  case hy => intro w hSw; (try dsimp only at hSw); go_simp; try with_reducible rfl
  try simp only [Act.put, List.getElem_toArray, List.getElem_cons_succ, List.getElem_cons_zero, List.setIfInBounds_toArray, List.set_cons_zero, List.set_cons_succ]
  refine wpAnyH_take (i := 7) (v := ?_) rfl (by kernel_rfl) (by kernel_rfl) (by kernel_rfl) (fun _ _ _ h => h) (Or.inl ⟨by rfl, ?hy⟩) (by assumption) ?_
  case hy => intro w hSw; (try dsimp only at hSw); go_simp; try with_reducible rfl
  try simp only [Act.put, List.getElem_toArray, List.getElem_cons_succ, List.getElem_cons_zero, List.setIfInBounds_toArray, List.set_cons_zero, List.set_cons_succ]
  refine wpAnyH_take (i := 8) (v := ?_) rfl (by kernel_rfl) (by kernel_rfl) (by kernel_rfl) (fun _ _ _ h => h) (Or.inl ⟨by rfl, ?hy⟩) (by assumption) ?_
  case hy => intro w hSw; (try dsimp only at hSw); go_simp; try with_reducible rfl
  try simp only [Act.put, List.getElem_toArray, List.getElem_cons_succ, List.getElem_cons_zero, List.setIfInBounds_toArray, List.set_cons_zero, List.set_cons_succ]
  refine wpAnyH_take (i := 9) (v := ?_) rfl (by kernel_rfl) (by kernel_rfl) (by kernel_rfl) (fun _ _ _ h => h) (Or.inl ⟨by rfl, ?hy⟩) (by assumption) ?_
  case hy => intro w hSw; (try dsimp only at hSw); go_simp; try with_reducible rfl
  try simp only [Act.put, List.getElem_toArray, List.getElem_cons_succ, List.getElem_cons_zero, List.setIfInBounds_toArray, List.set_cons_zero, List.set_cons_succ]
  refine wpAnyH_take (i := 10) (v := ?_) rfl (by kernel_rfl) (by kernel_rfl) (by kernel_rfl) (fun _ _ _ h => h) (Or.inl ⟨by rfl, ?hy⟩) (by assumption) ?_
  case hy => intro w hSw; (try dsimp only at hSw); go_simp; try with_reducible rfl
  try simp only [Act.put, List.getElem_toArray, List.getElem_cons_succ, List.getElem_cons_zero, List.setIfInBounds_toArray, List.set_cons_zero, List.set_cons_succ]
  refine wpAnyH_ready (rs := [11]) (by kernel_rfl) (by simp) (AllReadyH.cons rfl (fun K hK => ?_) AllReadyH.nil)
  go_simp
  refine (HAL.out _ HB6.out LA).mono ?_
  rintro e w7 ⟨rfl, h7⟩
  have HB7 := Lib.hid (show Below w5.heap.size w5 w7 from HB6.out.trans (h7.mono HB6.out.size))
  clear h7
  try (go_wp2_with fail)
  refine hK.out _ _ ?_ (fun hHeld => ?_)
  · exact HSB.out _ HB7.out
  clear hK K
  try simp only [Act.put, List.getElem_toArray, List.getElem_cons_succ, List.getElem_cons_zero, List.setIfInBounds_toArray, List.set_cons_zero, List.set_cons_succ]
  refine wpAnyH_take (i := 12) (v := ?_) rfl (by kernel_rfl) (by kernel_rfl) (by kernel_rfl) (fun _ _ _ h => h) (Or.inl ⟨by rfl, ?hy⟩) (by assumption) ?_
  case hy => intro w hSw; (try dsimp only at hSw); go_simp; try with_reducible rfl
  try simp only [Act.put, List.getElem_toArray, List.getElem_cons_succ, List.getElem_cons_zero, List.setIfInBounds_toArray, List.set_cons_zero, List.set_cons_succ]
  refine wpAnyH_take (i := 13) (v := ?_) rfl (by kernel_rfl) (by kernel_rfl) (by kernel_rfl) (fun _ _ _ h => h) (Or.inl ⟨by rfl, ?hy⟩) (by assumption) ?_
  case hy => intro w hSw; (try dsimp only at hSw); go_simp; try with_reducible rfl
  try simp only [Act.put, List.getElem_toArray, List.getElem_cons_succ, List.getElem_cons_zero, List.setIfInBounds_toArray, List.set_cons_zero, List.set_cons_succ]
  refine wpAnyH_done (by kernel_rfl) ?_ _
  refine NoPanic.normal ?_
  go_wp2_with (fail)
  go_ret
  exact ⟨rfl, _, _, HH5.out.below HB7.out, HO5.out.1.trans (Off.ofBelow (S := k.own) HB7.out) (fun _ _ h => h), HO5.out.2, rfl, rfl⟩

set_option maxHeartbeats 12800000 in
set_option maxRecDepth 100000 in
theorem bothdo_give {w : World} {k : BothK} {r : BreakS} {s : BrS} {n : Nat} (h : BothAt w k r s n) (hn : n < 1125899906842624) (kind at_ rt : Int) (F P : Bool) (k0 : kind = 2) :
    Calls Try.prog 7 #[bothV k, .agg #[.int .i64 kind, .int .i64 at_, .int .i64 rt, .bool F, .bool P]] w (DoPost w k r n) := by
  subst k0
  obtain ⟨N, hN⟩ : ∃ N, w.heap.size = N := ⟨_, rfl⟩
  have HN := Lib.hid hN
  have hB : Below w.heap.size w ((w.alloc (bothO k)).alloc (.cells #[.int .i64 2, .int .i64 at_, .int .i64 rt, .bool F, .bool P] 42)) := ((Below.refl _ _).alloc (Nat.le_refl _) _).alloc (by simp) _
  have h0 : ((w.alloc (bothO k)).alloc (.cells #[.int .i64 2, .int .i64 at_, .int .i64 rt, .bool F, .bool P] 42)).heap[N]? = some (bothO k) := by
    rw [get_allocW, if_neg (by rw [World.size_alloc]; omega), get_allocW, if_pos hN.symm]
  have h1 : ((w.alloc (bothO k)).alloc (.cells #[.int .i64 2, .int .i64 at_, .int .i64 rt, .bool F, .bool P] 42)).heap[N + 1]? = some (.cells #[.int .i64 2, .int .i64 at_, .int .i64 rt, .bool F, .bool P] 42) := by
    rw [get_allocW, if_pos (by rw [World.size_alloc]; omega)]
  have HH0 := Lib.hid (h.below hB)
  have HB := Lib.hid hB
  have H0 := Lib.hid h0
  have H1 := Lib.hid h1
  have HOW := Lib.hid (show ∀ i, k.own i → i < N from fun i hi => by have := h.lt hi; omega)
  clear h hB h0 h1
  unfold bothO at HH0 HB H0 H1
  unfold bothV
  go_enter Try.func7, Try.ntmps7
  obtain ⟨w0, hw0⟩ : ∃ w0, (w.alloc (.cells #[.pointer (some ⟨k.q, 0, none⟩), .pointer (some ⟨k.q', 0, none⟩)] 39)).alloc (.cells #[.int .i64 2, .int .i64 at_, .int .i64 rt, .bool F, .bool P] 42) = w0 := ⟨_, rfl⟩
  have f0 : w0.cell? ⟨N, 0, none⟩ = some (.pointer (some ⟨k.q, 0, none⟩)) := by rw [← hw0]; simp only [World.cell?, H0.out]; rfl
  have f1 : w0.cell? ⟨N, 1, none⟩ = some (.pointer (some ⟨k.q', 0, none⟩)) := by rw [← hw0]; simp only [World.cell?, H0.out]; rfl
  have g0 : w0.cell? ⟨N + 1, 0, none⟩ = some (.int .i64 2) := by rw [← hw0]; simp only [World.cell?, H1.out]; rfl
  have g1 : w0.cell? ⟨N + 1, 1, none⟩ = some (.int .i64 at_) := by rw [← hw0]; simp only [World.cell?, H1.out]; rfl
  have g2 : w0.cell? ⟨N + 1, 2, none⟩ = some (.int .i64 rt) := by rw [← hw0]; simp only [World.cell?, H1.out]; rfl
  have g3 : w0.cell? ⟨N + 1, 3, none⟩ = some (.bool F) := by rw [← hw0]; simp only [World.cell?, H1.out]; rfl
  have g4 : w0.cell? ⟨N + 1, 4, none⟩ = some (.bool P) := by rw [← hw0]; simp only [World.cell?, H1.out]; rfl
  have HSZ := Lib.hid (show N + 1 < w0.heap.size by rw [← hw0]; exact (Array.getElem?_eq_some_iff.1 H1.out).1)
  have HFF := Lib.hid (show w0.cell? ⟨N, 0, none⟩ = some (.pointer (some ⟨k.q, 0, none⟩)) ∧ w0.cell? ⟨N, 1, none⟩ = some (.pointer (some ⟨k.q', 0, none⟩)) ∧ w0.cell? ⟨N + 1, 0, none⟩ = some (.int .i64 2) ∧ w0.cell? ⟨N + 1, 1, none⟩ = some (.int .i64 at_) ∧ w0.cell? ⟨N + 1, 2, none⟩ = some (.int .i64 rt) ∧ w0.cell? ⟨N + 1, 3, none⟩ = some (.bool F) ∧ w0.cell? ⟨N + 1, 4, none⟩ = some (.bool P) from ⟨f0, f1, g0, g1, g2, g3, g4⟩)
  rw [hw0] at HH0 HB
  have hdr : Below w0.heap.size w0 w0.drew := (Below.refl _ _).drew
  have HD0 := Lib.hid (HH0.out.below hdr)
  have HE1 := Lib.hid (bgive_any HD0.out.br at_)
  have HRR := Lib.hid (fun (wx : World) (ho : Off (BOwn k.q k.p k.m) w0.drew wx) => r14give_any (HD0.out.rr1 ho (fun i h => h)) at_)
  generalize hBE : giveE s at_ = BE at HE1 HRR
  clear hBE hdr
  have HSB8 := Lib.hid (show ∀ wx, Off k.own w0 wx → (fun wx => wx.cell? ⟨N, 0, none⟩ = some (.pointer (some ⟨k.q, 0, none⟩)) ∧ wx.cell? ⟨N, 1, none⟩ = some (.pointer (some ⟨k.q', 0, none⟩)) ∧ wx.cell? ⟨N + 1, 1, none⟩ = some (.int .i64 at_)) wx from fun wx ho =>
    ⟨ho.cell HFF.out.1 (fun hi => by have h9 : N < N := HOW.out _ hi; omega), ho.cell HFF.out.2.1 (fun hi => by have h9 : N < N := HOW.out _ hi; omega), ho.cell HFF.out.2.2.2.1 (fun hi => by have h9 : N + 1 < N := HOW.out _ hi; omega)⟩)
  go_wp2_with (fail)
  clear hw0 H0 H1
  refine wp_region_noPanic ?_
  refine wp_region_held_drew (S := (fun wx => wx.cell? ⟨N, 0, none⟩ = some (.pointer (some ⟨k.q, 0, none⟩)) ∧ wx.cell? ⟨N, 1, none⟩ = some (.pointer (some ⟨k.q', 0, none⟩)) ∧ wx.cell? ⟨N + 1, 1, none⟩ = some (.int .i64 at_))) (by kernel_rfl) ?_ (fun hHeld => ?_)
  · exact HSB8.out _ (Off.ofBelow (Below.refl _ w0).drew)
  refine wpAnyH_take (i := 0) (v := ?_) rfl (by kernel_rfl) (by kernel_rfl) (by kernel_rfl) (fun _ _ _ h => h) (Or.inl ⟨by rfl, ?hy⟩) (by assumption) ?_
  case hy => intro w hSw; (try dsimp only at hSw); go_simp; try with_reducible rfl
  try simp only [Act.put, List.getElem_toArray, List.getElem_cons_succ, List.getElem_cons_zero, List.setIfInBounds_toArray, List.set_cons_zero, List.set_cons_succ]
  refine wpAnyH_take (i := 1) (v := ?_) rfl (by kernel_rfl) (by kernel_rfl) (by kernel_rfl) (fun _ _ _ h => h) (Or.inl ⟨by rfl, ?hy⟩) (by assumption) ?_
  case hy => intro w hSw; (try dsimp only at hSw); go_simp; try with_reducible rfl
  try simp only [Act.put, List.getElem_toArray, List.getElem_cons_succ, List.getElem_cons_zero, List.setIfInBounds_toArray, List.set_cons_zero, List.set_cons_succ]
  refine wpAnyH_take (i := 2) (v := ?_) rfl (by kernel_rfl) (by kernel_rfl) (by kernel_rfl) (fun _ _ _ h => h) (Or.inl ⟨by rfl, ?hy⟩) (by assumption) ?_
  case hy => intro w hSw; (try dsimp only at hSw); go_simp; try with_reducible rfl
  try simp only [Act.put, List.getElem_toArray, List.getElem_cons_succ, List.getElem_cons_zero, List.setIfInBounds_toArray, List.set_cons_zero, List.set_cons_succ]
  refine wpAnyH_take (i := 3) (v := ?_) rfl (by kernel_rfl) (by kernel_rfl) (by kernel_rfl) (fun _ _ _ h => h) (Or.inl ⟨by rfl, ?hy⟩) (by assumption) ?_
  case hy => intro w hSw; (try dsimp only at hSw); go_simp; try with_reducible rfl
  try simp only [Act.put, List.getElem_toArray, List.getElem_cons_succ, List.getElem_cons_zero, List.setIfInBounds_toArray, List.set_cons_zero, List.set_cons_succ]
  refine wpAnyH_take (i := 5) (v := ?_) rfl (by kernel_rfl) (by kernel_rfl) (by kernel_rfl) (fun _ _ _ h => h) (Or.inl ⟨by rfl, ?hy⟩) (by assumption) ?_
  case hy => intro w hSw; (try dsimp only at hSw); go_simp; try with_reducible rfl
  try simp only [Act.put, List.getElem_toArray, List.getElem_cons_succ, List.getElem_cons_zero, List.setIfInBounds_toArray, List.set_cons_zero, List.set_cons_succ]
  refine wpAnyH_take (i := 6) (v := ?_) rfl (by kernel_rfl) (by kernel_rfl) (by kernel_rfl) (fun _ _ _ h => h) (Or.inl ⟨by rfl, ?hy⟩) (by assumption) ?_
  case hy => intro w hSw; (try dsimp only at hSw); go_simp; try with_reducible rfl
  try simp only [Act.put, List.getElem_toArray, List.getElem_cons_succ, List.getElem_cons_zero, List.setIfInBounds_toArray, List.set_cons_zero, List.set_cons_succ]
  refine wpAnyH_take (i := 7) (v := ?_) rfl (by kernel_rfl) (by kernel_rfl) (by kernel_rfl) (fun _ _ _ h => h) (Or.inl ⟨by rfl, ?hy⟩) (by assumption) ?_
  case hy => intro w hSw; (try dsimp only at hSw); go_simp; try with_reducible rfl
  try simp only [Act.put, List.getElem_toArray, List.getElem_cons_succ, List.getElem_cons_zero, List.setIfInBounds_toArray, List.set_cons_zero, List.set_cons_succ]
  refine wpAnyH_take (i := 8) (v := ?_) rfl (by kernel_rfl) (by kernel_rfl) (by kernel_rfl) (fun _ _ _ h => h) (Or.inl ⟨by rfl, ?hy⟩) (by assumption) ?_
  case hy => intro w hSw; (try dsimp only at hSw); go_simp; try with_reducible rfl
  try simp only [Act.put, List.getElem_toArray, List.getElem_cons_succ, List.getElem_cons_zero, List.setIfInBounds_toArray, List.set_cons_zero, List.set_cons_succ]
  refine wpAnyH_ready (rs := [4]) (by kernel_rfl) (by simp) (AllReadyH.cons rfl (fun K hK => ?_) AllReadyH.nil)
  go_simp
  refine HE1.out.mono ?_
  rintro e w1 ⟨rfl, hb1, ho1⟩
  have HB1 := Lib.hid hb1
  have HO1 := Lib.hid (show Off (BOwn k.q k.p k.m) w0.drew w1 from off_q ho1)
  clear hb1 ho1 HE1
  try (go_wp2_with fail)
  refine hK.out _ _ ?_ (fun hHeld => ?_)
  · exact HSB8.out _ ((Off.ofBelow (S := k.own) (Below.refl _ w0).drew).trans (HO1.out.mono (S' := k.own) (fun i _ h => Or.inl h)) (fun _ _ h => h))
  clear hK K
  try simp only [Act.put, List.getElem_toArray, List.getElem_cons_succ, List.getElem_cons_zero, List.setIfInBounds_toArray, List.set_cons_zero, List.set_cons_succ]
  refine wpAnyH_ready (rs := [9]) (by kernel_rfl) (by simp) (AllReadyH.cons rfl (fun K hK => ?_) AllReadyH.nil)
  go_simp
  refine (HRR.out _ HO1.out).mono ?_
  rintro e w5 ⟨rfl, hr5, ho5⟩
  obtain ⟨hh5, hoa, hown⟩ := HD0.out.step (n' := n + 1) HB1.out HO1.out (fun i hi => Or.inl hi) hr5 (off_q14 ho5) (fun i hi => Or.inl hi) (by rw [giveS_notes]; exact HD0.out.one) (by rw [giveS_notes]; have := HD0.out.len; omega)
  have HH5 := Lib.hid hh5
  have HOA := Lib.hid (show Off k.own w0 w5 from (Off.ofBelow (S := k.own) (Below.refl _ w0).drew).trans hoa (fun _ _ h => h))
  have HO5 := Lib.hid (show Off k.own w w5 ∧ (∀ i, _ → k.own i ∨ w.heap.size ≤ i) from ⟨(Off.ofBelow (S := k.own) HB.out).trans HOA.out (fun _ _ h => h), fun i hi => (hown i hi).imp id (fun h => by have h1 := HB.out.size; have h2 := ((Below.refl w0.heap.size w0).drew).size; omega)⟩)
  clear hr5 ho5 hh5 hoa hown HRR
  try (go_wp2_with fail)
  refine hK.out _ _ ?_ (fun hHeld => ?_)
  · exact HSB8.out _ HOA.out
  clear hK K
  try simp only [Act.put, List.getElem_toArray, List.getElem_cons_succ, List.getElem_cons_zero, List.setIfInBounds_toArray, List.set_cons_zero, List.set_cons_succ]
  refine wpAnyH_take (i := 10) (v := ?_) rfl (by kernel_rfl) (by kernel_rfl) (by kernel_rfl) (fun _ _ _ h => h) (Or.inl ⟨by rfl, ?hy⟩) (by assumption) ?_
  case hy => intro w hSw; (try dsimp only at hSw); go_simp; try with_reducible rfl
  try simp only [Act.put, List.getElem_toArray, List.getElem_cons_succ, List.getElem_cons_zero, List.setIfInBounds_toArray, List.set_cons_zero, List.set_cons_succ]
  refine wpAnyH_done (by kernel_rfl) ?_ _
  refine NoPanic.normal ?_
  have HZ5 := Lib.hid (show N < w5.heap.size ∧ N + 1 < w5.heap.size by have h1 := HSZ.out; have h2 := HOA.out.size; exact ⟨by omega, by omega⟩)
  have HF5 := Lib.hid (show w5.cell? ⟨N, 0, none⟩ = some (.pointer (some ⟨k.q, 0, none⟩)) ∧ w5.cell? ⟨N, 1, none⟩ = some (.pointer (some ⟨k.q', 0, none⟩)) ∧ w5.cell? ⟨N + 1, 1, none⟩ = some (.int .i64 at_) from
    ⟨HOA.out.cell HFF.out.1 (fun hi => by have h9 : N < N := HOW.out _ hi; omega), HOA.out.cell HFF.out.2.1 (fun hi => by have h9 : N < N := HOW.out _ hi; omega), HOA.out.cell HFF.out.2.2.2.1 (fun hi => by have h9 : N + 1 < N := HOW.out _ hi; omega)⟩)
  clear HFF HSB8 f0 f1 g0 g1 g2 g3 g4 HD0 HB1 HO1
  go_wp2_with (fail)
  generalize hs2 : giveS s at_ = s2 at HH5
  clear hs2
  obtain ⟨LA, hLA⟩ : ∃ LA, s2.la = LA := ⟨_, rfl⟩
  have la11 := HH5.out.rr.cells.c11
  rw [hLA] at la11
  have HLA := Lib.hid la11
  have HAL := Lib.hid (fun (wx : World) (hb : Below w5.heap.size w5 wx) (a : Int) => alike14_any (HH5.out.below hb) a)
  have HSB := Lib.hid (show ∀ wx, Below w5.heap.size w5 wx → (fun wx => wx.cell? ⟨N, 0, none⟩ = some (.pointer (some ⟨k.q, 0, none⟩)) ∧ wx.cell? ⟨N, 1, none⟩ = some (.pointer (some ⟨k.q', 0, none⟩)) ∧ wx.cell? ⟨N + 1, 1, none⟩ = some (.int .i64 at_) ∧ wx.cell? ⟨k.q', 11, none⟩ = some (.int .i64 LA) ∧ Below w5.heap.size w5 wx) wx from fun wx hb =>
    ⟨(hb.cell (p := ⟨N, 0, none⟩) HZ5.out.1).trans HF5.out.1, (hb.cell (p := ⟨N, 1, none⟩) HZ5.out.1).trans HF5.out.2.1, (hb.cell (p := ⟨N + 1, 1, none⟩) HZ5.out.2).trans HF5.out.2.2, (hb.cell (p := ⟨k.q', 11, none⟩) (HH5.out.lt (Or.inr (Or.inl rfl)))).trans HLA.out, hb⟩)
  unfold bothV at HAL
  try unfold doK at HAL
  dsimp only at HAL
  clear la11 hLA
  refine wp_region_noPanic ?_
  refine wp_region_held_drew (S := (fun wx => wx.cell? ⟨N, 0, none⟩ = some (.pointer (some ⟨k.q, 0, none⟩)) ∧ wx.cell? ⟨N, 1, none⟩ = some (.pointer (some ⟨k.q', 0, none⟩)) ∧ wx.cell? ⟨N + 1, 1, none⟩ = some (.int .i64 at_) ∧ wx.cell? ⟨k.q', 11, none⟩ = some (.int .i64 LA) ∧ Below w5.heap.size w5 wx)) (by kernel_rfl) ?_ (fun hHeld => ?_)
  · exact HSB.out _ (Below.refl _ w5).drew
  refine wpAnyH_take (i := 0) (v := ?_) rfl (by kernel_rfl) (by kernel_rfl) (by kernel_rfl) (fun _ _ _ h => h) (Or.inl ⟨by rfl, ?hy⟩) (by assumption) ?_
  case hy => intro w hSw; (try dsimp only at hSw); go_simp; try with_reducible rfl
  try simp only [Act.put, List.getElem_toArray, List.getElem_cons_succ, List.getElem_cons_zero, List.setIfInBounds_toArray, List.set_cons_zero, List.set_cons_succ]
  refine wpAnyH_take (i := 1) (v := ?_) rfl (by kernel_rfl) (by kernel_rfl) (by kernel_rfl) (fun _ _ _ h => h) (Or.inl ⟨by rfl, ?hy⟩) (by assumption) ?_
  case hy => intro w hSw; (try dsimp only at hSw); go_simp; try with_reducible rfl
  try simp only [Act.put, List.getElem_toArray, List.getElem_cons_succ, List.getElem_cons_zero, List.setIfInBounds_toArray, List.set_cons_zero, List.set_cons_succ]
  refine wpAnyH_take (i := 2) (v := ?_) rfl (by kernel_rfl) (by kernel_rfl) (by kernel_rfl) (fun _ _ _ h => h) (Or.inl ⟨by rfl, ?hy⟩) (by assumption) ?_
  case hy => intro w hSw; (try dsimp only at hSw); go_simp; try with_reducible rfl
  try simp only [Act.put, List.getElem_toArray, List.getElem_cons_succ, List.getElem_cons_zero, List.setIfInBounds_toArray, List.set_cons_zero, List.set_cons_succ]
  refine wpAnyH_ready (rs := [3]) (by kernel_rfl) (by simp) (AllReadyH.cons rfl (fun K hK => ?_) AllReadyH.nil)
  go_simp
  refine (HAL.out _ (Below.refl _ w5).drew at_).mono ?_
  rintro e w6 ⟨rfl, h6⟩
  have HB6 := Lib.hid (show Below w5.heap.size w5 w6 from ((Below.refl _ w5).drew).trans (h6.mono (Nat.le_refl _)))
  clear h6
  try (go_wp2_with fail)
  refine hK.out _ _ ?_ (fun hHeld => ?_)
  · exact HSB.out _ HB6.out
  clear hK K
  try simp only [Act.put, List.getElem_toArray, List.getElem_cons_succ, List.getElem_cons_zero, List.setIfInBounds_toArray, List.set_cons_zero, List.set_cons_succ]
  refine wpAnyH_take (i := 4) (v := ?_) rfl (by kernel_rfl) (by kernel_rfl) (by kernel_rfl) (fun _ _ _ h => h) (Or.inl ⟨by rfl, ?hy⟩) (by assumption) ?_
  case hy => intro w hSw; (try dsimp only at hSw); go_simp; try with_reducible rfl
  try simp only [Act.put, List.getElem_toArray, List.getElem_cons_succ, List.getElem_cons_zero, List.setIfInBounds_toArray, List.set_cons_zero, List.set_cons_succ]
  refine wpAnyH_take (i := 5) (v := ?_) rfl (by kernel_rfl) (by kernel_rfl) (by kernel_rfl) (fun _ _ _ h => h) (Or.inl ⟨by rfl, ?hy⟩) (by assumption) ?_
  case hy => intro w hSw; (try dsimp only at hSw); go_simp; try with_reducible rfl
  try simp only [Act.put, List.getElem_toArray, List.getElem_cons_succ, List.getElem_cons_zero, List.setIfInBounds_toArray, List.set_cons_zero, List.set_cons_succ]
  refine wpAnyH_take (i := 6) (v := ?_) rfl (by kernel_rfl) (by kernel_rfl) (by kernel_rfl) (fun _ _ _ h => h) (Or.inl ⟨by rfl, ?hy⟩) (by assumption) ?_
  case hy => intro w hSw; (try dsimp only at hSw); go_simp; try with_reducible rfl
  try simp only [Act.put, List.getElem_toArray, List.getElem_cons_succ, List.getElem_cons_zero, List.setIfInBounds_toArray, List.set_cons_zero, List.set_cons_succ]
  refine wpAnyH_take (i := 7) (v := ?_) rfl (by kernel_rfl) (by kernel_rfl) (by kernel_rfl) (fun _ _ _ h => h) (Or.inl ⟨by rfl, ?hy⟩) (by assumption) ?_
  case hy => intro w hSw; (try dsimp only at hSw); go_simp; try with_reducible rfl
  try simp only [Act.put, List.getElem_toArray, List.getElem_cons_succ, List.getElem_cons_zero, List.setIfInBounds_toArray, List.set_cons_zero, List.set_cons_succ]
  refine wpAnyH_take (i := 8) (v := ?_) rfl (by kernel_rfl) (by kernel_rfl) (by kernel_rfl) (fun _ _ _ h => h) (Or.inl ⟨by rfl, ?hy⟩) (by assumption) ?_
  case hy => intro w hSw; (try dsimp only at hSw); go_simp; try with_reducible rfl
  try simp only [Act.put, List.getElem_toArray, List.getElem_cons_succ, List.getElem_cons_zero, List.setIfInBounds_toArray, List.set_cons_zero, List.set_cons_succ]
  refine wpAnyH_take (i := 9) (v := ?_) rfl (by kernel_rfl) (by kernel_rfl) (by kernel_rfl) (fun _ _ _ h => h) (Or.inl ⟨by rfl, ?hy⟩) (by assumption) ?_
  case hy => intro w hSw; (try dsimp only at hSw); go_simp; try with_reducible rfl
  try simp only [Act.put, List.getElem_toArray, List.getElem_cons_succ, List.getElem_cons_zero, List.setIfInBounds_toArray, List.set_cons_zero, List.set_cons_succ]
  refine wpAnyH_take (i := 10) (v := ?_) rfl (by kernel_rfl) (by kernel_rfl) (by kernel_rfl) (fun _ _ _ h => h) (Or.inl ⟨by rfl, ?hy⟩) (by assumption) ?_
  case hy => intro w hSw; (try dsimp only at hSw); go_simp; try with_reducible rfl
  try simp only [Act.put, List.getElem_toArray, List.getElem_cons_succ, List.getElem_cons_zero, List.setIfInBounds_toArray, List.set_cons_zero, List.set_cons_succ]
  refine wpAnyH_ready (rs := [11]) (by kernel_rfl) (by simp) (AllReadyH.cons rfl (fun K hK => ?_) AllReadyH.nil)
  go_simp
  refine (HAL.out _ HB6.out LA).mono ?_
  rintro e w7 ⟨rfl, h7⟩
  have HB7 := Lib.hid (show Below w5.heap.size w5 w7 from HB6.out.trans (h7.mono HB6.out.size))
  clear h7
  try (go_wp2_with fail)
  refine hK.out _ _ ?_ (fun hHeld => ?_)
  · exact HSB.out _ HB7.out
  clear hK K
  try simp only [Act.put, List.getElem_toArray, List.getElem_cons_succ, List.getElem_cons_zero, List.setIfInBounds_toArray, List.set_cons_zero, List.set_cons_succ]
  refine wpAnyH_take (i := 12) (v := ?_) rfl (by kernel_rfl) (by kernel_rfl) (by kernel_rfl) (fun _ _ _ h => h) (Or.inl ⟨by rfl, ?hy⟩) (by assumption) ?_
  case hy => intro w hSw; (try dsimp only at hSw); go_simp; try with_reducible rfl
  try simp only [Act.put, List.getElem_toArray, List.getElem_cons_succ, List.getElem_cons_zero, List.setIfInBounds_toArray, List.set_cons_zero, List.set_cons_succ]
  refine wpAnyH_take (i := 13) (v := ?_) rfl (by kernel_rfl) (by kernel_rfl) (by kernel_rfl) (fun _ _ _ h => h) (Or.inl ⟨by rfl, ?hy⟩) (by assumption) ?_
  case hy => intro w hSw; (try dsimp only at hSw); go_simp; try with_reducible rfl
  try simp only [Act.put, List.getElem_toArray, List.getElem_cons_succ, List.getElem_cons_zero, List.setIfInBounds_toArray, List.set_cons_zero, List.set_cons_succ]
  refine wpAnyH_done (by kernel_rfl) ?_ _
  refine NoPanic.normal ?_
  go_wp2_with (fail)
  go_ret
  exact ⟨rfl, _, _, HH5.out.below HB7.out, HO5.out.1.trans (Off.ofBelow (S := k.own) HB7.out) (fun _ _ h => h), HO5.out.2, rfl, rfl⟩

theorem bothdo_any {w : World} {k : BothK} {r : BreakS} {s : BrS} {n : Nat} (h : BothAt w k r s n) (hn : n < 1125899906842624) (kind at_ rt : Int) (F P : Bool) :
    Calls Try.prog 7 #[bothV k, .agg #[.int .i64 kind, .int .i64 at_, .int .i64 rt, .bool F, .bool P]] w (DoPost w k r n) := by
  by_cases k0 : kind = 0
  · exact bothdo_enter h hn kind at_ rt F P k0
  · by_cases k1 : kind = 1
    · exact bothdo_done h hn kind at_ rt F P k1
    · by_cases k2 : kind = 2
      · exact bothdo_give h hn kind at_ rt F P k2
      · exact bothdo_none h hn kind at_ rt F P k0 k1 k2
end Go.Proofs.Ytlipbkpbflgamaa

/- BreakerAll: rows of breakers of the call's own. -/
namespace Go.Proofs.Ytlipbkpbflgamaa
open Go.RowKit
set_option linter.unusedVariables false
set_option linter.unusedSimpArgs false

/-- A block holds cells of a type. -/
def HasT (w : World) (g : Nat) (e : TypeId) : Prop := ∃ cur, w.heap[g]? = some (.cells cur e (0, 0))
theorem HasT.ne {w : World} {g i : Nat} {e e' : TypeId} (h : HasT w g e) (k : HasT w i e') (hne : e ≠ e') : i ≠ g := by
  rintro rfl
  obtain ⟨c, h⟩ := h
  obtain ⟨d, k⟩ := k
  rw [h] at k
  simp only [Option.some.injEq, Obj.cells.injEq] at k
  exact hne k.2.1
theorem row_has {w : World} {base n size : Nat} {e : TypeId} {v : Value} {xs : List Value} (h : w.ownsRow base e size v n xs) {g : Nat} (hg : v.ownBlock = some g) : HasT w g e := by
  rcases h.2 with ⟨rfl, _⟩ | ⟨g', cap, cur, rfl, _, hh, _⟩
  · cases hg
  · cases hg
    exact ⟨cur, hh⟩
theorem br_ne {w : World} {q p m : Nat} {r : BreakS} {s : BrS} (h : BrAt w q p m r s) {g : Nat} {e : TypeId} (hg : HasT w g e) (h1 : e ≠ 60) (h2 : e ≠ 95) : ∀ i, BOwn q p m i → i ≠ g := by
  intro i hi
  rcases hi with rfl | rfl | rfl
  · exact hg.ne ⟨_, h.head⟩ h1
  · obtain ⟨f, h3, _⟩ := h.win.ex
    exact hg.ne ⟨_, h3.head⟩ h2
  · obtain ⟨f, h3, _⟩ := h.win.ex
    obtain ⟨_, F, n, ⟨D, ⟨es, clock, h4, _⟩, _⟩, _⟩ := h3.map
    rintro rfl
    obtain ⟨c, hc⟩ := hg
    rw [hc] at h4
    cases h4
theorem r14_ne {w : World} {q p : Nat} {r : BreakS} {s : BrS} {un : Int} {v : Value} {L : List Bk3} (h : R14At w q p r s un v L) {g : Nat} {e : TypeId} (hg : HasT w g e) (h1 : e ≠ 65) (h2 : e ≠ 89) (h3 : e ≠ 108) : ∀ i, R14Own q p v i → i ≠ g := by
  intro i hi
  rcases hi with rfl | rfl | hi
  · exact hg.ne ⟨_, h.head⟩ h1
  · exact hg.ne ⟨_, h.win.head⟩ h2
  · exact hg.ne (row_has h.win.row hi) h3
theorem BrsAt.kept {w w' : World} {xs : List (Option Nat)} {ss : List (Option BrS)} (h : BrsAt w xs ss) (hk : ∀ q p m r s, BrAt w q p m r s → BrAt w' q p m r s) : BrsAt w' xs ss :=
  ⟨h.1, fun j x hx => (h.2 j x hx).imp id (fun ⟨q, p, m, r, s, e1, e2, e3⟩ => ⟨q, p, m, r, s, e1, e2, hk _ _ _ _ _ e3⟩)⟩
theorem RrsAt.kept {w w' : World} {xs : List (Option Nat)} {ss : List (Option BrS)} (h : RrsAt w xs ss) (hk : ∀ q p r s un v L, R14At w q p r s un v L → R14At w' q p r s un v L) : RrsAt w' xs ss :=
  ⟨h.1, fun j x hx => (h.2 j x hx).imp id (fun ⟨q, p, r, s, un, v, L, e1, e2, e3⟩ => ⟨q, p, r, s, un, v, L, e1, e2, hk _ _ _ _ _ _ _ e3⟩)⟩
theorem row_keptV {w w' : World} {base n size : Nat} {e : TypeId} {v : Value} {xs : List Value} (h : w.ownsRow base e size v n xs) (hk : ∀ g, v.ownBlock = some g → w'.heap[g]? = w.heap[g]?) : w'.ownsRow base e size v n xs := rowKept3 h hk
/-- One or two more behind a list of breakers: one and nil. -/
def two_more {α : Type} (x : Option α) : List (Option α) := [x, none]
theorem brs_more {w : World} {xs : List (Option Nat)} {ss : List (Option BrS)} (h : BrsAt w xs ss) {x : Option Nat} {y : Option BrS} (hx : (x = none ∧ y = none) ∨ ∃ q p m r s, x = some q ∧ y = some s ∧ BrAt w q p m r s) : BrsAt w (xs ++ two_more x) (ss ++ two_more y) := by
  refine ⟨by simp [two_more, h.1], fun j z hz => ?_⟩
  by_cases hj : j < xs.length
  · rw [List.getElem?_append_left hj] at hz
    rw [List.getElem?_append_left (by rw [← h.1]; exact hj)]
    exact h.2 j z hz
  · rw [List.getElem?_append_right (by omega)] at hz
    rw [List.getElem?_append_right (by rw [← h.1]; omega), ← h.1]
    match hk : j - xs.length, hz with
    | 0, hz =>
      have hz : some x = some z := hz
      cases hz
      show (x = none ∧ some y = some none) ∨ ∃ q p m r s, x = some q ∧ some y = some (some s) ∧ _
      rcases hx with ⟨rfl, rfl⟩ | ⟨q, p, m, r, s, rfl, rfl, h⟩
      · exact Or.inl ⟨rfl, rfl⟩
      · exact Or.inr ⟨q, p, m, r, s, rfl, rfl, h⟩
    | 1, hz =>
      have hz : some none = some z := hz
      cases hz
      exact Or.inl ⟨rfl, rfl⟩
    | k + 2, hz => simp [two_more] at hz
theorem rrs_more {w : World} {xs : List (Option Nat)} {ss : List (Option BrS)} (h : RrsAt w xs ss) {x : Option Nat} {y : Option BrS} (hx : (x = none ∧ y = none) ∨ ∃ q p r s un v L, x = some q ∧ y = some s ∧ R14At w q p r s un v L) : RrsAt w (xs ++ two_more x) (ss ++ two_more y) := by
  refine ⟨by simp [two_more, h.1], fun j z hz => ?_⟩
  by_cases hj : j < xs.length
  · rw [List.getElem?_append_left hj] at hz
    rw [List.getElem?_append_left (by rw [← h.1]; exact hj)]
    exact h.2 j z hz
  · rw [List.getElem?_append_right (by omega)] at hz
    rw [List.getElem?_append_right (by rw [← h.1]; omega), ← h.1]
    match hk : j - xs.length, hz with
    | 0, hz =>
      have hz : some x = some z := hz
      cases hz
      show (x = none ∧ some y = some none) ∨ ∃ q p r s un v L, x = some q ∧ some y = some (some s) ∧ _
      rcases hx with ⟨rfl, rfl⟩ | ⟨q, p, r, s, un, v, L, rfl, rfl, h⟩
      · exact Or.inl ⟨rfl, rfl⟩
      · exact Or.inr ⟨q, p, r, s, un, v, L, rfl, rfl, h⟩
    | 1, hz =>
      have hz : some none = some z := hz
      cases hz
      exact Or.inl ⟨rfl, rfl⟩
    | k + 2, hz => simp [two_more] at hz
/-- The two rows. -/
structure AInv (Z : Nat) (w : World) (n : Nat) (va vb : Value) (xs ys : List (Option Nat)) (ss : List (Option BrS)) : Prop where
  len : xs.length = n
  len2 : ys.length = n
  a : w.ownsRow Z 31 1 va n (xs.map ptrV)
  b : w.ownsRow Z 35 1 vb n (ys.map ptrV)
  br : BrsAt w xs ss
  rr : RrsAt w ys ss
theorem aInv_nil (Z : Nat) (w : World) : AInv Z w 0 (.slice none 0 0) (.slice none 0 0) [] [] [] :=
  ⟨rfl, rfl, World.ownsRow_nil _ _ _ _, World.ownsRow_nil _ _ _ _, ⟨rfl, fun j x h => by simp at h⟩, ⟨rfl, fun j x h => by simp at h⟩⟩
theorem AInv.below {Z : Nat} {w w' : World} {n : Nat} {va vb : Value} {xs ys : List (Option Nat)} {ss : List (Option BrS)} (h : AInv Z w n va vb xs ys ss) (hb : Below w.heap.size w w') : AInv Z w' n va vb xs ys ss :=
  ⟨h.len, h.len2, row_keptV h.a (fun g e => hb.block g (h.a.lt g e).2), row_keptV h.b (fun g e => hb.block g (h.b.lt g e).2), h.br.kept (fun q p m r s k => k.below hb), h.rr.kept (fun q p r s un v L k => k.below hb)⟩
theorem info_pa : (Try.prog.info? 31).map (fun i => (i.zero, i.size, i.bytes)) = some (some (.pointer none), 1, 8) := by kernel_rfl
theorem info_pb : (Try.prog.info? 35).map (fun i => (i.zero, i.size, i.bytes)) = some (some (.pointer none), 1, 8) := by kernel_rfl
/-- One more and nil behind an own row of pointers. -/
theorem run_append_pt {T e : TypeId} (ht : Try.prog.underlying T = some (.slice e)) (hinfo : (Try.prog.info? e).map (fun i => (i.zero, i.size, i.bytes)) = some (some (.pointer none), 1, 8)) {Z : Nat} {w : World} {v : Value} {n : Nat} {xs : List (Option Nat)} (hown : w.ownsRow Z e 1 v n (xs.map ptrV)) (hZ : Z ≤ w.heap.size) (hn : n ≤ 1048576) (x : Option Nat) (ty : TypeId) :
    ∃ g cap w', (Builtin.append_ #[T, T] ty #[v, .slice (some ⟨w.heap.size, 0, none⟩) 2 2]).run Try.prog (w.alloc (.cells #[ptrV x, .pointer none] e)) = .ok (.slice (some ⟨g, 0, none⟩) (n + 2) cap) w' ∧ w'.ownsRow Z e 1 (.slice (some ⟨g, 0, none⟩) (n + 2) cap) (n + 2) ((xs ++ two_more x).map ptrV) ∧ Off (fun i => v.ownBlock = some i) w w' ∧ Below Z w w' := by
  obtain ⟨i0, hi, hz0, hz1, hz2⟩ := info_parts3 hinfo
  have hnew := new_blockS w (.cells #[ptrV x, .pointer none] e)
  obtain ⟨v', w', hr, h2, h3, h4⟩ := run_append_own (P := Try.prog) (w.alloc (.cells #[ptrV x, .pointer none] e)) Z T ty e i0 _ 1 8 ht hi hz0 hz1 hz2 rfl (by decide) v n (xs.map ptrV) (hown.alloc _) ⟨w.heap.size, 0, none⟩ 2 2 [ptrV x, .pointer none] rfl (by
    intro j u hu
    rw [WideShapes.add_plain, Nat.zero_add]
    simp only [World.cell?, hnew]
    simpa using hu) (by intro u hu; simp only [List.mem_cons, List.not_mem_nil, or_false] at hu; rcases hu with rfl | rfl; (cases x <;> rfl); rfl) (by unfold maxLen; omega) (by omega) (by simp; omega)
  have hal : Off (fun i => v.ownBlock = some i) w (w.alloc (.cells #[ptrV x, .pointer none] e)) := (Off.refl _ _).alloc _
  have hxs : xs.map ptrV ++ [ptrV x, .pointer none] = (xs ++ two_more x).map ptrV := by rw [List.map_append]; rfl
  rw [hxs] at h2
  have hoff : Off (fun i => v.ownBlock = some i) w w' := by
    cases hv : v.ownBlock with
    | none =>
      rw [hv] at h3
      exact ⟨h3.os.trans hal.os, h3.tape.trans hal.tape, h3.output.trans hal.output, Nat.le_trans hal.size h3.size, fun i hi _ => (h3.block i (Nat.lt_of_lt_of_le hi hal.size) (by simp)).trans (hal.block i hi (by simp [hv]))⟩
    | some g =>
      rw [hv] at h3
      have := hal.grown h3 (fun _ => hv)
      rw [hv] at this
      exact this
  rcases h2.2 with ⟨_, hz⟩ | ⟨g, cap, cur, rfl, r1, r2, r3⟩
  · omega
  · exact ⟨g, cap, w', hr, h2, hoff, hoff.below hZ (fun k hk e => by have := (hown.lt k e).1; omega)⟩
theorem AInv.more {Z : Nat} {w w3 w4 : World} {n : Nat} {va vb va' vb' : Value} {xs ys : List (Option Nat)} {ss : List (Option BrS)} (h : AInv Z w n va vb xs ys ss) {x y : Option Nat} {s : Option BrS}
    (ha : w3.ownsRow Z 31 1 va' (n + 2) ((xs ++ two_more x).map ptrV)) (ho : Off (fun i => va.ownBlock = some i) w w3)
    (hb : w4.ownsRow Z 35 1 vb' (n + 2) ((ys ++ two_more y).map ptrV)) (ho2 : Off (fun i => vb.ownBlock = some i) w3 w4)
    (hx : (x = none ∧ s = none) ∨ ∃ q p m r t, x = some q ∧ s = some t ∧ BrAt w q p m r t) (hy : (y = none ∧ s = none) ∨ ∃ q p r t un v L, y = some q ∧ s = some t ∧ R14At w q p r t un v L) :
    AInv Z w4 (n + 2) va' vb' (xs ++ two_more x) (ys ++ two_more y) (ss ++ two_more s) := by
  have hbr : ∀ q p m r t, BrAt w q p m r t → BrAt w4 q p m r t := fun q p m r t k => by
    have k3 : BrAt w3 q p m r t := k.kept (fun i hi => ho.block i (k.lt hi) (fun e => br_ne k (row_has h.a e) (by decide) (by decide) i hi rfl))
    have hb3 : ∀ g, vb.ownBlock = some g → HasT w3 g 35 := fun g e => by
      obtain ⟨c, hc⟩ := row_has h.b e
      exact ⟨c, (ho.block g (h.b.lt g e).2 (fun e2 => HasT.ne (row_has h.a e2) (row_has h.b e) (by decide) rfl)).trans hc⟩
    exact k3.kept (fun i hi => ho2.block i (k3.lt hi) (fun e => br_ne k3 (hb3 i e) (by decide) (by decide) i hi rfl))
  have hrr : ∀ q p r t un v L, R14At w q p r t un v L → R14At w4 q p r t un v L := fun q p r t un v L k => by
    have k3 : R14At w3 q p r t un v L := k.kept (fun i hi => ho.block i (k.lt hi) (fun e => r14_ne k (row_has h.a e) (by decide) (by decide) (by decide) i hi rfl))
    have hb3 : ∀ g, vb.ownBlock = some g → HasT w3 g 35 := fun g e => by
      obtain ⟨c, hc⟩ := row_has h.b e
      exact ⟨c, (ho.block g (h.b.lt g e).2 (fun e2 => HasT.ne (row_has h.a e2) (row_has h.b e) (by decide) rfl)).trans hc⟩
    exact k3.kept (fun i hi => ho2.block i (k3.lt hi) (fun e => r14_ne k3 (hb3 i e) (by decide) (by decide) (by decide) i hi rfl))
  refine ⟨by simp [two_more, h.len], by simp [two_more, h.len2], row_keptV ha (fun g e => ho2.block g (ha.lt g e).2 (fun e2 => ?_)), hb, ?_, ?_⟩
  · have h1 := row_has ha e
    obtain ⟨c, hc⟩ := row_has h.b e2
    have h2 : HasT w3 g 35 := ⟨c, (ho.block g (h.b.lt g e2).2 (fun e3 => HasT.ne (row_has h.a e3) (row_has h.b e2) (by decide) rfl)).trans hc⟩
    exact h1.ne h2 (by decide) rfl
  · exact brs_more (h.br.kept hbr) (hx.imp id (fun ⟨q, p, m, r, t, e1, e2, k⟩ => ⟨q, p, m, r, t, e1, e2, hbr _ _ _ _ _ k⟩))
  · exact rrs_more (h.rr.kept hrr) (hy.imp id (fun ⟨q, p, r, t, un, v, L, e1, e2, k⟩ => ⟨q, p, r, t, un, v, L, e1, e2, hrr _ _ _ _ _ _ _ k⟩))
/-- The row as All takes it. -/
theorem row_ptr {Z n : Nat} {w : World} {e : TypeId} {v : Value} {xs : List (Option Nat)} (h : w.ownsRow Z e 1 v n (xs.map ptrV)) (hn : xs.length = n) : ∃ a cap, v = .slice a n cap ∧ PtrRow w a xs := by
  rcases h.2 with ⟨rfl, hz⟩ | ⟨g, cap, cur, rfl, _⟩
  · subst hz
    refine ⟨none, 0, rfl, fun j x hx => ?_⟩
    rw [List.length_eq_zero_iff.1 hn] at hx
    simp at hx
  · refine ⟨_, _, rfl, fun j x hx => ⟨g, rfl, ?_⟩⟩
    have hj := (List.getElem?_eq_some_iff.1 hx).1
    rw [h.cellAt j (by omega), List.getElem?_map, hx]
    rfl
end Go.Proofs.Ytlipbkpbflgamaa

/- BreakerAll: of some breakers the first one that lets nothing pass is told: the walk. -/
namespace Go.Proofs.Ytlipbkpbflgamaa
open Go.RowKit
set_option linter.unusedVariables false
set_option linter.unusedSimpArgs false

structure DeedSl where
  a : Option Addr
  n : Nat
  c : Nat
  K : Nat → Int
  A : Nat → Int
  R : Nat → Int
  F : Nat → Bool
  P : Nat → Bool
structure DeedSl.At (w : World) (d : DeedSl) : Prop where
  row : DeedsB w d.a d.n d.K d.A d.R d.F d.P
  m : d.n ≤ 140737488351232
def two2 {α : Type} (x y : α) (n : Nat) : α := if n = 0 then x else y
def rulesC (r s : BreakS) : Array Value := #[.string r.res, .int .u8 r.gr, .int .i64 r.cnt, .int .i64 r.slow, .int .i64 r.least, .int .i64 r.win, .int .i64 r.rec_, .string s.res, .int .u8 s.gr, .int .i64 s.cnt, .int .i64 s.slow, .int .i64 s.least, .int .i64 s.win, .int .i64 s.rec_]
theorem rules_cell {w : World} {N : Nat} {r s : BreakS} (h : w.heap[N]? = some (.cells (rulesC r s) 25)) {n : Nat} (hn : n < 2) : w.cell? ⟨N, n * 7, none⟩ = some (.string (two2 r s n).res) ∧ w.cell? ⟨N, n * 7 + 1, none⟩ = some (.int .u8 (two2 r s n).gr) ∧ w.cell? ⟨N, n * 7 + 2, none⟩ = some (.int .i64 (two2 r s n).cnt) ∧ w.cell? ⟨N, n * 7 + 3, none⟩ = some (.int .i64 (two2 r s n).slow) ∧ w.cell? ⟨N, n * 7 + 4, none⟩ = some (.int .i64 (two2 r s n).least) ∧ w.cell? ⟨N, n * 7 + 5, none⟩ = some (.int .i64 (two2 r s n).win) ∧ w.cell? ⟨N, n * 7 + 6, none⟩ = some (.int .i64 (two2 r s n).rec_) := by
  match n, hn with
  | 0, _ => simp only [World.cell?, h]; exact ⟨rfl, rfl, rfl, rfl, rfl, rfl, rfl⟩
  | 1, _ => simp only [World.cell?, h]; exact ⟨rfl, rfl, rfl, rfl, rfl, rfl, rfl⟩
def slC (d e : DeedSl) : Array Value := #[.slice d.a d.n d.c, .slice e.a e.n e.c]
theorem sl_cell {w : World} {N : Nat} {d e : DeedSl} (h : w.heap[N]? = some (.cells (slC d e) 27)) {n : Nat} (hn : n < 2) : w.cell? ⟨N, n, none⟩ = some (.slice (two2 d e n).a (two2 d e n).n (two2 d e n).c) := by
  match n, hn with
  | 0, _ => simp only [World.cell?, h]; rfl
  | 1, _ => simp only [World.cell?, h]; rfl
theorem both_new {w w1 w2 : World} {q p m q' p' : Nat} {r : BreakS} (h1 : BrAt w1 q p m r new0) (hb1 : Below w.heap.size w w1) (hq : w.heap.size ≤ q) (hp : w.heap.size ≤ p) (hm : w.heap.size ≤ m)
    (h2 : R14At w2 q' p' r new0 0 (.slice none 0 0) []) (hb2 : Below w1.heap.size w1 w2) (hq' : w1.heap.size ≤ q') (hp' : w1.heap.size ≤ p') :
    BothAt w2 ⟨q, p, m, q', p', 0, .slice none 0 0, []⟩ r new0 0 ∧ (∀ i, (⟨q, p, m, q', p', 0, .slice none 0 0, []⟩ : BothK).own i → w.heap.size ≤ i) := by
  have hs := hb1.size
  refine ⟨⟨h1.below hb2, h2, fun i hi e => ?_, fun x hx => by simp [new0] at hx, Nat.le_refl _⟩, fun i hi => ?_⟩
  · have h3 := h1.lt hi
    rcases e with rfl | rfl | e
    · omega
    · omega
    · simp [Value.ownBlock] at e
  · rcases hi with (rfl | rfl | rfl) | (rfl | rfl | e)
    · exact hq
    · exact hp
    · exact hm
    · omega
    · omega
    · simp [Value.ownBlock] at e
set_option maxHeartbeats 12800000 in
set_option maxRecDepth 100000 in
theorem brall_walk0 (w : World) (r0 r1 : BreakS) (hz0 : r0.res.size ≤ maxLen) (hz1 : r1.res.size ≤ maxLen) (hg0 : 0 ≤ r0.gr) (hg1 : 0 ≤ r1.gr) (d0 d1 : DeedSl) (hd0 : d0.At w) (hd1 : d1.At w) (at_ : Int) :
    Calls Try.prog 3 #[.agg (rulesC r0 r1), .agg (slC d0 d1), .int .i64 at_] w fun e w' => e = .returned (.bool true) ∧ Below w.heap.size w w' := by
  have HZ := Lib.hid (show ∀ n, (two2 r0 r1 n).res.size ≤ maxLen ∧ 0 ≤ (two2 r0 r1 n).gr from fun n => by unfold two2; split; exact ⟨hz0, hg0⟩; exact ⟨hz1, hg1⟩)
  have HD := Lib.hid (show ∀ n, (two2 d0 d1 n).At w from fun n => by unfold two2; split; exact hd0; exact hd1)
  obtain ⟨N, hN⟩ : ∃ N, w.heap.size = N := ⟨_, rfl⟩
  have HN := Lib.hid hN
  have hB : Below w.heap.size w ((w.alloc (.cells (rulesC r0 r1) 25)).alloc (.cells (slC d0 d1) 27)) := ((Below.refl _ _).alloc (Nat.le_refl _) _).alloc (by simp) _
  have H0 := Lib.hid (show ((w.alloc (.cells (rulesC r0 r1) 25)).alloc (.cells (slC d0 d1) 27)).heap[N]? = some (.cells (rulesC r0 r1) 25) by
    rw [get_allocW, if_neg (by rw [World.size_alloc]; omega), get_allocW, if_pos hN.symm])
  have H1 := Lib.hid (show ((w.alloc (.cells (rulesC r0 r1) 25)).alloc (.cells (slC d0 d1) 27)).heap[N + 1]? = some (.cells (slC d0 d1) 27) by
    rw [get_allocW, if_pos (by rw [World.size_alloc]; omega)])
  have HB := Lib.hid hB
  obtain ⟨w0, hw0⟩ : ∃ w0, (w.alloc (.cells (rulesC r0 r1) 25)).alloc (.cells (slC d0 d1) 27) = w0 := ⟨_, rfl⟩
  rw [hw0] at H0 H1 HB
  clear hz0 hz1 hg0 hg1 hd0 hd1 hB
  generalize hrc : rulesC r0 r1 = RC at *
  generalize hsc : slC d0 d1 = SC at *
  have HRC := Lib.hid hrc
  have HSC := Lib.hid hsc
  clear hrc hsc
  have HLV := Lib.hid (brlive_any w0)
  go_enter Try.func3, Try.ntmps3
  go_wp2_with (fail)
  clear hw0 hN
  have HW0 := Lib.hid (show N + 1 < w0.heap.size from (Array.getElem?_eq_some_iff.1 H1.out).1)
  obtain ⟨Z, hZ⟩ : ∃ Z, w0.heap.size = Z := ⟨_, rfl⟩
  have HZZ := Lib.hid hZ
  refine HLV.out.mono ?_
  rintro e w1 ⟨rfl, h1⟩
  rw [hZ] at h1
  have HB1 := Lib.hid h1
  clear h1 HLV hZ
  go_wp2_with (fail)
  go_loopw [7, 8, 9, 10, 11, 12, 13, 14] (fun va vb i x e y f k wr => ∃ n : Nat, n ≤ 2 ∧ i = .int .i64 n ∧ Hid (∃ xs ys ss, AInv Z wr (2 * n) va vb xs ys ss) ∧ Hid (Below Z w0 wr)) (fun va vb i x e y f k _ => 2 - (intOf i).toNat)
  case atStart => exact ⟨0, by omega, rfl, Lib.hid ⟨[], [], [], aInv_nil _ _⟩, HB1⟩
  case round =>
    rename World => wr
    obtain ⟨n, hn, rfl, HI, HBR⟩ := hrel
    by_cases hlt : n < 2
    · have k0 : (0 : Int) ≤ n := by omega
      have k1 : (n : Int) < 2 := by omega
      have hw0z : N < w0.heap.size := by have := HW0.out; omega
      obtain ⟨c0, c1, c2, c3, c4, c5, c6⟩ := rules_cell (w := wr) (N := N) (r := r0) (s := r1) (n := n) ((HBR.out.block N (by rw [← HZZ.out]; exact hw0z)).trans (by rw [HRC.out]; exact H0.out)) hlt
      obtain ⟨R, hR⟩ : ∃ R, two2 r0 r1 n = R := ⟨_, rfl⟩
      rw [hR] at c0 c1 c2 c3 c4 c5 c6
      have HR := Lib.hid hR
      have HRZ := Lib.hid (show R.res.size ≤ maxLen ∧ 0 ≤ R.gr by rw [← hR]; exact HZ.out n)
      have HNW := Lib.hid (bnew_any R HRZ.out.1 wr)
      obtain ⟨E, hE⟩ : ∃ E, breakE R = E := ⟨_, rfl⟩
      have HE := Lib.hid hE
      clear hR hE hw0z
      have HS := Lib.hid ((HBR.out.block (N + 1) (by rw [← HZZ.out]; exact HW0.out)).trans H1.out)
      have hsc := sl_cell (d := d0) (e := d1) (w := wr) (N := N + 1) (by rw [HS.out, ← HSC.out]) hlt
      obtain ⟨D, hD⟩ : ∃ D, two2 d0 d1 n = D := ⟨_, rfl⟩
      rw [hD] at hsc
      have HDA := Lib.hid (show D.At w by rw [← hD]; exact HD.out n)
      have HCS := Lib.hid hsc
      clear hD hsc
      have HCR := Lib.hid (And.intro c0 (And.intro c1 (And.intro c2 (And.intro c3 (And.intro c4 (And.intro c5 c6))))))
      have HNR := Lib.hid (show N < wr.heap.size ∧ N + 1 < wr.heap.size by have h1 := HBR.out.size; have h2 := HW0.out; exact ⟨by omega, by omega⟩)
      unfold BreakS.v BreakS.cells at HNW
      by_cases h0 : E = 0
      · subst h0
        go_wp2_with (fail)
        refine HNW.out.mono ?_
        intro e w2 hnp
        obtain ⟨q, p, m, rfl, hbr, hb2, hq, hp, hm⟩ := hnp.yes HE.out
        have HBR2 := Lib.hid hbr
        have HB2 := Lib.hid hb2
        have HQ := Lib.hid (And.intro hq (And.intro hp hm))
        have HNW2 := Lib.hid (r14new_any R HRZ.out.1 HRZ.out.2 w2)
        clear hnp hbr hq hp hm HNW c0 c1 c2 c3 c4 c5 c6
        obtain ⟨b0, b1, b2, b3, b4, b5, b6⟩ := HCR.out
        have c0 := (hb2.cell (p := ⟨N, n * 7, none⟩) HNR.out.1).trans b0
        have c1 := (hb2.cell (p := ⟨N, n * 7 + 1, none⟩) HNR.out.1).trans b1
        have c2 := (hb2.cell (p := ⟨N, n * 7 + 2, none⟩) HNR.out.1).trans b2
        have c3 := (hb2.cell (p := ⟨N, n * 7 + 3, none⟩) HNR.out.1).trans b3
        have c4 := (hb2.cell (p := ⟨N, n * 7 + 4, none⟩) HNR.out.1).trans b4
        have c5 := (hb2.cell (p := ⟨N, n * 7 + 5, none⟩) HNR.out.1).trans b5
        have c6 := (hb2.cell (p := ⟨N, n * 7 + 6, none⟩) HNR.out.1).trans b6
        unfold BreakS.v BreakS.cells at HNW2
        clear b0 b1 b2 b3 b4 b5 b6 hb2
        go_wp2_with (fail)
        refine HNW2.out.mono ?_
        intro e w3 hnp
        obtain ⟨q', p', rfl, hrr, hb3, hq', hp'⟩ := hnp.yes HE.out
        obtain ⟨hboth, hown⟩ := both_new HBR2.out HB2.out HQ.out.1 HQ.out.2.1 HQ.out.2.2 hrr hb3 hq' hp'
        have HBOTH := Lib.hid hboth
        have HOWN := Lib.hid hown
        have HB3 := Lib.hid (show Below wr.heap.size wr w3 from HB2.out.trans (hb3.mono HB2.out.size))
        clear hnp hrr hb3 hq' hp' hboth hown HNW2 HBR2 HB2 HQ c0 c1 c2 c3 c4 c5 c6
        go_wp2_with (fail)
        obtain ⟨len, hlen⟩ : ∃ len, D.n = len := ⟨_, rfl⟩
        have HLEN := Lib.hid hlen
        rw [hlen] at HCS
        have hlm : len ≤ 140737488351232 := by rw [← hlen]; exact HDA.out.m
        clear hlen
        obtain ⟨Z1, hZ1⟩ : ∃ Z1, wr.heap.size = Z1 := ⟨_, rfl⟩
        have HZ1 := Lib.hid hZ1
        rw [hZ1] at HOWN HB3 HNR
        clear hZ1
        go_loopw [14] (fun k wx => ∃ kk : Nat, kk ≤ len ∧ k = .int .i64 kk ∧ Hid (∃ K s, BothAt wx K R s kk ∧ K.q = q ∧ K.q' = q' ∧ ∀ i, K.own i → Z1 ≤ i) ∧ Hid (Below Z1 wr wx)) (fun k _ => len - (intOf k).toNat)
        case atStart => exact ⟨0, Nat.zero_le _, rfl, Lib.hid ⟨_, _, HBOTH.out, rfl, rfl, HOWN.out⟩, HB3⟩
        case round =>
          rename World => wx
          obtain ⟨kk, hkk, rfl, HK, HBX⟩ := hrel
          have s0 := (HBX.out.cell (p := ⟨N + 1, n, none⟩) HNR.out.2).trans HCS.out
          by_cases hlt2 : kk < len
          · have j0 : (0 : Int) ≤ kk := by omega
            have j1 : (kk : Int) < len := by omega
            obtain ⟨b, off, hab, hdc⟩ := HDA.out.row.of (j := kk) (by rw [HLEN.out]; exact hlt2)
            rw [hab] at s0
            obtain ⟨K, s, hboth, hKq, hKq', hKo⟩ := HK.out
            obtain ⟨e0, e1, e2, e3, e4⟩ := hdc wx ((HB.out.trans (HBR.out.mono (by have := HB.out.size; have := HZZ.out; omega))).trans (HBX.out.mono (by have := HB.out.size; have := HBR.out.size; have := HZ1.out; omega)))
            have HDO := Lib.hid (bothdo_any hboth (by omega) (D.K kk) (D.A kk) (D.R kk) (D.F kk) (D.P kk))
            have HKO := Lib.hid hKo
            have HKK := Lib.hid (And.intro hKq hKq')
            have HXS := Lib.hid (show Z1 ≤ wx.heap.size by have := HBX.out.size; have := HZ1.out; omega)
            unfold bothV at HDO
            rw [hKq, hKq'] at HDO
            clear hab hdc hboth hKq hKq' hKo
            go_wp2_with (fail)
            refine HDO.out.mono ?_
            intro e w4 hdo
            obtain ⟨rfl, K2, s2, hb2, ho2, hn2, hq2, hq2'⟩ := hdo
            have HK2 := Lib.hid (show ∃ K s, BothAt w4 K R s (kk + 1) ∧ K.q = q ∧ K.q' = q' ∧ ∀ i, K.own i → Z1 ≤ i from ⟨K2, s2, hb2, hq2.trans HKK.out.1, hq2'.trans HKK.out.2, fun i hi => by
              rcases hn2 i hi with h | h
              · exact HKO.out i h
              · exact Nat.le_trans HXS.out h⟩)
            have HB4 := Lib.hid (show Below Z1 wr w4 from HBX.out.trans (ho2.below HXS.out (fun k hk e => by have := HKO.out k e; omega)))
            clear hb2 ho2 hn2 hq2 hq2' HDO
            go_wp2_with (fail)
            exact ⟨⟨kk + 1, by omega, by go_num, HK2, HB4⟩, by first | (simp [intOf]; done) | (simp [intOf]; omega)⟩
          · have j1 : ¬ (kk : Int) < len := by omega
            obtain ⟨xs, ys, ss, hai0⟩ := HI.out
            obtain ⟨K, s, hboth, rfl, rfl, hKo⟩ := HK.out
            have HAI := Lib.hid (hai0.below (show Below wr.heap.size wr wx by rw [HZ1.out]; exact HBX.out))
            have HBX2 := Lib.hid (show Below Z w0 wx from HBR.out.trans (HBX.out.mono (by have := HBR.out.size; have := HZZ.out; have := HZ1.out; omega)))
            have HBO := Lib.hid hboth
            clear hai0 hboth hKo
            have hai := HAI.out
            obtain ⟨g1, cap1, w5, hr5, ho5, hf5, hb5⟩ := run_append_pt Try.underlying29 info_pa hai.a (by have := HBX2.out.size; have := HZZ.out; omega) (by omega) (some K.q) 29
            have hbr5 : w5.ownsRow Z 35 1 u8 (2 * n) (ys.map ptrV) := row_keptV hai.b (fun g e => hf5.block g (hai.b.lt g e).2 (fun e2 => HasT.ne (row_has hai.a e2) (row_has hai.b e) (by decide) rfl))
            obtain ⟨g2, cap2, w6, hr6, ho6, hf6, hb6⟩ := run_append_pt Try.underlying30 info_pb hbr5 (by have := HBX2.out.size; have := HZZ.out; have := hb5.size; omega) (by omega) (some K.q') 30
            have HAN := Lib.hid (hai.more (x := (some K.q)) (y := (some K.q')) (s := (some s)) ho5 hf5 ho6 hf6 (Or.inr ⟨_, _, _, _, _, rfl, rfl, HBO.out.br⟩) (Or.inr ⟨_, _, _, _, _, _, _, rfl, rfl, HBO.out.rr⟩))
            have HBN := Lib.hid (show Below Z w0 w6 from (HBX2.out.trans (hb5.mono (Nat.le_refl _))).trans (hb6.mono (Nat.le_refl _)))
            have HR5 := Lib.hid hr5
            have HR6 := Lib.hid hr6
            clear hai hr5 ho5 hf5 hb5 hbr5 hr6 ho6 hf6 hb6
            unfold ptrV at HR5 HR6
            dsimp only at HR5 HR6
            go_wp2_with (first | (at_builtin; refine wpList_append_run (by rfl) (.tmp 67) (.tmp 69) 29 29 (by rfl) (by rfl) (by rfl) (by rfl) HR5.out ?_) | (at_builtin; refine wpList_append_run (by rfl) (.tmp 71) (.tmp 73) 30 30 (by rfl) (by rfl) (by rfl) (by rfl) HR6.out ?_))
            exact ⟨⟨n + 1, by omega, by go_num, Lib.hid ⟨_, _, _, HAN.out⟩, HBN⟩, by first | (simp [intOf]; done) | (simp [intOf]; omega)⟩

      · have hne : (E == 0) = false := by simpa using h0
        have H00 := Lib.hid h0
        clear h0
        go_wp2_with (fail)
        refine HNW.out.mono ?_
        intro e w2 hnp
        obtain ⟨rfl, hb2⟩ := hnp.no (by rw [HE.out]; exact H00.out)
        have HB2 := Lib.hid hb2
        have HNW2 := Lib.hid (r14new_any R HRZ.out.1 HRZ.out.2 w2)
        have HEW := Lib.hid HE.out
        rw [HE.out]
        clear hnp HNW c0 c1 c2 c3 c4 c5 c6
        obtain ⟨b0, b1, b2, b3, b4, b5, b6⟩ := HCR.out
        have c0 := (hb2.cell (p := ⟨N, n * 7, none⟩) HNR.out.1).trans b0
        have c1 := (hb2.cell (p := ⟨N, n * 7 + 1, none⟩) HNR.out.1).trans b1
        have c2 := (hb2.cell (p := ⟨N, n * 7 + 2, none⟩) HNR.out.1).trans b2
        have c3 := (hb2.cell (p := ⟨N, n * 7 + 3, none⟩) HNR.out.1).trans b3
        have c4 := (hb2.cell (p := ⟨N, n * 7 + 4, none⟩) HNR.out.1).trans b4
        have c5 := (hb2.cell (p := ⟨N, n * 7 + 5, none⟩) HNR.out.1).trans b5
        have c6 := (hb2.cell (p := ⟨N, n * 7 + 6, none⟩) HNR.out.1).trans b6
        unfold BreakS.v BreakS.cells at HNW2
        clear b0 b1 b2 b3 b4 b5 b6 hb2
        go_wp2_with (fail)
        refine HNW2.out.mono ?_
        intro e w3 hnp
        obtain ⟨rfl, hb3⟩ := hnp.no (by rw [HE.out]; exact H00.out)
        rw [HE.out]
        have HB3 := Lib.hid (show Below wr.heap.size wr w3 from HB2.out.trans (hb3.mono HB2.out.size))
        have s3 := (HB3.out.cell (p := ⟨N + 1, n, none⟩) HNR.out.2).trans HCS.out
        clear hnp hb3 HNW2 HB2 c0 c1 c2 c3 c4 c5 c6
        go_wp2_with (fail)
        obtain ⟨len, hlen⟩ : ∃ len, D.n = len := ⟨_, rfl⟩
        rw [hlen] at s3
        clear hlen
        go_loopw [14] (fun k wx => k = .int .i64 0 ∧ wx = w3) (fun k _ => 0)
        case atStart => exact ⟨rfl, rfl⟩
        case round =>
          obtain ⟨rfl, hwx⟩ := hrel
          subst hwx
          by_cases hl0 : len = 0
          · subst hl0
            obtain ⟨xs, ys, ss, hai0⟩ := HI.out
            have HAI := Lib.hid (hai0.below HB3.out)
            have HBX2 := Lib.hid (HBR.out.trans (HB3.out.mono (by have := HBR.out.size; have := HZZ.out; omega)))
            clear hai0
            have hai := HAI.out
            obtain ⟨g1, cap1, w5, hr5, ho5, hf5, hb5⟩ := run_append_pt Try.underlying29 info_pa hai.a (by have := HBX2.out.size; have := HZZ.out; omega) (by omega) none 29
            have hbr5 : w5.ownsRow Z 35 1 u8 (2 * n) (ys.map ptrV) := row_keptV hai.b (fun g e => hf5.block g (hai.b.lt g e).2 (fun e2 => HasT.ne (row_has hai.a e2) (row_has hai.b e) (by decide) rfl))
            obtain ⟨g2, cap2, w6, hr6, ho6, hf6, hb6⟩ := run_append_pt Try.underlying30 info_pb hbr5 (by have := HBX2.out.size; have := HZZ.out; have := hb5.size; omega) (by omega) none 30
            have HAN := Lib.hid (hai.more (x := none) (y := none) (s := none) ho5 hf5 ho6 hf6 (Or.inl ⟨rfl, rfl⟩) (Or.inl ⟨rfl, rfl⟩))
            have HBN := Lib.hid (show Below Z w0 w6 from (HBX2.out.trans (hb5.mono (Nat.le_refl _))).trans (hb6.mono (Nat.le_refl _)))
            have HR5 := Lib.hid hr5
            have HR6 := Lib.hid hr6
            clear hai hr5 ho5 hf5 hb5 hbr5 hr6 ho6 hf6 hb6
            unfold ptrV at HR5 HR6
            dsimp only at HR5 HR6
            go_wp2_with (first | (at_builtin; refine wpList_append_run (by rfl) (.tmp 67) (.tmp 69) 29 29 (by rfl) (by rfl) (by rfl) (by rfl) HR5.out ?_) | (at_builtin; refine wpList_append_run (by rfl) (.tmp 71) (.tmp 73) 30 30 (by rfl) (by rfl) (by rfl) (by rfl) HR6.out ?_))
            exact ⟨⟨n + 1, by omega, by go_num, Lib.hid ⟨_, _, _, HAN.out⟩, HBN⟩, by first | (simp [intOf]; done) | (simp [intOf]; omega)⟩

          · have hl1 : 0 < len := by omega
            obtain ⟨xs, ys, ss, hai0⟩ := HI.out
            have HAI := Lib.hid (hai0.below HB3.out)
            have HBX2 := Lib.hid (HBR.out.trans (HB3.out.mono (by have := HBR.out.size; have := HZZ.out; omega)))
            clear hai0
            have hai := HAI.out
            obtain ⟨g1, cap1, w5, hr5, ho5, hf5, hb5⟩ := run_append_pt Try.underlying29 info_pa hai.a (by have := HBX2.out.size; have := HZZ.out; omega) (by omega) none 29
            have hbr5 : w5.ownsRow Z 35 1 u8 (2 * n) (ys.map ptrV) := row_keptV hai.b (fun g e => hf5.block g (hai.b.lt g e).2 (fun e2 => HasT.ne (row_has hai.a e2) (row_has hai.b e) (by decide) rfl))
            obtain ⟨g2, cap2, w6, hr6, ho6, hf6, hb6⟩ := run_append_pt Try.underlying30 info_pb hbr5 (by have := HBX2.out.size; have := HZZ.out; have := hb5.size; omega) (by omega) none 30
            have HAN := Lib.hid (hai.more (x := none) (y := none) (s := none) ho5 hf5 ho6 hf6 (Or.inl ⟨rfl, rfl⟩) (Or.inl ⟨rfl, rfl⟩))
            have HBN := Lib.hid (show Below Z w0 w6 from (HBX2.out.trans (hb5.mono (Nat.le_refl _))).trans (hb6.mono (Nat.le_refl _)))
            have HR5 := Lib.hid hr5
            have HR6 := Lib.hid hr6
            clear hai hr5 ho5 hf5 hb5 hbr5 hr6 ho6 hf6 hb6
            unfold ptrV at HR5 HR6
            dsimp only at HR5 HR6
            go_wp2_with (first | (at_builtin; refine wpList_append_run (by rfl) (.tmp 67) (.tmp 69) 29 29 (by rfl) (by rfl) (by rfl) (by rfl) HR5.out ?_) | (at_builtin; refine wpList_append_run (by rfl) (.tmp 71) (.tmp 73) 30 30 (by rfl) (by rfl) (by rfl) (by rfl) HR6.out ?_))
            exact ⟨⟨n + 1, by omega, by go_num, Lib.hid ⟨_, _, _, HAN.out⟩, HBN⟩, by first | (simp [intOf]; done) | (simp [intOf]; omega)⟩

    · have hn2 : n = 2 := by omega
      subst hn2
      obtain ⟨xs, ys, ss, hai⟩ := HI.out
      clear HI
      replace hai : AInv Z wr 4 _ _ xs ys ss := hai
      obtain ⟨aa, ca, rfl, hpa⟩ := row_ptr hai.a hai.len
      obtain ⟨ab, cb, rfl, hpb⟩ := row_ptr hai.b hai.len2
      have HALL := Lib.hid (ball_any (cap := ca) hpa hai.br hai.len (by omega) at_)
      have HALR := Lib.hid (r14all_any (cap := cb) hpb hai.rr hai.len2 (by omega) at_)
      obtain ⟨X, Y, W, hv⟩ : ∃ X Y W, allV at_ ss = .tuple #[.int .i64 X, .bool Y, .int .i64 W] := by
        unfold allV
        split
        · exact ⟨_, _, _, rfl⟩
        · exact ⟨_, _, _, rfl⟩
      rw [hv] at HALL HALR
      clear hai hpa hpb hv
      go_wp2_with (fail)
      refine HALL.out.mono ?_
      rintro e wq ⟨rfl, hq⟩
      rw [hq]
      clear hq
      go_wp2_with (fail)
      refine HALR.out.mono ?_
      rintro e wq ⟨rfl, hq⟩
      rw [hq]
      clear hq
      go_wp2_with (fail)
      go_ret
      exact ⟨rfl, HB.out.trans (HBR.out.mono (by have := HB.out.size; have := HZZ.out; omega))⟩
end Go.Proofs.Ytlipbkpbflgamaa

/- BreakerAll: how the rules and the deeds are opened. -/
namespace Go.Proofs.Ytlipbkpbflgamaa
open Go.ChangeShapes Go.WideShapes Go.ChangeAt Go.RowKit Go.Deep
set_option linter.unusedVariables false
set_option linter.unusedSimpArgs false

structure Rules2 where
  r : BreakS
  s : BreakS
def Rules2.v (x : Rules2) : Value := .agg (rulesC x.r x.s)
def Rules2.Ok (x : Rules2) : Prop := x.r.res.size ≤ maxLen ∧ x.s.res.size ≤ maxLen ∧ 0 ≤ x.r.gr ∧ 0 ≤ x.s.gr
theorem wf_u8B {n : Int} (h : (Lit.int .u8 n).wf = true) : 0 ≤ n := by
  simp [Lit.wf] at h
  have : IntKind.u8.min = 0 := by decide
  omega
set_option maxRecDepth 100000 in
theorem open_rules2 {H : Type} {enc : TypeId × Value → H} {W : World} {spare : Nat → Bool} {held : Bool} {base b0 : Nat} {r : Reach} {v : Value} {d : DataW H} {p : List MemPlace}
    (hval : Value.okWide Try.prog W r b0 25 v) (hd : DataW.Trod enc Try.prog W base spare held 25 v d p) (hsz : Sz 25 d) : ∃ x : Rules2, v = x.v ∧ x.Ok := by
  obtain ⟨cs, rfl, hcz, hF⟩ := open_arrays Try.underlying25 Try.underlying24 (by kernel_rfl) (by kernel_rfl) (by kernel_rfl) hval hd
  obtain ⟨u0, g0, y0, m0, t0⟩ := hF 0 (by decide) 0 _ rfl
  obtain ⟨u1, g1, y1, m1, t1⟩ := hF 0 (by decide) 1 _ rfl
  obtain ⟨u2, g2, y2, m2, t2⟩ := hF 0 (by decide) 2 _ rfl
  obtain ⟨u3, g3, y3, m3, t3⟩ := hF 0 (by decide) 3 _ rfl
  obtain ⟨u4, g4, y4, m4, t4⟩ := hF 0 (by decide) 4 _ rfl
  obtain ⟨u5, g5, y5, m5, t5⟩ := hF 0 (by decide) 5 _ rfl
  obtain ⟨u6, g6, y6, m6, t6⟩ := hF 0 (by decide) 6 _ rfl
  obtain ⟨u7, g7, y7, m7, t7⟩ := hF 1 (by decide) 0 _ rfl
  obtain ⟨u8, g8, y8, m8, t8⟩ := hF 1 (by decide) 1 _ rfl
  obtain ⟨u9, g9, y9, m9, t9⟩ := hF 1 (by decide) 2 _ rfl
  obtain ⟨u10, g10, y10, m10, t10⟩ := hF 1 (by decide) 3 _ rfl
  obtain ⟨u11, g11, y11, m11, t11⟩ := hF 1 (by decide) 4 _ rfl
  obtain ⟨u12, g12, y12, m12, t12⟩ := hF 1 (by decide) 5 _ rfl
  obtain ⟨u13, g13, y13, m13, t13⟩ := hF 1 (by decide) 6 _ rfl
  have hcz' : cs.size = 14 := hcz
  obtain rfl : cs = #[u0, u1, u2, u3, u4, u5, u6, u7, u8, u9, u10, u11, u12, u13] := by
    apply Array.ext_getElem?
    intro j
    match j with
    | 0 => exact g0
    | 1 => exact g1
    | 2 => exact g2
    | 3 => exact g3
    | 4 => exact g4
    | 5 => exact g5
    | 6 => exact g6
    | 7 => exact g7
    | 8 => exact g8
    | 9 => exact g9
    | 10 => exact g10
    | 11 => exact g11
    | 12 => exact g12
    | 13 => exact g13
    | j + 14 => rw [Array.getElem?_eq_none (by omega), Array.getElem?_eq_none (by simp)]
  obtain ⟨k0, z0⟩ := recs_strZ Try.underlying9 t0
  have k1 := recs_int (k := .u8) Try.underlying22 t1
  have k2 := recs_int (k := .i64) Try.underlying3 t2
  have k3 := recs_int (k := .i64) Try.underlying3 t3
  have k4 := recs_int (k := .i64) Try.underlying3 t4
  have k5 := recs_int (k := .i64) Try.underlying3 t5
  have k6 := recs_int (k := .i64) Try.underlying3 t6
  obtain ⟨k7, z7⟩ := recs_strZ Try.underlying9 t7
  have k8 := recs_int (k := .u8) Try.underlying22 t8
  have k9 := recs_int (k := .i64) Try.underlying3 t9
  have k10 := recs_int (k := .i64) Try.underlying3 t10
  have k11 := recs_int (k := .i64) Try.underlying3 t11
  have k12 := recs_int (k := .i64) Try.underlying3 t12
  have k13 := recs_int (k := .i64) Try.underlying3 t13
  refine ⟨⟨⟨strOf u0, intOf u1, intOf u2, intOf u3, intOf u4, intOf u5, intOf u6⟩, ⟨strOf u7, intOf u8, intOf u9, intOf u10, intOf u11, intOf u12, intOf u13⟩⟩, ?_, z0, z7, wf_u8B k1.2, wf_u8B k8.2⟩
  show Value.agg #[u0, u1, u2, u3, u4, u5, u6, u7, u8, u9, u10, u11, u12, u13] = Value.agg #[.string (strOf u0), .int .u8 (intOf u1), .int .i64 (intOf u2), .int .i64 (intOf u3), .int .i64 (intOf u4), .int .i64 (intOf u5), .int .i64 (intOf u6), .string (strOf u7), .int .u8 (intOf u8), .int .i64 (intOf u9), .int .i64 (intOf u10), .int .i64 (intOf u11), .int .i64 (intOf u12), .int .i64 (intOf u13)]
  rw [← k0, ← k1.1, ← k2.1, ← k3.1, ← k4.1, ← k5.1, ← k6.1, ← k7, ← k8.1, ← k9.1, ← k10.1, ← k11.1, ← k12.1, ← k13.1]
structure Deeds2 where
  d : DeedSl
  e : DeedSl
def Deeds2.v (x : Deeds2) : Value := .agg (slC x.d x.e)
def Deeds2.Ok (W : World) (x : Deeds2) : Prop := x.d.At W ∧ x.e.At W
theorem sz_arr {H : Type} {t e n : Nat} {parts : List (DataW H)} {k : Nat} {d : DataW H} (hu : Try.prog.underlying t = some (.array n e)) (h : Sz t (.agg parts)) (hp : parts[k]? = some d) : Sz e d :=
  List.all_eq_true.2 fun n hn => List.all_eq_true.1 h n (by simp only [DataW.weights, hu]; exact weights_all_mem (List.mem_of_getElem? hp) n hn)
set_option maxRecDepth 100000 in
theorem read_deedsl {H : Type} {enc : TypeId × Value → H} {W : World} {spare : Nat → Bool} {held : Bool} {base m0 : Nat} {v : Value} {x0 : DataW H × List MemPlace}
    (hf : DataW.trod enc Try.prog W base spare held m0 26 [v] = some x0) (hsz : Sz 26 x0.1) : ∃ d : DeedSl, v = .slice d.a d.n d.c ∧ d.At W := by
  obtain ⟨a, len, cap, V, rfl, hr, hn, hB, hb, hm, hF⟩ := read_recsZ Try.underlying26 Try.underlying42 (by kernel_rfl) (by kernel_rfl) (by decide) hf hsz (by rw [show Try.prog.bytesOf 42 = 32 from by kernel_rfl]; decide)
  refine ⟨⟨a, len, cap, fun j => intOf (V j 0), fun j => intOf (V j 1), fun j => intOf (V j 2), fun j => boolOf (V j 3), fun j => boolOf (V j 4)⟩, rfl, ⟨?_, by show len ≤ _; omega⟩⟩
  refine deedsB hr (fun j hj => ?_) (fun j hj => ?_) (fun j hj => ?_) (fun j hj => ?_) (fun j hj => ?_)
  · obtain ⟨y, m, hy, _⟩ := hF j hj 0 _ rfl; exact recs_int Try.underlying3 hy
  · obtain ⟨y, m, hy, _⟩ := hF j hj 1 _ rfl; exact recs_int Try.underlying3 hy
  · obtain ⟨y, m, hy, _⟩ := hF j hj 2 _ rfl; exact recs_int Try.underlying3 hy
  · obtain ⟨y, m, hy, _⟩ := hF j hj 3 _ rfl; exact recs_bool Try.underlying4 hy
  · obtain ⟨y, m, hy, _⟩ := hF j hj 4 _ rfl; exact recs_bool Try.underlying4 hy
set_option maxRecDepth 100000 in
theorem open_deeds2 {H : Type} {enc : TypeId × Value → H} {W : World} {spare : Nat → Bool} {held : Bool} {base b0 : Nat} {r : Reach} {v : Value} {d : DataW H} {p : List MemPlace}
    (hval : Value.okWide Try.prog W r b0 27 v) (hd : DataW.Trod enc Try.prog W base spare held 27 v d p) (hsz : Sz 27 d) : ∃ x : Deeds2, v = x.v ∧ x.Ok W := by
  have ht := Try.underlying27
  have hce : Try.prog.cellsOf 26 = 1 := by kernel_rfl
  have hC : Try.prog.cellsOf 27 = 2 := by kernel_rfl
  obtain ⟨cs, rfl, hsz1⟩ := okWide_arrayA ht hval
  obtain ⟨fuel, hf⟩ := hd
  rw [hC] at hsz1
  obtain ⟨ys, n', _, hye, hlen, hyl, hff⟩ := DataW.trod_array ht hf
  have hcl : (Value.cells (.agg cs)).toList = cs.toList := rfl
  have e1 : d = .agg (ys.map (·.1)) := (Prod.mk.inj hye).1
  rw [e1] at hsz
  have hel : ∀ k, k < 2 → ∃ u, cs[k]? = some u ∧ ∃ d : DeedSl, u = .slice d.a d.n d.c ∧ d.At W := fun k hk => by
    have hks : k < cs.size := by omega
    have h1 := hff k hk
    rw [hce, hcl, Nat.mul_one] at h1
    have hone' : (cs.toList.drop k).take 1 = [cs[k]] := by
      rw [List.drop_eq_getElem_cons (by simpa using hks)]; rfl
    rw [hone'] at h1
    obtain ⟨y, hy⟩ : ∃ y, ys[k]? = some y := ⟨_, List.getElem?_eq_getElem (by omega)⟩
    exact ⟨cs[k], Array.getElem?_eq_getElem hks, read_deedsl (h1.trans hy) (sz_arr ht hsz (k := k) (by simp [hy]))⟩
  obtain ⟨u0, g0, d0, rfl, ok0⟩ := hel 0 (by decide)
  obtain ⟨u1, g1, d1, rfl, ok1⟩ := hel 1 (by decide)
  obtain rfl : cs = #[.slice d0.a d0.n d0.c, .slice d1.a d1.n d1.c] := by
    apply Array.ext_getElem?
    intro j
    match j with
    | 0 => exact g0
    | 1 => exact g1
    | j + 2 => rw [Array.getElem?_eq_none (by omega), Array.getElem?_eq_none (by simp)]
  exact ⟨⟨d0, d1⟩, rfl, ok0, ok1⟩
theorem brall_law {w : World} (rr : Rules2) (hr : rr.Ok) (dd : Deeds2) (hd : dd.Ok w) (at_ : Int) (hat : (Lit.int .i64 at_).wf = true) : Calls Try.prog 3 #[rr.v, dd.v, .int .i64 at_] w fun e w' => e = .returned (.bool true) ∧ Below w.heap.size w w' :=
  brall_walk0 w rr.r rr.s hr.1 hr.2.1 hr.2.2.1 hr.2.2.2 dd.d dd.e hd.1 hd.2 at_
end Go.Proofs.Ytlipbkpbflgamaa
