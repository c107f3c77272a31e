/- Texts of one chain, one behind the other: SoA, SoB, SoC, SoD, SoE. -/
import Derived.Deep.RegionHeld3
import Derived.BigRegion
import Derived.Lib.Hide
import Derived.Test.YtockmgcgifhepaaSoM
import Derived.Test.YtockmgcgifhepaaGSkA
import Derived.Test.YtockmgcgifhepaaRing
import Derived.Test.YtockmgcgifhepaaOwn
import Derived.Test.YtockmgcgifhepaaInts

/- slices.SortStableFunc at items, by falling counts: the row, the comparison, the insertion sort. -/
namespace Go.Proofs.Ytockmgcgifhepaa
open Go.RowKit
set_option linter.unusedVariables false
set_option linter.unusedSimpArgs false

def upd (f : Nat → ItT) (j : Nat) (x : ItT) : Nat → ItT := fun k => if k = j then x else f k
/-- A row of items, as a function, at a block. -/
structure Rw (W0 : World) (g off n : Nat) (f : Nat → ItT) (W : World) : Prop where
  oo : Off (fun k => k = g) W0 W
  lt : g < W0.heap.size
  row : ∃ cur, W.heap[g]? = some (.cells cur 77) ∧ ∀ j, j < n → cur[off + j * 2]? = some (.string (f j).val) ∧ cur[off + j * 2 + 1]? = some (.int .i64 (f j).cnt)
theorem Rw.c0 {W0 W : World} {g off n j : Nat} {f : Nat → ItT} (h : Rw W0 g off n f W) (hj : j < n) : W.cell? ⟨g, off + j * 2, none⟩ = some (.string (f j).val) := by
  obtain ⟨cur, h1, h2⟩ := h.row
  simp only [World.cell?, h1]
  exact (h2 j hj).1
theorem Rw.c1 {W0 W : World} {g off n j : Nat} {f : Nat → ItT} (h : Rw W0 g off n f W) (hj : j < n) : W.cell? ⟨g, off + j * 2 + 1, none⟩ = some (.int .i64 (f j).cnt) := by
  obtain ⟨cur, h1, h2⟩ := h.row
  simp only [World.cell?, h1]
  exact (h2 j hj).2
theorem Rw.fz {W0 W : World} {g off n : Nat} {f : Nat → ItT} (h : Rw W0 g off n f W) (k : Nat) : W.frozen? ⟨g, k, none⟩ = false := by
  obtain ⟨cur, h1, h2⟩ := h.row
  simp [World.frozen?, h1]
theorem Rw.gt {W0 W : World} {g off n : Nat} {f : Nat → ItT} (h : Rw W0 g off n f W) : g < W.heap.size := Nat.lt_of_lt_of_le h.lt h.oo.size
theorem Rw.below {W0 W W' : World} {g off n : Nat} {f : Nat → ItT} (h : Rw W0 g off n f W) (hb : Below W.heap.size W W') : Rw W0 g off n f W' := by
  obtain ⟨cur, h1, h2⟩ := h.row
  exact ⟨⟨hb.os.trans h.oo.os, hb.tape.trans h.oo.tape, hb.output.trans h.oo.output, Nat.le_trans h.oo.size hb.size, fun k hk hn => (hb.block k (Nat.lt_of_lt_of_le hk h.oo.size)).trans (h.oo.block k hk hn)⟩, h.lt, cur, (hb.block g h.gt).trans h1, h2⟩
theorem Rw.put {W0 W : World} {g off n j : Nat} {f : Nat → ItT} (h : Rw W0 g off n f W) (x : ItT) (hj : j < n) :
    Rw W0 g off n (upd f j x) ((W.setCell ⟨g, off + j * 2, none⟩ (.string x.val)).setCell ⟨g, off + j * 2 + 1, none⟩ (.int .i64 x.cnt)) := by
  obtain ⟨cur, h1, h2⟩ := h.row
  have s1 := heap_setCell_same W g (off + j * 2) _ _ (.string x.val) h1
  have s2 := heap_setCell_same _ g (off + j * 2 + 1) _ _ (.int .i64 x.cnt) s1
  refine ⟨⟨h.oo.os, h.oo.tape, h.oo.output, by simpa [World.setCell] using h.oo.size, fun k hk hn => ?_⟩, h.lt, _, s2, fun i hi => ?_⟩
  · exact (heap_setCell_other _ _ _ _ hn).trans ((heap_setCell_other _ _ _ _ hn).trans (h.oo.block k hk hn))
  · have z0 : off + j * 2 < cur.size := (Array.getElem?_eq_some_iff.1 (h2 j hj).1).1
    have z1 : off + j * 2 + 1 < cur.size := (Array.getElem?_eq_some_iff.1 (h2 j hj).2).1
    unfold upd
    simp only [Array.set!_eq_setIfInBounds, Array.getElem?_setIfInBounds, Array.size_setIfInBounds]
    by_cases e : i = j
    · subst e
      rw [if_pos rfl, if_neg (by omega), if_pos rfl, if_pos z0, if_pos rfl, if_pos z1]
      exact ⟨rfl, rfl⟩
    · rw [if_neg e]
      repeat rw [if_neg (by omega)]
      exact h2 i hi
theorem Rw.congr {W0 W : World} {g off n : Nat} {f f' : Nat → ItT} (h : Rw W0 g off n f W) (he : ∀ k, k < n → f k = f' k) : Rw W0 g off n f' W := by
  obtain ⟨cur, h1, h2⟩ := h.row
  exact ⟨h.oo, h.lt, cur, h1, fun j hj => by rw [← he j hj]; exact h2 j hj⟩
def swp (f : Nat → ItT) (i j : Nat) : Nat → ItT := fun k => if k = i then f j else if k = j then f i else f k
theorem swp_a (f : Nat → ItT) (i j : Nat) (h : i ≠ j) : upd (upd f i (f j)) j (f i) = swp f i j := by
  funext k
  unfold upd swp
  by_cases e1 : k = i
  · subst e1; simp [h]
  · by_cases e2 : k = j
    · subst e2; simp [e1]
    · simp [e1, e2]
theorem swp_b (f : Nat → ItT) (i j : Nat) (h : i ≠ j) : upd (upd f j (f i)) i (f j) = swp f i j := by
  funext k
  unfold upd swp
  by_cases e1 : k = i
  · simp [e1]
  · simp [e1]
def itV (x : ItT) : Value := .agg #[.string x.val, .int .i64 x.cnt]
def CmpP (x y : ItT) (w : World) (e : Ending) (w' : World) : Prop := ∃ r : Int, e = .returned (.int .i64 r) ∧ (r < 0 ↔ ltT x y = true) ∧ Below w.heap.size w w'
theorem cmp_any (x y : ItT) (w : World) : Calls Try.prog 28 #[.agg #[.string x.val, .int .i64 x.cnt], .agg #[.string y.val, .int .i64 y.cnt]] w (CmpP x y w) := by
  have HB := Lib.hid (fun o o' => ((Below.refl w.heap.size w).alloc (Nat.le_refl _) o).alloc (by simp) o')
  obtain ⟨c, hc⟩ : ∃ c, x.cnt = c := ⟨_, rfl⟩
  obtain ⟨d, hd⟩ : ∃ d, y.cnt = d := ⟨_, rfl⟩
  have HL : Hid (ltT x y = decide (d < c)) := Lib.hid (by unfold ltT; rw [hc, hd])
  rw [hc, hd]
  clear hc hd
  go_enter Try.func28, Try.ntmps28
  go_wp2_with (fail)
  all_goals (go_ret; refine ⟨_, rfl, ?_, HB.out _ _⟩; rw [HL.out, decide_eq_true_eq]; omega)

def insF (F : Nat → ItT) (i j : Nat) : Nat → ItT := fun k => if k = j then F i else if j < k ∧ k ≤ i then F (k - 1) else F k
theorem insF_self (F : Nat → ItT) (i : Nat) : insF F i i = F := by
  funext k
  unfold insF
  by_cases e : k = i
  · rw [if_pos e, e]
  · rw [if_neg e, if_neg (by omega)]
theorem insF_at (F : Nat → ItT) (i j : Nat) : insF F i j j = F i := by unfold insF; rw [if_pos rfl]
theorem insF_lo (F : Nat → ItT) {i j k : Nat} (h : k < j) : insF F i j k = F k := by unfold insF; rw [if_neg (by omega), if_neg (by omega)]
theorem insF_swp (F : Nat → ItT) {i q : Nat} (h : q + 1 ≤ i) : swp (insF F i (q + 1)) (q + 1) q = insF F i q := by
  funext k
  unfold swp
  rw [insF_at, insF_lo F (by omega)]
  by_cases e1 : k = q + 1
  · subst e1
    rw [if_pos rfl]
    unfold insF
    rw [if_neg (by omega), if_pos (by omega)]
    rfl
  · rw [if_neg e1]
    by_cases e2 : k = q
    · rw [if_pos e2, e2, insF_at]
    · rw [if_neg e2]
      unfold insF
      rw [if_neg e1, if_neg e2]
      by_cases e3 : q + 1 < k ∧ k ≤ i
      · rw [if_pos e3, if_pos (by omega)]
      · rw [if_neg e3, if_neg (by omega)]
theorem insF_seg (F : Nat → ItT) {a i j : Nat} (h1 : a ≤ j) (h2 : j ≤ i) (hs : srt (seg F a (i - a))) (hlo : j = a ∨ ltT (F i) (F (j - 1)) = false) (hhi : ∀ k, j ≤ k → k < i → ltT (F i) (F k) = true) :
    seg (insF F i j) a (i + 1 - a) = insT (seg F a (i - a)) (F i) := by
  have e1 : seg F a (i - a) = seg F a (j - a) ++ seg F j (i - j) := by
    have := seg_app F a (j - a) (i - j)
    rwa [show j - a + (i - j) = i - a by omega, show a + (j - a) = j by omega] at this
  have e2 : seg (insF F i j) a (i + 1 - a) = seg (insF F i j) a (j - a) ++ (seg (insF F i j) j 1 ++ seg (insF F i j) (j + 1) (i - j)) := by
    have h3 := seg_app (insF F i j) a (j - a) (1 + (i - j))
    rw [seg_app (insF F i j) (a + (j - a)) 1 (i - j)] at h3
    rwa [show j - a + (1 + (i - j)) = i + 1 - a by omega, show a + (j - a) = j by omega] at h3
  rw [e1, e2, insT_at]
  · rw [seg_one, insF_at]
    congr 1
    · exact seg_congr fun k hk => insF_lo F (by omega)
    · show F i :: _ = F i :: _
      congr 1
      refine seg_congr fun k hk => ?_
      unfold insF
      rw [if_neg (by omega), if_pos (by omega)]
      congr 1
      omega
  · intro y hy
    obtain ⟨k, hk, rfl⟩ := seg_mem hy
    rcases hlo with h | h
    · omega
    · exact ltT_neg h (seg_srt_le hs (by omega) (by omega) (by omega))
  · intro y hy
    obtain ⟨k, hk, rfl⟩ := seg_mem hy
    exact hhi _ (by omega) (by omega)
theorem isort_snoc' (f : Nat → ItT) (L : List ItT) (k : Nat) : isort (L ++ seg f k 1) = insT (isort L) (f k) := isort_snoc L (f k)

set_option maxHeartbeats 6400000 in
set_option maxRecDepth 100000 in
theorem inss_any {W0 w : World} {g off n c : Nat} {f0 : Nat → ItT} (h : Rw W0 g off n f0 w) (a b : Nat) (hab : a ≤ b) (hbn : b ≤ n) (hn : n ≤ 1152921504606846976) :
    Calls Try.prog 58 #[.slice (some ⟨g, off, none⟩) n c, .int .i64 a, .int .i64 b, .func (.func 28) #[] #[]] w
      fun e w' => e = .returned (.tuple #[]) ∧ ∃ f, Rw W0 g off n f w' ∧ seg f a (b - a) = isort (seg f0 a (b - a)) ∧ ∀ k, (k < a ∨ b ≤ k) → f k = f0 k := by
  have HR := Lib.hid h
  clear h
  go_enter Try.func58, Try.ntmps58
  go_wp2_with (fail)
  go_loopw [8, 9] (fun s8 _ wr => ∃ (i : Nat) (F : Nat → ItT), a + 1 ≤ i ∧ (i ≤ b ∨ i = a + 1) ∧ s8 = .int .i64 i ∧ Hid (Rw W0 g off n F wr) ∧ Hid (seg F a (i - a) = isort (seg f0 a (i - a)) ∧ ∀ k, (k < a ∨ i ≤ k) → F k = f0 k)) (fun s8 _ _ => b - (intOf s8).toNat)
  case atStart => exact ⟨a + 1, f0, Nat.le_refl _, Or.inr rfl, by go_num, HR, Lib.hid ⟨by rw [show a + 1 - a = 1 by omega, seg_one]; rfl, fun k _ => rfl⟩⟩
  case round =>
    rename World => wy
    obtain ⟨i, F, hi1, hi2, rfl, HF, HG⟩ := hrel
    by_cases hlt : i < b
    · have i1 : (i : Int) < b := by omega
      go_wp2_with (fail)
      go_loopw [9] (fun s9 wr => ∃ j : Nat, a ≤ j ∧ j ≤ i ∧ s9 = .int .i64 j ∧ Hid (Rw W0 g off n (insF F i j) wr) ∧ Hid (∀ k, j ≤ k → k < i → ltT (F i) (F k) = true)) (fun s9 _ => (intOf s9).toNat)
      case atStart => exact ⟨i, by omega, Nat.le_refl _, rfl, Lib.hid (by rw [insF_self]; exact HF.out), Lib.hid (fun k _ _ => by omega)⟩
      case round =>
        rename World => wr
        obtain ⟨j, hj1, hj2, rfl, HJ, HK⟩ := hrel
        by_cases hja : j = a
        · have j1 : ¬ (a : Int) < j := by omega
          go_wp2_with (fail)
          refine wp_region_noPanic ?_
          refine wp_region_held_drew (S := fun wx => Below wr.heap.size wr wx) (by kernel_rfl) ?_ (fun hHeld => ?_)
          · exact (Below.refl _ _).drew
          refine wpAnyH_take (i := 0) (v := ?_) rfl (by kernel_rfl) (by kernel_rfl) (by kernel_rfl) (fun _ _ _ h => h) (Or.inl ⟨by rfl, ?hy⟩) (by assumption) ?_
          case hy => intro w hSw; (try dsimp only at hSw); go_simp; try with_reducible rfl
          try simp only [Act.put, List.getElem_toArray, List.getElem_cons_succ, List.getElem_cons_zero, List.setIfInBounds_toArray, List.set_cons_zero, List.set_cons_succ]
          refine wpAnyH_take (i := 1) (v := ?_) rfl (by kernel_rfl) (by kernel_rfl) (by kernel_rfl) (fun _ _ _ h => h) (Or.inl ⟨by rfl, ?hy⟩) (by assumption) ?_
          case hy => intro w hSw; (try dsimp only at hSw); go_simp; try with_reducible rfl
          try simp only [Act.put, List.getElem_toArray, List.getElem_cons_succ, List.getElem_cons_zero, List.setIfInBounds_toArray, List.set_cons_zero, List.set_cons_succ]
          refine wpAnyH_take (i := 2) (v := ?_) rfl (by kernel_rfl) (by kernel_rfl) (by kernel_rfl) (fun _ _ _ h => h) (Or.inl ⟨by rfl, ?hy⟩) (by assumption) ?_
          case hy => intro w hSw; (try dsimp only at hSw); go_simp; try with_reducible rfl
          try simp only [Act.put, List.getElem_toArray, List.getElem_cons_succ, List.getElem_cons_zero, List.setIfInBounds_toArray, List.set_cons_zero, List.set_cons_succ]
          refine wpAnyH_take (i := 3) (v := ?_) rfl (by kernel_rfl) (by kernel_rfl) (by kernel_rfl) (fun _ _ _ h => h) (Or.inl ⟨by rfl, ?hy⟩) (by assumption) ?_
          case hy => intro w hSw; (try dsimp only at hSw); go_simp; try with_reducible rfl
          try simp only [Act.put, List.getElem_toArray, List.getElem_cons_succ, List.getElem_cons_zero, List.setIfInBounds_toArray, List.set_cons_zero, List.set_cons_succ]
          refine wpAnyH_take (i := 4) (v := undef) rfl (by kernel_rfl) (by kernel_rfl) (by kernel_rfl) (fun _ _ _ h => h) (Or.inr ⟨by rfl, rfl⟩) (by assumption) ?_
          try simp only [Act.put, List.getElem_toArray, List.getElem_cons_succ, List.getElem_cons_zero, List.setIfInBounds_toArray, List.set_cons_zero, List.set_cons_succ]
          refine wpAnyH_take (i := 5) (v := undef) rfl (by kernel_rfl) (by kernel_rfl) (by kernel_rfl) (fun _ _ _ h => h) (Or.inr ⟨by rfl, rfl⟩) (by assumption) ?_
          try simp only [Act.put, List.getElem_toArray, List.getElem_cons_succ, List.getElem_cons_zero, List.setIfInBounds_toArray, List.set_cons_zero, List.set_cons_succ]
          refine wpAnyH_take (i := 6) (v := undef) rfl (by kernel_rfl) (by kernel_rfl) (by kernel_rfl) (fun _ _ _ h => h) (Or.inr ⟨by rfl, rfl⟩) (by assumption) ?_
          try simp only [Act.put, List.getElem_toArray, List.getElem_cons_succ, List.getElem_cons_zero, List.setIfInBounds_toArray, List.set_cons_zero, List.set_cons_succ]
          refine wpAnyH_take (i := 7) (v := undef) rfl (by kernel_rfl) (by kernel_rfl) (by kernel_rfl) (fun _ _ _ h => h) (Or.inr ⟨by rfl, rfl⟩) (by assumption) ?_
          try simp only [Act.put, List.getElem_toArray, List.getElem_cons_succ, List.getElem_cons_zero, List.setIfInBounds_toArray, List.set_cons_zero, List.set_cons_succ]
          refine wpAnyH_take (i := 8) (v := undef) rfl (by kernel_rfl) (by kernel_rfl) (by kernel_rfl) (fun _ _ _ h => h) (Or.inr ⟨by rfl, rfl⟩) (by assumption) ?_
          try simp only [Act.put, List.getElem_toArray, List.getElem_cons_succ, List.getElem_cons_zero, List.setIfInBounds_toArray, List.set_cons_zero, List.set_cons_succ]
          refine wpAnyH_take (i := 9) (v := undef) rfl (by kernel_rfl) (by kernel_rfl) (by kernel_rfl) (fun _ _ _ h => h) (Or.inr ⟨by rfl, rfl⟩) (by assumption) ?_
          try simp only [Act.put, List.getElem_toArray, List.getElem_cons_succ, List.getElem_cons_zero, List.setIfInBounds_toArray, List.set_cons_zero, List.set_cons_succ]
          refine wpAnyH_take (i := 10) (v := undef) rfl (by kernel_rfl) (by kernel_rfl) (by kernel_rfl) (fun _ _ _ h => h) (Or.inr ⟨by rfl, rfl⟩) (by assumption) ?_
          try simp only [Act.put, List.getElem_toArray, List.getElem_cons_succ, List.getElem_cons_zero, List.setIfInBounds_toArray, List.set_cons_zero, List.set_cons_succ]
          refine wpAnyH_take (i := 11) (v := undef) rfl (by kernel_rfl) (by kernel_rfl) (by kernel_rfl) (fun _ _ _ h => h) (Or.inr ⟨by rfl, rfl⟩) (by assumption) ?_
          try simp only [Act.put, List.getElem_toArray, List.getElem_cons_succ, List.getElem_cons_zero, List.setIfInBounds_toArray, List.set_cons_zero, List.set_cons_succ]
          refine wpAnyH_take (i := 12) (v := undef) rfl (by kernel_rfl) (by kernel_rfl) (by kernel_rfl) (fun _ _ _ h => h) (Or.inr ⟨by rfl, rfl⟩) (by assumption) ?_
          try simp only [Act.put, List.getElem_toArray, List.getElem_cons_succ, List.getElem_cons_zero, List.setIfInBounds_toArray, List.set_cons_zero, List.set_cons_succ]
          refine wpAnyH_take (i := 13) (v := undef) rfl (by kernel_rfl) (by kernel_rfl) (by kernel_rfl) (fun _ _ _ h => h) (Or.inr ⟨by rfl, rfl⟩) (by assumption) ?_
          try simp only [Act.put, List.getElem_toArray, List.getElem_cons_succ, List.getElem_cons_zero, List.setIfInBounds_toArray, List.set_cons_zero, List.set_cons_succ]
          refine wpAnyH_ready (rs := [14]) (by kernel_rfl) (by simp) (AllReadyH.cons rfl (fun K hK => ?_) AllReadyH.nil)
          rw [if_neg (by exact Bool.false_ne_true)]
          refine hK.out _ _ hHeld (fun hHeld => ?_)
          clear hK K
          try simp only [Act.put, List.getElem_toArray, List.getElem_cons_succ, List.getElem_cons_zero, List.setIfInBounds_toArray, List.set_cons_zero, List.set_cons_succ]
          refine wpAnyH_take (i := 15) (v := undef) rfl (by kernel_rfl) (by kernel_rfl) (by kernel_rfl) (fun _ _ _ h => h) (Or.inr ⟨by rfl, rfl⟩) (by assumption) ?_
          try simp only [Act.put, List.getElem_toArray, List.getElem_cons_succ, List.getElem_cons_zero, List.setIfInBounds_toArray, List.set_cons_zero, List.set_cons_succ]
          refine wpAnyH_take (i := 16) (v := ?_) rfl (by kernel_rfl) (by kernel_rfl) (by kernel_rfl) (fun _ _ _ h => h) (Or.inl ⟨by rfl, ?hy⟩) (by assumption) ?_
          case hy => intro w hSw; (try dsimp only at hSw); go_simp; try with_reducible rfl
          try simp only [Act.put, List.getElem_toArray, List.getElem_cons_succ, List.getElem_cons_zero, List.setIfInBounds_toArray, List.set_cons_zero, List.set_cons_succ]
          refine wpAnyH_done (by kernel_rfl) ?_ _
          refine NoPanic.normal ?_
          have HW := Lib.hid hHeld
          clear hHeld
          go_wp2_with (fail)
          refine ⟨⟨i + 1, insF F i j, by omega, Or.inl (by omega), by go_num, Lib.hid (HJ.out.below HW.out), Lib.hid ⟨?_, fun k hk => ?_⟩⟩, by first | (simp [intOf]; done) | (simp [intOf]; omega)⟩
          · rw [insF_seg F hj1 hj2 (by rw [HG.out.1]; exact srt_isort _) (Or.inl hja) HK.out, HG.out.1, HG.out.2 i (Or.inr (Nat.le_refl _)), show i + 1 - a = (i - a) + 1 by omega, seg_app, isort_snoc', show a + (i - a) = i by omega]
          · have := HG.out.2 k (by omega)
            unfold insF
            rw [if_neg (by omega), if_neg (by omega)]
            exact this
        · obtain ⟨q, rfl⟩ : ∃ q, j = q + 1 := ⟨j - 1, by omega⟩
          have j1 : (a : Int) < (q : Int) + 1 := by omega
          have j2 : (0 : Int) ≤ (q : Int) + 1 := by omega
          have j3 : (q : Int) + 1 < n := by omega
          have j4 : (0 : Int) ≤ (q : Int) := by omega
          have j5 : (q : Int) < n := by omega
          have j6 : IntKind.i64.wrap (q : Int) = q := by rw [IntKind.wrap_i64]; omega
          obtain ⟨x, hx⟩ : ∃ x, F i = x := ⟨_, rfl⟩
          obtain ⟨y, hy⟩ : ∃ y, F q = y := ⟨_, rfl⟩
          have HX := Lib.hid hx
          have HY := Lib.hid hy
          have HSB : Hid (∀ wx, Below wr.heap.size wr wx → (wx.cell? ⟨g, off + (q + 1) * 2, none⟩ = some (.string x.val) ∧ wx.cell? ⟨g, off + (q + 1) * 2 + 1, none⟩ = some (.int .i64 x.cnt) ∧ wx.cell? ⟨g, off + q * 2, none⟩ = some (.string y.val) ∧ wx.cell? ⟨g, off + q * 2 + 1, none⟩ = some (.int .i64 y.cnt)) ∧ Below wr.heap.size wr wx) := fun wx hb => by
            have hR := HJ.out.below hb
            have e1 : insF F i (q + 1) (q + 1) = x := by rw [insF_at, hx]
            have e2 : insF F i (q + 1) q = y := by rw [insF_lo F (by omega), hy]
            have p1 := hR.c0 (j := q + 1) (by omega)
            have p2 := hR.c1 (j := q + 1) (by omega)
            have p3 := hR.c0 (j := q) (by omega)
            have p4 := hR.c1 (j := q) (by omega)
            rw [e1] at p1 p2
            rw [e2] at p3 p4
            exact ⟨⟨p1, p2, p3, p4⟩, hb⟩
          clear hx hy
          go_wp2_with (fail)
          refine wp_region_noPanic ?_
          refine wp_region_held_drew (S := fun wx => (wx.cell? ⟨g, off + (q + 1) * 2, none⟩ = some (.string x.val) ∧ wx.cell? ⟨g, off + (q + 1) * 2 + 1, none⟩ = some (.int .i64 x.cnt) ∧ wx.cell? ⟨g, off + q * 2, none⟩ = some (.string y.val) ∧ wx.cell? ⟨g, off + q * 2 + 1, none⟩ = some (.int .i64 y.cnt)) ∧ Below wr.heap.size wr wx) (by kernel_rfl) ?_ (fun hHeld => ?_)
          · exact HSB.out _ (Below.refl _ _).drew
          refine wpAnyH_take (i := 0) (v := ?_) rfl (by kernel_rfl) (by kernel_rfl) (by kernel_rfl) (fun _ _ _ h => h) (Or.inl ⟨by rfl, ?hy⟩) (by assumption) ?_
          case hy => intro w hSw; (try dsimp only at hSw); go_simp; try with_reducible rfl
          try simp only [Act.put, List.getElem_toArray, List.getElem_cons_succ, List.getElem_cons_zero, List.setIfInBounds_toArray, List.set_cons_zero, List.set_cons_succ]
          refine wpAnyH_take (i := 1) (v := ?_) rfl (by kernel_rfl) (by kernel_rfl) (by kernel_rfl) (fun _ _ _ h => h) (Or.inl ⟨by rfl, ?hy⟩) (by assumption) ?_
          case hy => intro w hSw; (try dsimp only at hSw); go_simp; try with_reducible rfl
          try simp only [Act.put, List.getElem_toArray, List.getElem_cons_succ, List.getElem_cons_zero, List.setIfInBounds_toArray, List.set_cons_zero, List.set_cons_succ]
          refine wpAnyH_take (i := 2) (v := ?_) rfl (by kernel_rfl) (by kernel_rfl) (by kernel_rfl) (fun _ _ _ h => h) (Or.inl ⟨by rfl, ?hy⟩) (by assumption) ?_
          case hy => intro w hSw; (try dsimp only at hSw); go_simp; try with_reducible rfl
          try simp only [Act.put, List.getElem_toArray, List.getElem_cons_succ, List.getElem_cons_zero, List.setIfInBounds_toArray, List.set_cons_zero, List.set_cons_succ]
          refine wpAnyH_take (i := 3) (v := ?_) rfl (by kernel_rfl) (by kernel_rfl) (by kernel_rfl) (fun _ _ _ h => h) (Or.inl ⟨by rfl, ?hy⟩) (by assumption) ?_
          case hy => intro w hSw; (try dsimp only at hSw); go_simp; try with_reducible rfl
          try simp only [Act.put, List.getElem_toArray, List.getElem_cons_succ, List.getElem_cons_zero, List.setIfInBounds_toArray, List.set_cons_zero, List.set_cons_succ]
          refine wpAnyH_take (i := 4) (v := ?_) rfl (by kernel_rfl) (by kernel_rfl) (by kernel_rfl) (fun _ _ _ h => h) (Or.inl ⟨by rfl, ?hy⟩) (by assumption) ?_
          case hy => intro w hSw; (try dsimp only at hSw); go_simp; try with_reducible rfl
          try simp only [Act.put, List.getElem_toArray, List.getElem_cons_succ, List.getElem_cons_zero, List.setIfInBounds_toArray, List.set_cons_zero, List.set_cons_succ]
          refine wpAnyH_take (i := 5) (v := ?_) rfl (by kernel_rfl) (by kernel_rfl) (by kernel_rfl) (fun _ _ _ h => h) (Or.inl ⟨by rfl, ?hy⟩) (by assumption) ?_
          case hy => intro w hSw; (try dsimp only at hSw); go_simp; try with_reducible rfl
          try simp only [Act.put, List.getElem_toArray, List.getElem_cons_succ, List.getElem_cons_zero, List.setIfInBounds_toArray, List.set_cons_zero, List.set_cons_succ]
          refine wpAnyH_take (i := 6) (v := ?_) rfl (by kernel_rfl) (by kernel_rfl) (by kernel_rfl) (fun _ _ _ h => h) (Or.inl ⟨by rfl, ?hy⟩) (by assumption) ?_
          case hy => intro w hSw; (try dsimp only at hSw); go_simp; try with_reducible rfl
          try simp only [Act.put, List.getElem_toArray, List.getElem_cons_succ, List.getElem_cons_zero, List.setIfInBounds_toArray, List.set_cons_zero, List.set_cons_succ]
          refine wpAnyH_take (i := 7) (v := ?_) rfl (by kernel_rfl) (by kernel_rfl) (by kernel_rfl) (fun _ _ _ h => h) (Or.inl ⟨by rfl, ?hy⟩) (by assumption) ?_
          case hy => intro w hSw; (try dsimp only at hSw); go_simp; try with_reducible rfl
          try simp only [Act.put, List.getElem_toArray, List.getElem_cons_succ, List.getElem_cons_zero, List.setIfInBounds_toArray, List.set_cons_zero, List.set_cons_succ]
          refine wpAnyH_take (i := 8) (v := ?_) rfl (by kernel_rfl) (by kernel_rfl) (by kernel_rfl) (fun _ _ _ h => h) (Or.inl ⟨by rfl, ?hy⟩) (by assumption) ?_
          case hy => intro w hSw; (try dsimp only at hSw); go_simp; try with_reducible rfl
          try simp only [Act.put, List.getElem_toArray, List.getElem_cons_succ, List.getElem_cons_zero, List.setIfInBounds_toArray, List.set_cons_zero, List.set_cons_succ]
          refine wpAnyH_take (i := 9) (v := ?_) rfl (by kernel_rfl) (by kernel_rfl) (by kernel_rfl) (fun _ _ _ h => h) (Or.inl ⟨by rfl, ?hy⟩) (by assumption) ?_
          case hy => intro w hSw; (try dsimp only at hSw); go_simp; try with_reducible rfl
          try simp only [Act.put, List.getElem_toArray, List.getElem_cons_succ, List.getElem_cons_zero, List.setIfInBounds_toArray, List.set_cons_zero, List.set_cons_succ]
          refine wpAnyH_take (i := 10) (v := ?_) rfl (by kernel_rfl) (by kernel_rfl) (by kernel_rfl) (fun _ _ _ h => h) (Or.inl ⟨by rfl, ?hy⟩) (by assumption) ?_
          case hy => intro w hSw; (try dsimp only at hSw); go_simp; try with_reducible rfl
          try simp only [Act.put, List.getElem_toArray, List.getElem_cons_succ, List.getElem_cons_zero, List.setIfInBounds_toArray, List.set_cons_zero, List.set_cons_succ]
          refine wpAnyH_take (i := 11) (v := ?_) rfl (by kernel_rfl) (by kernel_rfl) (by kernel_rfl) (fun _ _ _ h => h) (Or.inl ⟨by rfl, ?hy⟩) (by assumption) ?_
          case hy => intro w hSw; (try dsimp only at hSw); go_simp; try with_reducible rfl
          try simp only [Act.put, List.getElem_toArray, List.getElem_cons_succ, List.getElem_cons_zero, List.setIfInBounds_toArray, List.set_cons_zero, List.set_cons_succ]
          refine wpAnyH_take (i := 12) (v := ?_) rfl (by kernel_rfl) (by kernel_rfl) (by kernel_rfl) (fun _ _ _ h => h) (Or.inl ⟨by rfl, ?hy⟩) (by assumption) ?_
          case hy => intro w hSw; (try dsimp only at hSw); go_simp; try with_reducible rfl
          try simp only [Act.put, List.getElem_toArray, List.getElem_cons_succ, List.getElem_cons_zero, List.setIfInBounds_toArray, List.set_cons_zero, List.set_cons_succ]
          refine wpAnyH_take (i := 13) (v := ?_) rfl (by kernel_rfl) (by kernel_rfl) (by kernel_rfl) (fun _ _ _ h => h) (Or.inl ⟨by rfl, ?hy⟩) (by assumption) ?_
          case hy => intro w hSw; (try dsimp only at hSw); go_simp; try with_reducible rfl
          try simp only [Act.put, List.getElem_toArray, List.getElem_cons_succ, List.getElem_cons_zero, List.setIfInBounds_toArray, List.set_cons_zero, List.set_cons_succ]
          refine wpAnyH_ready (rs := [14]) (by kernel_rfl) (by simp) (AllReadyH.cons rfl (fun K hK => ?_) AllReadyH.nil)
          go_simp
          refine (cmp_any x y _).mono ?_; rintro e wc ⟨r, rfl, hr, hbc⟩
          try (go_wp2_with fail)
          refine hK.out _ _ ?_ (fun hHeld => ?_)
          · exact HSB.out _ (hHeld.2.trans (hbc.mono hHeld.2.size))
          clear hK K
          try simp only [Act.put, List.getElem_toArray, List.getElem_cons_succ, List.getElem_cons_zero, List.setIfInBounds_toArray, List.set_cons_zero, List.set_cons_succ]
          refine wpAnyH_take (i := 15) (v := ?_) rfl (by kernel_rfl) (by kernel_rfl) (by kernel_rfl) (fun _ _ _ h => h) (Or.inl ⟨by rfl, ?hy⟩) (by assumption) ?_
          case hy => intro w hSw; (try dsimp only at hSw); go_simp; try with_reducible rfl
          try simp only [Act.put, List.getElem_toArray, List.getElem_cons_succ, List.getElem_cons_zero, List.setIfInBounds_toArray, List.set_cons_zero, List.set_cons_succ]
          refine wpAnyH_take (i := 16) (v := ?_) rfl (by kernel_rfl) (by kernel_rfl) (by kernel_rfl) (fun _ _ _ h => h) (Or.inl ⟨by rfl, ?hy⟩) (by assumption) ?_
          case hy => intro w hSw; (try dsimp only at hSw); go_simp; try with_reducible rfl
          try simp only [Act.put, List.getElem_toArray, List.getElem_cons_succ, List.getElem_cons_zero, List.setIfInBounds_toArray, List.set_cons_zero, List.set_cons_succ]
          refine wpAnyH_done (by kernel_rfl) ?_ _
          refine NoPanic.normal ?_
          have HRW := Lib.hid (HJ.out.below hHeld.2)
          obtain ⟨⟨p1, p2, p3, p4⟩, -⟩ := hHeld
          clear hbc hr HSB
          cases hxy : ltT x y
          · go_wp2_with (fail)
            refine ⟨⟨i + 1, insF F i (q + 1), by omega, Or.inl (by omega), by go_num, HRW, Lib.hid ⟨?_, fun k hk => ?_⟩⟩, by first | (simp [intOf]; done) | (simp [intOf]; omega)⟩
            · rw [insF_seg F hj1 hj2 (by rw [HG.out.1]; exact srt_isort _) (Or.inr (by rw [HX.out, Nat.add_sub_cancel, HY.out]; exact hxy)) HK.out, HG.out.1, HG.out.2 i (Or.inr (Nat.le_refl _)), show i + 1 - a = (i - a) + 1 by omega, seg_app, isort_snoc', show a + (i - a) = i by omega]
            · have := HG.out.2 k (by omega)
              unfold insF
              rw [if_neg (by omega), if_neg (by omega)]
              exact this
          · have f1 := HRW.out.fz
            have z1 := f1 (off + (q + 1) * 2)
            have z2 := f1 (off + (q + 1) * 2 + 1)
            have z3 := f1 (off + q * 2)
            have z4 := f1 (off + q * 2 + 1)
            clear f1
            go_wp2_with (fail)
            go_region
            have hP := (HRW.out.put y (j := q + 1) (by omega)).put x (j := q) (by omega)
            have hE : upd (upd (insF F i (q + 1)) (q + 1) y) q x = insF F i q := by
              have h := swp_a (insF F i (q + 1)) (q + 1) q (by omega)
              rwa [insF_at, insF_lo F (by omega), HX.out, HY.out, insF_swp F hj2] at h
            rw [hE] at hP
            have HP := Lib.hid (hP.below (Below.refl _ _).drew)
            clear hP hE
            generalize World.drew _ = wf at *
            go_wp2_with (fail)
            refine ⟨⟨q, by omega, by omega, by go_num, HP, Lib.hid fun k h1 h2 => ?_⟩, by first | (simp [intOf]; done) | (simp [intOf]; omega)⟩
            by_cases e : k = q
            · rw [e, HX.out, HY.out]; exact hxy
            · exact HK.out k (by omega) h2
    · go_wp2_with (fail)
      go_end0
      refine ⟨rfl, F, HF.out, ?_, fun k hk => ?_⟩
      · by_cases e : i = b
        · rw [← e]; exact HG.out.1
        · rw [show b - a = 0 by omega]; rfl
      · by_cases e : i = b
        · exact HG.out.2 k (by omega)
        · by_cases e2 : k = a
          · have h := HG.out.1
            rw [show i - a = 1 by omega, seg_one] at h
            rw [e2]
            exact (List.cons.inj h).1
          · exact HG.out.2 k (by omega)
end Go.Proofs.Ytockmgcgifhepaa

/- slices.SortStableFunc at items: swapRange, rotate. -/
namespace Go.Proofs.Ytockmgcgifhepaa
open Go.RowKit
set_option linter.unusedVariables false
set_option linter.unusedSimpArgs false

def swR (f : Nat → ItT) (a b n : Nat) : Nat → ItT := fun k => if a ≤ k ∧ k < a + n then f (k - a + b) else if b ≤ k ∧ k < b + n then f (k - b + a) else f k
theorem swR_zero (f : Nat → ItT) (a b : Nat) : swR f a b 0 = f := by funext k; unfold swR; rw [if_neg (by omega), if_neg (by omega)]
theorem swR_a (f : Nat → ItT) {a b i : Nat} (h : a + i < b) : swR f a b i (a + i) = f (a + i) := by unfold swR; rw [if_neg (by omega), if_neg (by omega)]
theorem swR_b (f : Nat → ItT) {a b i : Nat} (h : a + i < b) : swR f a b i (b + i) = f (b + i) := by unfold swR; rw [if_neg (by omega), if_neg (by omega)]
theorem swR_next (f : Nat → ItT) {a b i : Nat} (h : a + i < b) : swp (swR f a b i) (a + i) (b + i) = swR f a b (i + 1) := by
  funext k
  unfold swp
  rw [swR_a f h, swR_b f h]
  unfold swR
  repeat' split
  all_goals first | rfl | (exfalso; omega) | (congr 1; omega)
def rotF (f : Nat → ItT) (a m b : Nat) : Nat → ItT := fun k => if a ≤ k ∧ k < a + (b - m) then f (k - a + m) else if a + (b - m) ≤ k ∧ k < b then f (k - (a + (b - m)) + a) else f k
theorem rot_end (f : Nat → ItT) {m i : Nat} (h : i ≤ m) : swR f (m - i) m i = rotF f (m - i) m (m + i) := by
  funext k
  unfold swR rotF
  repeat' split
  all_goals first | rfl | (exfalso; omega) | (congr 1; omega)
theorem rot_gt (f : Nat → ItT) {m i j : Nat} (h : i ≤ m) (h2 : j < i) : rotF (swR f (m - i) m j) (m - (i - j)) m (m + j) = rotF f (m - i) m (m + j) := by
  funext k
  unfold rotF swR
  repeat' split
  all_goals first | rfl | (exfalso; omega) | (congr 1; omega)
theorem rot_lt (f : Nat → ItT) {m i j : Nat} (h : i ≤ m) (h2 : i < j) : rotF (swR f (m - i) (m + j - i) i) (m - i) m (m + (j - i)) = rotF f (m - i) m (m + j) := by
  funext k
  unfold rotF swR
  repeat' split
  all_goals first | rfl | (exfalso; omega) | (congr 1; omega)

set_option maxHeartbeats 6400000 in
set_option maxRecDepth 100000 in
theorem swr_any {W0 w : World} {g off n c : Nat} {f0 : Nat → ItT} (h : Rw W0 g off n f0 w) (a b m : Nat) (hab : a + m ≤ b) (hbn : b + m ≤ n) (hn : n ≤ 1152921504606846976) :
    Calls Try.prog 61 #[.slice (some ⟨g, off, none⟩) n c, .int .i64 a, .int .i64 b, .int .i64 m, .func (.func 28) #[] #[]] w
      fun e w' => e = .returned (.tuple #[]) ∧ Rw W0 g off n (swR f0 a b m) w' := by
  have HR := Lib.hid h
  clear h
  go_enter Try.func61, Try.ntmps61
  go_wp2_with (fail)
  go_loopw [10] (fun s wr => ∃ i : Nat, i ≤ m ∧ s = .int .i64 i ∧ Hid (Rw W0 g off n (swR f0 a b i) wr)) (fun s _ => m - (intOf s).toNat)
  case atStart => exact ⟨0, Nat.zero_le _, rfl, Lib.hid (by rw [swR_zero]; exact HR.out)⟩
  case round =>
    rename World => wr
    obtain ⟨i, hi, rfl, HJ⟩ := hrel
    by_cases hlt : i < m
    · have i1 : (i : Int) < m := by omega
      obtain ⟨u, hu⟩ : ∃ u, a + i = u := ⟨_, rfl⟩
      obtain ⟨v, hv⟩ : ∃ v, b + i = v := ⟨_, rfl⟩
      obtain ⟨x, hx⟩ : ∃ x, f0 u = x := ⟨_, rfl⟩
      obtain ⟨y, hy⟩ : ∃ y, f0 v = y := ⟨_, rfl⟩
      have q1 : (0 : Int) ≤ u := by omega
      have q2 : (u : Int) < n := by omega
      have q3 : (0 : Int) ≤ v := by omega
      have q4 : (v : Int) < n := by omega
      have n1 : ¬ u = v := by omega
      have n2 : ¬ v = u := by omega
      have q5 : IntKind.i64.wrap ((a : Int) + (i : Int)) = u := by rw [IntKind.wrap_i64]; omega
      have q6 : IntKind.i64.wrap ((b : Int) + (i : Int)) = v := by rw [IntKind.wrap_i64]; omega
      have ex : swR f0 a b i u = x := by rw [← hu, swR_a f0 (by omega), hu, hx]
      have ey : swR f0 a b i v = y := by rw [← hv, swR_b f0 (by omega), hv, hy]
      have p1 := HJ.out.c0 (j := u) (by omega)
      have p2 := HJ.out.c1 (j := u) (by omega)
      have p3 := HJ.out.c0 (j := v) (by omega)
      have p4 := HJ.out.c1 (j := v) (by omega)
      rw [ex] at p1 p2
      rw [ey] at p3 p4
      have f1 := HJ.out.fz
      have z1 := f1 (off + u * 2)
      have z2 := f1 (off + u * 2 + 1)
      have z3 := f1 (off + v * 2)
      have z4 := f1 (off + v * 2 + 1)
      have hP := (HJ.out.put y (j := u) (by omega)).put x (j := v) (by omega)
      have hE : upd (upd (swR f0 a b i) u y) v x = swR f0 a b (i + 1) := by
        have h := swp_a (swR f0 a b i) u v (by omega)
        rw [ex, ey] at h
        rw [h, ← hu, ← hv]
        exact swR_next f0 (by omega)
      rw [hE] at hP
      have HP := Lib.hid (hP.below (Below.refl _ _).drew)
      clear hP hE f1 ex ey hu hv hx hy
      go_wp2_with (fail)
      go_region
      generalize World.drew _ = wf at *
      go_wp2_with (fail)
      exact ⟨⟨i + 1, by omega, by go_num, HP⟩, by first | (simp [intOf]; done) | (simp [intOf]; omega)⟩
    · have him : i = m := by omega
      go_wp2_with (fail)
      go_end0
      rw [him] at HJ
      exact ⟨rfl, HJ.out⟩

set_option maxHeartbeats 6400000 in
set_option maxRecDepth 100000 in
theorem rot_any {W0 w : World} {g off n c : Nat} {f0 : Nat → ItT} (h : Rw W0 g off n f0 w) (a m b : Nat) (ham : a < m) (hmb : m < b) (hbn : b ≤ n) (hn : n ≤ 1152921504606846976) :
    Calls Try.prog 60 #[.slice (some ⟨g, off, none⟩) n c, .int .i64 a, .int .i64 m, .int .i64 b, .func (.func 28) #[] #[]] w
      fun e w' => e = .returned (.tuple #[]) ∧ Rw W0 g off n (rotF f0 a m b) w' := by
  have HR := Lib.hid h
  clear h
  obtain ⟨i0, hi0⟩ : ∃ i0, m - a = i0 := ⟨_, rfl⟩
  obtain ⟨j0, hj0⟩ : ∃ j0, b - m = j0 := ⟨_, rfl⟩
  have r1 : (m : Int) - a = i0 := by omega
  have r2 : (b : Int) - m = j0 := by omega
  have HI0 := Lib.hid hi0
  have HJ0 := Lib.hid hj0
  clear hi0 hj0
  go_enter Try.func60, Try.ntmps60
  go_wp2_with (fail)
  clear r1 r2
  go_loopw [10, 11] (fun s t wr => ∃ (i j : Nat) (F : Nat → ItT), 1 ≤ i ∧ 1 ≤ j ∧ i ≤ m ∧ m + j ≤ n ∧ s = .int .i64 i ∧ t = .int .i64 j ∧ Hid (Rw W0 g off n F wr) ∧ Hid (rotF F (m - i) m (m + j) = rotF f0 a m b)) (fun s t _ => (intOf s).toNat + (intOf t).toNat)
  case atStart => exact ⟨i0, j0, f0, by have := HI0.out; omega, by have := HJ0.out; omega, by have := HI0.out; omega, by have := HJ0.out; omega, rfl, rfl, HR, Lib.hid (by rw [← HI0.out, ← HJ0.out, show m - (m - a) = a by omega, show m + (b - m) = b by omega])⟩
  case round =>
    rename World => wr
    obtain ⟨i, j, F, h1, h2, h3, h4, rfl, rfl, HJ, HQ⟩ := hrel
    obtain ⟨u, hu⟩ : ∃ u, m - i = u := ⟨_, rfl⟩
    have r3 : (m : Int) - i = u := by omega
    rcases Nat.lt_trichotomy i j with hc | hc | hc
    · have c1 : ¬ (i : Int) = j := by omega
      have c2 : ¬ (j : Int) < i := by omega
      obtain ⟨v, hv⟩ : ∃ v, m + j - i = v := ⟨_, rfl⟩
      have r4 : (m : Int) + j - i = v := by omega
      obtain ⟨k, hk⟩ : ∃ k, j - i = k := ⟨_, rfl⟩
      have r5 : (j : Int) - i = k := by omega
      have HC := Lib.hid (swr_any (c := c) HJ.out u v i (by omega) (by omega) hn)
      have HE := Lib.hid (rot_lt F h3 hc)
      rw [hu, hv, hk] at HE
      have HU := Lib.hid hu
      have HK := Lib.hid hk
      clear hu hv hk
      go_wp2_with (fail)
      refine HC.out.mono ?_
      rintro e w2 ⟨rfl, hw2⟩
      have HW2 := Lib.hid hw2
      clear hw2
      go_wp2_with (fail)
      refine ⟨⟨i, k, swR F u v i, h1, by have := HK.out; omega, h3, by have := HK.out; omega, rfl, rfl, HW2, Lib.hid ?_⟩, ?_⟩
      · rw [HU.out, HE.out, ← HQ.out, HU.out]
      · have := HK.out; simp [intOf]; omega
    · subst hc
      have HC := Lib.hid (swr_any (c := c) HJ.out u m i (by omega) (by omega) hn)
      have HE := Lib.hid (rot_end F h3)
      rw [hu] at HE
      have HU := Lib.hid hu
      clear hu
      go_wp2_with (fail)
      refine HC.out.mono ?_
      rintro e w2 ⟨rfl, hw2⟩
      have HW2 := Lib.hid hw2
      clear hw2
      go_wp2_with (fail)
      go_end0
      refine ⟨rfl, ?_⟩
      have h := HW2.out
      rw [HE.out, ← HU.out, HQ.out] at h
      exact h
    · have c1 : ¬ (i : Int) = j := by omega
      have c2 : (j : Int) < i := by omega
      obtain ⟨k, hk⟩ : ∃ k, i - j = k := ⟨_, rfl⟩
      have r5 : (i : Int) - j = k := by omega
      have HC := Lib.hid (swr_any (c := c) HJ.out u m j (by omega) (by omega) hn)
      have HE := Lib.hid (rot_gt F h3 hc)
      rw [hu, hk] at HE
      have HU := Lib.hid hu
      have HK := Lib.hid hk
      clear hu hk
      go_wp2_with (fail)
      refine HC.out.mono ?_
      rintro e w2 ⟨rfl, hw2⟩
      have HW2 := Lib.hid hw2
      clear hw2
      go_wp2_with (fail)
      refine ⟨⟨k, j, swR F u m j, by have := HK.out; omega, h2, by have := HK.out; omega, h4, rfl, rfl, HW2, Lib.hid ?_⟩, ?_⟩
      · rw [HE.out, ← HQ.out, HU.out]
      · have := HK.out; simp [intOf]; omega
end Go.Proofs.Ytockmgcgifhepaa

/- slices.SortStableFunc at items: symMerge, where one of the two is of one item. -/
namespace Go.Proofs.Ytockmgcgifhepaa
open Go.RowKit
set_option linter.unusedVariables false
set_option linter.unusedSimpArgs false

theorem merge_one (x : ItT) (A B : List ItT) (h1 : ∀ y ∈ A, ltT y x = true) (h2 : ∀ y ∈ B, ltT y x = false) : mergeT [x] (A ++ B) = A ++ x :: B := by
  have e1 := merge_split [] A [x] B (fun z hz y hy => by rw [List.mem_singleton.1 hz]; exact h1 y hy) (fun z hz => by cases hz)
  have e2 := merge_split [x] [] [] B (fun z hz => by cases hz) (fun z hz y hy => by rw [List.mem_singleton.1 hz]; exact h2 y hy)
  rw [mergeT_nil] at e1
  rw [mergeT_nil, mergeT_nil2] at e2
  simp only [List.nil_append, List.append_nil] at e1 e2
  rw [e1, e2]; rfl
theorem merge_last (L : List ItT) (x : ItT) : mergeT L [x] = insT L x := by
  have h := merge_ins L [] x
  rw [mergeT_nil2] at h
  exact h
def shL (f : Nat → ItT) (a k : Nat) : Nat → ItT := fun t => if a ≤ t ∧ t < k then f (t + 1) else if t = k then f a else f t
theorem shL_self (f : Nat → ItT) (a : Nat) : shL f a a = f := by
  funext t
  unfold shL
  rw [if_neg (by omega)]
  by_cases e : t = a
  · rw [if_pos e, e]
  · rw [if_neg e]
theorem shL_at (f : Nat → ItT) (a k : Nat) : shL f a k k = f a := by unfold shL; rw [if_neg (by omega), if_pos rfl]
theorem shL_hi (f : Nat → ItT) {a k t : Nat} (h : k < t) : shL f a k t = f t := by unfold shL; rw [if_neg (by omega), if_neg (by omega)]
theorem shL_next (f : Nat → ItT) {a k : Nat} (h : a ≤ k) : swp (shL f a k) k (k + 1) = shL f a (k + 1) := by
  funext t
  unfold swp
  rw [shL_at, shL_hi f (Nat.lt_succ_self k)]
  unfold shL
  repeat' split
  all_goals first | rfl | (exfalso; omega) | (congr 1; omega)
theorem shL_seg (f : Nat → ItT) {a i b : Nat} (h1 : a + 1 ≤ i) (h2 : i ≤ b) (hA : ∀ k, a + 1 ≤ k → k < i → ltT (f k) (f a) = true) (hB : ∀ k, i ≤ k → k < b → ltT (f k) (f a) = false) :
    seg (shL f a (i - 1)) a (b - a) = mergeT (seg f a 1) (seg f (a + 1) (b - (a + 1))) := by
  have e1 : seg f (a + 1) (b - (a + 1)) = seg f (a + 1) (i - (a + 1)) ++ seg f i (b - i) := by
    have := seg_app f (a + 1) (i - (a + 1)) (b - i)
    rwa [show i - (a + 1) + (b - i) = b - (a + 1) by omega, show a + 1 + (i - (a + 1)) = i by omega] at this
  have e2 : seg (shL f a (i - 1)) a (b - a) = seg (shL f a (i - 1)) a (i - (a + 1)) ++ (seg (shL f a (i - 1)) (i - 1) 1 ++ seg (shL f a (i - 1)) i (b - i)) := by
    have h3 := seg_app (shL f a (i - 1)) a (i - (a + 1)) (1 + (b - i))
    rw [seg_app (shL f a (i - 1)) (a + (i - (a + 1))) 1 (b - i)] at h3
    rwa [show i - (a + 1) + (1 + (b - i)) = b - a by omega, show a + (i - (a + 1)) = i - 1 by omega, show i - 1 + 1 = i by omega] at h3
  rw [seg_one, e1, merge_one, e2, seg_one, shL_at]
  · congr 1
    · refine seg_congr fun k hk => ?_
      unfold shL
      rw [if_pos (by omega)]
      congr 1
      omega
    · show f a :: _ = f a :: _
      congr 1
      exact seg_congr fun k hk => shL_hi f (by omega)
  · intro y hy
    obtain ⟨k, hk, rfl⟩ := seg_mem hy
    exact hA _ (by omega) (by omega)
  · intro y hy
    obtain ⟨k, hk, rfl⟩ := seg_mem hy
    exact hB _ (by omega) (by omega)

set_option maxHeartbeats 6400000 in
set_option maxRecDepth 100000 in
theorem sym1_any {W0 w : World} {g off n c : Nat} {f0 : Nat → ItT} (h : Rw W0 g off n f0 w) (a m b : Nat) (ham : a < m) (hmb : m < b) (hbn : b ≤ n) (hn : n ≤ 1152921504606846976) (h1 : m = a + 1) (hs : srt (seg f0 m (b - m))) :
    Calls Try.prog 59 #[.slice (some ⟨g, off, none⟩) n c, .int .i64 a, .int .i64 m, .int .i64 b, .func (.func 28) #[] #[]] w
      fun e w' => e = .returned (.tuple #[]) ∧ ∃ f, Rw W0 g off n f w' ∧ seg f a (b - a) = mergeT (seg f0 a (m - a)) (seg f0 m (b - m)) ∧ ∀ k, (k < a ∨ b ≤ k) → f k = f0 k := by
  have HR := Lib.hid h
  have HS := Lib.hid hs
  have HM := Lib.hid h1
  have r1 : (m : Int) - a = 1 := by omega
  clear h hs h1
  go_enter Try.func59, Try.ntmps59
  go_wp2_with (fail)
  clear r1
  go_loopw [10, 11, 12] (fun s t _ wr => ∃ i j : Nat, m ≤ i ∧ i ≤ j ∧ j ≤ b ∧ s = .int .i64 i ∧ t = .int .i64 j ∧ Hid (Rw W0 g off n f0 wr) ∧ Hid ((∀ k, m ≤ k → k < i → ltT (f0 k) (f0 a) = true) ∧ (∀ k, j ≤ k → k < b → ltT (f0 k) (f0 a) = false))) (fun s t _ _ => (intOf t).toNat - (intOf s).toNat)
  case atStart => exact ⟨m, b, Nat.le_refl _, by omega, Nat.le_refl _, rfl, rfl, HR, Lib.hid ⟨fun k h1 h2 => by omega, fun k h1 h2 => by omega⟩⟩
  case round =>
    rename World => wr
    obtain ⟨i, j, h2, h3, h4, rfl, rfl, HJ, HK⟩ := hrel
    by_cases hlt : i < j
    · have i1 : (i : Int) < j := by omega
      obtain ⟨hh, hhh⟩ : ∃ hh, (i + j) / 2 = hh := ⟨_, rfl⟩
      have b1 : i ≤ hh := by omega
      have b2 : hh < j := by omega
      have r2 : ((i : Int) + (j : Int)) / 2 = hh := by omega
      have q1 : (0 : Int) ≤ hh := by omega
      have q2 : (hh : Int) < n := by omega
      have q3 : (0 : Int) ≤ a := by omega
      have q4 : (a : Int) < n := by omega
      clear hhh
      obtain ⟨x, hx⟩ : ∃ x, f0 hh = x := ⟨_, rfl⟩
      obtain ⟨y, hy⟩ : ∃ y, f0 a = y := ⟨_, rfl⟩
      have HSB : Hid (∀ wx, Below wr.heap.size wr wx → (wx.cell? ⟨g, off + hh * 2, none⟩ = some (.string x.val) ∧ wx.cell? ⟨g, off + hh * 2 + 1, none⟩ = some (.int .i64 x.cnt) ∧ wx.cell? ⟨g, off + a * 2, none⟩ = some (.string y.val) ∧ wx.cell? ⟨g, off + a * 2 + 1, none⟩ = some (.int .i64 y.cnt)) ∧ Below wr.heap.size wr wx) := fun wx hb => by
        have hR := HJ.out.below hb
        have p1 := hR.c0 (j := hh) (by omega)
        have p2 := hR.c1 (j := hh) (by omega)
        have p3 := hR.c0 (j := a) (by omega)
        have p4 := hR.c1 (j := a) (by omega)
        rw [hx] at p1 p2
        rw [hy] at p3 p4
        exact ⟨⟨p1, p2, p3, p4⟩, hb⟩
      have HX := Lib.hid hx
      have HY := Lib.hid hy
      clear hx hy
      go_wp2_with (fail)
      refine wp_region_noPanic ?_
      refine wp_region_held_drew (S := fun wx => (wx.cell? ⟨g, off + hh * 2, none⟩ = some (.string x.val) ∧ wx.cell? ⟨g, off + hh * 2 + 1, none⟩ = some (.int .i64 x.cnt) ∧ wx.cell? ⟨g, off + a * 2, none⟩ = some (.string y.val) ∧ wx.cell? ⟨g, off + a * 2 + 1, none⟩ = some (.int .i64 y.cnt)) ∧ Below wr.heap.size wr wx) (by kernel_rfl) ?_ (fun hHeld => ?_)
      · exact HSB.out _ (Below.refl _ _).drew
      refine wpAnyH_take (i := 0) (v := ?_) rfl (by kernel_rfl) (by kernel_rfl) (by kernel_rfl) (fun _ _ _ h => h) (Or.inl ⟨by rfl, ?hy⟩) (by assumption) ?_
      case hy => intro w hSw; (try dsimp only at hSw); go_simp; try with_reducible rfl
      try simp only [Act.put, List.getElem_toArray, List.getElem_cons_succ, List.getElem_cons_zero, List.setIfInBounds_toArray, List.set_cons_zero, List.set_cons_succ]
      refine wpAnyH_take (i := 1) (v := ?_) rfl (by kernel_rfl) (by kernel_rfl) (by kernel_rfl) (fun _ _ _ h => h) (Or.inl ⟨by rfl, ?hy⟩) (by assumption) ?_
      case hy => intro w hSw; (try dsimp only at hSw); go_simp; try with_reducible rfl
      try simp only [Act.put, List.getElem_toArray, List.getElem_cons_succ, List.getElem_cons_zero, List.setIfInBounds_toArray, List.set_cons_zero, List.set_cons_succ]
      refine wpAnyH_take (i := 2) (v := ?_) rfl (by kernel_rfl) (by kernel_rfl) (by kernel_rfl) (fun _ _ _ h => h) (Or.inl ⟨by rfl, ?hy⟩) (by assumption) ?_
      case hy => intro w hSw; (try dsimp only at hSw); go_simp; try with_reducible rfl
      try simp only [Act.put, List.getElem_toArray, List.getElem_cons_succ, List.getElem_cons_zero, List.setIfInBounds_toArray, List.set_cons_zero, List.set_cons_succ]
      refine wpAnyH_take (i := 3) (v := ?_) rfl (by kernel_rfl) (by kernel_rfl) (by kernel_rfl) (fun _ _ _ h => h) (Or.inl ⟨by rfl, ?hy⟩) (by assumption) ?_
      case hy => intro w hSw; (try dsimp only at hSw); go_simp; try with_reducible rfl
      try simp only [Act.put, List.getElem_toArray, List.getElem_cons_succ, List.getElem_cons_zero, List.setIfInBounds_toArray, List.set_cons_zero, List.set_cons_succ]
      refine wpAnyH_take (i := 4) (v := ?_) rfl (by kernel_rfl) (by kernel_rfl) (by kernel_rfl) (fun _ _ _ h => h) (Or.inl ⟨by rfl, ?hy⟩) (by assumption) ?_
      case hy => intro w hSw; (try dsimp only at hSw); go_simp; try with_reducible rfl
      try simp only [Act.put, List.getElem_toArray, List.getElem_cons_succ, List.getElem_cons_zero, List.setIfInBounds_toArray, List.set_cons_zero, List.set_cons_succ]
      refine wpAnyH_take (i := 5) (v := ?_) rfl (by kernel_rfl) (by kernel_rfl) (by kernel_rfl) (fun _ _ _ h => h) (Or.inl ⟨by rfl, ?hy⟩) (by assumption) ?_
      case hy => intro w hSw; (try dsimp only at hSw); go_simp; try with_reducible rfl
      try simp only [Act.put, List.getElem_toArray, List.getElem_cons_succ, List.getElem_cons_zero, List.setIfInBounds_toArray, List.set_cons_zero, List.set_cons_succ]
      refine wpAnyH_take (i := 6) (v := ?_) rfl (by kernel_rfl) (by kernel_rfl) (by kernel_rfl) (fun _ _ _ h => h) (Or.inl ⟨by rfl, ?hy⟩) (by assumption) ?_
      case hy => intro w hSw; (try dsimp only at hSw); go_simp; try with_reducible rfl
      try simp only [Act.put, List.getElem_toArray, List.getElem_cons_succ, List.getElem_cons_zero, List.setIfInBounds_toArray, List.set_cons_zero, List.set_cons_succ]
      refine wpAnyH_take (i := 7) (v := ?_) rfl (by kernel_rfl) (by kernel_rfl) (by kernel_rfl) (fun _ _ _ h => h) (Or.inl ⟨by rfl, ?hy⟩) (by assumption) ?_
      case hy => intro w hSw; (try dsimp only at hSw); go_simp; try with_reducible rfl
      try simp only [Act.put, List.getElem_toArray, List.getElem_cons_succ, List.getElem_cons_zero, List.setIfInBounds_toArray, List.set_cons_zero, List.set_cons_succ]
      refine wpAnyH_take (i := 8) (v := ?_) rfl (by kernel_rfl) (by kernel_rfl) (by kernel_rfl) (fun _ _ _ h => h) (Or.inl ⟨by rfl, ?hy⟩) (by assumption) ?_
      case hy => intro w hSw; (try dsimp only at hSw); go_simp; try with_reducible rfl
      try simp only [Act.put, List.getElem_toArray, List.getElem_cons_succ, List.getElem_cons_zero, List.setIfInBounds_toArray, List.set_cons_zero, List.set_cons_succ]
      refine wpAnyH_ready (rs := [9]) (by kernel_rfl) (by simp) (AllReadyH.cons rfl (fun K hK => ?_) AllReadyH.nil)
      go_simp
      refine (cmp_any x y _).mono ?_; rintro e wc ⟨r, rfl, hr, hbc⟩
      try (go_wp2_with fail)
      refine hK.out _ _ ?_ (fun hHeld => ?_)
      · exact HSB.out _ (hHeld.2.trans (hbc.mono hHeld.2.size))
      clear hK K
      try simp only [Act.put, List.getElem_toArray, List.getElem_cons_succ, List.getElem_cons_zero, List.setIfInBounds_toArray, List.set_cons_zero, List.set_cons_succ]
      refine wpAnyH_take (i := 10) (v := ?_) rfl (by kernel_rfl) (by kernel_rfl) (by kernel_rfl) (fun _ _ _ h => h) (Or.inl ⟨by rfl, ?hy⟩) (by assumption) ?_
      case hy => intro w hSw; (try dsimp only at hSw); go_simp; try with_reducible rfl
      try simp only [Act.put, List.getElem_toArray, List.getElem_cons_succ, List.getElem_cons_zero, List.setIfInBounds_toArray, List.set_cons_zero, List.set_cons_succ]
      refine wpAnyH_done (by kernel_rfl) ?_ _
      refine NoPanic.normal ?_
      have HRW := Lib.hid (HJ.out.below hHeld.2)
      clear hHeld hbc hr HSB
      try clear hHeld
      try clear hHeld
      cases hxy : ltT x y
      · go_wp2_with (fail)
        refine ⟨⟨i, hh, h2, b1, by omega, rfl, rfl, HRW, Lib.hid ⟨HK.out.1, fun k k1 k2 => ?_⟩⟩, by first | (simp [intOf]; done) | (simp [intOf]; omega)⟩
        refine ltT_neg (seg_srt_le HS.out (by omega) k1 (by omega)) ?_
        rw [HX.out, HY.out]; exact hxy
      · go_wp2_with (fail)
        refine ⟨⟨hh + 1, j, by omega, by omega, h4, by go_num, rfl, HRW, Lib.hid ⟨fun k k1 k2 => ?_, HK.out.2⟩⟩, by first | (simp [intOf]; done) | (simp [intOf]; omega)⟩
        refine ltT_r (x := f0 hh) ?_ (seg_srt_le HS.out k1 (by omega) (by omega))
        rw [HX.out, HY.out]; exact hxy
    · obtain ⟨p, hp⟩ : ∃ p, i = p + 1 := ⟨i - 1, by omega⟩
      have r3 : (i : Int) - 1 = p := by omega
      have hjb : i = j := by omega
      have HP := Lib.hid hp
      have HJB := Lib.hid hjb
      clear hp hjb
      go_wp2_with (fail)
      go_loopw [13] (fun s wr => ∃ k : Nat, a ≤ k ∧ k ≤ p ∧ s = .int .i64 k ∧ Hid (Rw W0 g off n (shL f0 a k) wr)) (fun s _ => p - (intOf s).toNat)
      case atStart => exact ⟨a, Nat.le_refl _, by have := HP.out; have := HM.out; omega, rfl, Lib.hid (by rw [shL_self]; exact HJ.out)⟩
      case round =>
        rename World => wr
        clear HJ
        obtain ⟨k, k1, k2, rfl, HJ⟩ := hrel
        by_cases hlk : k < p
        · have i1 : (k : Int) < p := by omega
          obtain ⟨v, hv⟩ : ∃ v, k + 1 = v := ⟨_, rfl⟩
          obtain ⟨x, hx⟩ : ∃ x, f0 a = x := ⟨_, rfl⟩
          obtain ⟨y, hy⟩ : ∃ y, f0 v = y := ⟨_, rfl⟩
          have hvn : v < n := by have := HP.out; omega
          have q1 : (0 : Int) ≤ k := by omega
          have q2 : (k : Int) < n := by omega
          have q3 : (0 : Int) ≤ v := by omega
          have q4 : (v : Int) < n := by omega
          have n1 : ¬ k = v := by omega
          have n2 : ¬ v = k := by omega
          have q6 : IntKind.i64.wrap ((k : Int) + 1) = v := by rw [IntKind.wrap_i64]; omega
          have ex : shL f0 a k k = x := by rw [shL_at, hx]
          have ey : shL f0 a k v = y := by rw [shL_hi f0 (by omega), hy]
          have p1 := HJ.out.c0 (j := k) (by omega)
          have p2 := HJ.out.c1 (j := k) (by omega)
          have p3 := HJ.out.c0 (j := v) (by omega)
          have p4 := HJ.out.c1 (j := v) (by omega)
          rw [ex] at p1 p2
          rw [ey] at p3 p4
          have f1 := HJ.out.fz
          have z1 := f1 (off + k * 2)
          have z2 := f1 (off + k * 2 + 1)
          have z3 := f1 (off + v * 2)
          have z4 := f1 (off + v * 2 + 1)
          have hP := (HJ.out.put y (j := k) (by omega)).put x (j := v) (by omega)
          have hE : upd (upd (shL f0 a k) k y) v x = shL f0 a (k + 1) := by
            have h := swp_a (shL f0 a k) k v (by omega)
            rw [ex, ey] at h
            rw [h, ← hv]
            exact shL_next f0 k1
          rw [hE] at hP
          have HQ := Lib.hid (hP.below (Below.refl _ _).drew)
          have HV := Lib.hid hv
          rw [hv] at HQ
          clear hP hE f1 ex ey hv hx hy
          go_wp2_with (fail)
          go_region
          generalize World.drew _ = wf at *
          go_wp2_with (fail)
          exact ⟨⟨v, by have := HV.out; omega, by have := HV.out; omega, rfl, HQ⟩, by have := HV.out; simp [intOf]; omega⟩
        · have hkp : k = p := by omega
          go_wp2_with (fail)
          refine bodyPost_ret (results_none rfl _ _ _) rfl ?_
          refine ⟨rfl, _, HJ.out, ?_, fun t ht => ?_⟩
          · rw [hkp, show p = i - 1 by rw [HP.out]; rfl, HM.out, show a + 1 - a = 1 by omega]
            refine shL_seg f0 (by have := HP.out; omega) (by omega) ?_ ?_
            · exact fun t t1 t2 => HK.out.1 t (by have := HM.out; omega) t2
            · exact fun t t1 t2 => HK.out.2 t (by have := HJB.out; omega) t2
          · rw [hkp]
            unfold shL
            have := HP.out
            rw [if_neg (by omega), if_neg (by omega)]

set_option maxHeartbeats 6400000 in
set_option maxRecDepth 100000 in
theorem sym2_any {W0 w : World} {g off n c : Nat} {f0 : Nat → ItT} (h : Rw W0 g off n f0 w) (a m b : Nat) (ham : a < m) (hmb : m < b) (hbn : b ≤ n) (hn : n ≤ 1152921504606846976) (h0 : m ≠ a + 1) (h1 : b = m + 1) (hs : srt (seg f0 a (m - a))) :
    Calls Try.prog 59 #[.slice (some ⟨g, off, none⟩) n c, .int .i64 a, .int .i64 m, .int .i64 b, .func (.func 28) #[] #[]] w
      fun e w' => e = .returned (.tuple #[]) ∧ ∃ f, Rw W0 g off n f w' ∧ seg f a (b - a) = mergeT (seg f0 a (m - a)) (seg f0 m (b - m)) ∧ ∀ k, (k < a ∨ b ≤ k) → f k = f0 k := by
  have HR := Lib.hid h
  have HS := Lib.hid hs
  have HM := Lib.hid h1
  have r0 : ((m : Int) - (a : Int) == 1) = false := beq_eq_false_iff_ne.2 (by omega)
  have r1 : (b : Int) - m = 1 := by omega
  clear h hs h1 h0
  go_enter Try.func59, Try.ntmps59
  go_wp2_with (fail)
  clear r1 r0
  go_loopw [14, 15, 16] (fun s t _ wr => ∃ i j : Nat, a ≤ i ∧ i ≤ j ∧ j ≤ m ∧ s = .int .i64 i ∧ t = .int .i64 j ∧ Hid (Rw W0 g off n f0 wr) ∧ Hid ((∀ k, a ≤ k → k < i → ltT (f0 m) (f0 k) = false) ∧ (∀ k, j ≤ k → k < m → ltT (f0 m) (f0 k) = true))) (fun s t _ _ => (intOf t).toNat - (intOf s).toNat)
  case atStart => exact ⟨a, m, Nat.le_refl _, by omega, Nat.le_refl _, rfl, rfl, HR, Lib.hid ⟨fun k h1 h2 => by omega, fun k h1 h2 => by omega⟩⟩
  case round =>
    rename World => wr
    obtain ⟨i, j, h2, h3, h4, rfl, rfl, HJ, HK⟩ := hrel
    by_cases hlt : i < j
    · have i1 : (i : Int) < j := by omega
      obtain ⟨hh, hhh⟩ : ∃ hh, (i + j) / 2 = hh := ⟨_, rfl⟩
      have b1 : i ≤ hh := by omega
      have b2 : hh < j := by omega
      have r2 : ((i : Int) + (j : Int)) / 2 = hh := by omega
      have q1 : (0 : Int) ≤ hh := by omega
      have q2 : (hh : Int) < n := by omega
      have q3 : (0 : Int) ≤ m := by omega
      have q4 : (m : Int) < n := by omega
      clear hhh
      obtain ⟨x, hx⟩ : ∃ x, f0 m = x := ⟨_, rfl⟩
      obtain ⟨y, hy⟩ : ∃ y, f0 hh = y := ⟨_, rfl⟩
      have HSB : Hid (∀ wx, Below wr.heap.size wr wx → (wx.cell? ⟨g, off + m * 2, none⟩ = some (.string x.val) ∧ wx.cell? ⟨g, off + m * 2 + 1, none⟩ = some (.int .i64 x.cnt) ∧ wx.cell? ⟨g, off + hh * 2, none⟩ = some (.string y.val) ∧ wx.cell? ⟨g, off + hh * 2 + 1, none⟩ = some (.int .i64 y.cnt)) ∧ Below wr.heap.size wr wx) := fun wx hb => by
        have hR := HJ.out.below hb
        have p1 := hR.c0 (j := m) (by omega)
        have p2 := hR.c1 (j := m) (by omega)
        have p3 := hR.c0 (j := hh) (by omega)
        have p4 := hR.c1 (j := hh) (by omega)
        rw [hx] at p1 p2
        rw [hy] at p3 p4
        exact ⟨⟨p1, p2, p3, p4⟩, hb⟩
      have HX := Lib.hid hx
      have HY := Lib.hid hy
      clear hx hy
      go_wp2_with (fail)
      refine wp_region_noPanic ?_
      refine wp_region_held_drew (S := fun wx => (wx.cell? ⟨g, off + m * 2, none⟩ = some (.string x.val) ∧ wx.cell? ⟨g, off + m * 2 + 1, none⟩ = some (.int .i64 x.cnt) ∧ wx.cell? ⟨g, off + hh * 2, none⟩ = some (.string y.val) ∧ wx.cell? ⟨g, off + hh * 2 + 1, none⟩ = some (.int .i64 y.cnt)) ∧ Below wr.heap.size wr wx) (by kernel_rfl) ?_ (fun hHeld => ?_)
      · exact HSB.out _ (Below.refl _ _).drew
      refine wpAnyH_take (i := 0) (v := ?_) rfl (by kernel_rfl) (by kernel_rfl) (by kernel_rfl) (fun _ _ _ h => h) (Or.inl ⟨by rfl, ?hy⟩) (by assumption) ?_
      case hy => intro w hSw; (try dsimp only at hSw); go_simp; try with_reducible rfl
      try simp only [Act.put, List.getElem_toArray, List.getElem_cons_succ, List.getElem_cons_zero, List.setIfInBounds_toArray, List.set_cons_zero, List.set_cons_succ]
      refine wpAnyH_take (i := 1) (v := ?_) rfl (by kernel_rfl) (by kernel_rfl) (by kernel_rfl) (fun _ _ _ h => h) (Or.inl ⟨by rfl, ?hy⟩) (by assumption) ?_
      case hy => intro w hSw; (try dsimp only at hSw); go_simp; try with_reducible rfl
      try simp only [Act.put, List.getElem_toArray, List.getElem_cons_succ, List.getElem_cons_zero, List.setIfInBounds_toArray, List.set_cons_zero, List.set_cons_succ]
      refine wpAnyH_take (i := 2) (v := ?_) rfl (by kernel_rfl) (by kernel_rfl) (by kernel_rfl) (fun _ _ _ h => h) (Or.inl ⟨by rfl, ?hy⟩) (by assumption) ?_
      case hy => intro w hSw; (try dsimp only at hSw); go_simp; try with_reducible rfl
      try simp only [Act.put, List.getElem_toArray, List.getElem_cons_succ, List.getElem_cons_zero, List.setIfInBounds_toArray, List.set_cons_zero, List.set_cons_succ]
      refine wpAnyH_take (i := 3) (v := ?_) rfl (by kernel_rfl) (by kernel_rfl) (by kernel_rfl) (fun _ _ _ h => h) (Or.inl ⟨by rfl, ?hy⟩) (by assumption) ?_
      case hy => intro w hSw; (try dsimp only at hSw); go_simp; try with_reducible rfl
      try simp only [Act.put, List.getElem_toArray, List.getElem_cons_succ, List.getElem_cons_zero, List.setIfInBounds_toArray, List.set_cons_zero, List.set_cons_succ]
      refine wpAnyH_take (i := 4) (v := ?_) rfl (by kernel_rfl) (by kernel_rfl) (by kernel_rfl) (fun _ _ _ h => h) (Or.inl ⟨by rfl, ?hy⟩) (by assumption) ?_
      case hy => intro w hSw; (try dsimp only at hSw); go_simp; try with_reducible rfl
      try simp only [Act.put, List.getElem_toArray, List.getElem_cons_succ, List.getElem_cons_zero, List.setIfInBounds_toArray, List.set_cons_zero, List.set_cons_succ]
      refine wpAnyH_take (i := 5) (v := ?_) rfl (by kernel_rfl) (by kernel_rfl) (by kernel_rfl) (fun _ _ _ h => h) (Or.inl ⟨by rfl, ?hy⟩) (by assumption) ?_
      case hy => intro w hSw; (try dsimp only at hSw); go_simp; try with_reducible rfl
      try simp only [Act.put, List.getElem_toArray, List.getElem_cons_succ, List.getElem_cons_zero, List.setIfInBounds_toArray, List.set_cons_zero, List.set_cons_succ]
      refine wpAnyH_take (i := 6) (v := ?_) rfl (by kernel_rfl) (by kernel_rfl) (by kernel_rfl) (fun _ _ _ h => h) (Or.inl ⟨by rfl, ?hy⟩) (by assumption) ?_
      case hy => intro w hSw; (try dsimp only at hSw); go_simp; try with_reducible rfl
      try simp only [Act.put, List.getElem_toArray, List.getElem_cons_succ, List.getElem_cons_zero, List.setIfInBounds_toArray, List.set_cons_zero, List.set_cons_succ]
      refine wpAnyH_take (i := 7) (v := ?_) rfl (by kernel_rfl) (by kernel_rfl) (by kernel_rfl) (fun _ _ _ h => h) (Or.inl ⟨by rfl, ?hy⟩) (by assumption) ?_
      case hy => intro w hSw; (try dsimp only at hSw); go_simp; try with_reducible rfl
      try simp only [Act.put, List.getElem_toArray, List.getElem_cons_succ, List.getElem_cons_zero, List.setIfInBounds_toArray, List.set_cons_zero, List.set_cons_succ]
      refine wpAnyH_take (i := 8) (v := ?_) rfl (by kernel_rfl) (by kernel_rfl) (by kernel_rfl) (fun _ _ _ h => h) (Or.inl ⟨by rfl, ?hy⟩) (by assumption) ?_
      case hy => intro w hSw; (try dsimp only at hSw); go_simp; try with_reducible rfl
      try simp only [Act.put, List.getElem_toArray, List.getElem_cons_succ, List.getElem_cons_zero, List.setIfInBounds_toArray, List.set_cons_zero, List.set_cons_succ]
      refine wpAnyH_ready (rs := [9]) (by kernel_rfl) (by simp) (AllReadyH.cons rfl (fun K hK => ?_) AllReadyH.nil)
      go_simp
      refine (cmp_any x y _).mono ?_; rintro e wc ⟨r, rfl, hr, hbc⟩
      try (go_wp2_with fail)
      refine hK.out _ _ ?_ (fun hHeld => ?_)
      · exact HSB.out _ (hHeld.2.trans (hbc.mono hHeld.2.size))
      clear hK K
      try simp only [Act.put, List.getElem_toArray, List.getElem_cons_succ, List.getElem_cons_zero, List.setIfInBounds_toArray, List.set_cons_zero, List.set_cons_succ]
      refine wpAnyH_take (i := 10) (v := ?_) rfl (by kernel_rfl) (by kernel_rfl) (by kernel_rfl) (fun _ _ _ h => h) (Or.inl ⟨by rfl, ?hy⟩) (by assumption) ?_
      case hy => intro w hSw; (try dsimp only at hSw); go_simp; try with_reducible rfl
      try simp only [Act.put, List.getElem_toArray, List.getElem_cons_succ, List.getElem_cons_zero, List.setIfInBounds_toArray, List.set_cons_zero, List.set_cons_succ]
      refine wpAnyH_take (i := 11) (v := ?_) rfl (by kernel_rfl) (by kernel_rfl) (by kernel_rfl) (fun _ _ _ h => h) (Or.inl ⟨by rfl, ?hy⟩) (by assumption) ?_
      case hy => intro w hSw; (try dsimp only at hSw); go_simp; try with_reducible rfl
      try simp only [Act.put, List.getElem_toArray, List.getElem_cons_succ, List.getElem_cons_zero, List.setIfInBounds_toArray, List.set_cons_zero, List.set_cons_succ]
      refine wpAnyH_done (by kernel_rfl) ?_ _
      refine NoPanic.normal ?_
      have HRW := Lib.hid (HJ.out.below hHeld.2)
      clear hHeld hbc hr HSB
      try clear hHeld
      try clear hHeld
      cases hxy : ltT x y
      · simp only [Bool.not_false]
        go_wp2_with (fail)
        refine ⟨⟨hh + 1, j, by omega, by omega, h4, by go_num, rfl, HRW, Lib.hid ⟨fun k k1 k2 => ?_, HK.out.2⟩⟩, by first | (simp [intOf]; done) | (simp [intOf]; omega)⟩
        refine ltT_neg (y := f0 hh) ?_ (seg_srt_le HS.out k1 (by omega) (by omega))
        rw [HX.out, HY.out]; exact hxy
      · simp only [Bool.not_true]
        go_wp2_with (fail)
        refine ⟨⟨i, hh, h2, b1, by omega, rfl, rfl, HRW, Lib.hid ⟨HK.out.1, fun k k1 k2 => ?_⟩⟩, by first | (simp [intOf]; done) | (simp [intOf]; omega)⟩
        refine ltT_l (y := f0 hh) ?_ (seg_srt_le HS.out (by omega) k1 (by omega))
        rw [HX.out, HY.out]; exact hxy
    · have hjb : i = j := by omega
      have HJB := Lib.hid hjb
      clear hjb
      go_wp2_with (fail)
      go_loopw [17] (fun s wr => ∃ k : Nat, i ≤ k ∧ k ≤ m ∧ s = .int .i64 k ∧ Hid (Rw W0 g off n (insF f0 m k) wr)) (fun s _ => (intOf s).toNat)
      case atStart => exact ⟨m, by omega, Nat.le_refl _, rfl, Lib.hid (by rw [insF_self]; exact HJ.out)⟩
      case round =>
        rename World => wr
        clear HJ
        obtain ⟨k, k1, k2, rfl, HJ⟩ := hrel
        by_cases hlk : k = i
        · have i1 : ¬ (i : Int) < k := by omega
          go_wp2_with (fail)
          refine bodyPost_ret (results_none rfl _ _ _) rfl ?_
          refine ⟨rfl, _, HJ.out, ?_, fun t ht => ?_⟩
          · have hh1 := HM.out
            rw [hlk, hh1, show m + 1 - m = 1 by omega, seg_one, merge_last]
            refine insF_seg f0 h2 (by omega) HS.out ?_ ?_
            · by_cases e : i = a
              · exact Or.inl e
              · exact Or.inr (HK.out.1 (i - 1) (by omega) (by omega))
            · exact fun t t1 t2 => HK.out.2 t (by have := HJB.out; omega) t2
          · rw [hlk]
            unfold insF
            have := HM.out
            rw [if_neg (by omega), if_neg (by omega)]
        · obtain ⟨q, rfl⟩ : ∃ q, k = q + 1 := ⟨k - 1, by omega⟩
          have i1 : (i : Int) < (q : Int) + 1 := by omega
          obtain ⟨x, hx⟩ : ∃ x, f0 m = x := ⟨_, rfl⟩
          obtain ⟨y, hy⟩ : ∃ y, f0 q = y := ⟨_, rfl⟩
          have q1 : (0 : Int) ≤ (q : Int) + 1 := by omega
          have q2 : (q : Int) + 1 < n := by omega
          have q3 : (0 : Int) ≤ q := by omega
          have q4 : (q : Int) < n := by omega
          have q6 : IntKind.i64.wrap (q : Int) = q := by rw [IntKind.wrap_i64]; omega
          have ex : insF f0 m (q + 1) (q + 1) = x := by rw [insF_at, hx]
          have ey : insF f0 m (q + 1) q = y := by rw [insF_lo f0 (by omega), hy]
          have p1 := HJ.out.c0 (j := (q + 1)) (by omega)
          have p2 := HJ.out.c1 (j := (q + 1)) (by omega)
          have p3 := HJ.out.c0 (j := q) (by omega)
          have p4 := HJ.out.c1 (j := q) (by omega)
          rw [ex] at p1 p2
          rw [ey] at p3 p4
          have f1 := HJ.out.fz
          have z1 := f1 (off + (q + 1) * 2)
          have z2 := f1 (off + (q + 1) * 2 + 1)
          have z3 := f1 (off + q * 2)
          have z4 := f1 (off + q * 2 + 1)
          have hP := (HJ.out.put y (j := (q + 1)) (by omega)).put x (j := q) (by omega)
          have hE : upd (upd (insF f0 m (q + 1)) (q + 1) y) q x = insF f0 m q := by
            have h := swp_a (insF f0 m (q + 1)) (q + 1) q (by omega)
            rw [ex, ey] at h
            rw [h]
            exact insF_swp f0 k2
          rw [hE] at hP
          have HQ := Lib.hid (hP.below (Below.refl _ _).drew)
          clear hP hE f1 ex ey hx hy
          go_wp2_with (fail)
          go_region
          generalize World.drew _ = wf at *
          go_wp2_with (fail)
          exact ⟨⟨q, by omega, by omega, by go_num, HQ⟩, by first | (simp [intOf]; done) | (simp [intOf]; omega)⟩
end Go.Proofs.Ytockmgcgifhepaa

/- slices.SortStableFunc at items: symMerge. -/
namespace Go.Proofs.Ytockmgcgifhepaa
open Go.RowKit
set_option linter.unusedVariables false
set_option linter.unusedSimpArgs false

/-- g is f, but that its segments [a, m) and [m, b) are merged. -/
def MrgP (f g : Nat → ItT) (a m b : Nat) : Prop := seg g a (b - a) = mergeT (seg f a (m - a)) (seg f m (b - m)) ∧ ∀ k, (k < a ∨ b ≤ k) → g k = f k
theorem MrgP.triv {f : Nat → ItT} {a m b : Nat} (h1 : a ≤ m) (h2 : m ≤ b) (h : a = m ∨ m = b) : MrgP f f a m b := by
  refine ⟨?_, fun _ _ => rfl⟩
  rcases h with h | h
  · subst h; rw [Nat.sub_self, seg_zero, mergeT_nil]
  · subst h; rw [Nat.sub_self, seg_zero, mergeT_nil2]
theorem seg_cut (f : Nat → ItT) {a m b : Nat} (h1 : a ≤ m) (h2 : m ≤ b) : seg f a (b - a) = seg f a (m - a) ++ seg f m (b - m) := by
  have := seg_app f a (m - a) (b - m)
  rwa [show m - a + (b - m) = b - a by omega, show a + (m - a) = m by omega] at this
structure Seg4 (f F : Nat → ItT) (a m b s mid E : Nat) : Prop where
  l1 : seg F a (s - a) = seg f a (s - a)
  r1 : seg F s (mid - s) = seg f m (E - m)
  l2 : seg F mid (E - mid) = seg f s (m - s)
  r2 : seg F E (b - E) = seg f E (b - E)
  out : ∀ k, (k < a ∨ b ≤ k) → F k = f k
theorem seg4_rot (f : Nat → ItT) {a m b s mid E : Nat} (h1 : a ≤ s) (h2 : s < m) (h3 : m < E) (h4 : E ≤ b) (he : E = mid + m - s) (hs : s ≤ mid + m) : Seg4 f (rotF f s m E) a m b s mid E := by
  have hm : mid = s + (E - m) := by omega
  refine ⟨seg_congr fun k hk => ?_, ?_, ?_, seg_congr fun k hk => ?_, fun k hk => ?_⟩
  · unfold rotF; rw [if_neg (by omega), if_neg (by omega)]
  · rw [show mid - s = E - m by omega]
    refine seg_congr fun k hk => ?_
    unfold rotF
    rw [if_pos (by omega)]
    congr 1; omega
  · rw [show E - mid = m - s by omega]
    refine seg_congr fun k hk => ?_
    unfold rotF
    rw [if_neg (by omega), if_pos (by omega)]
    congr 1; omega
  · unfold rotF; rw [if_neg (by omega), if_neg (by omega)]
  · unfold rotF; rw [if_neg (by omega), if_neg (by omega)]
theorem seg4_id (f : Nat → ItT) {a m b s mid E : Nat} (h2 : s ≤ m) (h3 : m ≤ E) (he : E = mid + m - s) (hs : s ≤ mid + m) (h : s = m ∨ m = E) : Seg4 f f a m b s mid E := by
  refine ⟨rfl, ?_, ?_, rfl, fun _ _ => rfl⟩
  · rcases h with h | h
    · subst h; rw [show mid - s = E - s by omega]
    · rw [show mid - s = 0 by omega, show E - m = 0 by omega, seg_zero, seg_zero]
  · rcases h with h | h
    · subst h; rw [show E - mid = 0 by omega, Nat.sub_self, seg_zero, seg_zero]
    · rw [show mid = s by omega, show E - s = m - s by omega]
theorem sym_join {f F1 F2 F3 : Nat → ItT} {a m b s mid E : Nat} (h4 : Seg4 f F1 a m b s mid E) (m1 : MrgP F1 F2 a s mid) (m2 : MrgP F2 F3 mid E b) (b1 : a ≤ s) (b2 : s ≤ mid) (b3 : mid ≤ E) (b4 : E ≤ b) (b5 : s ≤ m) (b6 : m ≤ E) (b7 : mid < b) (b8 : a ≤ mid)
    (hsp : mergeT (seg f a (m - a)) (seg f m (b - m)) = mergeT (seg f a (s - a)) (seg f m (E - m)) ++ mergeT (seg f s (m - s)) (seg f E (b - E))) : MrgP f F3 a m b := by
  refine ⟨?_, fun k hk => ?_⟩
  · rw [hsp, seg_cut F3 b8 (Nat.le_of_lt b7), m2.1]
    congr 1
    · rw [← h4.l1, ← h4.r1, ← m1.1]
      exact seg_congr fun k hk => m2.2 _ (Or.inl (by omega))
    · rw [← h4.l2, ← h4.r2]
      congr 1
      · exact seg_congr fun k hk => m1.2 _ (Or.inr (by omega))
      · exact seg_congr fun k hk => m1.2 _ (Or.inr (by omega))
  · rw [m2.2 k (by omega), m1.2 k (by omega), h4.out k hk]
theorem sym_split (f : Nat → ItT) {a m b s E : Nat} (b1 : a ≤ s) (b2 : s ≤ m) (b3 : m ≤ E) (b4 : E ≤ b) (c1 : ∀ x, s ≤ x → x < m → ∀ q, m ≤ q → q < E → ltT (f q) (f x) = true) (c2 : ∀ x, a ≤ x → x < s → ∀ q, E ≤ q → q < b → ltT (f q) (f x) = false) :
    mergeT (seg f a (m - a)) (seg f m (b - m)) = mergeT (seg f a (s - a)) (seg f m (E - m)) ++ mergeT (seg f s (m - s)) (seg f E (b - E)) := by
  rw [seg_cut f b1 b2, seg_cut f b3 b4, merge_split]
  · intro x hx y hy
    obtain ⟨i, hi, rfl⟩ := seg_mem hx
    obtain ⟨j, hj, rfl⟩ := seg_mem hy
    exact c1 _ (by omega) (by omega) _ (by omega) (by omega)
  · intro x hx y hy
    obtain ⟨i, hi, rfl⟩ := seg_mem hx
    obtain ⟨j, hj, rfl⟩ := seg_mem hy
    exact c2 _ (by omega) (by omega) _ (by omega) (by omega)
/-- What the search of symMerge found. -/
theorem sym_found (f : Nat → ItT) {a m b s mid E s0 r0 p : Nat} (ham : a < m) (hmb : m < b) (hmid : mid = (a + b) / 2) (hL : srt (seg f a (m - a))) (hR : srt (seg f m (b - m))) (hp : p + 1 = mid + m) (hE : E = mid + m - s)
    (hc : (mid < m ∧ s0 = mid + m - b ∧ r0 = mid) ∨ (m ≤ mid ∧ s0 = a ∧ r0 = m)) (h1 : s0 ≤ s) (h2 : s ≤ r0)
    (A : ∀ k, s0 ≤ k → k < s → ltT (f (p - k)) (f k) = false) (B : ∀ k, s ≤ k → k < r0 → ltT (f (p - k)) (f k) = true) :
    (a ≤ s ∧ s ≤ m ∧ m ≤ E ∧ E ≤ b ∧ s ≤ mid ∧ mid ≤ E) ∧ mergeT (seg f a (m - a)) (seg f m (b - m)) = mergeT (seg f a (s - a)) (seg f m (E - m)) ++ mergeT (seg f s (m - s)) (seg f E (b - E)) := by
  have hb : a ≤ s ∧ s ≤ m ∧ m ≤ E ∧ E ≤ b ∧ s ≤ mid ∧ mid ≤ E := by omega
  refine ⟨hb, sym_split f (by omega) (by omega) (by omega) (by omega) ?_ ?_⟩
  · intro x x1 x2 q q1 q2
    have hs : s < r0 := by omega
    have h3 := B s (Nat.le_refl _) hs
    rw [show p - s = E - 1 by omega] at h3
    have h4 : ltT (f (E - 1)) (f x) = true := ltT_l h3 (seg_srt_le hL (by omega) x1 (by omega))
    exact ltT_r h4 (seg_srt_le hR (by omega) (by omega) (by omega))
  · intro x x1 x2 q q1 q2
    have hs : s0 < s := by omega
    have h3 := A (s - 1) (by omega) (by omega)
    rw [show p - (s - 1) = E by omega] at h3
    exact ltT_neg (seg_srt_le hR (by omega) q1 (by omega)) (ltT_neg h3 (seg_srt_le hL (by omega) (by omega) (by omega)))
theorem srt_sub {f g : Nat → ItT} {a b n k : Nat} (h : srt (seg f a n)) (h1 : a ≤ b) (h2 : b + k ≤ a + n) (he : ∀ j, j < k → True) : srt (seg f b k) := by
  rw [seg_srt]
  intro i j hij hj
  exact seg_srt_le h (by omega) (by omega) (by omega)

structure SymIH (d : Nat) : Prop where
  go : ∀ {W0 w : World} {g off n c : Nat} {f0 : Nat → ItT} (h : Rw W0 g off n f0 w) (a m b : Nat) (p1 : a < m) (p2 : m < b) (p3 : b ≤ n) (p4 : n ≤ 1152921504606846976) (p5 : b - a < d) (p6 : srt (seg f0 a (m - a))) (p7 : srt (seg f0 m (b - m))),
    Calls Try.prog 59 #[.slice (some ⟨g, off, none⟩) n c, .int .i64 a, .int .i64 m, .int .i64 b, .func (.func 28) #[] #[]] w fun e w' => e = .returned (.tuple #[]) ∧ ∃ f, Rw W0 g off n f w' ∧ MrgP f0 f a m b

set_option maxHeartbeats 12800000 in
set_option maxRecDepth 100000 in
theorem sym3_gt {W0 w : World} {g off n c : Nat} {f0 : Nat → ItT} {a m b : Nat} (ih : SymIH (b - a)) (h : Rw W0 g off n f0 w) (hbn : b ≤ n) (hn : n ≤ 1152921504606846976) (ham : a + 1 < m) (hmb : m + 1 < b) (hs1 : srt (seg f0 a (m - a))) (hs2 : srt (seg f0 m (b - m))) (hmm : (a + b) / 2 < m) :
    Calls Try.prog 59 #[.slice (some ⟨g, off, none⟩) n c, .int .i64 a, .int .i64 m, .int .i64 b, .func (.func 28) #[] #[]] w
      fun e w' => e = .returned (.tuple #[]) ∧ ∃ f, Rw W0 g off n f w' ∧ MrgP f0 f a m b := by
  have HR := Lib.hid h
  have HS1 := Lib.hid hs1
  have HS2 := Lib.hid hs2
  have HIH := Lib.hid ih
  obtain ⟨mid, hmid⟩ : ∃ mid, (a + b) / 2 = mid := ⟨_, rfl⟩
  obtain ⟨N, hN⟩ : ∃ N, mid + m = N := ⟨_, rfl⟩
  obtain ⟨s0, hs0⟩ : ∃ s0, (if mid < m then N - b else a) = s0 := ⟨_, rfl⟩
  obtain ⟨r0, hr0⟩ : ∃ r0, (if mid < m then mid else m) = r0 := ⟨_, rfl⟩
  obtain ⟨p, hp⟩ : ∃ p, p + 1 = N := ⟨N - 1, by omega⟩
  rw [hmid] at hmm
  rw [if_pos hmm] at hs0 hr0
  have r6 : (N : Int) - b = s0 := by omega
  have r7 : (mid : Int) < m := by omega
  have HMM := Lib.hid hmm
  have r1 : ((m : Int) - (a : Int) == 1) = false := beq_eq_false_iff_ne.2 (by omega)
  have r2 : ((b : Int) - (m : Int) == 1) = false := beq_eq_false_iff_ne.2 (by omega)
  have r3 : ((a : Int) + (b : Int)) / 2 = mid := by omega
  have r4 : (mid : Int) + (m : Int) = N := by omega
  have r5 : (N : Int) - 1 = p := by omega
  have bp : p < 2 * b := by omega
  have bs : s0 ≤ r0 ∧ r0 ≤ mid ∧ r0 ≤ m ∧ a ≤ s0 ∧ N ≤ s0 + b := by omega
  have HMID := Lib.hid hmid
  have HN := Lib.hid hN
  have HP := Lib.hid hp
  have HBS := Lib.hid bs
  have HHM := Lib.hid (And.intro ham hmb)
  have bm : mid < b := by omega
  clear hs1 hs2 h ih hmid hN hp bs hmm
  clear ham hmb
  subst hr0
  have HS0 := Lib.hid hs0
  clear hs0
  go_enter Try.func59, Try.ntmps59
  go_wp2_with (fail)
  clear r1 r2 r3 r4 r5 r7
  go_loopw [20, 21, 23] (fun s t _ wr => ∃ i j : Nat, s0 ≤ i ∧ i ≤ j ∧ j ≤ mid ∧ s = .int .i64 i ∧ t = .int .i64 j ∧ Hid (Rw W0 g off n f0 wr) ∧ Hid ((∀ k, s0 ≤ k → k < i → ltT (f0 (p - k)) (f0 k) = false) ∧ (∀ k, j ≤ k → k < mid → ltT (f0 (p - k)) (f0 k) = true))) (fun s t _ _ => (intOf t).toNat - (intOf s).toNat)
  case atStart => exact ⟨s0, mid, Nat.le_refl _, HBS.out.1, Nat.le_refl _, rfl, rfl, HR, Lib.hid ⟨fun k h1 h2 => by omega, fun k h1 h2 => by omega⟩⟩
  case round =>
    rename World => wr
    obtain ⟨i, j, h2, h3, h4, rfl, rfl, HJ, HK⟩ := hrel
    have hms := HMID.out
    have hNN := HN.out
    have hpp := HP.out
    have hbs := HBS.out
    have hhm := HHM.out
    by_cases hlt : i < j
    · have i1 : (i : Int) < j := by omega
      obtain ⟨hh, hhh⟩ : ∃ hh, (i + j) / 2 = hh := ⟨_, rfl⟩
      have b1 : i ≤ hh := by omega
      have b2 : hh < j := by omega
      have r2 : ((i : Int) + (j : Int)) / 2 = hh := by omega
      obtain ⟨q, hq⟩ : ∃ q, p - hh = q := ⟨_, rfl⟩
      have q0 : m ≤ q ∧ q < b := by omega
      have q1 : (0 : Int) ≤ hh := by omega
      have q2 : (hh : Int) < n := by omega
      have q3 : (0 : Int) ≤ q := by omega
      have q4 : (q : Int) < n := by omega
      have q5 : IntKind.i64.wrap ((p : Int) - (hh : Int)) = q := by rw [IntKind.wrap_i64]; omega
      have HQ := Lib.hid hq
      have hqn : q < n := by omega
      have hhn : hh < n := by omega
      clear hhh hq
      obtain ⟨x, hx⟩ : ∃ x, f0 q = x := ⟨_, rfl⟩
      obtain ⟨y, hy⟩ : ∃ y, f0 hh = y := ⟨_, rfl⟩
      clear hms hNN hpp hbs hhm q0
      have HSB : Hid (∀ wx, Below wr.heap.size wr wx → (wx.cell? ⟨g, off + q * 2, none⟩ = some (.string x.val) ∧ wx.cell? ⟨g, off + q * 2 + 1, none⟩ = some (.int .i64 x.cnt) ∧ wx.cell? ⟨g, off + hh * 2, none⟩ = some (.string y.val) ∧ wx.cell? ⟨g, off + hh * 2 + 1, none⟩ = some (.int .i64 y.cnt)) ∧ Below wr.heap.size wr wx) := fun wx hb => by
        have hR := HJ.out.below hb
        have p1 := hR.c0 (j := q) (by omega)
        have p2 := hR.c1 (j := q) (by omega)
        have p3 := hR.c0 (j := hh) (by omega)
        have p4 := hR.c1 (j := hh) (by omega)
        rw [hx] at p1 p2
        rw [hy] at p3 p4
        exact ⟨⟨p1, p2, p3, p4⟩, hb⟩
      have HX := Lib.hid hx
      have HY := Lib.hid hy
      clear hx hy
      go_wp2_with (fail)
      refine wp_region_noPanic ?_
      refine wp_region_held_drew (S := fun wx => (wx.cell? ⟨g, off + q * 2, none⟩ = some (.string x.val) ∧ wx.cell? ⟨g, off + q * 2 + 1, none⟩ = some (.int .i64 x.cnt) ∧ wx.cell? ⟨g, off + hh * 2, none⟩ = some (.string y.val) ∧ wx.cell? ⟨g, off + hh * 2 + 1, none⟩ = some (.int .i64 y.cnt)) ∧ Below wr.heap.size wr wx) (by kernel_rfl) ?_ (fun hHeld => ?_)
      · exact HSB.out _ (Below.refl _ _).drew
      refine wpAnyH_take (i := 0) (v := ?_) rfl (by kernel_rfl) (by kernel_rfl) (by kernel_rfl) (fun _ _ _ h => h) (Or.inl ⟨by rfl, ?hy⟩) (by assumption) ?_
      case hy => intro w hSw; (try dsimp only at hSw); go_simp; try with_reducible rfl
      try simp only [Act.put, List.getElem_toArray, List.getElem_cons_succ, List.getElem_cons_zero, List.setIfInBounds_toArray, List.set_cons_zero, List.set_cons_succ]
      refine wpAnyH_take (i := 1) (v := ?_) rfl (by kernel_rfl) (by kernel_rfl) (by kernel_rfl) (fun _ _ _ h => h) (Or.inl ⟨by rfl, ?hy⟩) (by assumption) ?_
      case hy => intro w hSw; (try dsimp only at hSw); go_simp; try with_reducible rfl
      try simp only [Act.put, List.getElem_toArray, List.getElem_cons_succ, List.getElem_cons_zero, List.setIfInBounds_toArray, List.set_cons_zero, List.set_cons_succ]
      refine wpAnyH_take (i := 2) (v := ?_) rfl (by kernel_rfl) (by kernel_rfl) (by kernel_rfl) (fun _ _ _ h => h) (Or.inl ⟨by rfl, ?hy⟩) (by assumption) ?_
      case hy => intro w hSw; (try dsimp only at hSw); go_simp; try with_reducible rfl
      try simp only [Act.put, List.getElem_toArray, List.getElem_cons_succ, List.getElem_cons_zero, List.setIfInBounds_toArray, List.set_cons_zero, List.set_cons_succ]
      refine wpAnyH_take (i := 3) (v := ?_) rfl (by kernel_rfl) (by kernel_rfl) (by kernel_rfl) (fun _ _ _ h => h) (Or.inl ⟨by rfl, ?hy⟩) (by assumption) ?_
      case hy => intro w hSw; (try dsimp only at hSw); go_simp; try with_reducible rfl
      try simp only [Act.put, List.getElem_toArray, List.getElem_cons_succ, List.getElem_cons_zero, List.setIfInBounds_toArray, List.set_cons_zero, List.set_cons_succ]
      refine wpAnyH_take (i := 4) (v := ?_) rfl (by kernel_rfl) (by kernel_rfl) (by kernel_rfl) (fun _ _ _ h => h) (Or.inl ⟨by rfl, ?hy⟩) (by assumption) ?_
      case hy => intro w hSw; (try dsimp only at hSw); go_simp; try with_reducible rfl
      try simp only [Act.put, List.getElem_toArray, List.getElem_cons_succ, List.getElem_cons_zero, List.setIfInBounds_toArray, List.set_cons_zero, List.set_cons_succ]
      refine wpAnyH_take (i := 5) (v := ?_) rfl (by kernel_rfl) (by kernel_rfl) (by kernel_rfl) (fun _ _ _ h => h) (Or.inl ⟨by rfl, ?hy⟩) (by assumption) ?_
      case hy => intro w hSw; (try dsimp only at hSw); go_simp; try with_reducible rfl
      try simp only [Act.put, List.getElem_toArray, List.getElem_cons_succ, List.getElem_cons_zero, List.setIfInBounds_toArray, List.set_cons_zero, List.set_cons_succ]
      refine wpAnyH_take (i := 6) (v := ?_) rfl (by kernel_rfl) (by kernel_rfl) (by kernel_rfl) (fun _ _ _ h => h) (Or.inl ⟨by rfl, ?hy⟩) (by assumption) ?_
      case hy => intro w hSw; (try dsimp only at hSw); go_simp; try with_reducible rfl
      try simp only [Act.put, List.getElem_toArray, List.getElem_cons_succ, List.getElem_cons_zero, List.setIfInBounds_toArray, List.set_cons_zero, List.set_cons_succ]
      refine wpAnyH_take (i := 7) (v := ?_) rfl (by kernel_rfl) (by kernel_rfl) (by kernel_rfl) (fun _ _ _ h => h) (Or.inl ⟨by rfl, ?hy⟩) (by assumption) ?_
      case hy => intro w hSw; (try dsimp only at hSw); go_simp; try with_reducible rfl
      try simp only [Act.put, List.getElem_toArray, List.getElem_cons_succ, List.getElem_cons_zero, List.setIfInBounds_toArray, List.set_cons_zero, List.set_cons_succ]
      refine wpAnyH_take (i := 8) (v := ?_) rfl (by kernel_rfl) (by kernel_rfl) (by kernel_rfl) (fun _ _ _ h => h) (Or.inl ⟨by rfl, ?hy⟩) (by assumption) ?_
      case hy => intro w hSw; (try dsimp only at hSw); go_simp; try with_reducible rfl
      try simp only [Act.put, List.getElem_toArray, List.getElem_cons_succ, List.getElem_cons_zero, List.setIfInBounds_toArray, List.set_cons_zero, List.set_cons_succ]
      refine wpAnyH_take (i := 9) (v := ?_) rfl (by kernel_rfl) (by kernel_rfl) (by kernel_rfl) (fun _ _ _ h => h) (Or.inl ⟨by rfl, ?hy⟩) (by assumption) ?_
      case hy => intro w hSw; (try dsimp only at hSw); go_simp; try with_reducible rfl
      try simp only [Act.put, List.getElem_toArray, List.getElem_cons_succ, List.getElem_cons_zero, List.setIfInBounds_toArray, List.set_cons_zero, List.set_cons_succ]
      refine wpAnyH_take (i := 10) (v := ?_) rfl (by kernel_rfl) (by kernel_rfl) (by kernel_rfl) (fun _ _ _ h => h) (Or.inl ⟨by rfl, ?hy⟩) (by assumption) ?_
      case hy => intro w hSw; (try dsimp only at hSw); go_simp; try with_reducible rfl
      try simp only [Act.put, List.getElem_toArray, List.getElem_cons_succ, List.getElem_cons_zero, List.setIfInBounds_toArray, List.set_cons_zero, List.set_cons_succ]
      refine wpAnyH_ready (rs := [11]) (by kernel_rfl) (by simp) (AllReadyH.cons rfl (fun K hK => ?_) AllReadyH.nil)
      go_simp
      refine (cmp_any x y _).mono ?_; rintro e wc ⟨r, rfl, hr, hbc⟩
      try (go_wp2_with fail)
      refine hK.out _ _ ?_ (fun hHeld => ?_)
      · exact HSB.out _ (hHeld.2.trans (hbc.mono hHeld.2.size))
      clear hK K
      try simp only [Act.put, List.getElem_toArray, List.getElem_cons_succ, List.getElem_cons_zero, List.setIfInBounds_toArray, List.set_cons_zero, List.set_cons_succ]
      refine wpAnyH_take (i := 12) (v := ?_) rfl (by kernel_rfl) (by kernel_rfl) (by kernel_rfl) (fun _ _ _ h => h) (Or.inl ⟨by rfl, ?hy⟩) (by assumption) ?_
      case hy => intro w hSw; (try dsimp only at hSw); go_simp; try with_reducible rfl
      try simp only [Act.put, List.getElem_toArray, List.getElem_cons_succ, List.getElem_cons_zero, List.setIfInBounds_toArray, List.set_cons_zero, List.set_cons_succ]
      refine wpAnyH_take (i := 13) (v := ?_) rfl (by kernel_rfl) (by kernel_rfl) (by kernel_rfl) (fun _ _ _ h => h) (Or.inl ⟨by rfl, ?hy⟩) (by assumption) ?_
      case hy => intro w hSw; (try dsimp only at hSw); go_simp; try with_reducible rfl
      try simp only [Act.put, List.getElem_toArray, List.getElem_cons_succ, List.getElem_cons_zero, List.setIfInBounds_toArray, List.set_cons_zero, List.set_cons_succ]
      refine wpAnyH_done (by kernel_rfl) ?_ _
      refine NoPanic.normal ?_
      have HRW := Lib.hid (HJ.out.below hHeld.2)
      clear hHeld hbc hr HSB
      try clear hHeld
      try clear hHeld
      cases hxy : ltT x y
      · simp only [Bool.not_false]
        go_wp2_with (fail)
        refine ⟨⟨hh + 1, j, by omega, by omega, h4, by go_num, rfl, HRW, Lib.hid ⟨fun k k1 k2 => ?_, HK.out.2⟩⟩, by first | (simp [intOf]; done) | (simp [intOf]; omega)⟩
        have hms := HMID.out; have hNN := HN.out; have hpp := HP.out; have hbs := HBS.out; have hhm := HHM.out; have hqq := HQ.out
        have e1 : ltT (f0 q) (f0 hh) = false := by rw [HX.out, HY.out]; exact hxy
        exact ltT_neg (seg_srt_le HS2.out (i := q) (by omega) (by omega) (by omega)) (ltT_neg e1 (seg_srt_le HS1.out (by omega) (by omega) (by omega)))
      · simp only [Bool.not_true]
        go_wp2_with (fail)
        refine ⟨⟨i, hh, h2, b1, by omega, rfl, rfl, HRW, Lib.hid ⟨HK.out.1, fun k k1 k2 => ?_⟩⟩, by first | (simp [intOf]; done) | (simp [intOf]; omega)⟩
        have hms := HMID.out; have hNN := HN.out; have hpp := HP.out; have hbs := HBS.out; have hhm := HHM.out; have hqq := HQ.out
        have e1 : ltT (f0 q) (f0 hh) = true := by rw [HX.out, HY.out]; exact hxy
        have e2 : ltT (f0 q) (f0 k) = true := ltT_l e1 (seg_srt_le HS1.out (by omega) (by omega) (by omega))
        exact ltT_r e2 (seg_srt_le HS2.out (by omega) (by omega) (by omega))
    · obtain ⟨E, hE⟩ : ∃ E, mid + m - i = E := ⟨_, rfl⟩
      obtain rfl : i = j := by omega
      have hmq := HMM.out
      have hs00 := HS0.out
      have hf := sym_found f0 (by omega) (by omega) hms.symm HS1.out HS2.out (by omega) hE.symm (Or.inl ⟨hmq, by omega, rfl⟩) h2 h4 HK.out.1 HK.out.2
      have HSP := Lib.hid hf.2
      obtain ⟨⟨d1, d2, d3, d4, d5, d6⟩, -⟩ := hf
      have r8 : (N : Int) - i = E := by omega
      have HE2 := Lib.hid hE
      have HDD := Lib.hid (show i ≤ mid + m by omega)
      have l1 : srt (seg f0 a (i - a)) := srt_sub HS1.out (Nat.le_refl _) (by omega) (fun _ _ => trivial) (g := f0)
      have l2 : srt (seg f0 i (m - i)) := srt_sub HS1.out (by omega) (by omega) (fun _ _ => trivial) (g := f0)
      have l3 : srt (seg f0 m (E - m)) := srt_sub HS2.out (Nat.le_refl _) (by omega) (fun _ _ => trivial) (g := f0)
      have l4 : srt (seg f0 E (b - E)) := srt_sub HS2.out (by omega) (by omega) (fun _ _ => trivial) (g := f0)
      have HL := Lib.hid (And.intro l1 (And.intro l2 (And.intro l3 l4)))
      have ham : a < m := by omega
      have hmb : m < b := by omega
      have hbm : a ≤ mid := by omega
      have hdb : mid - a < b - a ∧ b - mid < b - a := by omega
      have HDB := Lib.hid hdb
      clear hmq hs00
      clear l1 l2 l3 l4 hE hdb hms hNN hpp hbs hhm
      by_cases t0 : i < m
      · have t0i : (i : Int) < m := by omega
        by_cases v0 : m < E
        · have v0i : (m : Int) < E := by omega
          by_cases t1 : a < i
          · have t1i : (a : Int) < i := by omega
            by_cases v1 : i < mid
            · have v1i : (i : Int) < mid := by omega
              by_cases t2 : mid < E
              · have t2i : (mid : Int) < E := by omega
                by_cases v2 : E < b
                · have v2i : (E : Int) < b := by omega
                  have HC1 := Lib.hid (rot_any (c := c) HJ.out i m E (by omega) (by omega) (by omega) hn)
                  have HS4 := Lib.hid (seg4_rot f0 (a := a) (b := b) (mid := mid) d1 t0 v0 d4 HE2.out.symm HDD.out)
                  go_wp2_with (fail)
                  refine HC1.out.mono ?_
                  rintro e w2 ⟨rfl, hw2⟩
                  have HW2 := Lib.hid hw2
                  clear hw2
                  have HC2 := Lib.hid (HIH.out.go (c := c) HW2.out a i mid (by omega) (by omega) (by omega) hn HDB.out.1 (by rw [HS4.out.l1]; exact HL.out.1) (by rw [HS4.out.r1]; exact HL.out.2.2.1))
                  go_wp2_with (fail)
                  refine HC2.out.mono ?_
                  rintro e w3 ⟨rfl, F2, hw3, hm2⟩
                  have HW3 := Lib.hid hw3
                  have HM2 := Lib.hid hm2
                  clear hw3 hm2
                  have e1 : seg F2 mid (E - mid) = seg f0 i (m - i) := by rw [← HS4.out.l2]; exact seg_congr fun k hk => HM2.out.2 _ (Or.inr (by omega))
                  have e2 : seg F2 E (b - E) = seg f0 E (b - E) := by rw [← HS4.out.r2]; exact seg_congr fun k hk => HM2.out.2 _ (Or.inr (by omega))
                  have HC3 := Lib.hid (HIH.out.go (c := c) HW3.out mid E b (by omega) (by omega) (by omega) hn HDB.out.2 (by rw [e1]; exact HL.out.2.1) (by rw [e2]; exact HL.out.2.2.2))
                  clear e1 e2
                  go_wp2_with (fail)
                  refine HC3.out.mono ?_
                  rintro e w4 ⟨rfl, F3, hw4, hm3⟩
                  have HW4 := Lib.hid hw4
                  have HM3 := Lib.hid hm3
                  clear hw4 hm3
                  go_wp2_with (fail)
                  go_end0
                  exact ⟨rfl, _, HW4.out, sym_join HS4.out HM2.out HM3.out d1 d5 d6 d4 d2 d3 bm hbm HSP.out⟩
                · have v2i : ¬ (E : Int) < b := by omega
                  have HC1 := Lib.hid (rot_any (c := c) HJ.out i m E (by omega) (by omega) (by omega) hn)
                  have HS4 := Lib.hid (seg4_rot f0 (a := a) (b := b) (mid := mid) d1 t0 v0 d4 HE2.out.symm HDD.out)
                  go_wp2_with (fail)
                  refine HC1.out.mono ?_
                  rintro e w2 ⟨rfl, hw2⟩
                  have HW2 := Lib.hid hw2
                  clear hw2
                  have HC2 := Lib.hid (HIH.out.go (c := c) HW2.out a i mid (by omega) (by omega) (by omega) hn HDB.out.1 (by rw [HS4.out.l1]; exact HL.out.1) (by rw [HS4.out.r1]; exact HL.out.2.2.1))
                  go_wp2_with (fail)
                  refine HC2.out.mono ?_
                  rintro e w3 ⟨rfl, F2, hw3, hm2⟩
                  have HW3 := Lib.hid hw3
                  have HM2 := Lib.hid hm2
                  clear hw3 hm2
                  have HM3 : Hid (MrgP F2 F2 mid E b) := Lib.hid (MrgP.triv d6 d4 (by omega))
                  go_wp2_with (fail)
                  go_end0
                  exact ⟨rfl, _, HW3.out, sym_join HS4.out HM2.out HM3.out d1 d5 d6 d4 d2 d3 bm hbm HSP.out⟩
              · have t2i : ¬ (mid : Int) < E := by omega
                have HC1 := Lib.hid (rot_any (c := c) HJ.out i m E (by omega) (by omega) (by omega) hn)
                have HS4 := Lib.hid (seg4_rot f0 (a := a) (b := b) (mid := mid) d1 t0 v0 d4 HE2.out.symm HDD.out)
                go_wp2_with (fail)
                refine HC1.out.mono ?_
                rintro e w2 ⟨rfl, hw2⟩
                have HW2 := Lib.hid hw2
                clear hw2
                have HC2 := Lib.hid (HIH.out.go (c := c) HW2.out a i mid (by omega) (by omega) (by omega) hn HDB.out.1 (by rw [HS4.out.l1]; exact HL.out.1) (by rw [HS4.out.r1]; exact HL.out.2.2.1))
                go_wp2_with (fail)
                refine HC2.out.mono ?_
                rintro e w3 ⟨rfl, F2, hw3, hm2⟩
                have HW3 := Lib.hid hw3
                have HM2 := Lib.hid hm2
                clear hw3 hm2
                have HM3 : Hid (MrgP F2 F2 mid E b) := Lib.hid (MrgP.triv d6 d4 (by omega))
                go_wp2_with (fail)
                go_end0
                exact ⟨rfl, _, HW3.out, sym_join HS4.out HM2.out HM3.out d1 d5 d6 d4 d2 d3 bm hbm HSP.out⟩
            · have v1i : ¬ (i : Int) < mid := by omega
              by_cases t2 : mid < E
              · have t2i : (mid : Int) < E := by omega
                by_cases v2 : E < b
                · have v2i : (E : Int) < b := by omega
                  have HC1 := Lib.hid (rot_any (c := c) HJ.out i m E (by omega) (by omega) (by omega) hn)
                  have HS4 := Lib.hid (seg4_rot f0 (a := a) (b := b) (mid := mid) d1 t0 v0 d4 HE2.out.symm HDD.out)
                  go_wp2_with (fail)
                  refine HC1.out.mono ?_
                  rintro e w2 ⟨rfl, hw2⟩
                  have HW2 := Lib.hid hw2
                  clear hw2
                  go_wp2_with (fail)
                  have HM2 : Hid (MrgP (rotF f0 i m E) (rotF f0 i m E) a i mid) := Lib.hid (MrgP.triv d1 d5 (by omega))
                  have e1 := HS4.out.l2
                  have e2 := HS4.out.r2
                  have HC3 := Lib.hid (HIH.out.go (c := c) HW2.out mid E b (by omega) (by omega) (by omega) hn HDB.out.2 (by rw [e1]; exact HL.out.2.1) (by rw [e2]; exact HL.out.2.2.2))
                  clear e1 e2
                  refine HC3.out.mono ?_
                  rintro e w4 ⟨rfl, F3, hw4, hm3⟩
                  have HW4 := Lib.hid hw4
                  have HM3 := Lib.hid hm3
                  clear hw4 hm3
                  go_wp2_with (fail)
                  go_end0
                  exact ⟨rfl, _, HW4.out, sym_join HS4.out HM2.out HM3.out d1 d5 d6 d4 d2 d3 bm hbm HSP.out⟩
                · have v2i : ¬ (E : Int) < b := by omega
                  have HC1 := Lib.hid (rot_any (c := c) HJ.out i m E (by omega) (by omega) (by omega) hn)
                  have HS4 := Lib.hid (seg4_rot f0 (a := a) (b := b) (mid := mid) d1 t0 v0 d4 HE2.out.symm HDD.out)
                  go_wp2_with (fail)
                  refine HC1.out.mono ?_
                  rintro e w2 ⟨rfl, hw2⟩
                  have HW2 := Lib.hid hw2
                  clear hw2
                  go_wp2_with (fail)
                  have HM2 : Hid (MrgP (rotF f0 i m E) (rotF f0 i m E) a i mid) := Lib.hid (MrgP.triv d1 d5 (by omega))
                  have HM3 : Hid (MrgP (rotF f0 i m E) (rotF f0 i m E) mid E b) := Lib.hid (MrgP.triv d6 d4 (by omega))
                  go_end0
                  exact ⟨rfl, _, HW2.out, sym_join HS4.out HM2.out HM3.out d1 d5 d6 d4 d2 d3 bm hbm HSP.out⟩
              · have t2i : ¬ (mid : Int) < E := by omega
                have HC1 := Lib.hid (rot_any (c := c) HJ.out i m E (by omega) (by omega) (by omega) hn)
                have HS4 := Lib.hid (seg4_rot f0 (a := a) (b := b) (mid := mid) d1 t0 v0 d4 HE2.out.symm HDD.out)
                go_wp2_with (fail)
                refine HC1.out.mono ?_
                rintro e w2 ⟨rfl, hw2⟩
                have HW2 := Lib.hid hw2
                clear hw2
                go_wp2_with (fail)
                have HM2 : Hid (MrgP (rotF f0 i m E) (rotF f0 i m E) a i mid) := Lib.hid (MrgP.triv d1 d5 (by omega))
                have HM3 : Hid (MrgP (rotF f0 i m E) (rotF f0 i m E) mid E b) := Lib.hid (MrgP.triv d6 d4 (by omega))
                go_end0
                exact ⟨rfl, _, HW2.out, sym_join HS4.out HM2.out HM3.out d1 d5 d6 d4 d2 d3 bm hbm HSP.out⟩
          · have t1i : ¬ (a : Int) < i := by omega
            by_cases t2 : mid < E
            · have t2i : (mid : Int) < E := by omega
              by_cases v2 : E < b
              · have v2i : (E : Int) < b := by omega
                have HC1 := Lib.hid (rot_any (c := c) HJ.out i m E (by omega) (by omega) (by omega) hn)
                have HS4 := Lib.hid (seg4_rot f0 (a := a) (b := b) (mid := mid) d1 t0 v0 d4 HE2.out.symm HDD.out)
                go_wp2_with (fail)
                refine HC1.out.mono ?_
                rintro e w2 ⟨rfl, hw2⟩
                have HW2 := Lib.hid hw2
                clear hw2
                go_wp2_with (fail)
                have HM2 : Hid (MrgP (rotF f0 i m E) (rotF f0 i m E) a i mid) := Lib.hid (MrgP.triv d1 d5 (by omega))
                have e1 := HS4.out.l2
                have e2 := HS4.out.r2
                have HC3 := Lib.hid (HIH.out.go (c := c) HW2.out mid E b (by omega) (by omega) (by omega) hn HDB.out.2 (by rw [e1]; exact HL.out.2.1) (by rw [e2]; exact HL.out.2.2.2))
                clear e1 e2
                refine HC3.out.mono ?_
                rintro e w4 ⟨rfl, F3, hw4, hm3⟩
                have HW4 := Lib.hid hw4
                have HM3 := Lib.hid hm3
                clear hw4 hm3
                go_wp2_with (fail)
                go_end0
                exact ⟨rfl, _, HW4.out, sym_join HS4.out HM2.out HM3.out d1 d5 d6 d4 d2 d3 bm hbm HSP.out⟩
              · have v2i : ¬ (E : Int) < b := by omega
                have HC1 := Lib.hid (rot_any (c := c) HJ.out i m E (by omega) (by omega) (by omega) hn)
                have HS4 := Lib.hid (seg4_rot f0 (a := a) (b := b) (mid := mid) d1 t0 v0 d4 HE2.out.symm HDD.out)
                go_wp2_with (fail)
                refine HC1.out.mono ?_
                rintro e w2 ⟨rfl, hw2⟩
                have HW2 := Lib.hid hw2
                clear hw2
                go_wp2_with (fail)
                have HM2 : Hid (MrgP (rotF f0 i m E) (rotF f0 i m E) a i mid) := Lib.hid (MrgP.triv d1 d5 (by omega))
                have HM3 : Hid (MrgP (rotF f0 i m E) (rotF f0 i m E) mid E b) := Lib.hid (MrgP.triv d6 d4 (by omega))
                go_end0
                exact ⟨rfl, _, HW2.out, sym_join HS4.out HM2.out HM3.out d1 d5 d6 d4 d2 d3 bm hbm HSP.out⟩
            · have t2i : ¬ (mid : Int) < E := by omega
              have HC1 := Lib.hid (rot_any (c := c) HJ.out i m E (by omega) (by omega) (by omega) hn)
              have HS4 := Lib.hid (seg4_rot f0 (a := a) (b := b) (mid := mid) d1 t0 v0 d4 HE2.out.symm HDD.out)
              go_wp2_with (fail)
              refine HC1.out.mono ?_
              rintro e w2 ⟨rfl, hw2⟩
              have HW2 := Lib.hid hw2
              clear hw2
              go_wp2_with (fail)
              have HM2 : Hid (MrgP (rotF f0 i m E) (rotF f0 i m E) a i mid) := Lib.hid (MrgP.triv d1 d5 (by omega))
              have HM3 : Hid (MrgP (rotF f0 i m E) (rotF f0 i m E) mid E b) := Lib.hid (MrgP.triv d6 d4 (by omega))
              go_end0
              exact ⟨rfl, _, HW2.out, sym_join HS4.out HM2.out HM3.out d1 d5 d6 d4 d2 d3 bm hbm HSP.out⟩
        · have v0i : ¬ (m : Int) < E := by omega
          by_cases t1 : a < i
          · have t1i : (a : Int) < i := by omega
            by_cases v1 : i < mid
            · have v1i : (i : Int) < mid := by omega
              by_cases t2 : mid < E
              · have t2i : (mid : Int) < E := by omega
                by_cases v2 : E < b
                · have v2i : (E : Int) < b := by omega
                  have HS4 := Lib.hid (seg4_id f0 (a := a) (b := b) (mid := mid) d2 d3 HE2.out.symm HDD.out (by omega))
                  go_wp2_with (fail)
                  have HC2 := Lib.hid (HIH.out.go (c := c) HJ.out a i mid (by omega) (by omega) (by omega) hn HDB.out.1 (by rw [HS4.out.l1]; exact HL.out.1) (by rw [HS4.out.r1]; exact HL.out.2.2.1))
                  refine HC2.out.mono ?_
                  rintro e w3 ⟨rfl, F2, hw3, hm2⟩
                  have HW3 := Lib.hid hw3
                  have HM2 := Lib.hid hm2
                  clear hw3 hm2
                  have e1 : seg F2 mid (E - mid) = seg f0 i (m - i) := by rw [← HS4.out.l2]; exact seg_congr fun k hk => HM2.out.2 _ (Or.inr (by omega))
                  have e2 : seg F2 E (b - E) = seg f0 E (b - E) := by rw [← HS4.out.r2]; exact seg_congr fun k hk => HM2.out.2 _ (Or.inr (by omega))
                  have HC3 := Lib.hid (HIH.out.go (c := c) HW3.out mid E b (by omega) (by omega) (by omega) hn HDB.out.2 (by rw [e1]; exact HL.out.2.1) (by rw [e2]; exact HL.out.2.2.2))
                  clear e1 e2
                  go_wp2_with (fail)
                  refine HC3.out.mono ?_
                  rintro e w4 ⟨rfl, F3, hw4, hm3⟩
                  have HW4 := Lib.hid hw4
                  have HM3 := Lib.hid hm3
                  clear hw4 hm3
                  go_wp2_with (fail)
                  go_end0
                  exact ⟨rfl, _, HW4.out, sym_join HS4.out HM2.out HM3.out d1 d5 d6 d4 d2 d3 bm hbm HSP.out⟩
                · have v2i : ¬ (E : Int) < b := by omega
                  have HS4 := Lib.hid (seg4_id f0 (a := a) (b := b) (mid := mid) d2 d3 HE2.out.symm HDD.out (by omega))
                  go_wp2_with (fail)
                  have HC2 := Lib.hid (HIH.out.go (c := c) HJ.out a i mid (by omega) (by omega) (by omega) hn HDB.out.1 (by rw [HS4.out.l1]; exact HL.out.1) (by rw [HS4.out.r1]; exact HL.out.2.2.1))
                  refine HC2.out.mono ?_
                  rintro e w3 ⟨rfl, F2, hw3, hm2⟩
                  have HW3 := Lib.hid hw3
                  have HM2 := Lib.hid hm2
                  clear hw3 hm2
                  have HM3 : Hid (MrgP F2 F2 mid E b) := Lib.hid (MrgP.triv d6 d4 (by omega))
                  go_wp2_with (fail)
                  go_end0
                  exact ⟨rfl, _, HW3.out, sym_join HS4.out HM2.out HM3.out d1 d5 d6 d4 d2 d3 bm hbm HSP.out⟩
              · have t2i : ¬ (mid : Int) < E := by omega
                have HS4 := Lib.hid (seg4_id f0 (a := a) (b := b) (mid := mid) d2 d3 HE2.out.symm HDD.out (by omega))
                go_wp2_with (fail)
                have HC2 := Lib.hid (HIH.out.go (c := c) HJ.out a i mid (by omega) (by omega) (by omega) hn HDB.out.1 (by rw [HS4.out.l1]; exact HL.out.1) (by rw [HS4.out.r1]; exact HL.out.2.2.1))
                refine HC2.out.mono ?_
                rintro e w3 ⟨rfl, F2, hw3, hm2⟩
                have HW3 := Lib.hid hw3
                have HM2 := Lib.hid hm2
                clear hw3 hm2
                have HM3 : Hid (MrgP F2 F2 mid E b) := Lib.hid (MrgP.triv d6 d4 (by omega))
                go_wp2_with (fail)
                go_end0
                exact ⟨rfl, _, HW3.out, sym_join HS4.out HM2.out HM3.out d1 d5 d6 d4 d2 d3 bm hbm HSP.out⟩
            · have v1i : ¬ (i : Int) < mid := by omega
              by_cases t2 : mid < E
              · have t2i : (mid : Int) < E := by omega
                by_cases v2 : E < b
                · have v2i : (E : Int) < b := by omega
                  have HS4 := Lib.hid (seg4_id f0 (a := a) (b := b) (mid := mid) d2 d3 HE2.out.symm HDD.out (by omega))
                  go_wp2_with (fail)
                  have HM2 : Hid (MrgP f0 f0 a i mid) := Lib.hid (MrgP.triv d1 d5 (by omega))
                  have e1 := HS4.out.l2
                  have e2 := HS4.out.r2
                  have HC3 := Lib.hid (HIH.out.go (c := c) HJ.out mid E b (by omega) (by omega) (by omega) hn HDB.out.2 (by rw [e1]; exact HL.out.2.1) (by rw [e2]; exact HL.out.2.2.2))
                  clear e1 e2
                  refine HC3.out.mono ?_
                  rintro e w4 ⟨rfl, F3, hw4, hm3⟩
                  have HW4 := Lib.hid hw4
                  have HM3 := Lib.hid hm3
                  clear hw4 hm3
                  go_wp2_with (fail)
                  go_end0
                  exact ⟨rfl, _, HW4.out, sym_join HS4.out HM2.out HM3.out d1 d5 d6 d4 d2 d3 bm hbm HSP.out⟩
                · have v2i : ¬ (E : Int) < b := by omega
                  have HS4 := Lib.hid (seg4_id f0 (a := a) (b := b) (mid := mid) d2 d3 HE2.out.symm HDD.out (by omega))
                  go_wp2_with (fail)
                  have HM2 : Hid (MrgP f0 f0 a i mid) := Lib.hid (MrgP.triv d1 d5 (by omega))
                  have HM3 : Hid (MrgP f0 f0 mid E b) := Lib.hid (MrgP.triv d6 d4 (by omega))
                  go_end0
                  exact ⟨rfl, _, HJ.out, sym_join HS4.out HM2.out HM3.out d1 d5 d6 d4 d2 d3 bm hbm HSP.out⟩
              · have t2i : ¬ (mid : Int) < E := by omega
                have HS4 := Lib.hid (seg4_id f0 (a := a) (b := b) (mid := mid) d2 d3 HE2.out.symm HDD.out (by omega))
                go_wp2_with (fail)
                have HM2 : Hid (MrgP f0 f0 a i mid) := Lib.hid (MrgP.triv d1 d5 (by omega))
                have HM3 : Hid (MrgP f0 f0 mid E b) := Lib.hid (MrgP.triv d6 d4 (by omega))
                go_end0
                exact ⟨rfl, _, HJ.out, sym_join HS4.out HM2.out HM3.out d1 d5 d6 d4 d2 d3 bm hbm HSP.out⟩
          · have t1i : ¬ (a : Int) < i := by omega
            by_cases t2 : mid < E
            · have t2i : (mid : Int) < E := by omega
              by_cases v2 : E < b
              · have v2i : (E : Int) < b := by omega
                have HS4 := Lib.hid (seg4_id f0 (a := a) (b := b) (mid := mid) d2 d3 HE2.out.symm HDD.out (by omega))
                go_wp2_with (fail)
                have HM2 : Hid (MrgP f0 f0 a i mid) := Lib.hid (MrgP.triv d1 d5 (by omega))
                have e1 := HS4.out.l2
                have e2 := HS4.out.r2
                have HC3 := Lib.hid (HIH.out.go (c := c) HJ.out mid E b (by omega) (by omega) (by omega) hn HDB.out.2 (by rw [e1]; exact HL.out.2.1) (by rw [e2]; exact HL.out.2.2.2))
                clear e1 e2
                refine HC3.out.mono ?_
                rintro e w4 ⟨rfl, F3, hw4, hm3⟩
                have HW4 := Lib.hid hw4
                have HM3 := Lib.hid hm3
                clear hw4 hm3
                go_wp2_with (fail)
                go_end0
                exact ⟨rfl, _, HW4.out, sym_join HS4.out HM2.out HM3.out d1 d5 d6 d4 d2 d3 bm hbm HSP.out⟩
              · have v2i : ¬ (E : Int) < b := by omega
                have HS4 := Lib.hid (seg4_id f0 (a := a) (b := b) (mid := mid) d2 d3 HE2.out.symm HDD.out (by omega))
                go_wp2_with (fail)
                have HM2 : Hid (MrgP f0 f0 a i mid) := Lib.hid (MrgP.triv d1 d5 (by omega))
                have HM3 : Hid (MrgP f0 f0 mid E b) := Lib.hid (MrgP.triv d6 d4 (by omega))
                go_end0
                exact ⟨rfl, _, HJ.out, sym_join HS4.out HM2.out HM3.out d1 d5 d6 d4 d2 d3 bm hbm HSP.out⟩
            · have t2i : ¬ (mid : Int) < E := by omega
              have HS4 := Lib.hid (seg4_id f0 (a := a) (b := b) (mid := mid) d2 d3 HE2.out.symm HDD.out (by omega))
              go_wp2_with (fail)
              have HM2 : Hid (MrgP f0 f0 a i mid) := Lib.hid (MrgP.triv d1 d5 (by omega))
              have HM3 : Hid (MrgP f0 f0 mid E b) := Lib.hid (MrgP.triv d6 d4 (by omega))
              go_end0
              exact ⟨rfl, _, HJ.out, sym_join HS4.out HM2.out HM3.out d1 d5 d6 d4 d2 d3 bm hbm HSP.out⟩
      · have t0i : ¬ (i : Int) < m := by omega
        by_cases t1 : a < i
        · have t1i : (a : Int) < i := by omega
          by_cases v1 : i < mid
          · have v1i : (i : Int) < mid := by omega
            by_cases t2 : mid < E
            · have t2i : (mid : Int) < E := by omega
              by_cases v2 : E < b
              · have v2i : (E : Int) < b := by omega
                have HS4 := Lib.hid (seg4_id f0 (a := a) (b := b) (mid := mid) d2 d3 HE2.out.symm HDD.out (by omega))
                go_wp2_with (fail)
                have HC2 := Lib.hid (HIH.out.go (c := c) HJ.out a i mid (by omega) (by omega) (by omega) hn HDB.out.1 (by rw [HS4.out.l1]; exact HL.out.1) (by rw [HS4.out.r1]; exact HL.out.2.2.1))
                refine HC2.out.mono ?_
                rintro e w3 ⟨rfl, F2, hw3, hm2⟩
                have HW3 := Lib.hid hw3
                have HM2 := Lib.hid hm2
                clear hw3 hm2
                have e1 : seg F2 mid (E - mid) = seg f0 i (m - i) := by rw [← HS4.out.l2]; exact seg_congr fun k hk => HM2.out.2 _ (Or.inr (by omega))
                have e2 : seg F2 E (b - E) = seg f0 E (b - E) := by rw [← HS4.out.r2]; exact seg_congr fun k hk => HM2.out.2 _ (Or.inr (by omega))
                have HC3 := Lib.hid (HIH.out.go (c := c) HW3.out mid E b (by omega) (by omega) (by omega) hn HDB.out.2 (by rw [e1]; exact HL.out.2.1) (by rw [e2]; exact HL.out.2.2.2))
                clear e1 e2
                go_wp2_with (fail)
                refine HC3.out.mono ?_
                rintro e w4 ⟨rfl, F3, hw4, hm3⟩
                have HW4 := Lib.hid hw4
                have HM3 := Lib.hid hm3
                clear hw4 hm3
                go_wp2_with (fail)
                go_end0
                exact ⟨rfl, _, HW4.out, sym_join HS4.out HM2.out HM3.out d1 d5 d6 d4 d2 d3 bm hbm HSP.out⟩
              · have v2i : ¬ (E : Int) < b := by omega
                have HS4 := Lib.hid (seg4_id f0 (a := a) (b := b) (mid := mid) d2 d3 HE2.out.symm HDD.out (by omega))
                go_wp2_with (fail)
                have HC2 := Lib.hid (HIH.out.go (c := c) HJ.out a i mid (by omega) (by omega) (by omega) hn HDB.out.1 (by rw [HS4.out.l1]; exact HL.out.1) (by rw [HS4.out.r1]; exact HL.out.2.2.1))
                refine HC2.out.mono ?_
                rintro e w3 ⟨rfl, F2, hw3, hm2⟩
                have HW3 := Lib.hid hw3
                have HM2 := Lib.hid hm2
                clear hw3 hm2
                have HM3 : Hid (MrgP F2 F2 mid E b) := Lib.hid (MrgP.triv d6 d4 (by omega))
                go_wp2_with (fail)
                go_end0
                exact ⟨rfl, _, HW3.out, sym_join HS4.out HM2.out HM3.out d1 d5 d6 d4 d2 d3 bm hbm HSP.out⟩
            · have t2i : ¬ (mid : Int) < E := by omega
              have HS4 := Lib.hid (seg4_id f0 (a := a) (b := b) (mid := mid) d2 d3 HE2.out.symm HDD.out (by omega))
              go_wp2_with (fail)
              have HC2 := Lib.hid (HIH.out.go (c := c) HJ.out a i mid (by omega) (by omega) (by omega) hn HDB.out.1 (by rw [HS4.out.l1]; exact HL.out.1) (by rw [HS4.out.r1]; exact HL.out.2.2.1))
              refine HC2.out.mono ?_
              rintro e w3 ⟨rfl, F2, hw3, hm2⟩
              have HW3 := Lib.hid hw3
              have HM2 := Lib.hid hm2
              clear hw3 hm2
              have HM3 : Hid (MrgP F2 F2 mid E b) := Lib.hid (MrgP.triv d6 d4 (by omega))
              go_wp2_with (fail)
              go_end0
              exact ⟨rfl, _, HW3.out, sym_join HS4.out HM2.out HM3.out d1 d5 d6 d4 d2 d3 bm hbm HSP.out⟩
          · have v1i : ¬ (i : Int) < mid := by omega
            by_cases t2 : mid < E
            · have t2i : (mid : Int) < E := by omega
              by_cases v2 : E < b
              · have v2i : (E : Int) < b := by omega
                have HS4 := Lib.hid (seg4_id f0 (a := a) (b := b) (mid := mid) d2 d3 HE2.out.symm HDD.out (by omega))
                go_wp2_with (fail)
                have HM2 : Hid (MrgP f0 f0 a i mid) := Lib.hid (MrgP.triv d1 d5 (by omega))
                have e1 := HS4.out.l2
                have e2 := HS4.out.r2
                have HC3 := Lib.hid (HIH.out.go (c := c) HJ.out mid E b (by omega) (by omega) (by omega) hn HDB.out.2 (by rw [e1]; exact HL.out.2.1) (by rw [e2]; exact HL.out.2.2.2))
                clear e1 e2
                refine HC3.out.mono ?_
                rintro e w4 ⟨rfl, F3, hw4, hm3⟩
                have HW4 := Lib.hid hw4
                have HM3 := Lib.hid hm3
                clear hw4 hm3
                go_wp2_with (fail)
                go_end0
                exact ⟨rfl, _, HW4.out, sym_join HS4.out HM2.out HM3.out d1 d5 d6 d4 d2 d3 bm hbm HSP.out⟩
              · have v2i : ¬ (E : Int) < b := by omega
                have HS4 := Lib.hid (seg4_id f0 (a := a) (b := b) (mid := mid) d2 d3 HE2.out.symm HDD.out (by omega))
                go_wp2_with (fail)
                have HM2 : Hid (MrgP f0 f0 a i mid) := Lib.hid (MrgP.triv d1 d5 (by omega))
                have HM3 : Hid (MrgP f0 f0 mid E b) := Lib.hid (MrgP.triv d6 d4 (by omega))
                go_end0
                exact ⟨rfl, _, HJ.out, sym_join HS4.out HM2.out HM3.out d1 d5 d6 d4 d2 d3 bm hbm HSP.out⟩
            · have t2i : ¬ (mid : Int) < E := by omega
              have HS4 := Lib.hid (seg4_id f0 (a := a) (b := b) (mid := mid) d2 d3 HE2.out.symm HDD.out (by omega))
              go_wp2_with (fail)
              have HM2 : Hid (MrgP f0 f0 a i mid) := Lib.hid (MrgP.triv d1 d5 (by omega))
              have HM3 : Hid (MrgP f0 f0 mid E b) := Lib.hid (MrgP.triv d6 d4 (by omega))
              go_end0
              exact ⟨rfl, _, HJ.out, sym_join HS4.out HM2.out HM3.out d1 d5 d6 d4 d2 d3 bm hbm HSP.out⟩
        · have t1i : ¬ (a : Int) < i := by omega
          by_cases t2 : mid < E
          · have t2i : (mid : Int) < E := by omega
            by_cases v2 : E < b
            · have v2i : (E : Int) < b := by omega
              have HS4 := Lib.hid (seg4_id f0 (a := a) (b := b) (mid := mid) d2 d3 HE2.out.symm HDD.out (by omega))
              go_wp2_with (fail)
              have HM2 : Hid (MrgP f0 f0 a i mid) := Lib.hid (MrgP.triv d1 d5 (by omega))
              have e1 := HS4.out.l2
              have e2 := HS4.out.r2
              have HC3 := Lib.hid (HIH.out.go (c := c) HJ.out mid E b (by omega) (by omega) (by omega) hn HDB.out.2 (by rw [e1]; exact HL.out.2.1) (by rw [e2]; exact HL.out.2.2.2))
              clear e1 e2
              refine HC3.out.mono ?_
              rintro e w4 ⟨rfl, F3, hw4, hm3⟩
              have HW4 := Lib.hid hw4
              have HM3 := Lib.hid hm3
              clear hw4 hm3
              go_wp2_with (fail)
              go_end0
              exact ⟨rfl, _, HW4.out, sym_join HS4.out HM2.out HM3.out d1 d5 d6 d4 d2 d3 bm hbm HSP.out⟩
            · have v2i : ¬ (E : Int) < b := by omega
              have HS4 := Lib.hid (seg4_id f0 (a := a) (b := b) (mid := mid) d2 d3 HE2.out.symm HDD.out (by omega))
              go_wp2_with (fail)
              have HM2 : Hid (MrgP f0 f0 a i mid) := Lib.hid (MrgP.triv d1 d5 (by omega))
              have HM3 : Hid (MrgP f0 f0 mid E b) := Lib.hid (MrgP.triv d6 d4 (by omega))
              go_end0
              exact ⟨rfl, _, HJ.out, sym_join HS4.out HM2.out HM3.out d1 d5 d6 d4 d2 d3 bm hbm HSP.out⟩
          · have t2i : ¬ (mid : Int) < E := by omega
            have HS4 := Lib.hid (seg4_id f0 (a := a) (b := b) (mid := mid) d2 d3 HE2.out.symm HDD.out (by omega))
            go_wp2_with (fail)
            have HM2 : Hid (MrgP f0 f0 a i mid) := Lib.hid (MrgP.triv d1 d5 (by omega))
            have HM3 : Hid (MrgP f0 f0 mid E b) := Lib.hid (MrgP.triv d6 d4 (by omega))
            go_end0
            exact ⟨rfl, _, HJ.out, sym_join HS4.out HM2.out HM3.out d1 d5 d6 d4 d2 d3 bm hbm HSP.out⟩

set_option maxHeartbeats 12800000 in
set_option maxRecDepth 100000 in
theorem sym3_le {W0 w : World} {g off n c : Nat} {f0 : Nat → ItT} {a m b : Nat} (ih : SymIH (b - a)) (h : Rw W0 g off n f0 w) (hbn : b ≤ n) (hn : n ≤ 1152921504606846976) (ham : a + 1 < m) (hmb : m + 1 < b) (hs1 : srt (seg f0 a (m - a))) (hs2 : srt (seg f0 m (b - m))) (hmm : m ≤ (a + b) / 2) :
    Calls Try.prog 59 #[.slice (some ⟨g, off, none⟩) n c, .int .i64 a, .int .i64 m, .int .i64 b, .func (.func 28) #[] #[]] w
      fun e w' => e = .returned (.tuple #[]) ∧ ∃ f, Rw W0 g off n f w' ∧ MrgP f0 f a m b := by
  have HR := Lib.hid h
  have HS1 := Lib.hid hs1
  have HS2 := Lib.hid hs2
  have HIH := Lib.hid ih
  obtain ⟨mid, hmid⟩ : ∃ mid, (a + b) / 2 = mid := ⟨_, rfl⟩
  obtain ⟨N, hN⟩ : ∃ N, mid + m = N := ⟨_, rfl⟩
  obtain ⟨s0, hs0⟩ : ∃ s0, (if mid < m then N - b else a) = s0 := ⟨_, rfl⟩
  obtain ⟨r0, hr0⟩ : ∃ r0, (if mid < m then mid else m) = r0 := ⟨_, rfl⟩
  obtain ⟨p, hp⟩ : ∃ p, p + 1 = N := ⟨N - 1, by omega⟩
  rw [hmid] at hmm
  rw [if_neg (by omega)] at hs0 hr0
  have r7 : ¬ (mid : Int) < m := by omega
  have HMM := Lib.hid hmm
  have r1 : ((m : Int) - (a : Int) == 1) = false := beq_eq_false_iff_ne.2 (by omega)
  have r2 : ((b : Int) - (m : Int) == 1) = false := beq_eq_false_iff_ne.2 (by omega)
  have r3 : ((a : Int) + (b : Int)) / 2 = mid := by omega
  have r4 : (mid : Int) + (m : Int) = N := by omega
  have r5 : (N : Int) - 1 = p := by omega
  have bp : p < 2 * b := by omega
  have bs : s0 ≤ r0 ∧ r0 ≤ mid ∧ r0 ≤ m ∧ a ≤ s0 ∧ N ≤ s0 + b := by omega
  have HMID := Lib.hid hmid
  have HN := Lib.hid hN
  have HP := Lib.hid hp
  have HBS := Lib.hid bs
  have HHM := Lib.hid (And.intro ham hmb)
  have bm : mid < b := by omega
  clear hs1 hs2 h ih hmid hN hp bs hmm
  clear ham hmb
  subst hs0 hr0
  go_enter Try.func59, Try.ntmps59
  go_wp2_with (fail)
  clear r1 r2 r3 r4 r5 r7
  go_loopw [20, 21, 23] (fun s t _ wr => ∃ i j : Nat, a ≤ i ∧ i ≤ j ∧ j ≤ m ∧ s = .int .i64 i ∧ t = .int .i64 j ∧ Hid (Rw W0 g off n f0 wr) ∧ Hid ((∀ k, a ≤ k → k < i → ltT (f0 (p - k)) (f0 k) = false) ∧ (∀ k, j ≤ k → k < m → ltT (f0 (p - k)) (f0 k) = true))) (fun s t _ _ => (intOf t).toNat - (intOf s).toNat)
  case atStart => exact ⟨a, m, Nat.le_refl _, HBS.out.1, Nat.le_refl _, rfl, rfl, HR, Lib.hid ⟨fun k h1 h2 => by omega, fun k h1 h2 => by omega⟩⟩
  case round =>
    rename World => wr
    obtain ⟨i, j, h2, h3, h4, rfl, rfl, HJ, HK⟩ := hrel
    have hms := HMID.out
    have hNN := HN.out
    have hpp := HP.out
    have hbs := HBS.out
    have hhm := HHM.out
    by_cases hlt : i < j
    · have i1 : (i : Int) < j := by omega
      obtain ⟨hh, hhh⟩ : ∃ hh, (i + j) / 2 = hh := ⟨_, rfl⟩
      have b1 : i ≤ hh := by omega
      have b2 : hh < j := by omega
      have r2 : ((i : Int) + (j : Int)) / 2 = hh := by omega
      obtain ⟨q, hq⟩ : ∃ q, p - hh = q := ⟨_, rfl⟩
      have q0 : m ≤ q ∧ q < b := by omega
      have q1 : (0 : Int) ≤ hh := by omega
      have q2 : (hh : Int) < n := by omega
      have q3 : (0 : Int) ≤ q := by omega
      have q4 : (q : Int) < n := by omega
      have q5 : IntKind.i64.wrap ((p : Int) - (hh : Int)) = q := by rw [IntKind.wrap_i64]; omega
      have HQ := Lib.hid hq
      have hqn : q < n := by omega
      have hhn : hh < n := by omega
      clear hhh hq
      obtain ⟨x, hx⟩ : ∃ x, f0 q = x := ⟨_, rfl⟩
      obtain ⟨y, hy⟩ : ∃ y, f0 hh = y := ⟨_, rfl⟩
      clear hms hNN hpp hbs hhm q0
      have HSB : Hid (∀ wx, Below wr.heap.size wr wx → (wx.cell? ⟨g, off + q * 2, none⟩ = some (.string x.val) ∧ wx.cell? ⟨g, off + q * 2 + 1, none⟩ = some (.int .i64 x.cnt) ∧ wx.cell? ⟨g, off + hh * 2, none⟩ = some (.string y.val) ∧ wx.cell? ⟨g, off + hh * 2 + 1, none⟩ = some (.int .i64 y.cnt)) ∧ Below wr.heap.size wr wx) := fun wx hb => by
        have hR := HJ.out.below hb
        have p1 := hR.c0 (j := q) (by omega)
        have p2 := hR.c1 (j := q) (by omega)
        have p3 := hR.c0 (j := hh) (by omega)
        have p4 := hR.c1 (j := hh) (by omega)
        rw [hx] at p1 p2
        rw [hy] at p3 p4
        exact ⟨⟨p1, p2, p3, p4⟩, hb⟩
      have HX := Lib.hid hx
      have HY := Lib.hid hy
      clear hx hy
      go_wp2_with (fail)
      refine wp_region_noPanic ?_
      refine wp_region_held_drew (S := fun wx => (wx.cell? ⟨g, off + q * 2, none⟩ = some (.string x.val) ∧ wx.cell? ⟨g, off + q * 2 + 1, none⟩ = some (.int .i64 x.cnt) ∧ wx.cell? ⟨g, off + hh * 2, none⟩ = some (.string y.val) ∧ wx.cell? ⟨g, off + hh * 2 + 1, none⟩ = some (.int .i64 y.cnt)) ∧ Below wr.heap.size wr wx) (by kernel_rfl) ?_ (fun hHeld => ?_)
      · exact HSB.out _ (Below.refl _ _).drew
      refine wpAnyH_take (i := 0) (v := ?_) rfl (by kernel_rfl) (by kernel_rfl) (by kernel_rfl) (fun _ _ _ h => h) (Or.inl ⟨by rfl, ?hy⟩) (by assumption) ?_
      case hy => intro w hSw; (try dsimp only at hSw); go_simp; try with_reducible rfl
      try simp only [Act.put, List.getElem_toArray, List.getElem_cons_succ, List.getElem_cons_zero, List.setIfInBounds_toArray, List.set_cons_zero, List.set_cons_succ]
      refine wpAnyH_take (i := 1) (v := ?_) rfl (by kernel_rfl) (by kernel_rfl) (by kernel_rfl) (fun _ _ _ h => h) (Or.inl ⟨by rfl, ?hy⟩) (by assumption) ?_
      case hy => intro w hSw; (try dsimp only at hSw); go_simp; try with_reducible rfl
      try simp only [Act.put, List.getElem_toArray, List.getElem_cons_succ, List.getElem_cons_zero, List.setIfInBounds_toArray, List.set_cons_zero, List.set_cons_succ]
      refine wpAnyH_take (i := 2) (v := ?_) rfl (by kernel_rfl) (by kernel_rfl) (by kernel_rfl) (fun _ _ _ h => h) (Or.inl ⟨by rfl, ?hy⟩) (by assumption) ?_
      case hy => intro w hSw; (try dsimp only at hSw); go_simp; try with_reducible rfl
      try simp only [Act.put, List.getElem_toArray, List.getElem_cons_succ, List.getElem_cons_zero, List.setIfInBounds_toArray, List.set_cons_zero, List.set_cons_succ]
      refine wpAnyH_take (i := 3) (v := ?_) rfl (by kernel_rfl) (by kernel_rfl) (by kernel_rfl) (fun _ _ _ h => h) (Or.inl ⟨by rfl, ?hy⟩) (by assumption) ?_
      case hy => intro w hSw; (try dsimp only at hSw); go_simp; try with_reducible rfl
      try simp only [Act.put, List.getElem_toArray, List.getElem_cons_succ, List.getElem_cons_zero, List.setIfInBounds_toArray, List.set_cons_zero, List.set_cons_succ]
      refine wpAnyH_take (i := 4) (v := ?_) rfl (by kernel_rfl) (by kernel_rfl) (by kernel_rfl) (fun _ _ _ h => h) (Or.inl ⟨by rfl, ?hy⟩) (by assumption) ?_
      case hy => intro w hSw; (try dsimp only at hSw); go_simp; try with_reducible rfl
      try simp only [Act.put, List.getElem_toArray, List.getElem_cons_succ, List.getElem_cons_zero, List.setIfInBounds_toArray, List.set_cons_zero, List.set_cons_succ]
      refine wpAnyH_take (i := 5) (v := ?_) rfl (by kernel_rfl) (by kernel_rfl) (by kernel_rfl) (fun _ _ _ h => h) (Or.inl ⟨by rfl, ?hy⟩) (by assumption) ?_
      case hy => intro w hSw; (try dsimp only at hSw); go_simp; try with_reducible rfl
      try simp only [Act.put, List.getElem_toArray, List.getElem_cons_succ, List.getElem_cons_zero, List.setIfInBounds_toArray, List.set_cons_zero, List.set_cons_succ]
      refine wpAnyH_take (i := 6) (v := ?_) rfl (by kernel_rfl) (by kernel_rfl) (by kernel_rfl) (fun _ _ _ h => h) (Or.inl ⟨by rfl, ?hy⟩) (by assumption) ?_
      case hy => intro w hSw; (try dsimp only at hSw); go_simp; try with_reducible rfl
      try simp only [Act.put, List.getElem_toArray, List.getElem_cons_succ, List.getElem_cons_zero, List.setIfInBounds_toArray, List.set_cons_zero, List.set_cons_succ]
      refine wpAnyH_take (i := 7) (v := ?_) rfl (by kernel_rfl) (by kernel_rfl) (by kernel_rfl) (fun _ _ _ h => h) (Or.inl ⟨by rfl, ?hy⟩) (by assumption) ?_
      case hy => intro w hSw; (try dsimp only at hSw); go_simp; try with_reducible rfl
      try simp only [Act.put, List.getElem_toArray, List.getElem_cons_succ, List.getElem_cons_zero, List.setIfInBounds_toArray, List.set_cons_zero, List.set_cons_succ]
      refine wpAnyH_take (i := 8) (v := ?_) rfl (by kernel_rfl) (by kernel_rfl) (by kernel_rfl) (fun _ _ _ h => h) (Or.inl ⟨by rfl, ?hy⟩) (by assumption) ?_
      case hy => intro w hSw; (try dsimp only at hSw); go_simp; try with_reducible rfl
      try simp only [Act.put, List.getElem_toArray, List.getElem_cons_succ, List.getElem_cons_zero, List.setIfInBounds_toArray, List.set_cons_zero, List.set_cons_succ]
      refine wpAnyH_take (i := 9) (v := ?_) rfl (by kernel_rfl) (by kernel_rfl) (by kernel_rfl) (fun _ _ _ h => h) (Or.inl ⟨by rfl, ?hy⟩) (by assumption) ?_
      case hy => intro w hSw; (try dsimp only at hSw); go_simp; try with_reducible rfl
      try simp only [Act.put, List.getElem_toArray, List.getElem_cons_succ, List.getElem_cons_zero, List.setIfInBounds_toArray, List.set_cons_zero, List.set_cons_succ]
      refine wpAnyH_take (i := 10) (v := ?_) rfl (by kernel_rfl) (by kernel_rfl) (by kernel_rfl) (fun _ _ _ h => h) (Or.inl ⟨by rfl, ?hy⟩) (by assumption) ?_
      case hy => intro w hSw; (try dsimp only at hSw); go_simp; try with_reducible rfl
      try simp only [Act.put, List.getElem_toArray, List.getElem_cons_succ, List.getElem_cons_zero, List.setIfInBounds_toArray, List.set_cons_zero, List.set_cons_succ]
      refine wpAnyH_ready (rs := [11]) (by kernel_rfl) (by simp) (AllReadyH.cons rfl (fun K hK => ?_) AllReadyH.nil)
      go_simp
      refine (cmp_any x y _).mono ?_; rintro e wc ⟨r, rfl, hr, hbc⟩
      try (go_wp2_with fail)
      refine hK.out _ _ ?_ (fun hHeld => ?_)
      · exact HSB.out _ (hHeld.2.trans (hbc.mono hHeld.2.size))
      clear hK K
      try simp only [Act.put, List.getElem_toArray, List.getElem_cons_succ, List.getElem_cons_zero, List.setIfInBounds_toArray, List.set_cons_zero, List.set_cons_succ]
      refine wpAnyH_take (i := 12) (v := ?_) rfl (by kernel_rfl) (by kernel_rfl) (by kernel_rfl) (fun _ _ _ h => h) (Or.inl ⟨by rfl, ?hy⟩) (by assumption) ?_
      case hy => intro w hSw; (try dsimp only at hSw); go_simp; try with_reducible rfl
      try simp only [Act.put, List.getElem_toArray, List.getElem_cons_succ, List.getElem_cons_zero, List.setIfInBounds_toArray, List.set_cons_zero, List.set_cons_succ]
      refine wpAnyH_take (i := 13) (v := ?_) rfl (by kernel_rfl) (by kernel_rfl) (by kernel_rfl) (fun _ _ _ h => h) (Or.inl ⟨by rfl, ?hy⟩) (by assumption) ?_
      case hy => intro w hSw; (try dsimp only at hSw); go_simp; try with_reducible rfl
      try simp only [Act.put, List.getElem_toArray, List.getElem_cons_succ, List.getElem_cons_zero, List.setIfInBounds_toArray, List.set_cons_zero, List.set_cons_succ]
      refine wpAnyH_done (by kernel_rfl) ?_ _
      refine NoPanic.normal ?_
      have HRW := Lib.hid (HJ.out.below hHeld.2)
      clear hHeld hbc hr HSB
      try clear hHeld
      try clear hHeld
      cases hxy : ltT x y
      · simp only [Bool.not_false]
        go_wp2_with (fail)
        refine ⟨⟨hh + 1, j, by omega, by omega, h4, by go_num, rfl, HRW, Lib.hid ⟨fun k k1 k2 => ?_, HK.out.2⟩⟩, by first | (simp [intOf]; done) | (simp [intOf]; omega)⟩
        have hms := HMID.out; have hNN := HN.out; have hpp := HP.out; have hbs := HBS.out; have hhm := HHM.out; have hqq := HQ.out
        have e1 : ltT (f0 q) (f0 hh) = false := by rw [HX.out, HY.out]; exact hxy
        exact ltT_neg (seg_srt_le HS2.out (i := q) (by omega) (by omega) (by omega)) (ltT_neg e1 (seg_srt_le HS1.out (by omega) (by omega) (by omega)))
      · simp only [Bool.not_true]
        go_wp2_with (fail)
        refine ⟨⟨i, hh, h2, b1, by omega, rfl, rfl, HRW, Lib.hid ⟨HK.out.1, fun k k1 k2 => ?_⟩⟩, by first | (simp [intOf]; done) | (simp [intOf]; omega)⟩
        have hms := HMID.out; have hNN := HN.out; have hpp := HP.out; have hbs := HBS.out; have hhm := HHM.out; have hqq := HQ.out
        have e1 : ltT (f0 q) (f0 hh) = true := by rw [HX.out, HY.out]; exact hxy
        have e2 : ltT (f0 q) (f0 k) = true := ltT_l e1 (seg_srt_le HS1.out (by omega) (by omega) (by omega))
        exact ltT_r e2 (seg_srt_le HS2.out (by omega) (by omega) (by omega))
    · obtain ⟨E, hE⟩ : ∃ E, mid + m - i = E := ⟨_, rfl⟩
      obtain rfl : i = j := by omega
      have hmq := HMM.out
      have hf := sym_found f0 (by omega) (by omega) hms.symm HS1.out HS2.out (by omega) hE.symm (Or.inr ⟨hmq, rfl, rfl⟩) h2 h4 HK.out.1 HK.out.2
      have HSP := Lib.hid hf.2
      obtain ⟨⟨d1, d2, d3, d4, d5, d6⟩, -⟩ := hf
      have r8 : (N : Int) - i = E := by omega
      have HE2 := Lib.hid hE
      have HDD := Lib.hid (show i ≤ mid + m by omega)
      have l1 : srt (seg f0 a (i - a)) := srt_sub HS1.out (Nat.le_refl _) (by omega) (fun _ _ => trivial) (g := f0)
      have l2 : srt (seg f0 i (m - i)) := srt_sub HS1.out (by omega) (by omega) (fun _ _ => trivial) (g := f0)
      have l3 : srt (seg f0 m (E - m)) := srt_sub HS2.out (Nat.le_refl _) (by omega) (fun _ _ => trivial) (g := f0)
      have l4 : srt (seg f0 E (b - E)) := srt_sub HS2.out (by omega) (by omega) (fun _ _ => trivial) (g := f0)
      have HL := Lib.hid (And.intro l1 (And.intro l2 (And.intro l3 l4)))
      have ham : a < m := by omega
      have hmb : m < b := by omega
      have hbm : a ≤ mid := by omega
      have hdb : mid - a < b - a ∧ b - mid < b - a := by omega
      have HDB := Lib.hid hdb
      clear hmq
      clear l1 l2 l3 l4 hE hdb hms hNN hpp hbs hhm
      by_cases t0 : i < m
      · have t0i : (i : Int) < m := by omega
        by_cases v0 : m < E
        · have v0i : (m : Int) < E := by omega
          by_cases t1 : a < i
          · have t1i : (a : Int) < i := by omega
            by_cases v1 : i < mid
            · have v1i : (i : Int) < mid := by omega
              by_cases t2 : mid < E
              · have t2i : (mid : Int) < E := by omega
                by_cases v2 : E < b
                · have v2i : (E : Int) < b := by omega
                  have HC1 := Lib.hid (rot_any (c := c) HJ.out i m E (by omega) (by omega) (by omega) hn)
                  have HS4 := Lib.hid (seg4_rot f0 (a := a) (b := b) (mid := mid) d1 t0 v0 d4 HE2.out.symm HDD.out)
                  go_wp2_with (fail)
                  refine HC1.out.mono ?_
                  rintro e w2 ⟨rfl, hw2⟩
                  have HW2 := Lib.hid hw2
                  clear hw2
                  have HC2 := Lib.hid (HIH.out.go (c := c) HW2.out a i mid (by omega) (by omega) (by omega) hn HDB.out.1 (by rw [HS4.out.l1]; exact HL.out.1) (by rw [HS4.out.r1]; exact HL.out.2.2.1))
                  go_wp2_with (fail)
                  refine HC2.out.mono ?_
                  rintro e w3 ⟨rfl, F2, hw3, hm2⟩
                  have HW3 := Lib.hid hw3
                  have HM2 := Lib.hid hm2
                  clear hw3 hm2
                  have e1 : seg F2 mid (E - mid) = seg f0 i (m - i) := by rw [← HS4.out.l2]; exact seg_congr fun k hk => HM2.out.2 _ (Or.inr (by omega))
                  have e2 : seg F2 E (b - E) = seg f0 E (b - E) := by rw [← HS4.out.r2]; exact seg_congr fun k hk => HM2.out.2 _ (Or.inr (by omega))
                  have HC3 := Lib.hid (HIH.out.go (c := c) HW3.out mid E b (by omega) (by omega) (by omega) hn HDB.out.2 (by rw [e1]; exact HL.out.2.1) (by rw [e2]; exact HL.out.2.2.2))
                  clear e1 e2
                  go_wp2_with (fail)
                  refine HC3.out.mono ?_
                  rintro e w4 ⟨rfl, F3, hw4, hm3⟩
                  have HW4 := Lib.hid hw4
                  have HM3 := Lib.hid hm3
                  clear hw4 hm3
                  go_wp2_with (fail)
                  go_end0
                  exact ⟨rfl, _, HW4.out, sym_join HS4.out HM2.out HM3.out d1 d5 d6 d4 d2 d3 bm hbm HSP.out⟩
                · have v2i : ¬ (E : Int) < b := by omega
                  have HC1 := Lib.hid (rot_any (c := c) HJ.out i m E (by omega) (by omega) (by omega) hn)
                  have HS4 := Lib.hid (seg4_rot f0 (a := a) (b := b) (mid := mid) d1 t0 v0 d4 HE2.out.symm HDD.out)
                  go_wp2_with (fail)
                  refine HC1.out.mono ?_
                  rintro e w2 ⟨rfl, hw2⟩
                  have HW2 := Lib.hid hw2
                  clear hw2
                  have HC2 := Lib.hid (HIH.out.go (c := c) HW2.out a i mid (by omega) (by omega) (by omega) hn HDB.out.1 (by rw [HS4.out.l1]; exact HL.out.1) (by rw [HS4.out.r1]; exact HL.out.2.2.1))
                  go_wp2_with (fail)
                  refine HC2.out.mono ?_
                  rintro e w3 ⟨rfl, F2, hw3, hm2⟩
                  have HW3 := Lib.hid hw3
                  have HM2 := Lib.hid hm2
                  clear hw3 hm2
                  have HM3 : Hid (MrgP F2 F2 mid E b) := Lib.hid (MrgP.triv d6 d4 (by omega))
                  go_wp2_with (fail)
                  go_end0
                  exact ⟨rfl, _, HW3.out, sym_join HS4.out HM2.out HM3.out d1 d5 d6 d4 d2 d3 bm hbm HSP.out⟩
              · have t2i : ¬ (mid : Int) < E := by omega
                have HC1 := Lib.hid (rot_any (c := c) HJ.out i m E (by omega) (by omega) (by omega) hn)
                have HS4 := Lib.hid (seg4_rot f0 (a := a) (b := b) (mid := mid) d1 t0 v0 d4 HE2.out.symm HDD.out)
                go_wp2_with (fail)
                refine HC1.out.mono ?_
                rintro e w2 ⟨rfl, hw2⟩
                have HW2 := Lib.hid hw2
                clear hw2
                have HC2 := Lib.hid (HIH.out.go (c := c) HW2.out a i mid (by omega) (by omega) (by omega) hn HDB.out.1 (by rw [HS4.out.l1]; exact HL.out.1) (by rw [HS4.out.r1]; exact HL.out.2.2.1))
                go_wp2_with (fail)
                refine HC2.out.mono ?_
                rintro e w3 ⟨rfl, F2, hw3, hm2⟩
                have HW3 := Lib.hid hw3
                have HM2 := Lib.hid hm2
                clear hw3 hm2
                have HM3 : Hid (MrgP F2 F2 mid E b) := Lib.hid (MrgP.triv d6 d4 (by omega))
                go_wp2_with (fail)
                go_end0
                exact ⟨rfl, _, HW3.out, sym_join HS4.out HM2.out HM3.out d1 d5 d6 d4 d2 d3 bm hbm HSP.out⟩
            · have v1i : ¬ (i : Int) < mid := by omega
              by_cases t2 : mid < E
              · have t2i : (mid : Int) < E := by omega
                by_cases v2 : E < b
                · have v2i : (E : Int) < b := by omega
                  have HC1 := Lib.hid (rot_any (c := c) HJ.out i m E (by omega) (by omega) (by omega) hn)
                  have HS4 := Lib.hid (seg4_rot f0 (a := a) (b := b) (mid := mid) d1 t0 v0 d4 HE2.out.symm HDD.out)
                  go_wp2_with (fail)
                  refine HC1.out.mono ?_
                  rintro e w2 ⟨rfl, hw2⟩
                  have HW2 := Lib.hid hw2
                  clear hw2
                  go_wp2_with (fail)
                  have HM2 : Hid (MrgP (rotF f0 i m E) (rotF f0 i m E) a i mid) := Lib.hid (MrgP.triv d1 d5 (by omega))
                  have e1 := HS4.out.l2
                  have e2 := HS4.out.r2
                  have HC3 := Lib.hid (HIH.out.go (c := c) HW2.out mid E b (by omega) (by omega) (by omega) hn HDB.out.2 (by rw [e1]; exact HL.out.2.1) (by rw [e2]; exact HL.out.2.2.2))
                  clear e1 e2
                  refine HC3.out.mono ?_
                  rintro e w4 ⟨rfl, F3, hw4, hm3⟩
                  have HW4 := Lib.hid hw4
                  have HM3 := Lib.hid hm3
                  clear hw4 hm3
                  go_wp2_with (fail)
                  go_end0
                  exact ⟨rfl, _, HW4.out, sym_join HS4.out HM2.out HM3.out d1 d5 d6 d4 d2 d3 bm hbm HSP.out⟩
                · have v2i : ¬ (E : Int) < b := by omega
                  have HC1 := Lib.hid (rot_any (c := c) HJ.out i m E (by omega) (by omega) (by omega) hn)
                  have HS4 := Lib.hid (seg4_rot f0 (a := a) (b := b) (mid := mid) d1 t0 v0 d4 HE2.out.symm HDD.out)
                  go_wp2_with (fail)
                  refine HC1.out.mono ?_
                  rintro e w2 ⟨rfl, hw2⟩
                  have HW2 := Lib.hid hw2
                  clear hw2
                  go_wp2_with (fail)
                  have HM2 : Hid (MrgP (rotF f0 i m E) (rotF f0 i m E) a i mid) := Lib.hid (MrgP.triv d1 d5 (by omega))
                  have HM3 : Hid (MrgP (rotF f0 i m E) (rotF f0 i m E) mid E b) := Lib.hid (MrgP.triv d6 d4 (by omega))
                  go_end0
                  exact ⟨rfl, _, HW2.out, sym_join HS4.out HM2.out HM3.out d1 d5 d6 d4 d2 d3 bm hbm HSP.out⟩
              · have t2i : ¬ (mid : Int) < E := by omega
                have HC1 := Lib.hid (rot_any (c := c) HJ.out i m E (by omega) (by omega) (by omega) hn)
                have HS4 := Lib.hid (seg4_rot f0 (a := a) (b := b) (mid := mid) d1 t0 v0 d4 HE2.out.symm HDD.out)
                go_wp2_with (fail)
                refine HC1.out.mono ?_
                rintro e w2 ⟨rfl, hw2⟩
                have HW2 := Lib.hid hw2
                clear hw2
                go_wp2_with (fail)
                have HM2 : Hid (MrgP (rotF f0 i m E) (rotF f0 i m E) a i mid) := Lib.hid (MrgP.triv d1 d5 (by omega))
                have HM3 : Hid (MrgP (rotF f0 i m E) (rotF f0 i m E) mid E b) := Lib.hid (MrgP.triv d6 d4 (by omega))
                go_end0
                exact ⟨rfl, _, HW2.out, sym_join HS4.out HM2.out HM3.out d1 d5 d6 d4 d2 d3 bm hbm HSP.out⟩
          · have t1i : ¬ (a : Int) < i := by omega
            by_cases t2 : mid < E
            · have t2i : (mid : Int) < E := by omega
              by_cases v2 : E < b
              · have v2i : (E : Int) < b := by omega
                have HC1 := Lib.hid (rot_any (c := c) HJ.out i m E (by omega) (by omega) (by omega) hn)
                have HS4 := Lib.hid (seg4_rot f0 (a := a) (b := b) (mid := mid) d1 t0 v0 d4 HE2.out.symm HDD.out)
                go_wp2_with (fail)
                refine HC1.out.mono ?_
                rintro e w2 ⟨rfl, hw2⟩
                have HW2 := Lib.hid hw2
                clear hw2
                go_wp2_with (fail)
                have HM2 : Hid (MrgP (rotF f0 i m E) (rotF f0 i m E) a i mid) := Lib.hid (MrgP.triv d1 d5 (by omega))
                have e1 := HS4.out.l2
                have e2 := HS4.out.r2
                have HC3 := Lib.hid (HIH.out.go (c := c) HW2.out mid E b (by omega) (by omega) (by omega) hn HDB.out.2 (by rw [e1]; exact HL.out.2.1) (by rw [e2]; exact HL.out.2.2.2))
                clear e1 e2
                refine HC3.out.mono ?_
                rintro e w4 ⟨rfl, F3, hw4, hm3⟩
                have HW4 := Lib.hid hw4
                have HM3 := Lib.hid hm3
                clear hw4 hm3
                go_wp2_with (fail)
                go_end0
                exact ⟨rfl, _, HW4.out, sym_join HS4.out HM2.out HM3.out d1 d5 d6 d4 d2 d3 bm hbm HSP.out⟩
              · have v2i : ¬ (E : Int) < b := by omega
                have HC1 := Lib.hid (rot_any (c := c) HJ.out i m E (by omega) (by omega) (by omega) hn)
                have HS4 := Lib.hid (seg4_rot f0 (a := a) (b := b) (mid := mid) d1 t0 v0 d4 HE2.out.symm HDD.out)
                go_wp2_with (fail)
                refine HC1.out.mono ?_
                rintro e w2 ⟨rfl, hw2⟩
                have HW2 := Lib.hid hw2
                clear hw2
                go_wp2_with (fail)
                have HM2 : Hid (MrgP (rotF f0 i m E) (rotF f0 i m E) a i mid) := Lib.hid (MrgP.triv d1 d5 (by omega))
                have HM3 : Hid (MrgP (rotF f0 i m E) (rotF f0 i m E) mid E b) := Lib.hid (MrgP.triv d6 d4 (by omega))
                go_end0
                exact ⟨rfl, _, HW2.out, sym_join HS4.out HM2.out HM3.out d1 d5 d6 d4 d2 d3 bm hbm HSP.out⟩
            · have t2i : ¬ (mid : Int) < E := by omega
              have HC1 := Lib.hid (rot_any (c := c) HJ.out i m E (by omega) (by omega) (by omega) hn)
              have HS4 := Lib.hid (seg4_rot f0 (a := a) (b := b) (mid := mid) d1 t0 v0 d4 HE2.out.symm HDD.out)
              go_wp2_with (fail)
              refine HC1.out.mono ?_
              rintro e w2 ⟨rfl, hw2⟩
              have HW2 := Lib.hid hw2
              clear hw2
              go_wp2_with (fail)
              have HM2 : Hid (MrgP (rotF f0 i m E) (rotF f0 i m E) a i mid) := Lib.hid (MrgP.triv d1 d5 (by omega))
              have HM3 : Hid (MrgP (rotF f0 i m E) (rotF f0 i m E) mid E b) := Lib.hid (MrgP.triv d6 d4 (by omega))
              go_end0
              exact ⟨rfl, _, HW2.out, sym_join HS4.out HM2.out HM3.out d1 d5 d6 d4 d2 d3 bm hbm HSP.out⟩
        · have v0i : ¬ (m : Int) < E := by omega
          by_cases t1 : a < i
          · have t1i : (a : Int) < i := by omega
            by_cases v1 : i < mid
            · have v1i : (i : Int) < mid := by omega
              by_cases t2 : mid < E
              · have t2i : (mid : Int) < E := by omega
                by_cases v2 : E < b
                · have v2i : (E : Int) < b := by omega
                  have HS4 := Lib.hid (seg4_id f0 (a := a) (b := b) (mid := mid) d2 d3 HE2.out.symm HDD.out (by omega))
                  go_wp2_with (fail)
                  have HC2 := Lib.hid (HIH.out.go (c := c) HJ.out a i mid (by omega) (by omega) (by omega) hn HDB.out.1 (by rw [HS4.out.l1]; exact HL.out.1) (by rw [HS4.out.r1]; exact HL.out.2.2.1))
                  refine HC2.out.mono ?_
                  rintro e w3 ⟨rfl, F2, hw3, hm2⟩
                  have HW3 := Lib.hid hw3
                  have HM2 := Lib.hid hm2
                  clear hw3 hm2
                  have e1 : seg F2 mid (E - mid) = seg f0 i (m - i) := by rw [← HS4.out.l2]; exact seg_congr fun k hk => HM2.out.2 _ (Or.inr (by omega))
                  have e2 : seg F2 E (b - E) = seg f0 E (b - E) := by rw [← HS4.out.r2]; exact seg_congr fun k hk => HM2.out.2 _ (Or.inr (by omega))
                  have HC3 := Lib.hid (HIH.out.go (c := c) HW3.out mid E b (by omega) (by omega) (by omega) hn HDB.out.2 (by rw [e1]; exact HL.out.2.1) (by rw [e2]; exact HL.out.2.2.2))
                  clear e1 e2
                  go_wp2_with (fail)
                  refine HC3.out.mono ?_
                  rintro e w4 ⟨rfl, F3, hw4, hm3⟩
                  have HW4 := Lib.hid hw4
                  have HM3 := Lib.hid hm3
                  clear hw4 hm3
                  go_wp2_with (fail)
                  go_end0
                  exact ⟨rfl, _, HW4.out, sym_join HS4.out HM2.out HM3.out d1 d5 d6 d4 d2 d3 bm hbm HSP.out⟩
                · have v2i : ¬ (E : Int) < b := by omega
                  have HS4 := Lib.hid (seg4_id f0 (a := a) (b := b) (mid := mid) d2 d3 HE2.out.symm HDD.out (by omega))
                  go_wp2_with (fail)
                  have HC2 := Lib.hid (HIH.out.go (c := c) HJ.out a i mid (by omega) (by omega) (by omega) hn HDB.out.1 (by rw [HS4.out.l1]; exact HL.out.1) (by rw [HS4.out.r1]; exact HL.out.2.2.1))
                  refine HC2.out.mono ?_
                  rintro e w3 ⟨rfl, F2, hw3, hm2⟩
                  have HW3 := Lib.hid hw3
                  have HM2 := Lib.hid hm2
                  clear hw3 hm2
                  have HM3 : Hid (MrgP F2 F2 mid E b) := Lib.hid (MrgP.triv d6 d4 (by omega))
                  go_wp2_with (fail)
                  go_end0
                  exact ⟨rfl, _, HW3.out, sym_join HS4.out HM2.out HM3.out d1 d5 d6 d4 d2 d3 bm hbm HSP.out⟩
              · have t2i : ¬ (mid : Int) < E := by omega
                have HS4 := Lib.hid (seg4_id f0 (a := a) (b := b) (mid := mid) d2 d3 HE2.out.symm HDD.out (by omega))
                go_wp2_with (fail)
                have HC2 := Lib.hid (HIH.out.go (c := c) HJ.out a i mid (by omega) (by omega) (by omega) hn HDB.out.1 (by rw [HS4.out.l1]; exact HL.out.1) (by rw [HS4.out.r1]; exact HL.out.2.2.1))
                refine HC2.out.mono ?_
                rintro e w3 ⟨rfl, F2, hw3, hm2⟩
                have HW3 := Lib.hid hw3
                have HM2 := Lib.hid hm2
                clear hw3 hm2
                have HM3 : Hid (MrgP F2 F2 mid E b) := Lib.hid (MrgP.triv d6 d4 (by omega))
                go_wp2_with (fail)
                go_end0
                exact ⟨rfl, _, HW3.out, sym_join HS4.out HM2.out HM3.out d1 d5 d6 d4 d2 d3 bm hbm HSP.out⟩
            · have v1i : ¬ (i : Int) < mid := by omega
              by_cases t2 : mid < E
              · have t2i : (mid : Int) < E := by omega
                by_cases v2 : E < b
                · have v2i : (E : Int) < b := by omega
                  have HS4 := Lib.hid (seg4_id f0 (a := a) (b := b) (mid := mid) d2 d3 HE2.out.symm HDD.out (by omega))
                  go_wp2_with (fail)
                  have HM2 : Hid (MrgP f0 f0 a i mid) := Lib.hid (MrgP.triv d1 d5 (by omega))
                  have e1 := HS4.out.l2
                  have e2 := HS4.out.r2
                  have HC3 := Lib.hid (HIH.out.go (c := c) HJ.out mid E b (by omega) (by omega) (by omega) hn HDB.out.2 (by rw [e1]; exact HL.out.2.1) (by rw [e2]; exact HL.out.2.2.2))
                  clear e1 e2
                  refine HC3.out.mono ?_
                  rintro e w4 ⟨rfl, F3, hw4, hm3⟩
                  have HW4 := Lib.hid hw4
                  have HM3 := Lib.hid hm3
                  clear hw4 hm3
                  go_wp2_with (fail)
                  go_end0
                  exact ⟨rfl, _, HW4.out, sym_join HS4.out HM2.out HM3.out d1 d5 d6 d4 d2 d3 bm hbm HSP.out⟩
                · have v2i : ¬ (E : Int) < b := by omega
                  have HS4 := Lib.hid (seg4_id f0 (a := a) (b := b) (mid := mid) d2 d3 HE2.out.symm HDD.out (by omega))
                  go_wp2_with (fail)
                  have HM2 : Hid (MrgP f0 f0 a i mid) := Lib.hid (MrgP.triv d1 d5 (by omega))
                  have HM3 : Hid (MrgP f0 f0 mid E b) := Lib.hid (MrgP.triv d6 d4 (by omega))
                  go_end0
                  exact ⟨rfl, _, HJ.out, sym_join HS4.out HM2.out HM3.out d1 d5 d6 d4 d2 d3 bm hbm HSP.out⟩
              · have t2i : ¬ (mid : Int) < E := by omega
                have HS4 := Lib.hid (seg4_id f0 (a := a) (b := b) (mid := mid) d2 d3 HE2.out.symm HDD.out (by omega))
                go_wp2_with (fail)
                have HM2 : Hid (MrgP f0 f0 a i mid) := Lib.hid (MrgP.triv d1 d5 (by omega))
                have HM3 : Hid (MrgP f0 f0 mid E b) := Lib.hid (MrgP.triv d6 d4 (by omega))
                go_end0
                exact ⟨rfl, _, HJ.out, sym_join HS4.out HM2.out HM3.out d1 d5 d6 d4 d2 d3 bm hbm HSP.out⟩
          · have t1i : ¬ (a : Int) < i := by omega
            by_cases t2 : mid < E
            · have t2i : (mid : Int) < E := by omega
              by_cases v2 : E < b
              · have v2i : (E : Int) < b := by omega
                have HS4 := Lib.hid (seg4_id f0 (a := a) (b := b) (mid := mid) d2 d3 HE2.out.symm HDD.out (by omega))
                go_wp2_with (fail)
                have HM2 : Hid (MrgP f0 f0 a i mid) := Lib.hid (MrgP.triv d1 d5 (by omega))
                have e1 := HS4.out.l2
                have e2 := HS4.out.r2
                have HC3 := Lib.hid (HIH.out.go (c := c) HJ.out mid E b (by omega) (by omega) (by omega) hn HDB.out.2 (by rw [e1]; exact HL.out.2.1) (by rw [e2]; exact HL.out.2.2.2))
                clear e1 e2
                refine HC3.out.mono ?_
                rintro e w4 ⟨rfl, F3, hw4, hm3⟩
                have HW4 := Lib.hid hw4
                have HM3 := Lib.hid hm3
                clear hw4 hm3
                go_wp2_with (fail)
                go_end0
                exact ⟨rfl, _, HW4.out, sym_join HS4.out HM2.out HM3.out d1 d5 d6 d4 d2 d3 bm hbm HSP.out⟩
              · have v2i : ¬ (E : Int) < b := by omega
                have HS4 := Lib.hid (seg4_id f0 (a := a) (b := b) (mid := mid) d2 d3 HE2.out.symm HDD.out (by omega))
                go_wp2_with (fail)
                have HM2 : Hid (MrgP f0 f0 a i mid) := Lib.hid (MrgP.triv d1 d5 (by omega))
                have HM3 : Hid (MrgP f0 f0 mid E b) := Lib.hid (MrgP.triv d6 d4 (by omega))
                go_end0
                exact ⟨rfl, _, HJ.out, sym_join HS4.out HM2.out HM3.out d1 d5 d6 d4 d2 d3 bm hbm HSP.out⟩
            · have t2i : ¬ (mid : Int) < E := by omega
              have HS4 := Lib.hid (seg4_id f0 (a := a) (b := b) (mid := mid) d2 d3 HE2.out.symm HDD.out (by omega))
              go_wp2_with (fail)
              have HM2 : Hid (MrgP f0 f0 a i mid) := Lib.hid (MrgP.triv d1 d5 (by omega))
              have HM3 : Hid (MrgP f0 f0 mid E b) := Lib.hid (MrgP.triv d6 d4 (by omega))
              go_end0
              exact ⟨rfl, _, HJ.out, sym_join HS4.out HM2.out HM3.out d1 d5 d6 d4 d2 d3 bm hbm HSP.out⟩
      · have t0i : ¬ (i : Int) < m := by omega
        by_cases t1 : a < i
        · have t1i : (a : Int) < i := by omega
          by_cases v1 : i < mid
          · have v1i : (i : Int) < mid := by omega
            by_cases t2 : mid < E
            · have t2i : (mid : Int) < E := by omega
              by_cases v2 : E < b
              · have v2i : (E : Int) < b := by omega
                have HS4 := Lib.hid (seg4_id f0 (a := a) (b := b) (mid := mid) d2 d3 HE2.out.symm HDD.out (by omega))
                go_wp2_with (fail)
                have HC2 := Lib.hid (HIH.out.go (c := c) HJ.out a i mid (by omega) (by omega) (by omega) hn HDB.out.1 (by rw [HS4.out.l1]; exact HL.out.1) (by rw [HS4.out.r1]; exact HL.out.2.2.1))
                refine HC2.out.mono ?_
                rintro e w3 ⟨rfl, F2, hw3, hm2⟩
                have HW3 := Lib.hid hw3
                have HM2 := Lib.hid hm2
                clear hw3 hm2
                have e1 : seg F2 mid (E - mid) = seg f0 i (m - i) := by rw [← HS4.out.l2]; exact seg_congr fun k hk => HM2.out.2 _ (Or.inr (by omega))
                have e2 : seg F2 E (b - E) = seg f0 E (b - E) := by rw [← HS4.out.r2]; exact seg_congr fun k hk => HM2.out.2 _ (Or.inr (by omega))
                have HC3 := Lib.hid (HIH.out.go (c := c) HW3.out mid E b (by omega) (by omega) (by omega) hn HDB.out.2 (by rw [e1]; exact HL.out.2.1) (by rw [e2]; exact HL.out.2.2.2))
                clear e1 e2
                go_wp2_with (fail)
                refine HC3.out.mono ?_
                rintro e w4 ⟨rfl, F3, hw4, hm3⟩
                have HW4 := Lib.hid hw4
                have HM3 := Lib.hid hm3
                clear hw4 hm3
                go_wp2_with (fail)
                go_end0
                exact ⟨rfl, _, HW4.out, sym_join HS4.out HM2.out HM3.out d1 d5 d6 d4 d2 d3 bm hbm HSP.out⟩
              · have v2i : ¬ (E : Int) < b := by omega
                have HS4 := Lib.hid (seg4_id f0 (a := a) (b := b) (mid := mid) d2 d3 HE2.out.symm HDD.out (by omega))
                go_wp2_with (fail)
                have HC2 := Lib.hid (HIH.out.go (c := c) HJ.out a i mid (by omega) (by omega) (by omega) hn HDB.out.1 (by rw [HS4.out.l1]; exact HL.out.1) (by rw [HS4.out.r1]; exact HL.out.2.2.1))
                refine HC2.out.mono ?_
                rintro e w3 ⟨rfl, F2, hw3, hm2⟩
                have HW3 := Lib.hid hw3
                have HM2 := Lib.hid hm2
                clear hw3 hm2
                have HM3 : Hid (MrgP F2 F2 mid E b) := Lib.hid (MrgP.triv d6 d4 (by omega))
                go_wp2_with (fail)
                go_end0
                exact ⟨rfl, _, HW3.out, sym_join HS4.out HM2.out HM3.out d1 d5 d6 d4 d2 d3 bm hbm HSP.out⟩
            · have t2i : ¬ (mid : Int) < E := by omega
              have HS4 := Lib.hid (seg4_id f0 (a := a) (b := b) (mid := mid) d2 d3 HE2.out.symm HDD.out (by omega))
              go_wp2_with (fail)
              have HC2 := Lib.hid (HIH.out.go (c := c) HJ.out a i mid (by omega) (by omega) (by omega) hn HDB.out.1 (by rw [HS4.out.l1]; exact HL.out.1) (by rw [HS4.out.r1]; exact HL.out.2.2.1))
              refine HC2.out.mono ?_
              rintro e w3 ⟨rfl, F2, hw3, hm2⟩
              have HW3 := Lib.hid hw3
              have HM2 := Lib.hid hm2
              clear hw3 hm2
              have HM3 : Hid (MrgP F2 F2 mid E b) := Lib.hid (MrgP.triv d6 d4 (by omega))
              go_wp2_with (fail)
              go_end0
              exact ⟨rfl, _, HW3.out, sym_join HS4.out HM2.out HM3.out d1 d5 d6 d4 d2 d3 bm hbm HSP.out⟩
          · have v1i : ¬ (i : Int) < mid := by omega
            by_cases t2 : mid < E
            · have t2i : (mid : Int) < E := by omega
              by_cases v2 : E < b
              · have v2i : (E : Int) < b := by omega
                have HS4 := Lib.hid (seg4_id f0 (a := a) (b := b) (mid := mid) d2 d3 HE2.out.symm HDD.out (by omega))
                go_wp2_with (fail)
                have HM2 : Hid (MrgP f0 f0 a i mid) := Lib.hid (MrgP.triv d1 d5 (by omega))
                have e1 := HS4.out.l2
                have e2 := HS4.out.r2
                have HC3 := Lib.hid (HIH.out.go (c := c) HJ.out mid E b (by omega) (by omega) (by omega) hn HDB.out.2 (by rw [e1]; exact HL.out.2.1) (by rw [e2]; exact HL.out.2.2.2))
                clear e1 e2
                refine HC3.out.mono ?_
                rintro e w4 ⟨rfl, F3, hw4, hm3⟩
                have HW4 := Lib.hid hw4
                have HM3 := Lib.hid hm3
                clear hw4 hm3
                go_wp2_with (fail)
                go_end0
                exact ⟨rfl, _, HW4.out, sym_join HS4.out HM2.out HM3.out d1 d5 d6 d4 d2 d3 bm hbm HSP.out⟩
              · have v2i : ¬ (E : Int) < b := by omega
                have HS4 := Lib.hid (seg4_id f0 (a := a) (b := b) (mid := mid) d2 d3 HE2.out.symm HDD.out (by omega))
                go_wp2_with (fail)
                have HM2 : Hid (MrgP f0 f0 a i mid) := Lib.hid (MrgP.triv d1 d5 (by omega))
                have HM3 : Hid (MrgP f0 f0 mid E b) := Lib.hid (MrgP.triv d6 d4 (by omega))
                go_end0
                exact ⟨rfl, _, HJ.out, sym_join HS4.out HM2.out HM3.out d1 d5 d6 d4 d2 d3 bm hbm HSP.out⟩
            · have t2i : ¬ (mid : Int) < E := by omega
              have HS4 := Lib.hid (seg4_id f0 (a := a) (b := b) (mid := mid) d2 d3 HE2.out.symm HDD.out (by omega))
              go_wp2_with (fail)
              have HM2 : Hid (MrgP f0 f0 a i mid) := Lib.hid (MrgP.triv d1 d5 (by omega))
              have HM3 : Hid (MrgP f0 f0 mid E b) := Lib.hid (MrgP.triv d6 d4 (by omega))
              go_end0
              exact ⟨rfl, _, HJ.out, sym_join HS4.out HM2.out HM3.out d1 d5 d6 d4 d2 d3 bm hbm HSP.out⟩
        · have t1i : ¬ (a : Int) < i := by omega
          by_cases t2 : mid < E
          · have t2i : (mid : Int) < E := by omega
            by_cases v2 : E < b
            · have v2i : (E : Int) < b := by omega
              have HS4 := Lib.hid (seg4_id f0 (a := a) (b := b) (mid := mid) d2 d3 HE2.out.symm HDD.out (by omega))
              go_wp2_with (fail)
              have HM2 : Hid (MrgP f0 f0 a i mid) := Lib.hid (MrgP.triv d1 d5 (by omega))
              have e1 := HS4.out.l2
              have e2 := HS4.out.r2
              have HC3 := Lib.hid (HIH.out.go (c := c) HJ.out mid E b (by omega) (by omega) (by omega) hn HDB.out.2 (by rw [e1]; exact HL.out.2.1) (by rw [e2]; exact HL.out.2.2.2))
              clear e1 e2
              refine HC3.out.mono ?_
              rintro e w4 ⟨rfl, F3, hw4, hm3⟩
              have HW4 := Lib.hid hw4
              have HM3 := Lib.hid hm3
              clear hw4 hm3
              go_wp2_with (fail)
              go_end0
              exact ⟨rfl, _, HW4.out, sym_join HS4.out HM2.out HM3.out d1 d5 d6 d4 d2 d3 bm hbm HSP.out⟩
            · have v2i : ¬ (E : Int) < b := by omega
              have HS4 := Lib.hid (seg4_id f0 (a := a) (b := b) (mid := mid) d2 d3 HE2.out.symm HDD.out (by omega))
              go_wp2_with (fail)
              have HM2 : Hid (MrgP f0 f0 a i mid) := Lib.hid (MrgP.triv d1 d5 (by omega))
              have HM3 : Hid (MrgP f0 f0 mid E b) := Lib.hid (MrgP.triv d6 d4 (by omega))
              go_end0
              exact ⟨rfl, _, HJ.out, sym_join HS4.out HM2.out HM3.out d1 d5 d6 d4 d2 d3 bm hbm HSP.out⟩
          · have t2i : ¬ (mid : Int) < E := by omega
            have HS4 := Lib.hid (seg4_id f0 (a := a) (b := b) (mid := mid) d2 d3 HE2.out.symm HDD.out (by omega))
            go_wp2_with (fail)
            have HM2 : Hid (MrgP f0 f0 a i mid) := Lib.hid (MrgP.triv d1 d5 (by omega))
            have HM3 : Hid (MrgP f0 f0 mid E b) := Lib.hid (MrgP.triv d6 d4 (by omega))
            go_end0
            exact ⟨rfl, _, HJ.out, sym_join HS4.out HM2.out HM3.out d1 d5 d6 d4 d2 d3 bm hbm HSP.out⟩

theorem sym_all : ∀ d, SymIH d
  | 0 => by
    constructor
    intro W0 w g off n c f0 h a m b h1 h2 h3 h4 h5
    omega
  | d + 1 => by
    constructor
    intro W0 w g off n c f0 h a m b h1 h2 h3 h4 h5 hs1 hs2
    have hih : SymIH (b - a) := by
      constructor
      intro W0' w' g' off' n' c' f0' h' a' m' b' p1 p2 p3 p4 p5 p6 p7
      exact (sym_all d).go h' a' m' b' p1 p2 p3 p4 (by omega) p6 p7
    by_cases e1 : m = a + 1
    · exact sym1_any h a m b h1 h2 h3 h4 e1 hs2
    · by_cases e2 : b = m + 1
      · exact sym2_any h a m b h1 h2 h3 h4 e1 e2 hs1
      · by_cases e3 : (a + b) / 2 < m
        · exact sym3_gt hih h h3 h4 (by omega) (by omega) hs1 hs2 e3
        · exact sym3_le hih h h3 h4 (by omega) (by omega) hs1 hs2 (by omega)
theorem sym_any {W0 w : World} {g off n c : Nat} {f0 : Nat → ItT} (h : Rw W0 g off n f0 w) (a m b : Nat) (h1 : a < m) (h2 : m < b) (h3 : b ≤ n) (h4 : n ≤ 1152921504606846976) (h5 : srt (seg f0 a (m - a))) (h6 : srt (seg f0 m (b - m))) :
    Calls Try.prog 59 #[.slice (some ⟨g, off, none⟩) n c, .int .i64 a, .int .i64 m, .int .i64 b, .func (.func 28) #[] #[]] w fun e w' => e = .returned (.tuple #[]) ∧ ∃ f, Rw W0 g off n f w' ∧ MrgP f0 f a m b :=
  (sym_all (b - a + 1)).go h a m b h1 h2 h3 h4 (by omega) h5 h6
end Go.Proofs.Ytockmgcgifhepaa

/- slices.SortStableFunc at items, by falling counts. -/
namespace Go.Proofs.Ytockmgcgifhepaa
open Go.RowKit
set_option linter.unusedVariables false
set_option linter.unusedSimpArgs false

theorem dvd_step {d x a : Nat} (hx : d ∣ x) (ha : d ∣ a) (h : x < a) : x + d ≤ a := by
  obtain ⟨u, rfl⟩ := hx
  obtain ⟨v, rfl⟩ := ha
  have h1 : u < v := Nat.lt_of_mul_lt_mul_left h
  have h2 : d * (u + 1) ≤ d * v := Nat.mul_le_mul_left d h1
  rw [Nat.mul_add, Nat.mul_one] at h2
  exact h2
/-- The block at x is sorted. -/
def Bl (f0 F : Nat → ItT) (n s x : Nat) : Prop := (x + s ≤ n → seg F x s = isort (seg f0 x s)) ∧ (n < x + s → seg F x (n - x) = isort (seg f0 x (n - x)))
def Jb (f0 F : Nat → ItT) (n s : Nat) : Prop := ∀ x, s ∣ x → x ≤ n → Bl f0 F n s x
/-- The blocks ahead of a are sorted. -/
def Ja (f0 F : Nat → ItT) (s a : Nat) : Prop := ∀ x, s ∣ x → x < a → seg F x s = isort (seg f0 x s)
theorem Ja.next {f0 F F' : Nat → ItT} {s a : Nat} (h : Ja f0 F s a) (ha : s ∣ a) (hs : seg F' a s = isort (seg f0 a s)) (hk : ∀ k, k < a → F' k = F k) (hp : 0 < s) : Ja f0 F' s (a + s) := by
  intro x hx hxa
  by_cases e : x = a
  · rw [e]; exact hs
  · have h1 : x < a := by
      by_cases h2 : x < a
      · exact h2
      · have := dvd_step ha hx (by omega)
        omega
    have h2 := dvd_step hx ha h1
    rw [← h x hx h1]
    exact seg_congr fun k hk' => hk _ (by omega)
theorem Ja.last {f0 F F' : Nat → ItT} {n s a : Nat} (h : Ja f0 F s a) (ha : s ∣ a) (han : a ≤ n) (hn : n < a + s) (hs : seg F' a (n - a) = isort (seg f0 a (n - a))) (hk : ∀ k, k < a → F' k = F k) : Jb f0 F' n s := by
  intro x hx hxn
  refine ⟨fun h1 => ?_, fun h1 => ?_⟩
  · have h2 : x < a := by
      by_cases h2 : x < a
      · exact h2
      · by_cases e : x = a
        · omega
        · have := dvd_step ha hx (by omega)
          omega
    have h3 := dvd_step hx ha h2
    rw [← h x hx h2]
    exact seg_congr fun k hk' => hk _ (by omega)
  · have h2 : x = a := by
      by_cases h2 : x < a
      · have := dvd_step hx ha h2
        omega
      · by_cases e : x = a
        · exact e
        · have := dvd_step ha hx (by omega)
          omega
    rw [h2]; exact hs
theorem two_blocks {f0 F : Nat → ItT} {a s m : Nat} (h1 : seg F a s = isort (seg f0 a s)) (h2 : seg F (a + s) m = isort (seg f0 (a + s) m)) : mergeT (seg F a s) (seg F (a + s) m) = isort (seg f0 a (s + m)) := by
  rw [h1, h2, merge_isort, ← seg_app]

set_option maxHeartbeats 12800000 in
set_option maxRecDepth 100000 in
theorem stable_any {W0 w : World} {g off n c : Nat} {f0 : Nat → ItT} (h : Rw W0 g off n f0 w) (hn : n ≤ 1099511627776) :
    Calls Try.prog 52 #[.slice (some ⟨g, off, none⟩) n c, .int .i64 n, .func (.func 28) #[] #[]] w
      fun e w' => e = .returned (.tuple #[]) ∧ ∃ f, Rw W0 g off n f w' ∧ seg f 0 n = isort (seg f0 0 n) := by
  have HR := Lib.hid h
  have hn2 : n ≤ 1152921504606846976 := by omega
  clear h
  go_enter Try.func52, Try.ntmps52
  go_wp2_with (fail)
  go_loopw [7, 8] (fun s7 s8 wr => ∃ (a : Nat) (F : Nat → ItT), a ≤ n ∧ s7 = .int .i64 a ∧ s8 = .int .i64 ((a : Int) + 20) ∧ Hid (Rw W0 g off n F wr) ∧ Hid (20 ∣ a ∧ Ja f0 F 20 a ∧ ∀ k, a ≤ k → F k = f0 k)) (fun s7 _ _ => n - (intOf s7).toNat)
  case atStart => exact ⟨0, f0, Nat.zero_le _, rfl, by go_num, HR, Lib.hid ⟨Nat.dvd_zero _, fun x _ hx => by omega, fun _ _ => rfl⟩⟩
  case round =>
    rename World => wr
    obtain ⟨a, F, ha, rfl, rfl, HJ, HK⟩ := hrel
    obtain ⟨b, hb⟩ : ∃ b, a + 20 = b := ⟨_, rfl⟩
    have r1 : (a : Int) + 20 = b := by omega
    have HBB := Lib.hid hb
    clear hb
    rw [r1]
    by_cases hlt : b ≤ n
    · have i1 : (b : Int) ≤ n := by omega
      have HC := Lib.hid (inss_any (c := c) HJ.out a b (by have := HBB.out; omega) hlt hn2)
      clear r1
      go_wp2_with (fail)
      refine HC.out.mono ?_
      rintro e w2 ⟨rfl, F2, hw2, hs2, hk2⟩
      have HW2 := Lib.hid hw2
      have HS2 := Lib.hid (And.intro hs2 hk2)
      clear hw2 hs2 hk2
      go_wp2_with (fail)
      refine ⟨⟨b, F2, hlt, rfl, by go_num, HW2, Lib.hid ?_⟩, by have := HBB.out; simp [intOf]; omega⟩
      have hb := HBB.out
      have hs := HS2.out.1
      rw [show b - a = 20 by omega, show seg F a 20 = seg f0 a 20 from seg_congr fun k hk => HK.out.2.2 _ (by omega)] at hs
      rw [← hb]
      refine ⟨Nat.dvd_add HK.out.1 (Nat.dvd_refl _), HK.out.2.1.next HK.out.1 hs (fun k hk => HS2.out.2 k (Or.inl hk)) (by decide), fun k hk => ?_⟩
      rw [HS2.out.2 k (Or.inr (by omega)), HK.out.2.2 k (by omega)]
    · have HC := Lib.hid (inss_any (c := c) HJ.out a n ha (Nat.le_refl _) hn2)
      clear r1
      go_wp2_with (fail)
      refine HC.out.mono ?_
      rintro e w2 ⟨rfl, F2, hw2, hs2, hk2⟩
      have hJb : Jb f0 F2 n 20 := by
        rw [show seg F a (n - a) = seg f0 a (n - a) from seg_congr fun k hk => HK.out.2.2 _ (by omega)] at hs2
        exact HK.out.2.1.last HK.out.1 ha (by have := HBB.out; omega) hs2 (fun k hk => hk2 k (Or.inl hk))
      have HW2 := Lib.hid hw2
      have HJB := Lib.hid hJb
      clear hw2 hs2 hk2 hJb HC HJ HK HBB hlt
      go_wp2_with (fail)
      go_loopw [6, 7, 8, 9] (fun s6 _ _ _ wr => ∃ (s : Nat) (F : Nat → ItT), 20 ≤ s ∧ s ≤ 2 * n + 20 ∧ s6 = .int .i64 s ∧ Hid (Rw W0 g off n F wr) ∧ Hid (Jb f0 F n s)) (fun s6 _ _ _ _ => 2 * n + 40 - (intOf s6).toNat)
      case atStart => exact ⟨20, F2, Nat.le_refl _, by omega, rfl, HW2, HJB⟩
      case round =>
        rename World => wy
        clear HW2 HJB
        obtain ⟨s, G, hs1, hs2, rfl, HG, HJG⟩ := hrel
        by_cases hsn : s < n
        · have i1 : (s : Int) < n := by omega
          obtain ⟨d, hd⟩ : ∃ d, 2 * s = d := ⟨_, rfl⟩
          have r2 : (2 : Int) * s = d := by omega
          have r2' : (s : Int) * 2 = d := by omega
          have HD := Lib.hid hd
          have bd : d ≤ 2 * n := by omega
          clear hd
          go_wp2_with (fail)
          go_loopw [7, 8] (fun s7 s8 wr => ∃ (a : Nat) (F : Nat → ItT), a ≤ n ∧ s7 = .int .i64 a ∧ s8 = .int .i64 ((a : Int) + d) ∧ Hid (Rw W0 g off n F wr) ∧ Hid (d ∣ a ∧ Ja f0 F d a ∧ ∀ k, a ≤ k → F k = G k)) (fun s7 _ _ => n - (intOf s7).toNat)
          case atStart => exact ⟨0, G, Nat.zero_le _, rfl, by go_num, HG, Lib.hid ⟨Nat.dvd_zero _, fun x _ hx => by omega, fun _ _ => rfl⟩⟩
          case round =>
            rename World => wr
            obtain ⟨a, F, ha, rfl, rfl, HJ, HK⟩ := hrel
            obtain ⟨b, hb⟩ : ∃ b, a + d = b := ⟨_, rfl⟩
            have r1 : (a : Int) + d = b := by omega
            obtain ⟨m, hm⟩ : ∃ m, a + s = m := ⟨_, rfl⟩
            have r3 : (a : Int) + s = m := by omega
            have hdd := HD.out
            have hsa : s ∣ a := Nat.dvd_trans ⟨2, by omega⟩ HK.out.1
            have hsm : s ∣ m := by rw [← hm]; exact Nat.dvd_add hsa (Nat.dvd_refl _)
            rw [r1]
            by_cases hlt : b ≤ n
            · have i1 : (b : Int) ≤ n := by omega
              have e1 : seg F a s = isort (seg f0 a s) := by
                rw [← (HJG.out a hsa ha).1 (by omega)]
                exact seg_congr fun k hk => HK.out.2.2 _ (by omega)
              have e2 : seg F m s = isort (seg f0 m s) := by
                rw [← (HJG.out m hsm (by omega)).1 (by omega)]
                exact seg_congr fun k hk => HK.out.2.2 _ (by omega)
              have HC := Lib.hid (sym_any (c := c) HJ.out a m b (by omega) (by omega) hlt hn2 (by rw [show m - a = s by omega, e1]; exact srt_isort _) (by rw [show b - m = s by omega, e2]; exact srt_isort _))
              have hmrg : mergeT (seg F a (m - a)) (seg F m (b - m)) = isort (seg f0 a d) := by
                rw [show m - a = s by omega, show b - m = s by omega, ← hm]
                rw [← hm] at e2
                rw [two_blocks e1 e2, show s + s = d by omega]
              have HMG := Lib.hid hmrg
              have HBM := Lib.hid (And.intro hb hm)
              clear r1 e1 e2 hmrg hb hm hdd
              go_wp2_with (fail)
              refine HC.out.mono ?_
              rintro e w3 ⟨rfl, F3, hw3, hs3, hk3⟩
              have HW3 := Lib.hid hw3
              have HS3 := Lib.hid (And.intro hs3 hk3)
              clear hw3 hs3 hk3
              go_wp2_with (fail)
              refine ⟨⟨b, F3, hlt, rfl, by go_num, HW3, Lib.hid ?_⟩, by have := HBM.out; simp [intOf]; omega⟩
              have hb := HBM.out.1
              have hs := HS3.out.1
              rw [HMG.out, show b - a = d by omega] at hs
              rw [← hb]
              refine ⟨Nat.dvd_add HK.out.1 (Nat.dvd_refl _), HK.out.2.1.next HK.out.1 hs (fun k hk => HS3.out.2 k (Or.inl hk)) (by omega), fun k hk => ?_⟩
              rw [HS3.out.2 k (Or.inr (by omega)), HK.out.2.2 k (by omega)]
            · by_cases hmn : m < n
              · have i2 : (m : Int) < n := by omega
                have e1 : seg F a s = isort (seg f0 a s) := by
                  rw [← (HJG.out a hsa ha).1 (by omega)]
                  exact seg_congr fun k hk => HK.out.2.2 _ (by omega)
                have e2 : seg F m (n - m) = isort (seg f0 m (n - m)) := by
                  rw [← (HJG.out m hsm (by omega)).2 (by omega)]
                  exact seg_congr fun k hk => HK.out.2.2 _ (by omega)
                have HC := Lib.hid (sym_any (c := c) HJ.out a m n (by omega) (by omega) (Nat.le_refl _) hn2 (by rw [show m - a = s by omega, e1]; exact srt_isort _) (by rw [e2]; exact srt_isort _))
                have hmrg : mergeT (seg F a (m - a)) (seg F m (n - m)) = isort (seg f0 a (n - a)) := by
                  rw [show m - a = s by omega, show n - a = s + (n - m) by omega, ← hm]
                  rw [← hm] at e2
                  exact two_blocks e1 e2
                have HMG := Lib.hid hmrg
                have HBM := Lib.hid (And.intro hb hm)
                clear r1 e1 e2 hmrg hb hm hdd
                go_wp2_with (fail)
                refine HC.out.mono ?_
                rintro e w3 ⟨rfl, F3, hw3, hs3, hk3⟩
                have HW3 := Lib.hid hw3
                have HS3 := Lib.hid (And.intro hs3 hk3)
                clear hw3 hs3 hk3
                go_wp2_with (fail)
                refine ⟨⟨d, F3, by have := HD.out; omega, by omega, rfl, HW3, Lib.hid ?_⟩, by have := HD.out; simp [intOf]; omega⟩
                have hs := HS3.out.1
                rw [HMG.out] at hs
                exact HK.out.2.1.last HK.out.1 ha (by have := HBM.out.1; omega) hs (fun k hk => HS3.out.2 k (Or.inl hk))
              · have HBM := Lib.hid (And.intro hb hm)
                clear hb hm hdd r1
                go_wp2_with (fail)
                refine ⟨⟨d, F, by have := HD.out; omega, by omega, rfl, HJ, Lib.hid ?_⟩, by have := HD.out; simp [intOf]; omega⟩
                have hbm := HBM.out
                refine HK.out.2.1.last HK.out.1 ha (by omega) ?_ (fun k hk => rfl)
                have hq := HJG.out a hsa ha
                have hg : seg F a (n - a) = seg G a (n - a) := seg_congr fun k hk => HK.out.2.2 _ (by omega)
                rw [hg]
                by_cases e : n < a + s
                · exact hq.2 e
                · have h3 := hq.1 (by omega)
                  rwa [show s = n - a by omega] at h3
        · go_wp2_with (fail)
          go_end0
          refine ⟨rfl, G, HG.out, ?_⟩
          have hq := HJG.out 0 (Nat.dvd_zero _) (Nat.zero_le _)
          by_cases e : n < 0 + s
          · exact hq.2 e
          · have h3 := hq.1 (by omega)
            rwa [show s = n by omega] at h3
theorem sort_any {W0 w : World} {g off n c : Nat} {f0 : Nat → ItT} (h : Rw W0 g off n f0 w) (hn : n ≤ 1099511627776) :
    Calls Try.prog 27 #[.slice (some ⟨g, off, none⟩) n c, .func (.func 28) #[] #[]] w
      fun e w' => e = .returned (.tuple #[]) ∧ ∃ f, Rw W0 g off n f w' ∧ seg f 0 n = isort (seg f0 0 n) := by
  have HC := Lib.hid (stable_any (c := c) h hn)
  clear h
  go_enter Try.func27, Try.ntmps27
  go_wp2_with (fail)
  refine HC.out.mono ?_
  rintro e w2 ⟨rfl, f, hw, hs⟩
  have HW := Lib.hid (And.intro hw hs)
  clear hw hs
  go_wp2_with (fail)
  go_end0
  exact ⟨rfl, f, HW.out.1, HW.out.2⟩
end Go.Proofs.Ytockmgcgifhepaa
