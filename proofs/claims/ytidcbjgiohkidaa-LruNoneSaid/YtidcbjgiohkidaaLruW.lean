/- lru's answer by the document: Fork. -/
import Derived.Test.YtidcbjgiohkidaaLruV
namespace Go.Proofs.Ytidcbjgiohkidaa
open Go.RowKit
set_option linter.unusedVariables false
set_option linter.unusedSimpArgs false

theorem fork_mid {w w3 : World} {x v : Value} {t : TypeId} (hg : (w.alloc (.cells #[x, v] t)).grownBy w3 none) : w3.cell? ⟨w.heap.size, 1, none⟩ = some v ∧ w3.frozen? ⟨w.heap.size, 1, none⟩ = false := by
  have hz : (w.alloc (.cells #[x, v] t)).heap[w.heap.size]? = some (.cells #[x, v] t) := by
    show (Array.push w.heap _)[_]? = _
    rw [Array.getElem?_push, if_pos rfl]
  have hk := hg.block w.heap.size (by simp) (by simp)
  exact ⟨by simp only [World.cell?, hk, hz]; rfl, by simp only [World.frozen?, hk, hz]; simp⟩

set_option maxHeartbeats 6400000 in
set_option maxRecDepth 100000 in
theorem rfork_any {w : World} {r most : Nat} {v : Value} {A : List (ByteArray × Int)} (h : RefM w r most v A) :
    Calls Try.prog 13 #[.pointer (some ⟨r, 0, none⟩)] w fun e w' => e = .returned (.pointer (some ⟨w.heap.size, 0, none⟩)) ∧ ∃ v', RefM w' w.heap.size most v' A ∧ Below w.heap.size w w' := by
  obtain ⟨i0, hi, hz0, hz1, hz2⟩ := info_parts info_pairR
  have c0 := h.c0
  have c1 := h.c1
  have hsm := h.small
  have HH := Lib.hid h
  have hrl : r < w.heap.size := World.block_lt_of_cell? w _ c1
  rcases h.slice with ⟨rfl, rfl⟩ | ⟨g, cap, rfl, _⟩
  · clear h
    go_enter Try.func13, Try.ntmps13
    go_wp2_with (fail)
    have c1A : (w.alloc (.cells #[.int .i64 most, .slice none 0 0] 59)).cell? ⟨r, 1, none⟩ = some (.slice none 0 0) := (World.cell?_alloc_lt w _ _ hrl).trans c1
    go_region
    all_goals
      go_wp2_with (fail)
      go_ret
      have hz : (w.alloc (.cells #[.int .i64 most, .slice none 0 0] 59)).heap[w.heap.size]? = some (.cells #[.int .i64 most, .slice none 0 0] 59) := by
        show (Array.push w.heap _)[_]? = _
        rw [Array.getElem?_push, if_pos rfl]
      have hbel : Below w.heap.size w (w.alloc (.cells #[.int .i64 most, .slice none 0 0] 59)) := (Below.refl _ _).alloc (Nat.le_refl _) _
      have hR : RefM (w.alloc (.cells #[.int .i64 most, .slice none 0 0] 59)) w.heap.size most (.slice none 0 0) [] :=
        ⟨by simp only [World.cell?, hz]; rfl, by simp only [World.cell?, hz]; rfl, World.ownsRow_nil _ _ _ _, fun o => by simp only [World.frozen?, hz]; simp, by simp, HH.out.big⟩
      first
        | exact ⟨rfl, _, hR.drew, hbel.drew⟩
        | exact ⟨rfl, _, (rstored hR.c0 hR.fr hR.big (by simp) rfl rfl rfl (Nat.lt_succ_self _) (World.ownsRow_nil _ _ _ _) hR.c1).drew, (hbel.setCell (Nat.le_refl _) _).drew⟩
  · have hgl : g < w.heap.size := (h.row.lt g rfl).2
    have hcells := h.row.cells (g := g) rfl
    clear h
    go_enter Try.func13, Try.ntmps13
    go_wp2_with (fail)
    have HS0 : Hid ((w.alloc (.cells #[.int .i64 most, .slice none 0 0] 59)).drew.cell? ⟨r, 1, none⟩ = some (.slice (some ⟨g, 0, none⟩) A.length cap)) := (World.cell?_alloc_lt w _ _ hrl).trans c1
    have HNEWS : Hid (∀ j u, (flatP A)[j]? = some u → (w.alloc (.cells #[.int .i64 most, .slice none 0 0] 59)).drew.cell? ((⟨g, 0, none⟩ : Addr).add j) = some u) := fun j u hj => by
      have := hcells j u hj
      rw [WideShapes.add_plain] at this ⊢
      exact (World.cell?_alloc_lt w _ ⟨g, 0 + j, none⟩ hgl).trans this
    have HKR : Hid (∀ w3 : World, (w.alloc (.cells #[.int .i64 most, .slice none 0 0] 59)).drew.grownBy w3 none → w3.cell? ⟨r, 1, none⟩ = some (.slice (some ⟨g, 0, none⟩) A.length cap)) := fun w3 hg =>
      (World.cell?_of_block (w := (w.alloc (.cells #[.int .i64 most, .slice none 0 0] 59)).drew) (a := ⟨r, 1, none⟩) (hg.block r (by show r < (w.alloc _).heap.size; simp; omega) (by simp))).trans ((World.cell?_alloc_lt w _ _ hrl).trans c1)
    clear hcells
    refine wp_region_held_drew (S := fun wx => wx.cell? ⟨r, 1, none⟩ = some (.slice (some ⟨g, 0, none⟩) A.length cap)) (by kernel_rfl) ?_ (fun hHeld => ?_)
    · exact HS0.out
    refine wpAnyH_take (i := 0) (v := ?_) rfl (by kernel_rfl) (by kernel_rfl) (by kernel_rfl) (fun _ _ _ h => h) (Or.inl ⟨by rfl, ?hy⟩) (by assumption) ?_
    case hy => intro w hSw; (try dsimp only at hSw); go_simp; try with_reducible rfl
    try simp only [Act.put, List.getElem_toArray, List.getElem_cons_succ, List.getElem_cons_zero, List.setIfInBounds_toArray, List.set_cons_zero, List.set_cons_succ]
    refine wpAnyH_take (i := 1) (v := ?_) rfl (by kernel_rfl) (by kernel_rfl) (by kernel_rfl) (fun _ _ _ h => h) (Or.inl ⟨by rfl, ?hy⟩) (by assumption) ?_
    case hy => intro w hSw; (try dsimp only at hSw); go_simp; try with_reducible rfl
    try simp only [Act.put, List.getElem_toArray, List.getElem_cons_succ, List.getElem_cons_zero, List.setIfInBounds_toArray, List.set_cons_zero, List.set_cons_succ]
    refine wpAnyH_take (i := 2) (v := ?_) rfl (by kernel_rfl) (by kernel_rfl) (by kernel_rfl) (fun _ _ _ h => h) (Or.inl ⟨by rfl, ?hy⟩) (by assumption) ?_
    case hy => intro w hSw; (try dsimp only at hSw); go_simp; try with_reducible rfl
    try simp only [Act.put, List.getElem_toArray, List.getElem_cons_succ, List.getElem_cons_zero, List.setIfInBounds_toArray, List.set_cons_zero, List.set_cons_succ]
    refine wpAnyH_take (i := 3) (v := ?_) rfl (by kernel_rfl) (by kernel_rfl) (by kernel_rfl) (fun _ _ _ h => h) (Or.inl ⟨by rfl, ?hy⟩) (by assumption) ?_
    case hy => intro w hSw; (try dsimp only at hSw); go_simp; try with_reducible rfl
    try simp only [Act.put, List.getElem_toArray, List.getElem_cons_succ, List.getElem_cons_zero, List.setIfInBounds_toArray, List.set_cons_zero, List.set_cons_succ]
    refine wpAnyH_take (i := 5) (v := ?_) rfl (by kernel_rfl) (by kernel_rfl) (by kernel_rfl) (fun _ _ _ h => h) (Or.inl ⟨by rfl, ?hy⟩) (by assumption) ?_
    case hy => intro w hSw; (try dsimp only at hSw); go_simp; try with_reducible rfl
    try simp only [Act.put, List.getElem_toArray, List.getElem_cons_succ, List.getElem_cons_zero, List.setIfInBounds_toArray, List.set_cons_zero, List.set_cons_succ]
    refine wpAnyH_take (i := 6) (v := ?_) rfl (by kernel_rfl) (by kernel_rfl) (by kernel_rfl) (fun _ _ _ h => h) (Or.inl ⟨by rfl, ?hy⟩) (by assumption) ?_
    case hy => intro w hSw; (try dsimp only at hSw); go_simp; try with_reducible rfl
    try simp only [Act.put, List.getElem_toArray, List.getElem_cons_succ, List.getElem_cons_zero, List.setIfInBounds_toArray, List.set_cons_zero, List.set_cons_succ]
    refine wpAnyH_take (i := 7) (v := ?_) rfl (by kernel_rfl) (by kernel_rfl) (by kernel_rfl) (fun _ _ _ h => h) (Or.inl ⟨by rfl, ?hy⟩) (by assumption) ?_
    case hy => intro w hSw; (try dsimp only at hSw); go_simp; try with_reducible rfl
    try simp only [Act.put, List.getElem_toArray, List.getElem_cons_succ, List.getElem_cons_zero, List.setIfInBounds_toArray, List.set_cons_zero, List.set_cons_succ]
    refine wpAnyH_take (i := 8) (v := ?_) rfl (by kernel_rfl) (by kernel_rfl) (by kernel_rfl) (fun _ _ _ h => h) (Or.inl ⟨by rfl, ?hy⟩) (by assumption) ?_
    case hy => intro w hSw; (try dsimp only at hSw); go_simp; try with_reducible rfl
    try simp only [Act.put, List.getElem_toArray, List.getElem_cons_succ, List.getElem_cons_zero, List.setIfInBounds_toArray, List.set_cons_zero, List.set_cons_succ]
    refine wpAnyH_ready (rs := [4]) (by kernel_rfl) (by simp) (AllReadyH.cons rfl (fun K hK => ?_) AllReadyH.nil)
    go_simp
    skip
    try (go_wp2_with fail)
    refine hK.out _ _ ?_ (fun hHeld => ?_)
    · exact hHeld
    clear hK K
    try simp only [Act.put, List.getElem_toArray, List.getElem_cons_succ, List.getElem_cons_zero, List.setIfInBounds_toArray, List.set_cons_zero, List.set_cons_succ]
    refine wpAnyH_ready (rs := [9]) (by kernel_rfl) (by simp) (AllReadyH.cons rfl (fun K hK => ?_) AllReadyH.nil)
    rw [if_pos (by rfl)]
    refine wp_append_own _ (.tmp 16) (.tmp 20) 57 rfl (w.heap.size + 1) 64 i0 (.agg #[.string ⟨#[]⟩, .int .i64 0]) 2 24 Try.underlying57 hi hz0 hz1 hz2 rfl (by decide) (.slice none 0 0) 0 [] rfl (World.ownsRow_nil _ _ _ _) ⟨g, 0, none⟩ A.length cap (flatP A) rfl (flatP_len _) HNEWS.out (flatP_one _) (by unfold maxLen; omega) (by omega) (by simp) ?_
    intro v3 w3 hown3 hg3 _
    obtain ⟨c2, f2⟩ : w3.cell? ⟨w.heap.size, 1, none⟩ = some (.slice none 0 0) ∧ w3.frozen? ⟨w.heap.size, 1, none⟩ = false := fork_mid (w := w.drew) (x := .int .i64 most) (v := .slice none 0 0) (t := 59) hg3
    obtain ⟨a3, cap3, rfl⟩ := own_sliceR hown3
    refine hK.out _ _ (HKR.out _ hg3) (fun hHeld => ?_)
    clear hK K
    try simp only [Act.put, List.getElem_toArray, List.getElem_cons_succ, List.getElem_cons_zero, List.setIfInBounds_toArray, List.set_cons_zero, List.set_cons_succ]
    refine wpAnyH_take (i := 10) (v := ?_) rfl (by kernel_rfl) (by kernel_rfl) (by kernel_rfl) (fun _ _ _ h => h) (Or.inl ⟨by rfl, ?hy⟩) (by assumption) ?_
    case hy => intro w hSw; (try dsimp only at hSw); go_simp; try with_reducible rfl
    try simp only [Act.put, List.getElem_toArray, List.getElem_cons_succ, List.getElem_cons_zero, List.setIfInBounds_toArray, List.set_cons_zero, List.set_cons_succ]
    refine wpAnyH_take (i := 11) (v := ?_) rfl (by kernel_rfl) (by kernel_rfl) (by kernel_rfl) (fun _ _ _ h => h) (Or.inl ⟨by rfl, ?hy⟩) (by assumption) ?_
    case hy => intro w hSw; (try dsimp only at hSw); go_simp; try with_reducible rfl
    try simp only [Act.put, List.getElem_toArray, List.getElem_cons_succ, List.getElem_cons_zero, List.setIfInBounds_toArray, List.set_cons_zero, List.set_cons_succ]
    refine wpAnyH_ready (rs := [12]) (by kernel_rfl) (by simp) (AllReadyH.cons rfl (fun K hK => ?_) AllReadyH.nil)
    go_simp
    skip
    try (go_wp2_with fail)
    refine hK.out _ _ ?_ (fun hHeld => ?_)
    · exact cell_far hHeld (by first | (simp; done) | (simp; omega))
    clear hK K
    try simp only [Act.put, List.getElem_toArray, List.getElem_cons_succ, List.getElem_cons_zero, List.setIfInBounds_toArray, List.set_cons_zero, List.set_cons_succ]
    refine wpAnyH_done (by kernel_rfl) ?_ _
    go_wp2_with (fail)
    go_ret
    have hz : (w.alloc (.cells #[.int .i64 most, .slice none 0 0] 59)).heap[w.heap.size]? = some (.cells #[.int .i64 most, .slice none 0 0] 59) := by
      show (Array.push w.heap _)[_]? = _
      rw [Array.getElem?_push, if_pos rfl]
    have hbel : Below w.heap.size w (w.alloc (.cells #[.int .i64 most, .slice none 0 0] 59)).drew := ((Below.refl _ _).alloc (Nat.le_refl _) _).drew
    simp only [Nat.zero_add, List.nil_append] at hown3
    have hg4 : (w.alloc (.cells #[.int .i64 most, .slice none 0 0] 59)).drew.grownBy w3 none := hg3
    refine ⟨rfl, _, rstored (w := (w.alloc (.cells #[.int .i64 most, .slice none 0 0] 59)).drew) (by show World.cell? (w.alloc _) _ = _; simp only [World.cell?, hz]; rfl) (fun o => by show World.frozen? (w.alloc _) _ = _; simp only [World.frozen?, hz]; simp) HH.out.big hsm rfl rfl (hg4.block _ (by show _ < (w.alloc _).heap.size; simp) (by simp)) (Nat.lt_succ_self _) hown3 c2, ?_⟩
    exact ((hbel.grown hg4 hbel.size (by simp))).setCell (Nat.le_refl _) _
end Go.Proofs.Ytidcbjgiohkidaa
