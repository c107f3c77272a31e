/- Texts of one chain, one behind the other: LruV, LruW, LruX. -/
import Derived.LaidEqlPtr
import Derived.Test.YtemlafbkkaloiaaGreatGLruU

/- lru's answer by the document: Drop, Keys; pointers into two blocks are two. -/
namespace Go.Proofs.YtemlafbkkaloiaaGreat
open Go.RowKit
set_option linter.unusedVariables false
set_option linter.unusedSimpArgs false

theorem dropA_nodup {A : List (ByteArray × Int)} (hn : (A.map (·.1)).Nodup) (ss : List ByteArray) : ((dropA A ss).1.map (·.1)).Nodup := by
  have key : ∀ (ss : List ByteArray) (q : List (ByteArray × Int) × Nat), (q.1.map (·.1)).Nodup → (((ss.foldl (fun q s => if hasA q.1 s then (delA q.1 s, q.2 + 1) else q) q).1).map (·.1)).Nodup := by
    intro ss
    induction ss with
    | nil => intro q h; exact h
    | cons s ss ih =>
      intro q h
      simp only [List.foldl_cons]
      refine ih _ ?_
      split
      · exact h.sublist (List.Sublist.map _ List.filter_sublist)
      · exact h
  exact key ss (A, 0) hn

set_option maxHeartbeats 6400000 in
set_option maxRecDepth 100000 in
theorem rkeys_any {w : World} {r most : Nat} {v : Value} {A : List (ByteArray × Int)} (h : RefM w r most v A) :
    Calls Tryz.prog 37 #[.pointer (some ⟨r, 0, none⟩)] w fun e w' => ∃ v', e = .returned v' ∧ w'.ownsRow w.heap.size 9 1 v' A.length ((A.map (·.1)).map Value.string) ∧ Below w.heap.size w w' := by
  obtain ⟨i0, hi, hz0, hz1, hz2⟩ := info_parts info_strK
  have hsm := h.small
  have HH := Lib.hid h
  obtain ⟨a0, cap0, rfl⟩ := own_sliceR h.row
  clear h
  go_enter Tryz.func37, Tryz.ntmps37
  go_wp2_with (fail)
  go_loopw [3, 4] (fun l i wr => ∃ k : Nat, k ≤ A.length ∧ i = .int .i64 k ∧ Hid (wr.ownsRow w.heap.size 9 1 l k (((A.take k).map (·.1)).map Value.string)) ∧ Below w.heap.size w wr) (fun _ i _ => A.length - (intOf i).toNat)
  case atStart => exact ⟨0, Nat.zero_le _, rfl, World.ownsRow_nil _ _ _ _, Below.refl _ _⟩
  case round =>
    obtain ⟨k, hk, rfl, hrow, hb⟩ := hrel
    obtain ⟨la, lc, rfl⟩ := own_sliceR hrow.out
    have HR := HH.out.below hb
    have c1 := HR.c1
    have k0 : (0 : Int) ≤ k := by omega
    have kl : (A.length : Int) ≤ 4096 := by omega
    by_cases hlt : k < A.length
    · have k1 : (k : Int) < A.length := by omega
      rcases HR.slice with ⟨_, h0⟩ | ⟨g, cap, hv, hcell⟩
      · exfalso; subst h0; simp at hlt
      · injection hv with e1 e2 e3
        subst e1
        obtain ⟨d1, _⟩ := hcell k hlt
        have hrow' := hrow.out
        have hbz := hb.size
        have hnext : ((A.take (k + 1)).map (·.1)).map Value.string = ((A.take k).map (·.1)).map Value.string ++ [.string (A[k]'hlt).1] := by
          rw [List.take_add_one, List.getElem?_eq_getElem hlt, List.map_append, List.map_append]; rfl
        have HN := Lib.hid hnext
        generalize (A[k]'hlt).1 = key at d1 HN
        clear hnext hcell HR
        go_wp2_with (at_builtin; refine wpList_append_own _ rfl (.tmp 18) (.tmp 27) 43 rfl w.heap.size 9 i0 (.string ⟨#[]⟩) 1 16 Tryz.underlying43 hi hz0 hz1 hz2 rfl (by decide) (.slice la k lc) k (((A.take k).map (·.1)).map Value.string) rfl (hrow'.alloc _) ⟨_, 0, none⟩ 1 1 [.string key] rfl rfl (kcell_one _ _ _) (by simp [Value.oneCell']) (by unfold maxLen; omega) (by omega) (by simp; omega) ?_; intro v3 w3 hown3 hg3 _; have hb3 := after_append (w3 := w) hrow' hbz hb hg3; clear hg3)
        exact ⟨⟨k + 1, by omega, by go_num, by rw [HN.out]; exact hown3, hb3⟩, by first | (simp [intOf]; done) | (simp [intOf]; omega)⟩
    · go_wp2_with (fail)
      go_ret
      have hkk : A.take k = A := List.take_of_length_le (by omega)
      have hke : k = A.length := by omega
      subst hke
      rw [hkk] at hrow
      exact ⟨_, rfl, hrow.out, hb⟩

theorem cells_of_cell {w : World} {a : Addr} {v : Value} (h : w.cell? a = some v) : ∃ c t f, w.heap[a.block]? = some (.cells c t f) := by
  unfold World.cell? at h
  split at h
  · rename_i c e f hb; exact ⟨c, e, f, hb⟩
  · simp at h
theorem run_sameAddr_far {P : Program} (w : World) {a b : Addr} {ca cb : Array Value} {ta tb : TypeId} {fa fb : Nat × Nat} (hne : a.block ≠ b.block) (ha : w.heap[a.block]? = some (.cells ca ta fa)) (hb : w.heap[b.block]? = some (.cells cb tb fb))
    (ga : ∀ o, w.frozen? ⟨a.block, o, none⟩ = false) (gb : ∀ o, w.frozen? ⟨b.block, o, none⟩ = false) : (sameAddr a b).run P w = .ok false w := by
  have e : ∀ (x : Addr), w.frozen? x = w.frozen? ⟨x.block, x.off, none⟩ := fun x => rfl
  have ea : w.frozen? a = false := (e a).trans (ga _)
  have eb : w.frozen? b = false := (e b).trans (gb _)
  have sa : w.shape? a.block = some (ta, ca.size) := by simp [World.shape?, ha]
  have sb : w.shape? b.block = some (tb, cb.size) := by simp [World.shape?, hb]
  simp [sameAddr, hne, ea, noView, viewAt, sa, sb, mayBeOne, stringish, eb, ga, gb]
theorem run_neq_ptr_far {P : Program} (w : World) {tp te : TypeId} {j : TypeInfo} {a b : Addr} {ca cb : Array Value} {ta tb : TypeId} {fa fb : Nat × Nat} (hp : P.underlying tp = some (.pointer te)) (hte : P.info? te = some j) (hsz : j.size ≠ 0)
    (hne : a.block ≠ b.block) (ha : w.heap[a.block]? = some (.cells ca ta fa)) (hb : w.heap[b.block]? = some (.cells cb tb fb)) (ga : ∀ o, w.frozen? ⟨a.block, o, none⟩ = false) (gb : ∀ o, w.frozen? ⟨b.block, o, none⟩ = false) :
    (binOp .neq tp (.pointer (some a)) (.pointer (some b))).run P w = .ok (.bool true) w := by
  have h : ∀ d : Nat, (Op.equalIn (d + 1) tp (.pointer (some a)) (.pointer (some b))).run P w = .ok false w := fun d => by
    simp [Op.equalIn, run_underlying hp, sizeOf, typeInfo, hte, hsz, run_sameAddr_far w hne ha hb ga gb]
  simp only [binOp]
  simp [Op.equal, Op.maxDepth, h 9999]
theorem run_neq_ptr_same {P : Program} (w : World) {tp te : TypeId} {j : TypeInfo} (a : Addr) (hp : P.underlying tp = some (.pointer te)) (hte : P.info? te = some j) :
    (binOp .neq tp (.pointer (some a)) (.pointer (some a))).run P w = .ok (.bool false) w := by
  have h : ∀ d : Nat, (Op.equalIn (d + 1) tp (.pointer (some a)) (.pointer (some a))).run P w = .ok true w := fun d => by
    simp [Op.equalIn, run_underlying hp, sizeOf, typeInfo, hte, run_sameAddr_same]
  simp only [binOp]
  simp [Op.equal, Op.maxDepth, h 9999]
end Go.Proofs.YtemlafbkkaloiaaGreat

/- lru's answer by the document: Fork. -/
namespace Go.Proofs.YtemlafbkkaloiaaGreat
open Go.RowKit
set_option linter.unusedVariables false
set_option linter.unusedSimpArgs false

theorem fork_mid {w w3 : World} {x v : Value} {t : TypeId} (hg : (w.alloc (.cells #[x, v] t)).grownBy w3 none) : w3.cell? ⟨w.heap.size, 1, none⟩ = some v ∧ w3.frozen? ⟨w.heap.size, 1, none⟩ = false := by
  have hz : (w.alloc (.cells #[x, v] t)).heap[w.heap.size]? = some (.cells #[x, v] t) := by
    show (Array.push w.heap _)[_]? = _
    rw [Array.getElem?_push, if_pos rfl]
  have hk := hg.block w.heap.size (by simp) (by simp)
  exact ⟨by simp only [World.cell?, hk, hz]; rfl, by simp only [World.frozen?, hk, hz]; simp⟩

set_option maxHeartbeats 6400000 in
set_option maxRecDepth 100000 in
theorem rfork_any {w : World} {r most : Nat} {v : Value} {A : List (ByteArray × Int)} (h : RefM w r most v A) :
    Calls Tryz.prog 31 #[.pointer (some ⟨r, 0, none⟩)] w fun e w' => e = .returned (.pointer (some ⟨w.heap.size, 0, none⟩)) ∧ ∃ v', RefM w' w.heap.size most v' A ∧ Below w.heap.size w w' := by
  obtain ⟨i0, hi, hz0, hz1, hz2⟩ := info_parts info_pairR
  have c0 := h.c0
  have c1 := h.c1
  have hsm := h.small
  have HH := Lib.hid h
  have hrl : r < w.heap.size := World.block_lt_of_cell? w _ c1
  rcases h.slice with ⟨rfl, rfl⟩ | ⟨g, cap, rfl, _⟩
  · clear h
    go_enter Tryz.func31, Tryz.ntmps31
    go_wp2_with (fail)
    have c1A : (w.alloc (.cells #[.int .i64 most, .slice none 0 0] 131)).cell? ⟨r, 1, none⟩ = some (.slice none 0 0) := (World.cell?_alloc_lt w _ _ hrl).trans c1
    go_region
    all_goals
      go_wp2_with (fail)
      go_ret
      have hz : (w.alloc (.cells #[.int .i64 most, .slice none 0 0] 131)).heap[w.heap.size]? = some (.cells #[.int .i64 most, .slice none 0 0] 131) := by
        show (Array.push w.heap _)[_]? = _
        rw [Array.getElem?_push, if_pos rfl]
      have hbel : Below w.heap.size w (w.alloc (.cells #[.int .i64 most, .slice none 0 0] 131)) := (Below.refl _ _).alloc (Nat.le_refl _) _
      have hR : RefM (w.alloc (.cells #[.int .i64 most, .slice none 0 0] 131)) w.heap.size most (.slice none 0 0) [] :=
        ⟨by simp only [World.cell?, hz]; rfl, by simp only [World.cell?, hz]; rfl, World.ownsRow_nil _ _ _ _, fun o => by simp only [World.frozen?, hz]; simp, by simp, HH.out.big⟩
      first
        | exact ⟨rfl, _, hR.drew, hbel.drew⟩
        | exact ⟨rfl, _, (rstored hR.c0 hR.fr hR.big (by simp) rfl rfl rfl (Nat.lt_succ_self _) (World.ownsRow_nil _ _ _ _) hR.c1).drew, (hbel.setCell (Nat.le_refl _) _).drew⟩
  · have hgl : g < w.heap.size := (h.row.lt g rfl).2
    have hcells := h.row.cells (g := g) rfl
    clear h
    go_enter Tryz.func31, Tryz.ntmps31
    go_wp2_with (fail)
    have HS0 : Hid ((w.alloc (.cells #[.int .i64 most, .slice none 0 0] 131)).drew.cell? ⟨r, 1, none⟩ = some (.slice (some ⟨g, 0, none⟩) A.length cap)) := (World.cell?_alloc_lt w _ _ hrl).trans c1
    have HNEWS : Hid (∀ j u, (flatP A)[j]? = some u → (w.alloc (.cells #[.int .i64 most, .slice none 0 0] 131)).drew.cell? ((⟨g, 0, none⟩ : Addr).add j) = some u) := fun j u hj => by
      have := hcells j u hj
      rw [WideShapes.add_plain] at this ⊢
      exact (World.cell?_alloc_lt w _ ⟨g, 0 + j, none⟩ hgl).trans this
    have HKR : Hid (∀ w3 : World, (w.alloc (.cells #[.int .i64 most, .slice none 0 0] 131)).drew.grownBy w3 none → w3.cell? ⟨r, 1, none⟩ = some (.slice (some ⟨g, 0, none⟩) A.length cap)) := fun w3 hg =>
      (World.cell?_of_block (w := (w.alloc (.cells #[.int .i64 most, .slice none 0 0] 131)).drew) (a := ⟨r, 1, none⟩) (hg.block r (by show r < (w.alloc _).heap.size; simp; omega) (by simp))).trans ((World.cell?_alloc_lt w _ _ hrl).trans c1)
    clear hcells
    refine wp_region_held_drew (S := fun wx => wx.cell? ⟨r, 1, none⟩ = some (.slice (some ⟨g, 0, none⟩) A.length cap)) (by kernel_rfl) ?_ (fun hHeld => ?_)
    · exact HS0.out
    refine wpAnyH_take (i := 0) (v := ?_) rfl (by kernel_rfl) (by kernel_rfl) (by kernel_rfl) (fun _ _ _ h => h) (Or.inl ⟨by rfl, ?hy⟩) (by assumption) ?_
    case hy => intro w hSw; (try dsimp only at hSw); go_simp; try with_reducible rfl
    try simp only [Act.put, List.getElem_toArray, List.getElem_cons_succ, List.getElem_cons_zero, List.setIfInBounds_toArray, List.set_cons_zero, List.set_cons_succ]
    refine wpAnyH_take (i := 1) (v := ?_) rfl (by kernel_rfl) (by kernel_rfl) (by kernel_rfl) (fun _ _ _ h => h) (Or.inl ⟨by rfl, ?hy⟩) (by assumption) ?_
    case hy => intro w hSw; (try dsimp only at hSw); go_simp; try with_reducible rfl
    try simp only [Act.put, List.getElem_toArray, List.getElem_cons_succ, List.getElem_cons_zero, List.setIfInBounds_toArray, List.set_cons_zero, List.set_cons_succ]
    refine wpAnyH_take (i := 2) (v := ?_) rfl (by kernel_rfl) (by kernel_rfl) (by kernel_rfl) (fun _ _ _ h => h) (Or.inl ⟨by rfl, ?hy⟩) (by assumption) ?_
    case hy => intro w hSw; (try dsimp only at hSw); go_simp; try with_reducible rfl
    try simp only [Act.put, List.getElem_toArray, List.getElem_cons_succ, List.getElem_cons_zero, List.setIfInBounds_toArray, List.set_cons_zero, List.set_cons_succ]
    refine wpAnyH_take (i := 3) (v := ?_) rfl (by kernel_rfl) (by kernel_rfl) (by kernel_rfl) (fun _ _ _ h => h) (Or.inl ⟨by rfl, ?hy⟩) (by assumption) ?_
    case hy => intro w hSw; (try dsimp only at hSw); go_simp; try with_reducible rfl
    try simp only [Act.put, List.getElem_toArray, List.getElem_cons_succ, List.getElem_cons_zero, List.setIfInBounds_toArray, List.set_cons_zero, List.set_cons_succ]
    refine wpAnyH_take (i := 5) (v := ?_) rfl (by kernel_rfl) (by kernel_rfl) (by kernel_rfl) (fun _ _ _ h => h) (Or.inl ⟨by rfl, ?hy⟩) (by assumption) ?_
    case hy => intro w hSw; (try dsimp only at hSw); go_simp; try with_reducible rfl
    try simp only [Act.put, List.getElem_toArray, List.getElem_cons_succ, List.getElem_cons_zero, List.setIfInBounds_toArray, List.set_cons_zero, List.set_cons_succ]
    refine wpAnyH_take (i := 6) (v := ?_) rfl (by kernel_rfl) (by kernel_rfl) (by kernel_rfl) (fun _ _ _ h => h) (Or.inl ⟨by rfl, ?hy⟩) (by assumption) ?_
    case hy => intro w hSw; (try dsimp only at hSw); go_simp; try with_reducible rfl
    try simp only [Act.put, List.getElem_toArray, List.getElem_cons_succ, List.getElem_cons_zero, List.setIfInBounds_toArray, List.set_cons_zero, List.set_cons_succ]
    refine wpAnyH_take (i := 7) (v := ?_) rfl (by kernel_rfl) (by kernel_rfl) (by kernel_rfl) (fun _ _ _ h => h) (Or.inl ⟨by rfl, ?hy⟩) (by assumption) ?_
    case hy => intro w hSw; (try dsimp only at hSw); go_simp; try with_reducible rfl
    try simp only [Act.put, List.getElem_toArray, List.getElem_cons_succ, List.getElem_cons_zero, List.setIfInBounds_toArray, List.set_cons_zero, List.set_cons_succ]
    refine wpAnyH_take (i := 8) (v := ?_) rfl (by kernel_rfl) (by kernel_rfl) (by kernel_rfl) (fun _ _ _ h => h) (Or.inl ⟨by rfl, ?hy⟩) (by assumption) ?_
    case hy => intro w hSw; (try dsimp only at hSw); go_simp; try with_reducible rfl
    try simp only [Act.put, List.getElem_toArray, List.getElem_cons_succ, List.getElem_cons_zero, List.setIfInBounds_toArray, List.set_cons_zero, List.set_cons_succ]
    refine wpAnyH_ready (rs := [4]) (by kernel_rfl) (by simp) (AllReadyH.cons rfl (fun K hK => ?_) AllReadyH.nil)
    go_simp
    skip
    try (go_wp2_with fail)
    refine hK.out _ _ ?_ (fun hHeld => ?_)
    · exact hHeld
    clear hK K
    try simp only [Act.put, List.getElem_toArray, List.getElem_cons_succ, List.getElem_cons_zero, List.setIfInBounds_toArray, List.set_cons_zero, List.set_cons_succ]
    refine wpAnyH_ready (rs := [9]) (by kernel_rfl) (by simp) (AllReadyH.cons rfl (fun K hK => ?_) AllReadyH.nil)
    rw [if_pos (by rfl)]
    refine wp_append_own _ (.tmp 16) (.tmp 20) 129 rfl (w.heap.size + 1) 151 i0 (.agg #[.string ⟨#[]⟩, .int .i64 0]) 2 24 Tryz.underlying129 hi hz0 hz1 hz2 rfl (by decide) (.slice none 0 0) 0 [] rfl (World.ownsRow_nil _ _ _ _) ⟨g, 0, none⟩ A.length cap (flatP A) rfl (flatP_len _) HNEWS.out (flatP_one _) (by unfold maxLen; omega) (by omega) (by simp) ?_
    intro v3 w3 hown3 hg3 _
    obtain ⟨c2, f2⟩ : w3.cell? ⟨w.heap.size, 1, none⟩ = some (.slice none 0 0) ∧ w3.frozen? ⟨w.heap.size, 1, none⟩ = false := fork_mid (w := w.drew) (x := .int .i64 most) (v := .slice none 0 0) (t := 131) hg3
    obtain ⟨a3, cap3, rfl⟩ := own_sliceR hown3
    refine hK.out _ _ (HKR.out _ hg3) (fun hHeld => ?_)
    clear hK K
    try simp only [Act.put, List.getElem_toArray, List.getElem_cons_succ, List.getElem_cons_zero, List.setIfInBounds_toArray, List.set_cons_zero, List.set_cons_succ]
    refine wpAnyH_take (i := 10) (v := ?_) rfl (by kernel_rfl) (by kernel_rfl) (by kernel_rfl) (fun _ _ _ h => h) (Or.inl ⟨by rfl, ?hy⟩) (by assumption) ?_
    case hy => intro w hSw; (try dsimp only at hSw); go_simp; try with_reducible rfl
    try simp only [Act.put, List.getElem_toArray, List.getElem_cons_succ, List.getElem_cons_zero, List.setIfInBounds_toArray, List.set_cons_zero, List.set_cons_succ]
    refine wpAnyH_take (i := 11) (v := ?_) rfl (by kernel_rfl) (by kernel_rfl) (by kernel_rfl) (fun _ _ _ h => h) (Or.inl ⟨by rfl, ?hy⟩) (by assumption) ?_
    case hy => intro w hSw; (try dsimp only at hSw); go_simp; try with_reducible rfl
    try simp only [Act.put, List.getElem_toArray, List.getElem_cons_succ, List.getElem_cons_zero, List.setIfInBounds_toArray, List.set_cons_zero, List.set_cons_succ]
    refine wpAnyH_ready (rs := [12]) (by kernel_rfl) (by simp) (AllReadyH.cons rfl (fun K hK => ?_) AllReadyH.nil)
    go_simp
    skip
    try (go_wp2_with fail)
    refine hK.out _ _ ?_ (fun hHeld => ?_)
    · exact cell_far hHeld (by first | (simp; done) | (simp; omega))
    clear hK K
    try simp only [Act.put, List.getElem_toArray, List.getElem_cons_succ, List.getElem_cons_zero, List.setIfInBounds_toArray, List.set_cons_zero, List.set_cons_succ]
    refine wpAnyH_done (by kernel_rfl) ?_ _
    go_wp2_with (fail)
    go_ret
    have hz : (w.alloc (.cells #[.int .i64 most, .slice none 0 0] 131)).heap[w.heap.size]? = some (.cells #[.int .i64 most, .slice none 0 0] 131) := by
      show (Array.push w.heap _)[_]? = _
      rw [Array.getElem?_push, if_pos rfl]
    have hbel : Below w.heap.size w (w.alloc (.cells #[.int .i64 most, .slice none 0 0] 131)).drew := ((Below.refl _ _).alloc (Nat.le_refl _) _).drew
    simp only [Nat.zero_add, List.nil_append] at hown3
    have hg4 : (w.alloc (.cells #[.int .i64 most, .slice none 0 0] 131)).drew.grownBy w3 none := hg3
    refine ⟨rfl, _, rstored (w := (w.alloc (.cells #[.int .i64 most, .slice none 0 0] 131)).drew) (by show World.cell? (w.alloc _) _ = _; simp only [World.cell?, hz]; rfl) (fun o => by show World.frozen? (w.alloc _) _ = _; simp only [World.frozen?, hz]; simp) HH.out.big hsm rfl rfl (hg4.block _ (by show _ < (w.alloc _).heap.size; simp) (by simp)) (Nat.lt_succ_self _) hown3 c2, ?_⟩
    exact ((hbel.grown hg4 hbel.size (by simp))).setCell (Nat.le_refl _) _
end Go.Proofs.YtemlafbkkaloiaaGreat

/- lru: pairs and Keys; sameTexts; nil ones. -/
namespace Go.Proofs.YtemlafbkkaloiaaGreat
open Go.RowKit
set_option linter.unusedVariables false
set_option linter.unusedSimpArgs false

theorem pairs_far {wr w3 : World} {base size n b off : Nat} {e : TypeId} {v : Value} {xs : List Value} {o : Obj} (hrow : wr.ownsRow base e size v n xs) (hg : (wr.alloc o).grownBy w3 v.ownBlock) (hb : b < base) (hz : base ≤ wr.heap.size) : w3.cell? ⟨b, off, none⟩ = wr.cell? ⟨b, off, none⟩ := by
  have hk : w3.heap[b]? = wr.heap[b]? := (hg.block b (by simp; omega) (fun e => by have := (hrow.lt b e.symm).1; omega)).trans (Below.heap_alloc _ _ _ (by omega))
  exact World.cell?_of_block (w := wr) (a := ⟨b, off, none⟩) hk

def sliceLen : Value → Nat | .slice _ n _ => n | _ => 0
theorem info_pairL : (Tryz.prog.info? 116).map (fun i => (i.zero, i.size, i.bytes)) = some (some (.agg #[.string ⟨#[]⟩, .int .i64 0]), 2, 24) := by kernel_rfl
theorem info_link : ∃ j, Tryz.prog.info? 119 = some j ∧ j.size ≠ 0 := by
  have h : (Tryz.prog.info? 119).map (fun i => i.size) = some 4 := by kernel_rfl
  cases hi : Tryz.prog.info? 119 with
  | none => rw [hi] at h; simp at h
  | some j => rw [hi] at h; simp at h; exact ⟨j, rfl, by omega⟩

set_option maxHeartbeats 6400000 in
set_option maxRecDepth 100000 in
theorem lpairs_any {w : World} {m mp most : Nat} {L : List LNode} (h : Lru w m mp most L) :
    Calls Tryz.prog 62 #[.pointer (some ⟨m, 0, none⟩)] w fun e w' => ∃ v', e = .returned v' ∧ w'.ownsRow w.heap.size 116 2 v' L.length (flatP (pr L)) ∧ Below w.heap.size w w' := by
  obtain ⟨i0, hi, hz0, hz1, hz2⟩ := info_parts info_pairL
  obtain ⟨j0, hj0, hj1⟩ := info_link
  have hsm : L.length ≤ 4096 := by have := h.cap; have := h.big; omega
  have HH := Lib.hid h
  have c5 := h.ring.behind 0 (by omega)
  rw [show rb m (List.map (fun x : LNode => x.b) L) 0 = m from rfl, show ro (List.map (fun x : LNode => x.b) L) 0 + 3 = 5 from rfl, rp] at c5
  clear h
  go_enter Tryz.func62, Tryz.ntmps62
  go_wp2_with (fail)
  go_loopw [3, 4] (fun l x wr => ∃ k : Nat, k ≤ L.length ∧ x = rp m (L.map (·.b)) (k + 1) ∧ Hid (wr.ownsRow w.heap.size 116 2 l k (flatP (pr (L.take k)))) ∧ Below w.heap.size w wr) (fun l _ _ => L.length - sliceLen l)
  case atStart => exact ⟨0, Nat.zero_le _, rfl, World.ownsRow_nil _ _ _ _, Below.refl _ _⟩
  case round =>
    obtain ⟨k, hk, hx, hrow, hb⟩ := hrel
    obtain ⟨la, lc, rfl⟩ := own_sliceR hrow.out
    have HL := HH.out.below hb
    by_cases hlt : k < L.length
    · have hget : (L.map (·.b))[k]? = some (L[k]'hlt).b := by simp [hlt]
      obtain ⟨e1, e2⟩ := rb_in (m := m) hget
      have hmem : L[k]'hlt ∈ L := List.getElem_mem hlt
      have hx2 : rp m (L.map (·.b)) (k + 1) = .pointer (some ⟨(L[k]'hlt).b, 0, none⟩) := by rw [rp, e1, e2]
      rw [hx2] at hx
      subst hx
      have d0 := HL.body.key _ hmem
      have d1 := HL.body.val _ hmem
      have d3 := HL.ring.behind (k + 1) (by simp; omega)
      rw [e1, e2] at d3
      have hne : (L[k]'hlt).b ≠ m := by
        have hn := HL.ring.nodup
        rw [List.nodup_cons] at hn
        intro e
        exact hn.1 (List.mem_map.2 ⟨_, hmem, e⟩)
      obtain ⟨ca, ta, fa, ha⟩ := cells_of_cell d0
      obtain ⟨cb, tb, fb, hbm⟩ := cells_of_cell HL.body.c0
      have hneq := run_neq_ptr_far wr (a := ⟨(L[k]'hlt).b, 0, none⟩) (b := ⟨m, 2, none⟩) Tryz.underlying117 hj0 hj1 hne ha hbm (HL.ring.fr _ (by simp only [List.mem_cons, List.mem_map]; exact Or.inr ⟨_, hmem, rfl⟩)) (HL.ring.fr m (by simp))
      have hrow' := hrow.out
      have hbz := hb.size
      have hnext : flatP (pr (L.take (k + 1))) = flatP (pr (L.take k)) ++ [.string (L[k]'hlt).k, .int .i64 (L[k]'hlt).v] := by
        rw [List.take_add_one, List.getElem?_eq_getElem hlt, pr, List.map_append, flatP_append]
        rfl
      have HN := Lib.hid hnext
      have hbw : (L[k]'hlt).b < w.heap.size := HH.out.lt (Or.inr (Or.inr (List.mem_map.2 ⟨_, hmem, rfl⟩)))
      generalize (L[k]'hlt).k = key at d0 HN
      generalize (L[k]'hlt).v = val at d1 HN
      generalize (L[k]'hlt).b = bk at *
      have D3 := Lib.hid d3
      have k0 : (0 : Int) ≤ k := by omega
      clear hnext ha hbm HL e1 e2 hmem hget hx2 hne d3 c5
      go_wp2_with (at_builtin; refine wpList_append_own _ rfl (.tmp 19) (.tmp 24) 135 rfl w.heap.size 116 i0 (.agg #[.string ⟨#[]⟩, .int .i64 0]) 2 24 Tryz.underlying135 hi hz0 hz1 hz2 rfl (by decide) (.slice la k lc) k (flatP (pr (L.take k))) rfl (hrow'.alloc _) ⟨_, 0, none⟩ 1 1 [.string key, .int .i64 val] rfl rfl (two_cells _ _ _ _) (by intro u hu; simp at hu; rcases hu with rfl | rfl <;> rfl) (by unfold maxLen; omega) (by omega) (by simp; omega) ?_; intro v3 w3 hown3 hg3 _; have hb3 := after_append (w3 := w) hrow' hbz hb hg3; obtain ⟨a3, cap3, rfl⟩ := own_sliceR hown3; have d3' : w3.cell? ⟨bk, 3, none⟩ = some (rp m (L.map (·.b)) (k + 2)) := (pairs_far hrow' hg3 hbw hbz).trans D3.out; unfold rp at d3'; clear hg3)
      refine ⟨⟨k + 1, by omega, rfl, by rw [HN.out]; exact hown3, hb3⟩, by first | (simp [sliceLen]; done) | (simp [sliceLen]; omega)⟩
    · have hke : k = L.length := by omega
      have hx2 : rp m (L.map (·.b)) (k + 1) = .pointer (some ⟨m, 2, none⟩) := by
        have := rb_end m (L.map (·.b))
        have h2 := ro_end (L.map (·.b))
        rw [List.length_map] at this h2
        rw [rp, hke, this, h2]
      rw [hx2] at hx
      subst hx
      have hneq := run_neq_ptr_same wr (⟨m, 2, none⟩ : Addr) Tryz.underlying117 hj0
      go_wp2_with (fail)
      go_ret
      have hkk : L.take k = L := List.take_of_length_le (by omega)
      rw [hkk] at hrow
      subst hke
      exact ⟨_, rfl, hrow.out, hb⟩
end Go.Proofs.YtemlafbkkaloiaaGreat
