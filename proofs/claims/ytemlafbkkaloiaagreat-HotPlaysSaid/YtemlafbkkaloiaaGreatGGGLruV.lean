import Derived.LaidEqlPtr
import Derived.OwnWalk
import Derived.Test.YtemlafbkkaloiaaGreatGS0
import Derived.Test.YtemlafbkkaloiaaGreatGLruU
import Derived.Test.YtemlafbkkaloiaaGreatGGGWinF
import Derived.Test.YtemlafbkkaloiaaGreatGLruR
set_option linter.unusedVariables false
set_option linter.unusedSimpArgs false
namespace Go.Proofs.YtemlafbkkaloiaaGreat
open Go.RowKit
set_option maxHeartbeats 6400000 in
set_option maxRecDepth 100000 in
theorem rkeys_any {w : World} {r most : Nat} {v : Value} {A : List (ByteArray × Int)} (h : RefM w r most v A) :
    Calls Tryz.prog 37 #[.pointer (some ⟨r, 0, none⟩)] w fun e w' => ∃ v', e = .returned v' ∧ w'.ownsRow w.heap.size 9 1 v' A.length ((A.map (·.1)).map Value.string) ∧ Below w.heap.size w w' := by
  obtain ⟨i0, hi, hz0, hz1, hz2⟩ := info_parts info_strK
  have hsm := h.small
  have HH := Lib.hid h
  obtain ⟨a0, cap0, rfl⟩ := own_sliceR h.row
  clear h
  go_enter Tryz.func37, Tryz.ntmps37
  go_wp2_with (fail)
  go_loopw [3, 4] (fun l i wr => ∃ k : Nat, k ≤ A.length ∧ i = .int .i64 k ∧ Hid (wr.ownsRow w.heap.size 9 1 l k (((A.take k).map (·.1)).map Value.string)) ∧ Below w.heap.size w wr) (fun _ i _ => A.length - (intOf i).toNat)
  case atStart => exact ⟨0, Nat.zero_le _, rfl, World.ownsRow_nil _ _ _ _, Below.refl _ _⟩
  case round =>
    obtain ⟨k, hk, rfl, hrow, hb⟩ := hrel
    obtain ⟨la, lc, rfl⟩ := own_sliceR hrow.out
    have HR := HH.out.below hb
    have c1 := HR.c1
    have k0 : (0 : Int) ≤ k := by omega
    have kl : (A.length : Int) ≤ 4096 := by omega
    by_cases hlt : k < A.length
    · have k1 : (k : Int) < A.length := by omega
      rcases HR.slice with ⟨_, h0⟩ | ⟨g, cap, hv, hcell⟩
      · exfalso; subst h0; simp at hlt
      · injection hv with e1 e2 e3
        subst e1
        obtain ⟨d1, _⟩ := hcell k hlt
        have hrow' := hrow.out
        have hbz := hb.size
        have hnext : ((A.take (k + 1)).map (·.1)).map Value.string = ((A.take k).map (·.1)).map Value.string ++ [.string (A[k]'hlt).1] := by
          rw [List.take_add_one, List.getElem?_eq_getElem hlt, List.map_append, List.map_append]; rfl
        have HN := Lib.hid hnext
        generalize (A[k]'hlt).1 = key at d1 HN
        clear hnext hcell HR
        go_wp2_with (at_builtin; refine wpList_append_own _ rfl (.tmp 18) (.tmp 27) 43 rfl w.heap.size 9 i0 (.string ⟨#[]⟩) 1 16 Tryz.underlying43 hi hz0 hz1 hz2 rfl (by decide) (.slice la k lc) k (((A.take k).map (·.1)).map Value.string) rfl (hrow'.alloc _) ⟨_, 0, none⟩ 1 1 [.string key] rfl rfl (kcell_one _ _ _) (by simp [Value.oneCell']) (by unfold maxLen; omega) (by omega) (by simp; omega) ?_; intro v3 w3 hown3 hg3 _; have hb3 := after_append (w3 := w) hrow' hbz hb hg3; clear hg3)
        exact ⟨⟨k + 1, by omega, by go_num, by rw [HN.out]; exact hown3, hb3⟩, by first | (simp [intOf]; done) | (simp [intOf]; omega)⟩
    · go_wp2_with (fail)
      go_ret
      have hkk : A.take k = A := List.take_of_length_le (by omega)
      have hke : k = A.length := by omega
      subst hke
      rw [hkk] at hrow
      exact ⟨_, rfl, hrow.out, hb⟩
theorem cells_of_cell {w : World} {a : Addr} {v : Value} (h : w.cell? a = some v) : ∃ c t f, w.heap[a.block]? = some (.cells c t f) := by
  unfold World.cell? at h
  split at h
  · rename_i c e f hb; exact ⟨c, e, f, hb⟩
  · simp at h
theorem run_sameAddr_far {P : Program} (w : World) {a b : Addr} {ca cb : Array Value} {ta tb : TypeId} {fa fb : Nat × Nat} (hne : a.block ≠ b.block) (ha : w.heap[a.block]? = some (.cells ca ta fa)) (hb : w.heap[b.block]? = some (.cells cb tb fb))
    (ga : ∀ o, w.frozen? ⟨a.block, o, none⟩ = false) (gb : ∀ o, w.frozen? ⟨b.block, o, none⟩ = false) : (sameAddr a b).run P w = .ok false w := by
  have e : ∀ (x : Addr), w.frozen? x = w.frozen? ⟨x.block, x.off, none⟩ := fun x => rfl
  have ea : w.frozen? a = false := (e a).trans (ga _)
  have eb : w.frozen? b = false := (e b).trans (gb _)
  have sa : w.shape? a.block = some (ta, ca.size) := by simp [World.shape?, ha]
  have sb : w.shape? b.block = some (tb, cb.size) := by simp [World.shape?, hb]
  simp [sameAddr, hne, ea, noView, viewAt, sa, sb, mayBeOne, stringish, eb, ga, gb]
theorem run_neq_ptr_far {P : Program} (w : World) {tp te : TypeId} {j : TypeInfo} {a b : Addr} {ca cb : Array Value} {ta tb : TypeId} {fa fb : Nat × Nat} (hp : P.underlying tp = some (.pointer te)) (hte : P.info? te = some j) (hsz : j.size ≠ 0)
    (hne : a.block ≠ b.block) (ha : w.heap[a.block]? = some (.cells ca ta fa)) (hb : w.heap[b.block]? = some (.cells cb tb fb)) (ga : ∀ o, w.frozen? ⟨a.block, o, none⟩ = false) (gb : ∀ o, w.frozen? ⟨b.block, o, none⟩ = false) :
    (binOp .neq tp (.pointer (some a)) (.pointer (some b))).run P w = .ok (.bool true) w := by
  have h : ∀ d : Nat, (Op.equalIn (d + 1) tp (.pointer (some a)) (.pointer (some b))).run P w = .ok false w := fun d => by
    simp [Op.equalIn, run_underlying hp, sizeOf, typeInfo, hte, hsz, run_sameAddr_far w hne ha hb ga gb]
  simp only [binOp]
  simp [Op.equal, Op.maxDepth, h 9999]
theorem run_neq_ptr_same {P : Program} (w : World) {tp te : TypeId} {j : TypeInfo} (a : Addr) (hp : P.underlying tp = some (.pointer te)) (hte : P.info? te = some j) :
    (binOp .neq tp (.pointer (some a)) (.pointer (some a))).run P w = .ok (.bool false) w := by
  have h : ∀ d : Nat, (Op.equalIn (d + 1) tp (.pointer (some a)) (.pointer (some a))).run P w = .ok true w := fun d => by
    simp [Op.equalIn, run_underlying hp, sizeOf, typeInfo, hte, run_sameAddr_same]
  simp only [binOp]
  simp [Op.equal, Op.maxDepth, h 9999]
end Go.Proofs.YtemlafbkkaloiaaGreat
namespace Go.Proofs.YtemlafbkkaloiaaGreat
open Go.RowKit
theorem fork_mid {w w3 : World} {x v : Value} {t : TypeId} (hg : (w.alloc (.cells #[x, v] t)).grownBy w3 none) : w3.cell? ⟨w.heap.size, 1, none⟩ = some v ∧ w3.frozen? ⟨w.heap.size, 1, none⟩ = false := by
  have hz : (w.alloc (.cells #[x, v] t)).heap[w.heap.size]? = some (.cells #[x, v] t) := by
    show (Array.push w.heap _)[_]? = _
    rw [Array.getElem?_push, if_pos rfl]
  have hk := hg.block w.heap.size (by simp) (by simp)
  exact ⟨by simp only [World.cell?, hk, hz]; rfl, by simp only [World.frozen?, hk, hz]; simp⟩
set_option maxHeartbeats 6400000 in
set_option maxRecDepth 100000 in
theorem rfork_any {w : World} {r most : Nat} {v : Value} {A : List (ByteArray × Int)} (h : RefM w r most v A) :
    Calls Tryz.prog 31 #[.pointer (some ⟨r, 0, none⟩)] w fun e w' => e = .returned (.pointer (some ⟨w.heap.size, 0, none⟩)) ∧ ∃ v', RefM w' w.heap.size most v' A ∧ Below w.heap.size w w' := by
  obtain ⟨i0, hi, hz0, hz1, hz2⟩ := info_parts info_pairR
  have c0 := h.c0
  have c1 := h.c1
  have hsm := h.small
  have HH := Lib.hid h
  have hrl : r < w.heap.size := World.block_lt_of_cell? w _ c1
  rcases h.slice with ⟨rfl, rfl⟩ | ⟨g, cap, rfl, _⟩
  · clear h
    go_enter Tryz.func31, Tryz.ntmps31
    go_wp2_with (fail)
    have c1A : (w.alloc (.cells #[.int .i64 most, .slice none 0 0] 131)).cell? ⟨r, 1, none⟩ = some (.slice none 0 0) := (World.cell?_alloc_lt w _ _ hrl).trans c1
    go_region
    all_goals
      go_wp2_with (fail)
      go_ret
      have hz : (w.alloc (.cells #[.int .i64 most, .slice none 0 0] 131)).heap[w.heap.size]? = some (.cells #[.int .i64 most, .slice none 0 0] 131) := by
        show (Array.push w.heap _)[_]? = _
        rw [Array.getElem?_push, if_pos rfl]
      have hbel : Below w.heap.size w (w.alloc (.cells #[.int .i64 most, .slice none 0 0] 131)) := (Below.refl _ _).alloc (Nat.le_refl _) _
      have hR : RefM (w.alloc (.cells #[.int .i64 most, .slice none 0 0] 131)) w.heap.size most (.slice none 0 0) [] :=
        ⟨by simp only [World.cell?, hz]; rfl, by simp only [World.cell?, hz]; rfl, World.ownsRow_nil _ _ _ _, fun o => by simp only [World.frozen?, hz]; simp, by simp, HH.out.big⟩
      first
        | exact ⟨rfl, _, hR.drew, hbel.drew⟩
        | exact ⟨rfl, _, (rstored hR.c0 hR.fr hR.big (by simp) rfl rfl rfl (Nat.lt_succ_self _) (World.ownsRow_nil _ _ _ _) hR.c1).drew, (hbel.setCell (Nat.le_refl _) _).drew⟩
  · have hgl : g < w.heap.size := (h.row.lt g rfl).2
    have hcells := h.row.cells (g := g) rfl
    clear h
    go_enter Tryz.func31, Tryz.ntmps31
    go_wp2_with (fail)
    have HS0 : Hid ((w.alloc (.cells #[.int .i64 most, .slice none 0 0] 131)).drew.cell? ⟨r, 1, none⟩ = some (.slice (some ⟨g, 0, none⟩) A.length cap)) := (World.cell?_alloc_lt w _ _ hrl).trans c1
    have HNEWS : Hid (∀ j u, (flatP A)[j]? = some u → (w.alloc (.cells #[.int .i64 most, .slice none 0 0] 131)).drew.cell? ((⟨g, 0, none⟩ : Addr).add j) = some u) := fun j u hj => by
      have := hcells j u hj
      rw [WideShapes.add_plain] at this ⊢
      exact (World.cell?_alloc_lt w _ ⟨g, 0 + j, none⟩ hgl).trans this
    have HKR : Hid (∀ w3 : World, (w.alloc (.cells #[.int .i64 most, .slice none 0 0] 131)).drew.grownBy w3 none → w3.cell? ⟨r, 1, none⟩ = some (.slice (some ⟨g, 0, none⟩) A.length cap)) := fun w3 hg =>
      (World.cell?_of_block (w := (w.alloc (.cells #[.int .i64 most, .slice none 0 0] 131)).drew) (a := ⟨r, 1, none⟩) (hg.block r (by show r < (w.alloc _).heap.size; simp; omega) (by simp))).trans ((World.cell?_alloc_lt w _ _ hrl).trans c1)
    clear hcells
    refine wp_region_held_drew (S := fun wx => wx.cell? ⟨r, 1, none⟩ = some (.slice (some ⟨g, 0, none⟩) A.length cap)) (by kernel_rfl) ?_ (fun hHeld => ?_)
    · exact HS0.out
    refine wpAnyH_take (i := 0) (v := ?_) rfl (by kernel_rfl) (by kernel_rfl) (by kernel_rfl) (fun _ _ _ h => h) (Or.inl ⟨by rfl, ?hy⟩) (by assumption) ?_
    case hy => intro w hSw; (try dsimp only at hSw); go_simp; try with_reducible rfl
    try simp only [Act.put, szA, szB, szC, szD, szE, szF]
    refine wpAnyH_take (i := 1) (v := ?_) rfl (by kernel_rfl) (by kernel_rfl) (by kernel_rfl) (fun _ _ _ h => h) (Or.inl ⟨by rfl, ?hy⟩) (by assumption) ?_
    case hy => intro w hSw; (try dsimp only at hSw); go_simp; try with_reducible rfl
    try simp only [Act.put, szA, szB, szC, szD, szE, szF]
    refine wpAnyH_take (i := 2) (v := ?_) rfl (by kernel_rfl) (by kernel_rfl) (by kernel_rfl) (fun _ _ _ h => h) (Or.inl ⟨by rfl, ?hy⟩) (by assumption) ?_
    case hy => intro w hSw; (try dsimp only at hSw); go_simp; try with_reducible rfl
    try simp only [Act.put, szA, szB, szC, szD, szE, szF]
    refine wpAnyH_take (i := 3) (v := ?_) rfl (by kernel_rfl) (by kernel_rfl) (by kernel_rfl) (fun _ _ _ h => h) (Or.inl ⟨by rfl, ?hy⟩) (by assumption) ?_
    case hy => intro w hSw; (try dsimp only at hSw); go_simp; try with_reducible rfl
    try simp only [Act.put, szA, szB, szC, szD, szE, szF]
    refine wpAnyH_take (i := 5) (v := ?_) rfl (by kernel_rfl) (by kernel_rfl) (by kernel_rfl) (fun _ _ _ h => h) (Or.inl ⟨by rfl, ?hy⟩) (by assumption) ?_
    case hy => intro w hSw; (try dsimp only at hSw); go_simp; try with_reducible rfl
    try simp only [Act.put, szA, szB, szC, szD, szE, szF]
    refine wpAnyH_take (i := 6) (v := ?_) rfl (by kernel_rfl) (by kernel_rfl) (by kernel_rfl) (fun _ _ _ h => h) (Or.inl ⟨by rfl, ?hy⟩) (by assumption) ?_
    case hy => intro w hSw; (try dsimp only at hSw); go_simp; try with_reducible rfl
    try simp only [Act.put, szA, szB, szC, szD, szE, szF]
    refine wpAnyH_take (i := 7) (v := ?_) rfl (by kernel_rfl) (by kernel_rfl) (by kernel_rfl) (fun _ _ _ h => h) (Or.inl ⟨by rfl, ?hy⟩) (by assumption) ?_
    case hy => intro w hSw; (try dsimp only at hSw); go_simp; try with_reducible rfl
    try simp only [Act.put, szA, szB, szC, szD, szE, szF]
    refine wpAnyH_take (i := 8) (v := ?_) rfl (by kernel_rfl) (by kernel_rfl) (by kernel_rfl) (fun _ _ _ h => h) (Or.inl ⟨by rfl, ?hy⟩) (by assumption) ?_
    case hy => intro w hSw; (try dsimp only at hSw); go_simp; try with_reducible rfl
    try simp only [Act.put, szA, szB, szC, szD, szE, szF]
    refine wpAnyH_ready (rs := [4]) (by kernel_rfl) (by simp) (AllReadyH.cons rfl (fun K hK => ?_) AllReadyH.nil)
    go_simp
    skip
    try (go_wp2_with fail)
    refine hK.out _ _ ?_ (fun hHeld => ?_)
    · exact hHeld
    clear hK K
    try simp only [Act.put, szA, szB, szC, szD, szE, szF]
    refine wpAnyH_ready (rs := [9]) (by kernel_rfl) (by simp) (AllReadyH.cons rfl (fun K hK => ?_) AllReadyH.nil)
    rw [if_pos (by rfl)]
    refine wp_append_own _ (.tmp 16) (.tmp 20) 129 rfl (w.heap.size + 1) 151 i0 (.agg #[.string ⟨#[]⟩, .int .i64 0]) 2 24 Tryz.underlying129 hi hz0 hz1 hz2 rfl (by decide) (.slice none 0 0) 0 [] rfl (World.ownsRow_nil _ _ _ _) ⟨g, 0, none⟩ A.length cap (flatP A) rfl (flatP_len _) HNEWS.out (flatP_one _) (by unfold maxLen; omega) (by omega) (by simp) ?_
    intro v3 w3 hown3 hg3 _
    obtain ⟨c2, f2⟩ : w3.cell? ⟨w.heap.size, 1, none⟩ = some (.slice none 0 0) ∧ w3.frozen? ⟨w.heap.size, 1, none⟩ = false := fork_mid (w := w.drew) (x := .int .i64 most) (v := .slice none 0 0) (t := 131) hg3
    obtain ⟨a3, cap3, rfl⟩ := own_sliceR hown3
    refine hK.out _ _ (HKR.out _ hg3) (fun hHeld => ?_)
    clear hK K
    try simp only [Act.put, szA, szB, szC, szD, szE, szF]
    refine wpAnyH_take (i := 10) (v := ?_) rfl (by kernel_rfl) (by kernel_rfl) (by kernel_rfl) (fun _ _ _ h => h) (Or.inl ⟨by rfl, ?hy⟩) (by assumption) ?_
    case hy => intro w hSw; (try dsimp only at hSw); go_simp; try with_reducible rfl
    try simp only [Act.put, szA, szB, szC, szD, szE, szF]
    refine wpAnyH_take (i := 11) (v := ?_) rfl (by kernel_rfl) (by kernel_rfl) (by kernel_rfl) (fun _ _ _ h => h) (Or.inl ⟨by rfl, ?hy⟩) (by assumption) ?_
    case hy => intro w hSw; (try dsimp only at hSw); go_simp; try with_reducible rfl
    try simp only [Act.put, szA, szB, szC, szD, szE, szF]
    refine wpAnyH_ready (rs := [12]) (by kernel_rfl) (by simp) (AllReadyH.cons rfl (fun K hK => ?_) AllReadyH.nil)
    go_simp
    skip
    try (go_wp2_with fail)
    refine hK.out _ _ ?_ (fun hHeld => ?_)
    · exact cell_far hHeld (by first | (simp; done) | (simp; omega))
    clear hK K
    try simp only [Act.put, szA, szB, szC, szD, szE, szF]
    refine wpAnyH_done (by kernel_rfl) ?_ _
    go_wp2_with (fail)
    go_ret
    have hz : (w.alloc (.cells #[.int .i64 most, .slice none 0 0] 131)).heap[w.heap.size]? = some (.cells #[.int .i64 most, .slice none 0 0] 131) := by
      show (Array.push w.heap _)[_]? = _
      rw [Array.getElem?_push, if_pos rfl]
    have hbel : Below w.heap.size w (w.alloc (.cells #[.int .i64 most, .slice none 0 0] 131)).drew := ((Below.refl _ _).alloc (Nat.le_refl _) _).drew
    simp only [Nat.zero_add, List.nil_append] at hown3
    have hg4 : (w.alloc (.cells #[.int .i64 most, .slice none 0 0] 131)).drew.grownBy w3 none := hg3
    refine ⟨rfl, _, rstored (w := (w.alloc (.cells #[.int .i64 most, .slice none 0 0] 131)).drew) (by show World.cell? (w.alloc _) _ = _; simp only [World.cell?, hz]; rfl) (fun o => by show World.frozen? (w.alloc _) _ = _; simp only [World.frozen?, hz]; simp) HH.out.big hsm rfl rfl (hg4.block _ (by show _ < (w.alloc _).heap.size; simp) (by simp)) (Nat.lt_succ_self _) hown3 c2, ?_⟩
    exact ((hbel.grown hg4 hbel.size (by simp))).setCell (Nat.le_refl _) _
end Go.Proofs.YtemlafbkkaloiaaGreat
namespace Go.Proofs.YtemlafbkkaloiaaGreat
open Go.RowKit
theorem pairs_far {wr w3 : World} {base size n b off : Nat} {e : TypeId} {v : Value} {xs : List Value} {o : Obj} (hrow : wr.ownsRow base e size v n xs) (hg : (wr.alloc o).grownBy w3 v.ownBlock) (hb : b < base) (hz : base ≤ wr.heap.size) : w3.cell? ⟨b, off, none⟩ = wr.cell? ⟨b, off, none⟩ := by
  have hk : w3.heap[b]? = wr.heap[b]? := (hg.block b (by simp; omega) (fun e => by have := (hrow.lt b e.symm).1; omega)).trans (Below.heap_alloc _ _ _ (by omega))
  exact World.cell?_of_block (w := wr) (a := ⟨b, off, none⟩) hk
def sliceLen : Value → Nat | .slice _ n _ => n | _ => 0
theorem info_pairL : (Tryz.prog.info? 116).map (fun i => (i.zero, i.size, i.bytes)) = some (some (.agg #[.string ⟨#[]⟩, .int .i64 0]), 2, 24) := by kernel_rfl
theorem info_link : ∃ j, Tryz.prog.info? 119 = some j ∧ j.size ≠ 0 := by
  have h : (Tryz.prog.info? 119).map (fun i => i.size) = some 4 := by kernel_rfl
  cases hi : Tryz.prog.info? 119 with
  | none => rw [hi] at h; simp at h
  | some j => rw [hi] at h; simp at h; exact ⟨j, rfl, by omega⟩
set_option maxHeartbeats 6400000 in
set_option maxRecDepth 100000 in
theorem lpairs_any {w : World} {m mp most : Nat} {L : List LNode} (h : Lru w m mp most L) :
    Calls Tryz.prog 62 #[.pointer (some ⟨m, 0, none⟩)] w fun e w' => ∃ v', e = .returned v' ∧ w'.ownsRow w.heap.size 116 2 v' L.length (flatP (pr L)) ∧ Below w.heap.size w w' := by
  obtain ⟨i0, hi, hz0, hz1, hz2⟩ := info_parts info_pairL
  obtain ⟨j0, hj0, hj1⟩ := info_link
  have hsm : L.length ≤ 4096 := by have := h.cap; have := h.big; omega
  have HH := Lib.hid h
  have c5 := h.ring.behind 0 (by omega)
  rw [show rb m (List.map (fun x : LNode => x.b) L) 0 = m from rfl, show ro (List.map (fun x : LNode => x.b) L) 0 + 3 = 5 from rfl, rp] at c5
  clear h
  go_enter Tryz.func62, Tryz.ntmps62
  go_wp2_with (fail)
  go_loopw [3, 4] (fun l x wr => ∃ k : Nat, k ≤ L.length ∧ x = rp m (L.map (·.b)) (k + 1) ∧ Hid (wr.ownsRow w.heap.size 116 2 l k (flatP (pr (L.take k)))) ∧ Below w.heap.size w wr) (fun l _ _ => L.length - sliceLen l)
  case atStart => exact ⟨0, Nat.zero_le _, rfl, World.ownsRow_nil _ _ _ _, Below.refl _ _⟩
  case round =>
    obtain ⟨k, hk, hx, hrow, hb⟩ := hrel
    obtain ⟨la, lc, rfl⟩ := own_sliceR hrow.out
    have HL := HH.out.below hb
    by_cases hlt : k < L.length
    · have hget : (L.map (·.b))[k]? = some (L[k]'hlt).b := by simp [hlt]
      obtain ⟨e1, e2⟩ := rb_in (m := m) hget
      have hmem : L[k]'hlt ∈ L := List.getElem_mem hlt
      have hx2 : rp m (L.map (·.b)) (k + 1) = .pointer (some ⟨(L[k]'hlt).b, 0, none⟩) := by rw [rp, e1, e2]
      rw [hx2] at hx
      subst hx
      have d0 := HL.body.key _ hmem
      have d1 := HL.body.val _ hmem
      have d3 := HL.ring.behind (k + 1) (by simp; omega)
      rw [e1, e2] at d3
      have hne : (L[k]'hlt).b ≠ m := by
        have hn := HL.ring.nodup
        rw [List.nodup_cons] at hn
        intro e
        exact hn.1 (List.mem_map.2 ⟨_, hmem, e⟩)
      obtain ⟨ca, ta, fa, ha⟩ := cells_of_cell d0
      obtain ⟨cb, tb, fb, hbm⟩ := cells_of_cell HL.body.c0
      have hneq := run_neq_ptr_far wr (a := ⟨(L[k]'hlt).b, 0, none⟩) (b := ⟨m, 2, none⟩) Tryz.underlying117 hj0 hj1 hne ha hbm (HL.ring.fr _ (by simp only [List.mem_cons, List.mem_map]; exact Or.inr ⟨_, hmem, rfl⟩)) (HL.ring.fr m (by simp))
      have hrow' := hrow.out
      have hbz := hb.size
      have hnext : flatP (pr (L.take (k + 1))) = flatP (pr (L.take k)) ++ [.string (L[k]'hlt).k, .int .i64 (L[k]'hlt).v] := by
        rw [List.take_add_one, List.getElem?_eq_getElem hlt, pr, List.map_append, flatP_append]
        rfl
      have HN := Lib.hid hnext
      have hbw : (L[k]'hlt).b < w.heap.size := HH.out.lt (Or.inr (Or.inr (List.mem_map.2 ⟨_, hmem, rfl⟩)))
      generalize (L[k]'hlt).k = key at d0 HN
      generalize (L[k]'hlt).v = val at d1 HN
      generalize (L[k]'hlt).b = bk at *
      have D3 := Lib.hid d3
      have k0 : (0 : Int) ≤ k := by omega
      clear hnext ha hbm HL e1 e2 hmem hget hx2 hne d3 c5
      go_wp2_with (at_builtin; refine wpList_append_own _ rfl (.tmp 19) (.tmp 24) 135 rfl w.heap.size 116 i0 (.agg #[.string ⟨#[]⟩, .int .i64 0]) 2 24 Tryz.underlying135 hi hz0 hz1 hz2 rfl (by decide) (.slice la k lc) k (flatP (pr (L.take k))) rfl (hrow'.alloc _) ⟨_, 0, none⟩ 1 1 [.string key, .int .i64 val] rfl rfl (two_cells _ _ _ _) (by intro u hu; simp at hu; rcases hu with rfl | rfl <;> rfl) (by unfold maxLen; omega) (by omega) (by simp; omega) ?_; intro v3 w3 hown3 hg3 _; have hb3 := after_append (w3 := w) hrow' hbz hb hg3; obtain ⟨a3, cap3, rfl⟩ := own_sliceR hown3; have d3' : w3.cell? ⟨bk, 3, none⟩ = some (rp m (L.map (·.b)) (k + 2)) := (pairs_far hrow' hg3 hbw hbz).trans D3.out; unfold rp at d3'; clear hg3)
      refine ⟨⟨k + 1, by omega, rfl, by rw [HN.out]; exact hown3, hb3⟩, by first | (simp [sliceLen]; done) | (simp [sliceLen]; omega)⟩
    · have hke : k = L.length := by omega
      have hx2 : rp m (L.map (·.b)) (k + 1) = .pointer (some ⟨m, 2, none⟩) := by
        have := rb_end m (L.map (·.b))
        have h2 := ro_end (L.map (·.b))
        rw [List.length_map] at this h2
        rw [rp, hke, this, h2]
      rw [hx2] at hx
      subst hx
      have hneq := run_neq_ptr_same wr (⟨m, 2, none⟩ : Addr) Tryz.underlying117 hj0
      go_wp2_with (fail)
      go_ret
      have hkk : L.take k = L := List.take_of_length_le (by omega)
      rw [hkk] at hrow
      subst hke
      exact ⟨_, rfl, hrow.out, hb⟩
end Go.Proofs.YtemlafbkkaloiaaGreat
namespace Go.Proofs.YtemlafbkkaloiaaGreat
open Go.RowKit
theorem StrsAt.own {w : World} {base : Nat} {v : Value} {n : Nat} {ss : List ByteArray} (h : w.ownsRow base 9 1 v n (ss.map Value.string)) : ∃ a cap, v = .slice a n cap ∧ StrsAt w a ss ∧ n = ss.length := by
  obtain ⟨h1, h2⟩ := h
  have hn : n = ss.length := by simpa using h1.symm
  rcases h2 with ⟨rfl, rfl⟩ | ⟨g, cap, cur, rfl, hb, hg, hnc, hcm, hcs, htake⟩
  · exact ⟨none, 0, rfl, Or.inl (by cases ss; rfl; simp at hn), hn⟩
  · refine ⟨_, cap, rfl, Or.inr ⟨g, 0, rfl, (Array.getElem?_eq_some_iff.1 hg).1, fun j hj => ?_⟩, hn⟩
    have := World.ownsRow.cells (w := w) (base := base) (e := 9) (size := 1) (n := n) (xs := ss.map Value.string) ⟨h1, Or.inr ⟨g, cap, cur, rfl, hb, hg, hnc, hcm, hcs, htake⟩⟩ (g := g) rfl j (.string (ss.getD j ⟨#[]⟩)) (by simp [hj, List.getD])
    simpa [WideShapes.add_plain] using this
theorem below_drewFK {B : Nat} {a w : World} (h : Below B a w) (n : Nat) : Below B a (w.drewN n) := by
  induction n with
  | zero => exact h
  | succ n ih => exact ih.drew
end Go.Proofs.YtemlafbkkaloiaaGreat
namespace Go.Proofs.YtemlafbkkaloiaaGreat
open Go.RowKit
theorem kcell_at (w : World) (u : Value) (t : TypeId) {b : Nat} (hb : b = w.heap.size) : ∀ j x, ([u] : List Value)[j]? = some x → (w.alloc (.cells #[u] t)).cell? ((⟨b, 0, none⟩ : Addr).add j) = some x := by
  subst hb
  exact kcell_one w u t
theorem own_pairs {w : World} {base : Nat} {e : TypeId} {v : Value} {n : Nat} {A : List (ByteArray × Int)} (h : w.ownsRow base e 2 v n (flatP A)) (hn : n = A.length) :
    ∃ a cap, v = .slice a n cap ∧ ∀ k (hk : k < A.length), ∃ g, a = some ⟨g, 0, none⟩ ∧ base ≤ g ∧ g < w.heap.size ∧ w.cell? ⟨g, k * 2, none⟩ = some (.string (A[k]'hk).1) ∧ w.cell? ⟨g, k * 2 + 1, none⟩ = some (.int .i64 (A[k]'hk).2) := by
  obtain ⟨h1, h2⟩ := h
  rcases h2 with ⟨rfl, h2⟩ | ⟨g, cap, cur, rfl, hb, hg, hnc, hcm, hcs, htake⟩
  · exact ⟨none, 0, by rw [h2], fun k hk => by omega⟩
  · refine ⟨some ⟨g, 0, none⟩, cap, rfl, fun k hk => ⟨g, rfl, hb, (Array.getElem?_eq_some_iff.1 hg).1, ?_⟩⟩
    have hc := World.ownsRow.cells (w := w) (base := base) (e := e) (size := 2) (n := n) (xs := flatP A) ⟨h1, Or.inr ⟨g, cap, cur, rfl, hb, hg, hnc, hcm, hcs, htake⟩⟩ (g := g) rfl
    obtain ⟨e1, e2⟩ := flatP_get A k hk
    have r1 := hc _ _ e1
    have r2 := hc _ _ e2
    rw [WideShapes.add_plain, Nat.zero_add] at r1 r2
    exact ⟨r1, r2⟩
set_option maxHeartbeats 6400000 in
set_option maxRecDepth 100000 in
theorem lkeys_any {w : World} {m mp most : Nat} {L : List LNode} (h : Lru w m mp most L) :
    Calls Tryz.prog 36 #[.pointer (some ⟨m, 0, none⟩)] w fun e w' => ∃ v', e = .returned v' ∧ w'.ownsRow w.heap.size 9 1 v' L.length (((pr L).map (·.1)).map Value.string) ∧ Below w.heap.size w w' := by
  obtain ⟨i0, hi, hz0, hz1, hz2⟩ := info_parts info_strK
  have hsm : L.length ≤ 4096 := by have := h.cap; have := h.big; omega
  have HP := Lib.hid (lpairs_any h)
  have hlen := pr_len L
  rw [← hlen] at HP hsm ⊢
  generalize pr L = A at HP hsm ⊢
  clear h hlen
  go_enter Tryz.func36, Tryz.ntmps36
  go_wp2_with (fail)
  refine HP.out.mono ?_
  rintro e w1 ⟨pv, rfl, hp1, hb1⟩
  obtain ⟨pa, pc, rfl, hpc⟩ := own_pairs hp1 rfl
  have HPC := Lib.hid hpc
  have HB1 := Lib.hid hb1
  have hz1' := hb1.size
  clear hp1 hpc hb1
  go_wp2_with (fail)
  go_loopw [3, 11] (fun l i wr => ∃ k : Nat, k ≤ A.length ∧ i = .int .i64 k ∧ Hid (wr.ownsRow w1.heap.size 9 1 l k (((A.take k).map (·.1)).map Value.string)) ∧ Below w1.heap.size w1 wr) (fun _ i _ => A.length - (intOf i).toNat)
  case atStart => exact ⟨0, Nat.zero_le _, rfl, World.ownsRow_nil _ _ _ _, Below.refl _ _⟩
  case round =>
    obtain ⟨k, hk, rfl, hrow, hb⟩ := hrel
    obtain ⟨la, lc, rfl⟩ := own_sliceR hrow.out
    have k0 : (0 : Int) ≤ k := by omega
    have kl : (A.length : Int) ≤ 4096 := by omega
    by_cases hlt : k < A.length
    · have k1 : (k : Int) < A.length := by omega
      obtain ⟨g, rfl, hg0, hg1, d1, d2⟩ := HPC.out k hlt
      have d1 := (hb.cell (p := ⟨g, k * 2, none⟩) hg1).trans d1
      have d2 := (hb.cell (p := ⟨g, k * 2 + 1, none⟩) hg1).trans d2
      have hnext : ((A.take (k + 1)).map (·.1)).map Value.string = ((A.take k).map (·.1)).map Value.string ++ [.string (A[k]'hlt).1] := by
        rw [List.take_add_one, List.getElem?_eq_getElem hlt, List.map_append, List.map_append]; rfl
      have HN := Lib.hid hnext
      have hrow2 := (hrow.out).alloc (.cells #[.string (A[k]'hlt).1, .int .i64 (A[k]'hlt).2] 116)
      have hb2 : Below w1.heap.size w1 (wr.alloc (.cells #[.string (A[k]'hlt).1, .int .i64 (A[k]'hlt).2] 116)) := hb.alloc hb.size _
      generalize (A[k]'hlt).1 = key at d1 HN hrow2 hb2
      generalize (A[k]'hlt).2 = val at d2 hrow2 hb2
      have hbz := hb2.size
      clear hnext
      go_wp2_with (at_builtin; refine wpList_append_own _ rfl (.tmp 15) (.tmp 18) 43 rfl w1.heap.size 9 i0 (.string ⟨#[]⟩) 1 16 Tryz.underlying43 hi hz0 hz1 hz2 rfl (by decide) (.slice la k lc) k (((A.take k).map (·.1)).map Value.string) rfl (hrow2.alloc _) ⟨_, 0, none⟩ 1 1 [.string key] rfl rfl (kcell_at _ _ _ (by simp)) (by simp [Value.oneCell']) (by unfold maxLen; omega) (by omega) (by simp at hbz ⊢; omega) ?_; intro v3 w3 hown3 hg3 _; have hb3 := after_append (w3 := w1) hrow2 hbz hb2 hg3; clear hg3)
      exact ⟨⟨k + 1, by omega, by go_num, by rw [HN.out]; exact hown3, hb3⟩, by first | (simp [intOf]; done) | (simp [intOf]; omega)⟩
    · go_wp2_with (fail)
      go_ret
      have hkk : A.take k = A := List.take_of_length_le (by omega)
      have hke : k = A.length := by omega
      subst hke
      rw [hkk] at hrow
      exact ⟨_, rfl, ownsRow_mono hrow.out hz1', HB1.out.trans (hb.mono hz1')⟩
end Go.Proofs.YtemlafbkkaloiaaGreat
namespace Go.Proofs.YtemlafbkkaloiaaGreat
open Go.RowKit
theorem put_take {most : Nat} {A : List (ByteArray × Int)} (hn : (A.map (·.1)).Nodup) (hl : A.length ≤ most) {k : Nat} (hk : k < A.length) : putA most (A.take k) (A[k]'hk).1 (A[k]'hk).2 = A.take (k + 1) := by
  have hno : hasA (A.take k) (A[k]'hk).1 = false := by
    simp only [hasA, List.any_eq_false, decide_eq_true_eq]
    intro p hp e
    obtain ⟨j, hj, rfl⟩ := List.getElem_of_mem hp
    have hjk : j < k := by simp at hj; omega
    rw [List.getElem_take] at e
    have : (A.map (·.1))[j]'(by simp; omega) = (A.map (·.1))[k]'(by simpa using hk) := by simpa using e
    have := (List.getElem_inj hn).1 this
    omega
  have hlen : (A.take k).length ≠ most := by simp; omega
  rw [putA, hno, if_neg (by simp), if_neg hlen, List.take_add_one, List.getElem?_eq_getElem hk]
  rfl
set_option maxHeartbeats 6400000 in
set_option maxRecDepth 100000 in
theorem lfork_any {w : World} {m mp most : Nat} {L : List LNode} (h : Lru w m mp most L) :
    Calls Tryz.prog 28 #[.pointer (some ⟨m, 0, none⟩)] w fun e w' => e = .returned (.pointer (some ⟨w.heap.size + 1, 0, none⟩)) ∧ ∃ L', Lru w' (w.heap.size + 1) w.heap.size most L' ∧ pr L' = pr L ∧ Below w.heap.size w w' ∧ (∀ b, Lown (w.heap.size + 1) w.heap.size L' b → w.heap.size ≤ b) := by
  have hsm : L.length ≤ 4096 := by have := h.cap; have := h.big; omega
  have c0 := h.body.c0
  have hbig := h.big
  have hcap := h.cap
  have HS := Lib.hid h.body.small
  have hnd : ((pr L).map (·.1)).Nodup := by have := h.body.keys; simpa [pr, List.map_map, Function.comp_def] using this
  have HND := Lib.hid hnd
  have HL := Lib.hid h
  clear h hnd
  go_enter Tryz.func28, Tryz.ntmps28
  go_wp2_with (fail)
  refine (lnew_any w most (by omega)).mono ?_
  rintro e w1 ⟨rfl, hf1, hb1, z1⟩
  rw [show Int.toNat (most : Int) = most from rfl] at hf1
  have HF1 := Lib.hid hf1
  have HB1 := Lib.hid hb1
  have hown := own_empty (m := w.heap.size + 1) (mp := w.heap.size) (base := w.heap.size) (by omega) (by omega)
  have HP := Lib.hid (lpairs_any (HL.out.below hb1))
  have hlen := pr_len L
  clear hf1 hb1
  rw [← hlen] at HP hsm hcap
  have hsz : ∀ p, p ∈ pr L → p.1.size ≤ maxLen := by
    intro p hp
    obtain ⟨x, hx, rfl⟩ := List.mem_map.1 hp
    exact HS.out x hx
  have HSZ := Lib.hid hsz
  generalize hA : pr L = A at HP hsm hcap HND HSZ ⊢
  have HA := Lib.hid hA
  clear hsz hlen hA
  generalize hF : w.heap.size + 1 = F at HF1 hown ⊢
  generalize hM : w.heap.size = M at HF1 HB1 hown ⊢
  have HZ := Lib.hid hM
  have hz1 : w1.heap.size = M + 2 := by omega
  have hFM : F = M + 1 := by omega
  have HFM := Lib.hid hFM
  clear hM hF z1 hFM
  go_wp2_with (fail)
  refine HP.out.mono ?_
  rintro e w2 ⟨pv, rfl, hp2, hb2⟩
  obtain ⟨pa, pc, rfl, hpc⟩ := own_pairs hp2 rfl
  have HPC := Lib.hid hpc
  have hz2 := hb2.size
  have HF2 := Lib.hid (HF1.out.below hb2)
  have HB2 := Lib.hid (HB1.out.trans (hb2.mono (by omega)))
  clear hp2 hpc hb2
  go_wp2_with (fail)
  go_loopw [20] (fun i wr => ∃ (k : Nat) (L' : List LNode), k ≤ A.length ∧ i = .int .i64 k ∧ Hid (Lru wr F M most L') ∧ Hid (pr L' = A.take k) ∧ Hid (∀ b, Lown F M L' b → M ≤ b ∧ (b < M + 2 ∨ w2.heap.size ≤ b)) ∧ Off (fun b => b = F ∨ b = M) w2 wr) (fun i _ => A.length - (intOf i).toNat)
  case atStart => exact ⟨0, [], Nat.zero_le _, rfl, HF2, by show pr [] = List.take 0 A; simp [pr], fun b hb => by
      have hFM := HFM.out
      rcases hb with e | e | e
      · omega
      · omega
      · simp at e, Off.refl _ _⟩
  case round =>
    obtain ⟨k, L', hk, rfl, HL', Hp, Hown, hoff⟩ := hrel
    have k0 : (0 : Int) ≤ k := by omega
    have kl : (A.length : Int) ≤ 4096 := by omega
    by_cases hlt : k < A.length
    · have k1 : (k : Int) < A.length := by omega
      obtain ⟨g, rfl, hg0, hg1, d1, d2⟩ := HPC.out k hlt
      have d1 := hoff.cell d1 (by show ¬ (g = F ∨ g = M); have := HFM.out; omega)
      have d2 := hoff.cell d2 (by show ¬ (g = F ∨ g = M); have := HFM.out; omega)
      have hnext := put_take HND.out hcap hlt
      have hks := HSZ.out _ (List.getElem_mem hlt)
      have HN := Lib.hid hnext
      have HKS := Lib.hid hks
      generalize (A[k]'hlt).1 = key at d1 HN HKS
      generalize (A[k]'hlt).2 = val at d2 HN
      have hoffz := hoff.size
      have hba : Below wr.heap.size wr (wr.alloc (.cells #[.string key, .int .i64 val] 116)) := (Below.refl _ _).alloc (Nat.le_refl _) _
      have HBA := Lib.hid hba
      have HLA := Lib.hid (HL'.out.below hba)
      clear hnext hks hba
      go_wp2_with (fail)
      refine (lput_any HLA.out HKS.out val).mono ?_
      rintro e w4 ⟨L4, rfl, hl4, hp4, ho4, hs4⟩
      have H4 := Lib.hid (And.intro hl4 (And.intro hp4 (And.intro ho4 hs4)))
      clear hl4 hp4 ho4 hs4
      go_wp2_with (fail)
      have za := HBA.out.size
      refine ⟨⟨k + 1, L4, by omega, by go_num, H4.out.1, ?_, fun b hb => ?_, ?_⟩, by first | (simp [intOf]; done) | (simp [intOf]; omega)⟩
      · have e : pr L4 = A.take (k + 1) := by rw [H4.out.2.1, Hp.out, HN.out]
        exact e
      · rcases H4.out.2.2.2 b hb with e | e
        · exact Hown.out b e
        · omega
      · refine (hoff.trans (Off.ofBelow (S := fun b => b = F ∨ b = M) HBA.out) (fun _ _ e => e)).trans H4.out.2.2.1 (fun i hi e => ?_)
        have := Hown.out i e
        have := HFM.out
        show i = F ∨ i = M
        omega
    · go_wp2_with (fail)
      go_ret
      have hkk : A.take k = A := List.take_of_length_le (by omega)
      have e : pr L' = pr L := by rw [Hp.out, hkk, HA.out]
      have hf := HFM.out
      subst hf
      have hz := HZ.out
      subst hz
      refine ⟨rfl, L', HL'.out, e, ?_, fun b hb => (Hown.out b hb).1⟩
      exact HB2.out.trans (hoff.below (by omega) (fun i hi e => by have := HFM.out; rcases e with e | e <;> omega))
end Go.Proofs.YtemlafbkkaloiaaGreat
namespace Go.Proofs.YtemlafbkkaloiaaGreat
open Go.RowKit
theorem rput_any {w : World} {r most : Nat} {v : Value} {A : List (ByteArray × Int)} (h : RefM w r most v A) (hn : (A.map (·.1)).Nodup) (hle : A.length ≤ most) (s : ByteArray) (val : Int) :
    Calls Tryz.prog 48 #[.pointer (some ⟨r, 0, none⟩), .string s, .int .i64 val] w fun e w' => e = .returned (.tuple #[.string (goneA most A s), .bool (wentA most A s), .int .i64 0]) ∧ ∃ v', RefM w' r most v' (putA most A s val) ∧ Off (Rown r v) w w' ∧ (∀ b, Rown r v' b → Rown r v b ∨ w.heap.size ≤ b) := by
  cases hh : hasA A s
  · by_cases hf : A.length = most
    · cases A with
      | nil => have := h.big; simp at hf; omega
      | cons y C =>
        have e1 : goneA most (y :: C) s = y.1 := by rw [goneA, hh, if_neg (by simp), if_pos hf]; rfl
        have e2 : wentA most (y :: C) s = true := by rw [wentA, hh]; simpa using hf
        have e3 : putA most (y :: C) s val = C ++ [(s, val)] := by rw [putA, hh, if_neg (by simp), if_pos hf]; rfl
        rw [e1, e2, e3]
        exact rput_full h s val hh hf
    · have e1 : goneA most A s = ⟨#[]⟩ := by rw [goneA, hh, if_neg (by simp), if_neg hf]
      have e2 : wentA most A s = false := by rw [wentA, hh]; simpa using hf
      have e3 : putA most A s val = A ++ [(s, val)] := by rw [putA, hh, if_neg (by simp), if_neg hf]
      rw [e1, e2, e3]
      exact rput_new h s val hh hf hle
  · have e1 : goneA most A s = ⟨#[]⟩ := by rw [goneA, hh, if_pos rfl]
    have e2 : wentA most A s = false := by rw [wentA, hh]; rfl
    obtain ⟨X, y, C, rfl, rfl, hpl, hdel, _⟩ := plA_yes hn hh
    have e3 : putA most (X ++ y :: C) y.1 val = X ++ C ++ [(y.1, val)] := by rw [putA, hh, if_pos rfl, hdel]
    rw [e1, e2, e3]
    exact rput_old h val hpl
def Both (w : World) (m r most : Nat) (A : List (ByteArray × Int)) (S : Nat → Prop) : Prop :=
  ∃ mp L v, Lru w m mp most L ∧ RefM w r most v A ∧ pr L = A ∧ (∀ b, Lown m mp L b → ¬ Rown r v b) ∧ (∀ b, S b ↔ Lown m mp L b ∨ Rown r v b)
theorem Both.off {w w' : World} {m r most : Nat} {A : List (ByteArray × Int)} {S S' : Nat → Prop} (h : Both w m r most A S) (ho : Off S' w w') (hS : ∀ b, S b → ¬ S' b) : Both w' m r most A S := by
  obtain ⟨mp, L, v, h1, h2, h3, h4, h5⟩ := h
  exact ⟨mp, L, v, h1.off ho (fun b hb => hS b ((h5 b).2 (Or.inl hb))), h2.off ho (fun b hb => hS b ((h5 b).2 (Or.inr hb))), h3, h4, h5⟩
theorem Both.below {w w' : World} {m r most : Nat} {A : List (ByteArray × Int)} {S : Nat → Prop} (h : Both w m r most A S) (hb : Below w.heap.size w w') : Both w' m r most A S := by
  obtain ⟨mp, L, v, h1, h2, h3, h4, h5⟩ := h
  exact ⟨mp, L, v, h1.below hb, h2.below hb, h3, h4, h5⟩
theorem Both.lt {w : World} {m r most : Nat} {A : List (ByteArray × Int)} {S : Nat → Prop} (h : Both w m r most A S) {b : Nat} (hb : S b) : b < w.heap.size := by
  obtain ⟨mp, L, v, h1, h2, h3, h4, h5⟩ := h
  rcases (h5 b).1 hb with h | h
  · exact h1.lt h
  · exact (h2.lt h).1
end Go.Proofs.YtemlafbkkaloiaaGreat
