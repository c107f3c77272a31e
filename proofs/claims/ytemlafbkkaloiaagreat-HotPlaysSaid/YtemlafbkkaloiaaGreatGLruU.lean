import Derived.Deep.RegionHeld3
import Derived.Test.YtemlafbkkaloiaaGreatGS0
import Derived.Test.YtemlafbkkaloiaaGreatGLruR
namespace Go.Proofs.YtemlafbkkaloiaaGreat
open Go.RowKit
set_option linter.unusedVariables false
set_option linter.unusedSimpArgs false
theorem wp_append_where {P : Program} (w : World) {o : Oper} {a : Act} {K : Act → World → Prop} {Q : Exit → Act → World → Prop} (s x : Operand) (t : TypeId)
    (ho : o.op = .call { callee := .builtin .append, args := #[s, x], argTypes := #[t, t] })
    (base : Nat) (e : TypeId) (i : TypeInfo) (z : Value) (size bytes : Nat) (ht : P.underlying t = some (.slice e)) (hi : P.info? e = some i) (hz : i.zero = some z)
    (hsize : i.size = size) (hby : i.bytes = bytes) (hzs : z.cells.size = size) (hsz : 0 < size)
    (v : Value) (n : Nat) (xs : List Value) (hs : a.eval s = v) (hown : w.ownsRow base e size v n xs)
    (ad : Addr) (m c : Nat) (news : List Value) (hx : a.eval x = .slice (some ad) m c) (hl : news.length = m * size) (hnews : ∀ j u, news[j]? = some u → w.cell? (ad.add j) = some u) (h1 : ∀ u ∈ news, u.oneCell' = true)
    (h63 : n + m ≤ maxLen) (hbytes : (n + m) * bytes ≤ 140737488355328) (hbase : base ≤ w.heap.size) (hm : m ≠ 0)
    (h : ∀ v' w', w'.ownsRow base e size v' (n + m) (xs ++ news) → w.grownBy w' v.ownBlock → (v'.ownBlock = v.ownBlock ∨ v'.ownBlock = some w.heap.size) → K (a.put o.dst v') w') : o.wp P a w K Q := by
  obtain ⟨v', w', hr, h2, h3, h4⟩ := run_append_where (P := P) w base t o.type e i z size bytes ht hi hz hsize hby hzs hsz v n xs hown ad m c news hl hnews h1 h63 hbytes hbase hm
  unfold Oper.wp execOp
  simp only [ho, resolve, invoke, builtin, Sem.run_bind, Sem.run_pure, Result.andThen_ok, List.map_toArray, List.map_cons, List.map_nil, hs, hx, hr]
  exact h v' w' h2 h3 h4
theorem boxed_alloc {w : World} {p : Nat} {x y : Value} {o : Obj} (h : w.cell? ⟨p, 0, none⟩ = some x ∧ w.cell? ⟨p, 1, none⟩ = some y) : (w.alloc o).cell? ⟨p, 0, none⟩ = some x ∧ (w.alloc o).cell? ⟨p, 1, none⟩ = some y :=
  ⟨(World.cell?_alloc_lt w _ _ (World.block_lt_of_cell? w _ h.1)).trans h.1, (World.cell?_alloc_lt w _ _ (World.block_lt_of_cell? w _ h.2)).trans h.2⟩
theorem boxed_grown {w w3 : World} {p : Nat} {x y : Value} {row : Option Nat} (h : w.cell? ⟨p, 0, none⟩ = some x ∧ w.cell? ⟨p, 1, none⟩ = some y) (hg : w.grownBy w3 row) (hne : ∀ k, row = some k → k ≠ p) : w3.cell? ⟨p, 0, none⟩ = some x ∧ w3.cell? ⟨p, 1, none⟩ = some y := by
  have hk : w3.heap[p]? = w.heap[p]? := hg.block p (World.block_lt_of_cell? w _ h.1) (fun e => hne p e.symm rfl)
  exact ⟨(World.cell?_of_block (w := w) (a := ⟨p, 0, none⟩) hk).trans h.1, (World.cell?_of_block (w := w) (a := ⟨p, 1, none⟩) hk).trans h.2⟩
theorem boxed_set {w : World} {p r o : Nat} {x y u : Value} (h : w.cell? ⟨p, 0, none⟩ = some x ∧ w.cell? ⟨p, 1, none⟩ = some y) (hne : r ≠ p) : (w.setCell ⟨r, o, none⟩ u).cell? ⟨p, 0, none⟩ = some x ∧ (w.setCell ⟨r, o, none⟩ u).cell? ⟨p, 1, none⟩ = some y :=
  ⟨cell_far h.1 (by simp [hne]), cell_far h.2 (by simp [hne])⟩
theorem boxed_off {S : Nat → Prop} {w w3 : World} {p : Nat} {x y : Value} (h : w.cell? ⟨p, 0, none⟩ = some x ∧ w.cell? ⟨p, 1, none⟩ = some y) (ho : Off S w w3) (hne : ¬ S p) : w3.cell? ⟨p, 0, none⟩ = some x ∧ w3.cell? ⟨p, 1, none⟩ = some y :=
  ⟨ho.cell h.1 hne, ho.cell h.2 hne⟩
theorem boxed_new (w : World) (x y : Value) (t : TypeId) : (w.alloc (.cells #[x, y] t)).cell? ⟨w.heap.size, 0, none⟩ = some x ∧ (w.alloc (.cells #[x, y] t)).cell? ⟨w.heap.size, 1, none⟩ = some y :=
  ⟨by have := two_cells w x y t 0 x rfl; rw [WideShapes.add_plain] at this; exact this, by have := two_cells w x y t 1 y rfl; rw [WideShapes.add_plain] at this; exact this⟩
theorem RefM.drew {w : World} {r most : Nat} {v : Value} {A : List (ByteArray × Int)} (h : RefM w r most v A) : RefM w.drew r most v A := h.below ((Below.refl _ _).drew)
set_option maxHeartbeats 6400000 in
set_option maxRecDepth 100000 in
theorem rget_any {w : World} {r most : Nat} {v : Value} {A : List (ByteArray × Int)} (h : RefM w r most v A) (hn : (A.map (·.1)).Nodup) (s : ByteArray) :
    Calls Tryz.prog 49 #[.pointer (some ⟨r, 0, none⟩), .string s] w fun e w' => e = .returned (.tuple #[.int .i64 (valA A s), .bool (hasA A s)]) ∧ ∃ v', RefM w' r most v' (getA A s) ∧ Off (Rown r v) w w' ∧ (∀ b, Rown r v' b → Rown r v b ∨ w.heap.size ≤ b) := by
  have HP := Lib.hid (rplace_any h s)
  cases hh : hasA A s
  · have hv : valA A s = 0 := by
      unfold valA
      have : A.find? (fun p => decide (p.1 = s)) = none := by
        rw [List.find?_eq_none]; simpa [hasA] using hh
      rw [this]; rfl
    have hg : getA A s = A := by simp [getA, hh]
    rw [plA_no hh] at HP
    rw [hv, hg]
    have HH := Lib.hid h
    clear h hn hg
    go_enter Tryz.func49, Tryz.ntmps49
    go_wp2_with (fail)
    refine HP.out.mono ?_
    rintro e w1 ⟨rfl, rfl⟩
    go_wp2_with (fail)
    go_ret2
    exact ⟨rfl, v, HH.out, Off.refl _ _, fun b hb => Or.inl hb⟩
  · obtain ⟨i0, hi, hz0, hz1, hz2⟩ := info_parts info_pairR
    obtain ⟨X, y, C, rfl, rfl, hpl, hdel, hv⟩ := plA_yes hn hh
    have hg : getA (X ++ y :: C) y.1 = X ++ C ++ [(y.1, y.2)] := by simp [getA, hh, hdel, hv]
    rw [hpl] at HP
    rw [hv, hg]
    obtain ⟨g, cap, rfl, d1, d2⟩ := rcell h
    have c1 := h.c1
    have hsm := h.small
    have HH := Lib.hid h
    have hN : (X ++ y :: C).length = X.length + 1 + C.length := by simp; omega
    rw [hN] at c1 hsm
    have k0 : (0 : Int) ≤ (X.length : Int) := by omega
    have k1 : (X.length : Int) < ((X.length + 1 + C.length : Nat) : Int) := by omega
    clear h hn hh hpl hdel hv hg hN
    go_enter Tryz.func49, Tryz.ntmps49
    go_wp2_with (fail)
    refine HP.out.mono ?_
    rintro e w1 ⟨rfl, rfl⟩
    go_wp2_with (fail)
    have hbx := boxed_new w1 (.string y.1) (.int .i64 y.2) 151
    have hrw : r < w1.heap.size := World.block_lt_of_cell? w1 _ c1
    have hba : Below w1.heap.size w1 (w1.alloc (.cells #[.string y.1, .int .i64 y.2] 151)) := (Below.refl _ _).alloc (Nat.le_refl _) _
    refine (rout_any (HH.out.below hba)).mono ?_
    rintro e w2 ⟨rfl, vk, hk, ho, hb⟩
    have hS := boxed_off hbx ho (by intro e; omega)
    have hb2 : ∀ k, vk.ownBlock = some k → k ≠ w1.heap.size := fun k e => by have := hb k e; simp at this; omega
    have HK := Lib.hid hk.drew
    have HS0 := Lib.hid hS
    have c1 := hk.c1
    have hrl : r < w2.heap.size := World.block_lt_of_cell? w2 _ c1
    have hN2 : (X ++ C).length = X.length + C.length := by simp
    have HO := Lib.hid ho
    have HBA := Lib.hid hba
    clear hk hS hbx d1 d2 ho hba
    go_wp2_with (fail)
    refine wp_region_held_drew (S := fun wx => wx.cell? ⟨w1.heap.size, 0, none⟩ = some (.string y.1) ∧ wx.cell? ⟨w1.heap.size, 1, none⟩ = some (.int .i64 y.2)) (by kernel_rfl) ?_ (fun hHeld => ?_)
    · exact HS0.out
    refine wpAnyH_take (i := 0) (v := ?_) rfl (by kernel_rfl) (by kernel_rfl) (by kernel_rfl) (fun _ _ _ h => h) (Or.inl ⟨by rfl, ?hy⟩) (by assumption) ?_
    case hy => intro w hSw; (try dsimp only at hSw); go_simp; try with_reducible rfl
    try simp only [Act.put, szA, szB, szC, szD, szE, szF]
    refine wpAnyH_take (i := 1) (v := ?_) rfl (by kernel_rfl) (by kernel_rfl) (by kernel_rfl) (fun _ _ _ h => h) (Or.inl ⟨by rfl, ?hy⟩) (by assumption) ?_
    case hy => intro w hSw; (try dsimp only at hSw); go_simp; try with_reducible rfl
    try simp only [Act.put, szA, szB, szC, szD, szE, szF]
    refine wpAnyH_take (i := 2) (v := ?_) rfl (by kernel_rfl) (by kernel_rfl) (by kernel_rfl) (fun _ _ _ h => h) (Or.inl ⟨by rfl, ?hy⟩) (by assumption) ?_
    case hy => intro w hSw; (try dsimp only at hSw); go_simp; try with_reducible rfl
    try simp only [Act.put, szA, szB, szC, szD, szE, szF]
    refine wpAnyH_take (i := 3) (v := ?_) rfl (by kernel_rfl) (by kernel_rfl) (by kernel_rfl) (fun _ _ _ h => h) (Or.inl ⟨by rfl, ?hy⟩) (by assumption) ?_
    case hy => intro w hSw; (try dsimp only at hSw); go_simp; try with_reducible rfl
    try simp only [Act.put, szA, szB, szC, szD, szE, szF]
    refine wpAnyH_take (i := 5) (v := ?_) rfl (by kernel_rfl) (by kernel_rfl) (by kernel_rfl) (fun _ _ _ h => h) (Or.inl ⟨by rfl, ?hy⟩) (by assumption) ?_
    case hy => intro w hSw; (try dsimp only at hSw); go_simp; try with_reducible rfl
    try simp only [Act.put, szA, szB, szC, szD, szE, szF]
    have c1A : (w2.alloc (.cells #[.string y.1, .int .i64 y.2] 151)).cell? ⟨r, 1, none⟩ = some vk := (World.cell?_alloc_lt w2 _ _ hrl).trans c1
    refine wpAnyH_ready (rs := [4, 6]) (by kernel_rfl) (by simp) (AllReadyH.cons rfl (fun K hK => ?_) (AllReadyH.cons rfl (fun K hK => ?_) AllReadyH.nil))
    · go_simp
      try (go_wp2_with fail)
      refine hK.out _ _ ?_ (fun hHeld => ?_)
      · exact hHeld
      clear hK K
      try simp only [Act.put, szA, szB, szC, szD, szE, szF]
      refine wpAnyH_ready (rs := [6]) (by kernel_rfl) (by simp) (AllReadyH.cons rfl (fun K hK => ?_) AllReadyH.nil)
      go_simp
      skip
      try (go_wp2_with fail)
      refine hK.out _ _ ?_ (fun hHeld => ?_)
      · exact boxed_alloc hHeld
      clear hK K
      try simp only [Act.put, szA, szB, szC, szD, szE, szF]
      refine wpAnyH_ready (rs := [7]) (by kernel_rfl) (by simp) (AllReadyH.cons rfl (fun K hK => ?_) AllReadyH.nil)
      rw [if_pos (by rfl)]
      refine wp_append_where _ (.tmp 27) (.tmp 29) 129 rfl (r + 1) 151 i0 (.agg #[.string ⟨#[]⟩, .int .i64 0]) 2 24 Tryz.underlying129 hi hz0 hz1 hz2 rfl (by decide) vk (X ++ C).length (flatP (X ++ C)) rfl (HK.out.row.alloc _) ⟨_, 0, none⟩ 1 1 [.string y.1, .int .i64 y.2] rfl rfl (two_cells _ _ _ _) (by intro u hu; simp at hu; rcases hu with rfl | rfl <;> rfl) (by unfold maxLen; omega) (by omega) (by simp; omega) (by decide) ?_
      intro v3 w3 hown3 hg3 hk3
      obtain ⟨c2, f2⟩ := rpush_mid (w := w2.drew) HK.out hg3
      obtain ⟨a3, cap3, rfl⟩ := own_sliceR hown3
      refine hK.out _ _ (boxed_grown hHeld hg3 hb2) (fun hHeld => ?_)
      clear hK K
      try simp only [Act.put, szA, szB, szC, szD, szE, szF]
      refine wpAnyH_take (i := 8) (v := ?_) rfl (by kernel_rfl) (by kernel_rfl) (by kernel_rfl) (fun _ _ _ h => h) (Or.inl ⟨by rfl, ?hy⟩) (by assumption) ?_
      case hy => intro w hSw; (try dsimp only at hSw); go_simp; try with_reducible rfl
      try simp only [Act.put, szA, szB, szC, szD, szE, szF]
      refine wpAnyH_take (i := 9) (v := ?_) rfl (by kernel_rfl) (by kernel_rfl) (by kernel_rfl) (fun _ _ _ h => h) (Or.inl ⟨by rfl, ?hy⟩) (by assumption) ?_
      case hy => intro w hSw; (try dsimp only at hSw); go_simp; try with_reducible rfl
      try simp only [Act.put, szA, szB, szC, szD, szE, szF]
      refine wpAnyH_ready (rs := [10]) (by kernel_rfl) (by simp) (AllReadyH.cons rfl (fun K hK => ?_) AllReadyH.nil)
      go_simp
      skip
      try (go_wp2_with fail)
      refine hK.out _ _ ?_ (fun hHeld => ?_)
      · exact boxed_set hHeld (by omega)
      clear hK K
      try simp only [Act.put, szA, szB, szC, szD, szE, szF]
      refine wpAnyH_done (by kernel_rfl) ?_ _
      go_wp2_with (fail)
      go_ret2
      obtain ⟨q1, q2, q3⟩ := rpush_end (w := w2.drew) (s := y.1) (x := y.2) HK.out (by omega) hg3 rfl rfl hown3 hk3
      rw [hN2] at q1 q2 q3
      have z1 := HBA.out.size
      have z2 := HO.out.size
      refine ⟨rfl, _, q1, (((Off.ofBelow (S := Rown r (.slice (some ⟨g, 0, none⟩) (X ++ y :: C).length cap)) HBA.out).trans HO.out (fun i _ e => Or.inl e)).drew).trans q2 (fun i hi e => ?_), fun b hbb => ?_⟩
      · rcases e with e | e
        · exact Or.inl e
        · have := hb i e; omega
      · rcases q3 b hbb with e | e
        · rcases e with e | e
          · exact Or.inl (Or.inl e)
          · right; have := hb b e; omega
        · right; have e2 : w2.heap.size ≤ b := e; omega
    · go_simp
      try (go_wp2_with fail)
      refine hK.out _ _ ?_ (fun hHeld => ?_)
      · exact boxed_alloc hHeld
      clear hK K
      try simp only [Act.put, szA, szB, szC, szD, szE, szF]
      refine wpAnyH_ready (rs := [4]) (by kernel_rfl) (by simp) (AllReadyH.cons rfl (fun K hK => ?_) AllReadyH.nil)
      go_simp
      skip
      try (go_wp2_with fail)
      refine hK.out _ _ ?_ (fun hHeld => ?_)
      · exact hHeld
      clear hK K
      try simp only [Act.put, szA, szB, szC, szD, szE, szF]
      refine wpAnyH_ready (rs := [7]) (by kernel_rfl) (by simp) (AllReadyH.cons rfl (fun K hK => ?_) AllReadyH.nil)
      rw [if_pos (by rfl)]
      refine wp_append_where _ (.tmp 27) (.tmp 29) 129 rfl (r + 1) 151 i0 (.agg #[.string ⟨#[]⟩, .int .i64 0]) 2 24 Tryz.underlying129 hi hz0 hz1 hz2 rfl (by decide) vk (X ++ C).length (flatP (X ++ C)) rfl (HK.out.row.alloc _) ⟨_, 0, none⟩ 1 1 [.string y.1, .int .i64 y.2] rfl rfl (two_cells _ _ _ _) (by intro u hu; simp at hu; rcases hu with rfl | rfl <;> rfl) (by unfold maxLen; omega) (by omega) (by simp; omega) (by decide) ?_
      intro v3 w3 hown3 hg3 hk3
      obtain ⟨c2, f2⟩ := rpush_mid (w := w2.drew) HK.out hg3
      obtain ⟨a3, cap3, rfl⟩ := own_sliceR hown3
      refine hK.out _ _ (boxed_grown hHeld hg3 hb2) (fun hHeld => ?_)
      clear hK K
      try simp only [Act.put, szA, szB, szC, szD, szE, szF]
      refine wpAnyH_take (i := 8) (v := ?_) rfl (by kernel_rfl) (by kernel_rfl) (by kernel_rfl) (fun _ _ _ h => h) (Or.inl ⟨by rfl, ?hy⟩) (by assumption) ?_
      case hy => intro w hSw; (try dsimp only at hSw); go_simp; try with_reducible rfl
      try simp only [Act.put, szA, szB, szC, szD, szE, szF]
      refine wpAnyH_take (i := 9) (v := ?_) rfl (by kernel_rfl) (by kernel_rfl) (by kernel_rfl) (fun _ _ _ h => h) (Or.inl ⟨by rfl, ?hy⟩) (by assumption) ?_
      case hy => intro w hSw; (try dsimp only at hSw); go_simp; try with_reducible rfl
      try simp only [Act.put, szA, szB, szC, szD, szE, szF]
      refine wpAnyH_ready (rs := [10]) (by kernel_rfl) (by simp) (AllReadyH.cons rfl (fun K hK => ?_) AllReadyH.nil)
      go_simp
      skip
      try (go_wp2_with fail)
      refine hK.out _ _ ?_ (fun hHeld => ?_)
      · exact boxed_set hHeld (by omega)
      clear hK K
      try simp only [Act.put, szA, szB, szC, szD, szE, szF]
      refine wpAnyH_done (by kernel_rfl) ?_ _
      go_wp2_with (fail)
      go_ret2
      obtain ⟨q1, q2, q3⟩ := rpush_end (w := w2.drew) (s := y.1) (x := y.2) HK.out (by omega) hg3 rfl rfl hown3 hk3
      rw [hN2] at q1 q2 q3
      have z1 := HBA.out.size
      have z2 := HO.out.size
      refine ⟨rfl, _, q1, (((Off.ofBelow (S := Rown r (.slice (some ⟨g, 0, none⟩) (X ++ y :: C).length cap)) HBA.out).trans HO.out (fun i _ e => Or.inl e)).drew).trans q2 (fun i hi e => ?_), fun b hbb => ?_⟩
      · rcases e with e | e
        · exact Or.inl e
        · have := hb i e; omega
      · rcases q3 b hbb with e | e
        · rcases e with e | e
          · exact Or.inl (Or.inl e)
          · right; have := hb b e; omega
        · right; have e2 : w2.heap.size ≤ b := e; omega
end Go.Proofs.YtemlafbkkaloiaaGreat
