/- lru's answer by the document: Peek, out. -/
import Derived.Test.YtidcbjgiohkidaaLruR
namespace Go.Proofs.Ytidcbjgiohkidaa
open Go.RowKit
set_option linter.unusedVariables false
set_option linter.unusedSimpArgs false

theorem toList_dec (a b : ByteArray) : (a.toList == b.toList) = decide (a = b) := by
  by_cases h : a = b
  · simp [h]
  · have : a.toList ≠ b.toList := fun e => h (by
      rw [ByteArray.toList_eq, ByteArray.toList_eq] at e
      rcases a with ⟨⟨l⟩⟩; rcases b with ⟨⟨l'⟩⟩; simpa using e)
    simp [h, this]

theorem plA_no {A : List (ByteArray × Int)} {s : ByteArray} (h : hasA A s = false) : plA A s = -1 := by
  have hf : A.findIdx? (fun p => p.1.toList == s.toList) = none := by
    rw [List.findIdx?_eq_none_iff]
    intro p hp
    simp only [hasA, List.any_eq_false, decide_eq_true_eq] at h
    rw [toList_dec]
    simp [h p hp]
  rw [plA, hf]
theorem plA_yes {A : List (ByteArray × Int)} {s : ByteArray} (hn : (A.map (·.1)).Nodup) (h : hasA A s = true) :
    ∃ X y C, A = X ++ y :: C ∧ y.1 = s ∧ plA A s = (X.length : Int) ∧ delA A s = X ++ C ∧ valA A s = y.2 := by
  cases hf : A.findIdx? (fun p => p.1.toList == s.toList) with
  | none =>
    rw [List.findIdx?_eq_none_iff] at hf
    simp only [hasA, List.any_eq_true, decide_eq_true_eq] at h
    obtain ⟨p, hp, e⟩ := h
    have := hf p hp
    rw [toList_dec] at this
    simp [e] at this
  | some i =>
    have hpl : plA A s = (i : Int) := by rw [plA, hf]
    rw [List.findIdx?_eq_some_iff_getElem] at hf
    obtain ⟨hi, h1, _⟩ := hf
    rw [toList_dec, decide_eq_true_eq] at h1
    have hA : A = A.take i ++ A[i] :: A.drop (i + 1) := by rw [List.getElem_cons_drop, List.take_append_drop]
    refine ⟨A.take i, A[i], A.drop (i + 1), hA, h1, by rw [hpl]; simp; omega, ?_, ?_⟩
    · rw [hA] at hn
      simp only [List.map_append, List.map_cons, List.nodup_append, List.nodup_cons] at hn
      obtain ⟨_, ⟨n1, _⟩, n2⟩ := hn
      have key : ∀ B : List (ByteArray × Int), (∀ p, p ∈ B → p.1 ≠ s) → B.filter (fun p => !decide (p.1 = s)) = B := by
        intro B hB
        rw [List.filter_eq_self]
        intro p hp
        simp [hB p hp]
      have k1 := key (A.take i) (fun p hp e => n2 p.1 (List.mem_map.2 ⟨p, hp, rfl⟩) A[i].1 (by simp) (e.trans h1.symm))
      have k2 := key (A.drop (i + 1)) (fun p hp e => n1 (List.mem_map.2 ⟨p, hp, e.trans h1.symm⟩))
      conv => lhs; rw [hA]
      unfold delA
      rw [List.filter_append, List.filter_cons, k1, k2]
      simp [h1]
    · unfold valA
      cases hq : A.find? (fun p => decide (p.1 = s)) with
      | none =>
        rw [List.find?_eq_none] at hq
        exact absurd (by simp [h1]) (hq A[i] (List.getElem_mem hi))
      | some q =>
        have q1 := List.mem_of_find?_eq_some hq
        have q2 := List.find?_some hq
        simp only [decide_eq_true_eq] at q2
        rw [nodup_map_inj (f := fun p : ByteArray × Int => p.1) hn q1 (List.getElem_mem hi) (q2.trans h1.symm)]
        rfl

theorem rcell {w : World} {r most : Nat} {v : Value} {X C : List (ByteArray × Int)} {y : ByteArray × Int} (h : RefM w r most v (X ++ y :: C)) : ∃ g cap, v = .slice (some ⟨g, 0, none⟩) (X ++ y :: C).length cap ∧
    w.cell? ⟨g, X.length * 2, none⟩ = some (.string y.1) ∧ w.cell? ⟨g, X.length * 2 + 1, none⟩ = some (.int .i64 y.2) := by
  rcases h.slice with ⟨_, h0⟩ | ⟨g, cap, rfl, hc⟩
  · cases X <;> simp at h0
  · have := hc X.length (by simp)
    simp only [List.getElem_append_right (Nat.le_refl _), Nat.sub_self, List.getElem_cons_zero] at this
    exact ⟨g, cap, rfl, this.1, this.2⟩

set_option maxHeartbeats 1600000 in
theorem rpeek_any {w : World} {r most : Nat} {v : Value} {A : List (ByteArray × Int)} (h : RefM w r most v A) (hn : (A.map (·.1)).Nodup) (s : ByteArray) :
    Calls Try.prog 28 #[.pointer (some ⟨r, 0, none⟩), .string s] w fun e w' => e = .returned (.tuple #[.int .i64 (valA A s), .bool (hasA A s)]) ∧ w' = w := by
  have HP := Lib.hid (rplace_any h s)
  cases hh : hasA A s
  · have hv : valA A s = 0 := by
      unfold valA
      have : A.find? (fun p => decide (p.1 = s)) = none := by
        rw [List.find?_eq_none]; simpa [hasA] using hh
      rw [this]; rfl
    rw [plA_no hh] at HP
    rw [hv]
    clear h hn
    go_enter Try.func28, Try.ntmps28
    go_wp2_with (fail)
    refine HP.out.mono ?_
    rintro e w1 ⟨rfl, rfl⟩
    go_wp2_with (fail)
    go_ret2
    exact ⟨rfl, rfl⟩
  · obtain ⟨X, y, C, rfl, rfl, hpl, _, hv⟩ := plA_yes hn hh
    rw [hpl] at HP
    rw [hv]
    obtain ⟨g, cap, rfl, d1, d2⟩ := rcell h
    have c1 := h.c1
    have hsm := h.small
    have hlt : X.length < (X ++ y :: C).length := by simp
    generalize hN : (X ++ y :: C).length = N at c1 hsm hlt
    generalize hK : X.length = K at HP d1 d2 hlt
    have k0 : (0 : Int) ≤ K := by omega
    have k1 : (K : Int) < N := by omega
    clear h hn hh hpl hv hN hK
    go_enter Try.func28, Try.ntmps28
    go_wp2_with (fail)
    refine HP.out.mono ?_
    rintro e w1 ⟨rfl, rfl⟩
    go_wp2_with (fail)
    go_ret2
    exact ⟨rfl, rfl⟩

theorem flatP_one (A : List (ByteArray × Int)) : ∀ u, u ∈ flatP A → u.oneCell' = true := by
  intro u hu
  simp only [flatP, List.mem_flatMap] at hu
  obtain ⟨p, _, hu⟩ := hu
  simp at hu
  rcases hu with rfl | rfl <;> rfl
theorem own_sliceR {w : World} {base : Nat} {e : TypeId} {size : Nat} {v : Value} {n : Nat} {xs : List Value} (h : w.ownsRow base e size v n xs) : ∃ a cap, v = .slice a n cap := by
  rcases h.2 with ⟨h, h2⟩ | ⟨g, cap, cur, h, _⟩
  · exact ⟨none, 0, by rw [h, h2]⟩
  · exact ⟨_, cap, h⟩
theorem ownsRow_mono {w : World} {base base' : Nat} {e : TypeId} {size : Nat} {v : Value} {n : Nat} {xs : List Value} (h : w.ownsRow base e size v n xs) (hb : base' ≤ base) : w.ownsRow base' e size v n xs := by
  obtain ⟨h1, h2⟩ := h
  refine ⟨h1, ?_⟩
  rcases h2 with h2 | ⟨g, cap, cur, h2, h3, r⟩
  · exact Or.inl h2
  · exact Or.inr ⟨g, cap, cur, h2, Nat.le_trans hb h3, r⟩

/-- A new row is stored. -/
theorem rstored {w w2 : World} {r most n : Nat} {v v2 : Value} {A : List (ByteArray × Int)} {xs : List Value} (c0 : w.cell? ⟨r, 0, none⟩ = some (.int .i64 most)) (fr : ∀ o, w.frozen? ⟨r, o, none⟩ = false) (big : 1 ≤ most ∧ most ≤ 4096)
    (hA : A.length ≤ 4096) (hn : n = A.length) (hxs : xs = flatP A) (hk : w2.heap[r]? = w.heap[r]?) {base : Nat} (hbr : r < base) (hown : w2.ownsRow base 64 2 v2 n xs) (c2 : w2.cell? ⟨r, 1, none⟩ = some v) :
    RefM (w2.setCell ⟨r, 1, none⟩ v2) r most v2 A := by
  subst hn hxs
  refine ⟨cell_far ((World.cell?_of_block (w := w) hk).trans c0) (by simp), cell_same c2, ownsRow_mono (ownsRow_setCell_below hown hbr v2) (by omega), fun o => ?_, hA, big⟩
  rw [World.frozen?_setCell]
  exact (World.frozen?_of_block (w := w) (a := ⟨r, o, none⟩) hk).trans (fr o)

theorem rout_end {w w1 w2 : World} {r most n : Nat} {v v2 : Value} {A : List (ByteArray × Int)} {xs : List Value} {row : Option Nat} (c0 : w.cell? ⟨r, 0, none⟩ = some (.int .i64 most)) (fr : ∀ o, w.frozen? ⟨r, o, none⟩ = false) (big : 1 ≤ most ∧ most ≤ 4096)
    (hA : A.length ≤ 4096) (hn : n = A.length) (hxs : xs = flatP A) (hr : r < w.heap.size) (hg1 : w.grownBy w1 none) (hg2 : w1.grownBy w2 row) (hb1 : ∀ k, row = some k → w.heap.size ≤ k)
    (hown : w2.ownsRow w.heap.size 64 2 v2 n xs) (c2 : w2.cell? ⟨r, 1, none⟩ = some v) :
    RefM (w2.setCell ⟨r, 1, none⟩ v2) r most v2 A ∧ Off (fun k => k = r) w (w2.setCell ⟨r, 1, none⟩ v2) ∧ (∀ k, v2.ownBlock = some k → w.heap.size ≤ k) := by
  have hz := hg1.size
  have hk : ∀ k, k < w.heap.size → w2.heap[k]? = w.heap[k]? := fun k hk => (hg2.block k (by omega) (fun e => by have := hb1 k e.symm; omega)).trans (hg1.block k hk (by simp))
  refine ⟨rstored c0 fr big hA hn hxs (hk r hr) hr hown c2, ?_, fun k e => (hown.lt k e).1⟩
  have ho : Off (fun k => k = r) w w2 := ⟨hg2.os.trans hg1.os, hg2.tape.trans hg1.tape, hg2.output.trans hg1.output, Nat.le_trans hg1.size hg2.size, fun k h _ => hk k h⟩
  exact ho.setCell (fun _ => rfl) _

theorem info_pairR : (Try.prog.info? 64).map (fun i => (i.zero, i.size, i.bytes)) = some (some (.agg #[.string ⟨#[]⟩, .int .i64 0]), 2, 24) := by kernel_rfl

set_option maxHeartbeats 6400000 in
set_option maxRecDepth 100000 in
theorem rout_any {w : World} {r most : Nat} {v : Value} {X C : List (ByteArray × Int)} {y : ByteArray × Int} (h : RefM w r most v (X ++ y :: C)) :
    Calls Try.prog 31 #[.pointer (some ⟨r, 0, none⟩), .int .i64 X.length] w fun e w' => e = .returned (.tuple #[]) ∧ ∃ v', RefM w' r most v' (X ++ C) ∧ Off (fun k => k = r) w w' ∧ (∀ k, v'.ownBlock = some k → w.heap.size ≤ k) := by
  obtain ⟨g, cap, rfl, _, _⟩ := rcell h
  obtain ⟨i0, hi, hz0, hz1, hz2⟩ := info_parts info_pairR
  have c1 := h.c1
  have hsm := h.small
  have hfr := h.fr
  have hcells := h.row.cells (g := g) rfl
  have hrl : r < w.heap.size := World.block_lt_of_cell? w _ c1
  have hgl : g < w.heap.size := (h.row.lt g rfl).2
  have hgr : g ≠ r := by have := (h.row.lt g rfl).1; omega
  have hcap : X.length + 1 + C.length ≤ cap := by
    obtain ⟨_, h2⟩ := h.row
    rcases h2 with ⟨h2, _⟩ | ⟨g', cap', cur, h2, hb, hg, hnc, hcm, hcs, htake⟩
    · cases h2
    · injection h2 with e1 e2 e3
      subst e3
      simp at hnc; omega
  have HH := Lib.hid h
  have hN : (X ++ y :: C).length = X.length + 1 + C.length := by simp; omega
  rw [hN] at c1 hsm
  have k0 : (0 : Int) ≤ (X.length : Int) := by omega
  have k1 : (X.length : Int) + 1 + C.length ≤ 4096 := by omega
  have HC := Lib.hid hcells
  clear h hcells hN
  go_enter Try.func31, Try.ntmps31
  have hnewsX : ∀ j u, (flatP X)[j]? = some u → w.cell? ((⟨g, 0, none⟩ : Addr).add j) = some u := by
    intro j u hj
    refine HC.out j u ?_
    rw [flatP_append, List.getElem?_append_left (List.getElem?_eq_some_iff.1 hj).1]
    exact hj
  by_cases hcc : cap = X.length + 1
  · obtain rfl : C = [] := by
      cases C with
      | nil => rfl
      | cons c C => simp at hcap; omega
    have hnewsC : ∀ j u, (flatP [])[j]? = some u → w.cell? ((⟨g, 0, none⟩ : Addr).add j) = some u := by intro j u h; simp [flatP] at h
    subst hcc
    go_wp2_with (first | (at_builtin; refine wpList_append_own _ rfl (.tmp 5) (.tmp 11) 57 rfl w.heap.size 64 i0 (.agg #[.string ⟨#[]⟩, .int .i64 0]) 2 24 Try.underlying57 hi hz0 hz1 hz2 rfl (by decide) (.slice none 0 0) 0 [] rfl (World.ownsRow_nil _ _ _ _) ⟨g, 0, none⟩ X.length _ (flatP X) rfl (flatP_len _) hnewsX (flatP_one _) (by unfold maxLen; (first | omega | (simp; omega))) (by first | omega | (simp; omega)) (by omega) ?_; intro v1 w1 hown1 hg1 _; have hz1' := hg1.size; have c1 := (World.cell?_of_block (w := w) (a := ⟨r, 1, none⟩) (hg1.block r hrl (by simp [Value.ownBlock, Act.eval]))).trans c1; have hC := fun j u h => (World.cell?_of_block (w := w) (w' := w1) (a := (⟨g, 0, none⟩ : Addr).add j) (by rw [WideShapes.add_plain]; exact hg1.block g hgl (by simp [Value.ownBlock, Act.eval]))).trans (hnewsC j u h)) | (at_builtin; refine wpList_append_own _ rfl (.tmp 14) (.tmp 21) 57 rfl w.heap.size 64 i0 (.agg #[.string ⟨#[]⟩, .int .i64 0]) 2 24 Try.underlying57 hi hz0 hz1 hz2 rfl (by decide) v1 (0 + X.length) ([] ++ flatP X) rfl hown1 ⟨g, 0, none⟩ 0 _ (flatP []) rfl (flatP_len _) hC (flatP_one _) (by unfold maxLen; (first | omega | (simp; omega))) (by first | omega | (simp; omega)) (by omega) ?_; intro v2 w2 hown2 hg2 _; obtain ⟨a2, cap2, rfl⟩ := own_sliceR hown2; have hz2' := hg2.size; have hb1 : ∀ k, v1.ownBlock = some k → w.heap.size ≤ k := fun k e => (hown1.lt k e).1; have c2 := (World.cell?_of_block (w := w1) (a := ⟨r, 1, none⟩) (hg2.block r (by omega) (fun e => by have := hb1 r e.symm; omega))).trans c1; have f2 := (World.frozen?_of_block (w := w1) (a := ⟨r, 1, none⟩) (hg2.block r (by omega) (fun e => by have := hb1 r e.symm; omega))).trans ((World.frozen?_of_block (w := w) (a := ⟨r, 1, none⟩) (hg1.block r hrl (by simp [Value.ownBlock, Act.eval]))).trans (hfr 1))))
    go_end0
    simp only [Nat.zero_add, Nat.add_zero, List.nil_append] at hown2
    exact ⟨rfl, _, rout_end (A := X) HH.out.c0 HH.out.fr HH.out.big (by first | omega | (simp; omega)) (by first | rfl | simp) (by simp [flatP]) hrl hg1 hg2 hb1 hown2 c2⟩
  · have hnewsC : ∀ j u, (flatP C)[j]? = some u → w.cell? ((⟨g, (X.length + 1) * 2, none⟩ : Addr).add j) = some u := by
      intro j u hj
      rw [WideShapes.add_plain, show (X.length + 1) * 2 + j = 0 + ((X.length + 1) * 2 + j) by omega, ← WideShapes.add_plain]
      refine HC.out ((X.length + 1) * 2 + j) u ?_
      rw [show X ++ y :: C = (X ++ [y]) ++ C by simp, flatP_append, List.getElem?_append_right (by rw [flatP_len]; simp)]
      rw [flatP_len]
      simpa using hj
    go_wp2_with (first | (at_builtin; refine wpList_append_own _ rfl (.tmp 5) (.tmp 11) 57 rfl w.heap.size 64 i0 (.agg #[.string ⟨#[]⟩, .int .i64 0]) 2 24 Try.underlying57 hi hz0 hz1 hz2 rfl (by decide) (.slice none 0 0) 0 [] rfl (World.ownsRow_nil _ _ _ _) ⟨g, 0, none⟩ X.length _ (flatP X) rfl (flatP_len _) hnewsX (flatP_one _) (by unfold maxLen; (first | omega | (simp; omega))) (by first | omega | (simp; omega)) (by omega) ?_; intro v1 w1 hown1 hg1 _; have hz1' := hg1.size; have c1 := (World.cell?_of_block (w := w) (a := ⟨r, 1, none⟩) (hg1.block r hrl (by simp [Value.ownBlock, Act.eval]))).trans c1; have hC := fun j u h => (World.cell?_of_block (w := w) (w' := w1) (a := (⟨g, (X.length + 1) * 2, none⟩ : Addr).add j) (by rw [WideShapes.add_plain]; exact hg1.block g hgl (by simp [Value.ownBlock, Act.eval]))).trans (hnewsC j u h)) | (at_builtin; refine wpList_append_own _ rfl (.tmp 14) (.tmp 21) 57 rfl w.heap.size 64 i0 (.agg #[.string ⟨#[]⟩, .int .i64 0]) 2 24 Try.underlying57 hi hz0 hz1 hz2 rfl (by decide) v1 (0 + X.length) ([] ++ flatP X) rfl hown1 ⟨g, (X.length + 1) * 2, none⟩ C.length _ (flatP C) rfl (flatP_len _) hC (flatP_one _) (by unfold maxLen; (first | omega | (simp; omega))) (by first | omega | (simp; omega)) (by omega) ?_; intro v2 w2 hown2 hg2 _; obtain ⟨a2, cap2, rfl⟩ := own_sliceR hown2; have hz2' := hg2.size; have hb1 : ∀ k, v1.ownBlock = some k → w.heap.size ≤ k := fun k e => (hown1.lt k e).1; have c2 := (World.cell?_of_block (w := w1) (a := ⟨r, 1, none⟩) (hg2.block r (by omega) (fun e => by have := hb1 r e.symm; omega))).trans c1; have f2 := (World.frozen?_of_block (w := w1) (a := ⟨r, 1, none⟩) (hg2.block r (by omega) (fun e => by have := hb1 r e.symm; omega))).trans ((World.frozen?_of_block (w := w) (a := ⟨r, 1, none⟩) (hg1.block r hrl (by simp [Value.ownBlock, Act.eval]))).trans (hfr 1))))
    go_end0
    simp only [Nat.zero_add, Nat.add_zero, List.nil_append] at hown2
    exact ⟨rfl, _, rout_end (A := X ++ C) HH.out.c0 HH.out.fr HH.out.big (by simp; omega) (by simp) (by simp [flatP]) hrl hg1 hg2 hb1 hown2 c2⟩
end Go.Proofs.Ytidcbjgiohkidaa
