import Derived.OwnWalk
import Derived.Test.YtemlafbkkaloiaaGreatGLruA
import Derived.Test.YtemlafbkkaloiaaGreatOwn
set_option linter.unusedVariables false
set_option linter.unusedSimpArgs false
namespace Go.Proofs.YtemlafbkkaloiaaGreat
open Go.RowKit
theorem kcell_one (w : World) (u : Value) (t : TypeId) : ∀ j x, ([u] : List Value)[j]? = some x → (w.alloc (.cells #[u] t)).cell? ((⟨w.heap.size, 0, none⟩ : Addr).add j) = some x := by
  intro j x h
  match j with
  | 0 => simp at h; subst h; simp [Addr.add, go_sem]
  | j + 1 => simp at h
theorem after_append {w3 wr w5 : World} {base size n : Nat} {e : TypeId} {v : Value} {xs : List Value} {o : Obj} (hrow : wr.ownsRow base e size v n xs) (hz : base ≤ wr.heap.size) (hb : Below base w3 wr) (hg : (wr.alloc o).grownBy w5 v.ownBlock) : Below base w3 w5 :=
  (hb.alloc hz o).grown hg (by simp; omega) (fun k e => (hrow.lt k e).1)
theorem info_strK : (Tryz.prog.info? 9).map (fun i => (i.zero, i.size, i.bytes)) = some (some (.string ⟨#[]⟩), 1, 16) := by kernel_rfl
def flatP (A : List (ByteArray × Int)) : List Value := A.flatMap (fun p => [.string p.1, .int .i64 p.2])
theorem flatP_len (A : List (ByteArray × Int)) : (flatP A).length = A.length * 2 := by
  induction A with
  | nil => rfl
  | cons p A ih => simp only [flatP, List.flatMap_cons, List.length_append, List.length_cons, List.length_nil] at ih ⊢; omega
theorem flatP_append (A B : List (ByteArray × Int)) : flatP (A ++ B) = flatP A ++ flatP B := by simp [flatP]
theorem flatP_get (A : List (ByteArray × Int)) (i : Nat) (hi : i < A.length) : (flatP A)[i * 2]? = some (.string (A[i]'hi).1) ∧ (flatP A)[i * 2 + 1]? = some (.int .i64 (A[i]'hi).2) := by
  have h : A = A.take i ++ A[i] :: A.drop (i + 1) := by rw [List.getElem_cons_drop, List.take_append_drop]
  have hl : (A.take i).length = i := by simp; omega
  have e : flatP A = flatP (A.take i) ++ (.string (A[i]'hi).1 :: .int .i64 (A[i]'hi).2 :: flatP (A.drop (i + 1))) := by
    conv => lhs; rw [h]
    rw [flatP_append]; rfl
  rw [e]
  have hfl : (flatP (A.take i)).length = i * 2 := by rw [flatP_len, hl]
  constructor
  · rw [List.getElem?_append_right (by omega), hfl]; simp
  · rw [List.getElem?_append_right (by omega), hfl, show i * 2 + 1 - i * 2 = 1 by omega]; rfl
structure RefM (w : World) (r : Nat) (most : Nat) (v : Value) (A : List (ByteArray × Int)) : Prop where
  c0 : w.cell? ⟨r, 0, none⟩ = some (.int .i64 most)
  c1 : w.cell? ⟨r, 1, none⟩ = some v
  row : w.ownsRow (r + 1) 151 2 v A.length (flatP A)
  fr : ∀ o, w.frozen? ⟨r, o, none⟩ = false
  small : A.length ≤ 4096
  big : 1 ≤ most ∧ most ≤ 4096
def Rown (r : Nat) (v : Value) (k : Nat) : Prop := k = r ∨ v.ownBlock = some k
theorem RefM.lt {w : World} {r most : Nat} {v : Value} {A : List (ByteArray × Int)} (h : RefM w r most v A) {k : Nat} (hk : Rown r v k) : k < w.heap.size ∧ r ≤ k := by
  rcases hk with rfl | hk
  · exact ⟨World.block_lt_of_cell? w _ h.c0, Nat.le_refl _⟩
  · have := h.row.lt k hk
    exact ⟨this.2, by omega⟩
theorem RefM.kept {w w' : World} {r most : Nat} {v : Value} {A : List (ByteArray × Int)} (h : RefM w r most v A) (hk : ∀ k, Rown r v k → w'.heap[k]? = w.heap[k]?) (hz : w.heap.size ≤ w'.heap.size) : RefM w' r most v A := by
  refine ⟨(World.cell?_of_block (w := w) (hk _ (Or.inl rfl))).trans h.c0, (World.cell?_of_block (w := w) (hk _ (Or.inl rfl))).trans h.c1, ?_, fun o => (World.frozen?_of_block (w := w) (a := ⟨r, o, none⟩) (hk _ (Or.inl rfl))).trans (h.fr o), h.small, h.big⟩
  obtain ⟨h1, h2⟩ := h.row
  refine ⟨h1, ?_⟩
  rcases h2 with h2 | ⟨g, cap, cur, rfl, hb, hg, hn⟩
  · exact Or.inl h2
  · exact Or.inr ⟨g, cap, cur, rfl, hb, (hk g (Or.inr rfl)).trans hg, hn⟩
theorem RefM.off {S : Nat → Prop} {w w' : World} {r most : Nat} {v : Value} {A : List (ByteArray × Int)} (h : RefM w r most v A) (ho : Off S w w') (hS : ∀ b, Rown r v b → ¬ S b) : RefM w' r most v A :=
  h.kept (fun b hb => ho.block b (h.lt hb).1 (hS b hb)) ho.size
theorem RefM.below {w w' : World} {r most : Nat} {v : Value} {A : List (ByteArray × Int)} (h : RefM w r most v A) (hb : Below w.heap.size w w') : RefM w' r most v A :=
  h.kept (fun b ho => hb.block b (h.lt ho).1) hb.size
theorem RefM.slice {w : World} {r most : Nat} {v : Value} {A : List (ByteArray × Int)} (h : RefM w r most v A) : (v = .slice none 0 0 ∧ A = []) ∨ ∃ g cap, v = .slice (some ⟨g, 0, none⟩) A.length cap ∧
    ∀ i (hi : i < A.length), w.cell? ⟨g, i * 2, none⟩ = some (.string (A[i]'hi).1) ∧ w.cell? ⟨g, i * 2 + 1, none⟩ = some (.int .i64 (A[i]'hi).2) := by
  obtain ⟨h1, h2⟩ := h.row
  rcases h2 with ⟨rfl, h2⟩ | ⟨g, cap, cur, rfl, hb, hg, hnc, hcm, hcs, htake⟩
  · exact Or.inl ⟨rfl, by cases A; rfl; simp at h2⟩
  · refine Or.inr ⟨g, cap, rfl, fun i hi => ?_⟩
    have hc := World.ownsRow.cells (w := w) (base := r + 1) (e := 151) (size := 2) (n := A.length) (xs := flatP A) ⟨h1, Or.inr ⟨g, cap, cur, rfl, hb, hg, hnc, hcm, hcs, htake⟩⟩ (g := g) rfl
    obtain ⟨e1, e2⟩ := flatP_get A i hi
    have r1 := hc _ _ e1
    have r2 := hc _ _ e2
    rw [WideShapes.add_plain, Nat.zero_add] at r1 r2
    exact ⟨r1, r2⟩
set_option maxHeartbeats 1600000 in
theorem rnew_any (w : World) (most : Int) (h : 1 ≤ most ∧ most ≤ 4096) :
    Calls Tryz.prog 26 #[.int .i64 most] w fun e w' => e = .returned (.tuple #[.pointer (some ⟨w.heap.size, 0, none⟩), .int .i64 0]) ∧ RefM w' w.heap.size most.toNat (.slice none 0 0) [] ∧ Below w.heap.size w w' ∧ w'.heap.size = w.heap.size + 1 := by
  obtain ⟨h1, h2⟩ := h
  go_enter Tryz.func26, Tryz.ntmps26
  go_wp2_with (fail)
  go_ret2
  have hn : (most.toNat : Int) = most := by omega
  have hz : (w.alloc (.cells #[.int .i64 most, .slice none 0 0] 131)).heap[w.heap.size]? = some (.cells #[.int .i64 most, .slice none 0 0] 131) := by
    show (Array.push w.heap _)[_]? = _
    rw [Array.getElem?_push, if_pos rfl]
  refine ⟨rfl, ⟨by simp only [World.cell?, hz, hn]; rfl, by simp only [World.cell?, hz]; rfl, World.ownsRow_nil _ _ _ _, fun o => by simp only [World.frozen?, hz]; simp, by simp, by omega⟩, (Below.refl _ _).alloc (Nat.le_refl _) _, by simp⟩
set_option maxHeartbeats 1600000 in
theorem rnew_no (w : World) (most : Int) (h : ¬ (1 ≤ most ∧ most ≤ 4096)) :
    Calls Tryz.prog 26 #[.int .i64 most] w fun e w' => e = .returned (.tuple #[.pointer none, .int .i64 2]) ∧ w' = w := by
  by_cases h1 : most < 1
  · clear h
    go_enter Tryz.func26, Tryz.ntmps26
    go_wp2_with (fail)
    go_ret2
    exact ⟨rfl, rfl⟩
  · have h2 : 4096 < most := by omega
    clear h
    go_enter Tryz.func26, Tryz.ntmps26
    go_wp2_with (fail)
    go_ret2
    exact ⟨rfl, rfl⟩
def plA (A : List (ByteArray × Int)) (s : ByteArray) : Int := match A.findIdx? (fun p => p.1.toList == s.toList) with | some i => (i : Int) | none => -1
set_option maxHeartbeats 3200000 in
set_option maxRecDepth 100000 in
theorem rplace_any {w : World} {r most : Nat} {v : Value} {A : List (ByteArray × Int)} (h : RefM w r most v A) (s : ByteArray) :
    Calls Tryz.prog 89 #[.pointer (some ⟨r, 0, none⟩), .string s] w fun e w' => e = .returned (.int .i64 (plA A s)) ∧ w' = w := by
  have c1 := h.c1
  have hsm := h.small
  rcases h.slice with ⟨rfl, rfl⟩ | ⟨g, cap, rfl, hcell⟩
  · clear h
    go_enter Tryz.func89, Tryz.ntmps89
    go_wp2_with (fail)
    go_loop [5] (fun i => i = .int .i64 0) (fun _ => 0)
    case atStart => rfl
    case round =>
      subst hrel
      go_wp2_with (fail)
      go_ret
      exact ⟨rfl, rfl⟩
  · have HC := Lib.hid hcell
    clear h hcell
    go_enter Tryz.func89, Tryz.ntmps89
    go_wp2_with (fail)
    go_loop [5] (fun i => ∃ k : Nat, k ≤ A.length ∧ i = .int .i64 k ∧ Hid (∀ j (hj : j < A.length), j < k → (A[j].1.toList == s.toList) = false)) (fun i => A.length - (intOf i).toNat)
    case atStart => exact ⟨0, Nat.zero_le _, rfl, fun j hj h => by omega⟩
    case round =>
      obtain ⟨k, hk, rfl, HN⟩ := hrel
      by_cases hlt : k < A.length
      · obtain ⟨d1, d2⟩ := HC.out k hlt
        have k0 : (0 : Int) ≤ k := by omega
        have k1 : (k : Int) < A.length := by omega
        have k2 : (A.length : Int) ≤ 4096 := by omega
        have HK := Lib.hid (show A[k].1 = A[k].1 from rfl)
        generalize hs : A[k].1 = key at d1
        clear d2
        cases heq : (key.toList == s.toList)
        · have HE := Lib.hid heq
          have HS := Lib.hid hs
          clear hs
          go_wp2_with (fail)
          refine ⟨⟨k + 1, by omega, by go_num, fun j hj hjk => ?_⟩, by first | (simp [intOf]; done) | (simp [intOf]; omega)⟩
          by_cases e : j = k
          · subst e; rw [HS.out]; exact HE.out
          · exact HN.out j hj (by omega)
        · have HE := Lib.hid heq
          have HS := Lib.hid hs
          clear hs
          go_wp2_with (fail)
          go_ret
          have hf : A.findIdx? (fun p => p.1.toList == s.toList) = some k := by
            rw [List.findIdx?_eq_some_iff_getElem]
            refine ⟨hlt, by rw [HS.out]; exact HE.out, fun j hj => by rw [HN.out j (by omega) hj]; simp⟩
          exact ⟨by rw [plA, hf]; rfl, rfl⟩
      · go_wp2_with (fail)
        go_ret
        have hf : A.findIdx? (fun p => p.1.toList == s.toList) = none := by
          rw [List.findIdx?_eq_none_iff]
          intro p hp
          obtain ⟨j, hj, rfl⟩ := List.getElem_of_mem hp
          exact HN.out j hj (by omega)
        exact ⟨by rw [plA, hf]; rfl, rfl⟩
end Go.Proofs.YtemlafbkkaloiaaGreat
namespace Go.Proofs.YtemlafbkkaloiaaGreat
open Go.RowKit
theorem toList_dec (a b : ByteArray) : (a.toList == b.toList) = decide (a = b) := by
  by_cases h : a = b
  · simp [h]
  · have : a.toList ≠ b.toList := fun e => h (by
      rw [ByteArray.toList_eq, ByteArray.toList_eq] at e
      rcases a with ⟨⟨l⟩⟩; rcases b with ⟨⟨l'⟩⟩; simpa using e)
    simp [h, this]
theorem plA_no {A : List (ByteArray × Int)} {s : ByteArray} (h : hasA A s = false) : plA A s = -1 := by
  have hf : A.findIdx? (fun p => p.1.toList == s.toList) = none := by
    rw [List.findIdx?_eq_none_iff]
    intro p hp
    simp only [hasA, List.any_eq_false, decide_eq_true_eq] at h
    rw [toList_dec]
    simp [h p hp]
  rw [plA, hf]
theorem plA_yes {A : List (ByteArray × Int)} {s : ByteArray} (hn : (A.map (·.1)).Nodup) (h : hasA A s = true) :
    ∃ X y C, A = X ++ y :: C ∧ y.1 = s ∧ plA A s = (X.length : Int) ∧ delA A s = X ++ C ∧ valA A s = y.2 := by
  cases hf : A.findIdx? (fun p => p.1.toList == s.toList) with
  | none =>
    rw [List.findIdx?_eq_none_iff] at hf
    simp only [hasA, List.any_eq_true, decide_eq_true_eq] at h
    obtain ⟨p, hp, e⟩ := h
    have := hf p hp
    rw [toList_dec] at this
    simp [e] at this
  | some i =>
    have hpl : plA A s = (i : Int) := by rw [plA, hf]
    rw [List.findIdx?_eq_some_iff_getElem] at hf
    obtain ⟨hi, h1, _⟩ := hf
    rw [toList_dec, decide_eq_true_eq] at h1
    have hA : A = A.take i ++ A[i] :: A.drop (i + 1) := by rw [List.getElem_cons_drop, List.take_append_drop]
    refine ⟨A.take i, A[i], A.drop (i + 1), hA, h1, by rw [hpl]; simp; omega, ?_, ?_⟩
    · rw [hA] at hn
      simp only [List.map_append, List.map_cons, List.nodup_append, List.nodup_cons] at hn
      obtain ⟨_, ⟨n1, _⟩, n2⟩ := hn
      have key : ∀ B : List (ByteArray × Int), (∀ p, p ∈ B → p.1 ≠ s) → B.filter (fun p => !decide (p.1 = s)) = B := by
        intro B hB
        rw [List.filter_eq_self]
        intro p hp
        simp [hB p hp]
      have k1 := key (A.take i) (fun p hp e => n2 p.1 (List.mem_map.2 ⟨p, hp, rfl⟩) A[i].1 (by simp) (e.trans h1.symm))
      have k2 := key (A.drop (i + 1)) (fun p hp e => n1 (List.mem_map.2 ⟨p, hp, e.trans h1.symm⟩))
      conv => lhs; rw [hA]
      unfold delA
      rw [List.filter_append, List.filter_cons, k1, k2]
      simp [h1]
    · unfold valA
      cases hq : A.find? (fun p => decide (p.1 = s)) with
      | none =>
        rw [List.find?_eq_none] at hq
        exact absurd (by simp [h1]) (hq A[i] (List.getElem_mem hi))
      | some q =>
        have q1 := List.mem_of_find?_eq_some hq
        have q2 := List.find?_some hq
        simp only [decide_eq_true_eq] at q2
        rw [nodup_map_inj (f := fun p : ByteArray × Int => p.1) hn q1 (List.getElem_mem hi) (q2.trans h1.symm)]
        rfl
theorem rcell {w : World} {r most : Nat} {v : Value} {X C : List (ByteArray × Int)} {y : ByteArray × Int} (h : RefM w r most v (X ++ y :: C)) : ∃ g cap, v = .slice (some ⟨g, 0, none⟩) (X ++ y :: C).length cap ∧
    w.cell? ⟨g, X.length * 2, none⟩ = some (.string y.1) ∧ w.cell? ⟨g, X.length * 2 + 1, none⟩ = some (.int .i64 y.2) := by
  rcases h.slice with ⟨_, h0⟩ | ⟨g, cap, rfl, hc⟩
  · cases X <;> simp at h0
  · have := hc X.length (by simp)
    simp only [List.getElem_append_right (Nat.le_refl _), Nat.sub_self, List.getElem_cons_zero] at this
    exact ⟨g, cap, rfl, this.1, this.2⟩
theorem flatP_one (A : List (ByteArray × Int)) : ∀ u, u ∈ flatP A → u.oneCell' = true := by
  intro u hu
  simp only [flatP, List.mem_flatMap] at hu
  obtain ⟨p, _, hu⟩ := hu
  simp at hu
  rcases hu with rfl | rfl <;> rfl
theorem own_sliceR {w : World} {base : Nat} {e : TypeId} {size : Nat} {v : Value} {n : Nat} {xs : List Value} (h : w.ownsRow base e size v n xs) : ∃ a cap, v = .slice a n cap := by
  rcases h.2 with ⟨h, h2⟩ | ⟨g, cap, cur, h, _⟩
  · exact ⟨none, 0, by rw [h, h2]⟩
  · exact ⟨_, cap, h⟩
theorem ownsRow_mono {w : World} {base base' : Nat} {e : TypeId} {size : Nat} {v : Value} {n : Nat} {xs : List Value} (h : w.ownsRow base e size v n xs) (hb : base' ≤ base) : w.ownsRow base' e size v n xs := by
  obtain ⟨h1, h2⟩ := h
  refine ⟨h1, ?_⟩
  rcases h2 with h2 | ⟨g, cap, cur, h2, h3, r⟩
  · exact Or.inl h2
  · exact Or.inr ⟨g, cap, cur, h2, Nat.le_trans hb h3, r⟩
theorem rstored {w w2 : World} {r most n : Nat} {v v2 : Value} {A : List (ByteArray × Int)} {xs : List Value} (c0 : w.cell? ⟨r, 0, none⟩ = some (.int .i64 most)) (fr : ∀ o, w.frozen? ⟨r, o, none⟩ = false) (big : 1 ≤ most ∧ most ≤ 4096)
    (hA : A.length ≤ 4096) (hn : n = A.length) (hxs : xs = flatP A) (hk : w2.heap[r]? = w.heap[r]?) {base : Nat} (hbr : r < base) (hown : w2.ownsRow base 151 2 v2 n xs) (c2 : w2.cell? ⟨r, 1, none⟩ = some v) :
    RefM (w2.setCell ⟨r, 1, none⟩ v2) r most v2 A := by
  subst hn hxs
  refine ⟨cell_far ((World.cell?_of_block (w := w) hk).trans c0) (by simp), cell_same c2, ownsRow_mono (ownsRow_setCell_below hown hbr v2) (by omega), fun o => ?_, hA, big⟩
  rw [World.frozen?_setCell]
  exact (World.frozen?_of_block (w := w) (a := ⟨r, o, none⟩) hk).trans (fr o)
theorem rout_end {w w1 w2 : World} {r most n : Nat} {v v2 : Value} {A : List (ByteArray × Int)} {xs : List Value} {row : Option Nat} (c0 : w.cell? ⟨r, 0, none⟩ = some (.int .i64 most)) (fr : ∀ o, w.frozen? ⟨r, o, none⟩ = false) (big : 1 ≤ most ∧ most ≤ 4096)
    (hA : A.length ≤ 4096) (hn : n = A.length) (hxs : xs = flatP A) (hr : r < w.heap.size) (hg1 : w.grownBy w1 none) (hg2 : w1.grownBy w2 row) (hb1 : ∀ k, row = some k → w.heap.size ≤ k)
    (hown : w2.ownsRow w.heap.size 151 2 v2 n xs) (c2 : w2.cell? ⟨r, 1, none⟩ = some v) :
    RefM (w2.setCell ⟨r, 1, none⟩ v2) r most v2 A ∧ Off (fun k => k = r) w (w2.setCell ⟨r, 1, none⟩ v2) ∧ (∀ k, v2.ownBlock = some k → w.heap.size ≤ k) := by
  have hz := hg1.size
  have hk : ∀ k, k < w.heap.size → w2.heap[k]? = w.heap[k]? := fun k hk => (hg2.block k (by omega) (fun e => by have := hb1 k e.symm; omega)).trans (hg1.block k hk (by simp))
  refine ⟨rstored c0 fr big hA hn hxs (hk r hr) hr hown c2, ?_, fun k e => (hown.lt k e).1⟩
  have ho : Off (fun k => k = r) w w2 := ⟨hg2.os.trans hg1.os, hg2.tape.trans hg1.tape, hg2.output.trans hg1.output, Nat.le_trans hg1.size hg2.size, fun k h _ => hk k h⟩
  exact ho.setCell (fun _ => rfl) _
theorem info_pairR : (Tryz.prog.info? 151).map (fun i => (i.zero, i.size, i.bytes)) = some (some (.agg #[.string ⟨#[]⟩, .int .i64 0]), 2, 24) := by kernel_rfl
set_option maxHeartbeats 6400000 in
set_option maxRecDepth 100000 in
theorem rout_any {w : World} {r most : Nat} {v : Value} {X C : List (ByteArray × Int)} {y : ByteArray × Int} (h : RefM w r most v (X ++ y :: C)) :
    Calls Tryz.prog 90 #[.pointer (some ⟨r, 0, none⟩), .int .i64 X.length] w fun e w' => e = .returned (.tuple #[]) ∧ ∃ v', RefM w' r most v' (X ++ C) ∧ Off (fun k => k = r) w w' ∧ (∀ k, v'.ownBlock = some k → w.heap.size ≤ k) := by
  obtain ⟨g, cap, rfl, _, _⟩ := rcell h
  obtain ⟨i0, hi, hz0, hz1, hz2⟩ := info_parts info_pairR
  have c1 := h.c1
  have hsm := h.small
  have hfr := h.fr
  have hcells := h.row.cells (g := g) rfl
  have hrl : r < w.heap.size := World.block_lt_of_cell? w _ c1
  have hgl : g < w.heap.size := (h.row.lt g rfl).2
  have hgr : g ≠ r := by have := (h.row.lt g rfl).1; omega
  have hcap : X.length + 1 + C.length ≤ cap := by
    obtain ⟨_, h2⟩ := h.row
    rcases h2 with ⟨h2, _⟩ | ⟨g', cap', cur, h2, hb, hg, hnc, hcm, hcs, htake⟩
    · cases h2
    · injection h2 with e1 e2 e3
      subst e3
      simp at hnc; omega
  have HH := Lib.hid h
  have hN : (X ++ y :: C).length = X.length + 1 + C.length := by simp; omega
  rw [hN] at c1 hsm
  have k0 : (0 : Int) ≤ (X.length : Int) := by omega
  have k1 : (X.length : Int) + 1 + C.length ≤ 4096 := by omega
  have HC := Lib.hid hcells
  clear h hcells hN
  go_enter Tryz.func90, Tryz.ntmps90
  have hnewsX : ∀ j u, (flatP X)[j]? = some u → w.cell? ((⟨g, 0, none⟩ : Addr).add j) = some u := by
    intro j u hj
    refine HC.out j u ?_
    rw [flatP_append, List.getElem?_append_left (List.getElem?_eq_some_iff.1 hj).1]
    exact hj
  by_cases hcc : cap = X.length + 1
  · obtain rfl : C = [] := by
      cases C with
      | nil => rfl
      | cons c C => simp at hcap; omega
    have hnewsC : ∀ j u, (flatP [])[j]? = some u → w.cell? ((⟨g, 0, none⟩ : Addr).add j) = some u := by intro j u h; simp [flatP] at h
    subst hcc
    go_wp2_with (first | (at_builtin; refine wpList_append_own _ rfl (.tmp 5) (.tmp 11) 129 rfl w.heap.size 151 i0 (.agg #[.string ⟨#[]⟩, .int .i64 0]) 2 24 Tryz.underlying129 hi hz0 hz1 hz2 rfl (by decide) (.slice none 0 0) 0 [] rfl (World.ownsRow_nil _ _ _ _) ⟨g, 0, none⟩ X.length _ (flatP X) rfl (flatP_len _) hnewsX (flatP_one _) (by unfold maxLen; (first | omega | (simp; omega))) (by first | omega | (simp; omega)) (by omega) ?_; intro v1 w1 hown1 hg1 _; have hz1' := hg1.size; have c1 := (World.cell?_of_block (w := w) (a := ⟨r, 1, none⟩) (hg1.block r hrl (by simp [Value.ownBlock, Act.eval]))).trans c1; have hC := fun j u h => (World.cell?_of_block (w := w) (w' := w1) (a := (⟨g, 0, none⟩ : Addr).add j) (by rw [WideShapes.add_plain]; exact hg1.block g hgl (by simp [Value.ownBlock, Act.eval]))).trans (hnewsC j u h)) | (at_builtin; refine wpList_append_own _ rfl (.tmp 14) (.tmp 21) 129 rfl w.heap.size 151 i0 (.agg #[.string ⟨#[]⟩, .int .i64 0]) 2 24 Tryz.underlying129 hi hz0 hz1 hz2 rfl (by decide) v1 (0 + X.length) ([] ++ flatP X) rfl hown1 ⟨g, 0, none⟩ 0 _ (flatP []) rfl (flatP_len _) hC (flatP_one _) (by unfold maxLen; (first | omega | (simp; omega))) (by first | omega | (simp; omega)) (by omega) ?_; intro v2 w2 hown2 hg2 _; obtain ⟨a2, cap2, rfl⟩ := own_sliceR hown2; have hz2' := hg2.size; have hb1 : ∀ k, v1.ownBlock = some k → w.heap.size ≤ k := fun k e => (hown1.lt k e).1; have c2 := (World.cell?_of_block (w := w1) (a := ⟨r, 1, none⟩) (hg2.block r (by omega) (fun e => by have := hb1 r e.symm; omega))).trans c1; have f2 := (World.frozen?_of_block (w := w1) (a := ⟨r, 1, none⟩) (hg2.block r (by omega) (fun e => by have := hb1 r e.symm; omega))).trans ((World.frozen?_of_block (w := w) (a := ⟨r, 1, none⟩) (hg1.block r hrl (by simp [Value.ownBlock, Act.eval]))).trans (hfr 1))))
    go_end0
    simp only [Nat.zero_add, Nat.add_zero, List.nil_append] at hown2
    exact ⟨rfl, _, rout_end (A := X) HH.out.c0 HH.out.fr HH.out.big (by first | omega | (simp; omega)) (by first | rfl | simp) (by simp [flatP]) hrl hg1 hg2 hb1 hown2 c2⟩
  · have hnewsC : ∀ j u, (flatP C)[j]? = some u → w.cell? ((⟨g, (X.length + 1) * 2, none⟩ : Addr).add j) = some u := by
      intro j u hj
      rw [WideShapes.add_plain, show (X.length + 1) * 2 + j = 0 + ((X.length + 1) * 2 + j) by omega, ← WideShapes.add_plain]
      refine HC.out ((X.length + 1) * 2 + j) u ?_
      rw [show X ++ y :: C = (X ++ [y]) ++ C by simp, flatP_append, List.getElem?_append_right (by rw [flatP_len]; simp)]
      rw [flatP_len]
      simpa using hj
    go_wp2_with (first | (at_builtin; refine wpList_append_own _ rfl (.tmp 5) (.tmp 11) 129 rfl w.heap.size 151 i0 (.agg #[.string ⟨#[]⟩, .int .i64 0]) 2 24 Tryz.underlying129 hi hz0 hz1 hz2 rfl (by decide) (.slice none 0 0) 0 [] rfl (World.ownsRow_nil _ _ _ _) ⟨g, 0, none⟩ X.length _ (flatP X) rfl (flatP_len _) hnewsX (flatP_one _) (by unfold maxLen; (first | omega | (simp; omega))) (by first | omega | (simp; omega)) (by omega) ?_; intro v1 w1 hown1 hg1 _; have hz1' := hg1.size; have c1 := (World.cell?_of_block (w := w) (a := ⟨r, 1, none⟩) (hg1.block r hrl (by simp [Value.ownBlock, Act.eval]))).trans c1; have hC := fun j u h => (World.cell?_of_block (w := w) (w' := w1) (a := (⟨g, (X.length + 1) * 2, none⟩ : Addr).add j) (by rw [WideShapes.add_plain]; exact hg1.block g hgl (by simp [Value.ownBlock, Act.eval]))).trans (hnewsC j u h)) | (at_builtin; refine wpList_append_own _ rfl (.tmp 14) (.tmp 21) 129 rfl w.heap.size 151 i0 (.agg #[.string ⟨#[]⟩, .int .i64 0]) 2 24 Tryz.underlying129 hi hz0 hz1 hz2 rfl (by decide) v1 (0 + X.length) ([] ++ flatP X) rfl hown1 ⟨g, (X.length + 1) * 2, none⟩ C.length _ (flatP C) rfl (flatP_len _) hC (flatP_one _) (by unfold maxLen; (first | omega | (simp; omega))) (by first | omega | (simp; omega)) (by omega) ?_; intro v2 w2 hown2 hg2 _; obtain ⟨a2, cap2, rfl⟩ := own_sliceR hown2; have hz2' := hg2.size; have hb1 : ∀ k, v1.ownBlock = some k → w.heap.size ≤ k := fun k e => (hown1.lt k e).1; have c2 := (World.cell?_of_block (w := w1) (a := ⟨r, 1, none⟩) (hg2.block r (by omega) (fun e => by have := hb1 r e.symm; omega))).trans c1; have f2 := (World.frozen?_of_block (w := w1) (a := ⟨r, 1, none⟩) (hg2.block r (by omega) (fun e => by have := hb1 r e.symm; omega))).trans ((World.frozen?_of_block (w := w) (a := ⟨r, 1, none⟩) (hg1.block r hrl (by simp [Value.ownBlock, Act.eval]))).trans (hfr 1))))
    go_end0
    simp only [Nat.zero_add, Nat.add_zero, List.nil_append] at hown2
    exact ⟨rfl, _, rout_end (A := X ++ C) HH.out.c0 HH.out.fr HH.out.big (by simp; omega) (by simp) (by simp [flatP]) hrl hg1 hg2 hb1 hown2 c2⟩
end Go.Proofs.YtemlafbkkaloiaaGreat
namespace Go.Proofs.YtemlafbkkaloiaaGreat
open Go.RowKit
theorem two_cells (w : World) (x y : Value) (t : TypeId) : ∀ j u, ([x, y] : List Value)[j]? = some u → (w.alloc (.cells #[x, y] t)).cell? ((⟨w.heap.size, 0, none⟩ : Addr).add j) = some u := by
  intro j u h
  have hz : (w.alloc (.cells #[x, y] t)).heap[w.heap.size]? = some (.cells #[x, y] t) := by
    show (Array.push w.heap _)[_]? = _
    rw [Array.getElem?_push, if_pos rfl]
  rw [WideShapes.add_plain, Nat.zero_add]
  match j with
  | 0 => simp at h; subst h; simp only [World.cell?, hz]; rfl
  | 1 => simp at h; subst h; simp only [World.cell?, hz]; rfl
  | j + 2 => simp at h
theorem rpush_mid {w w3 : World} {r most : Nat} {v : Value} {A : List (ByteArray × Int)} {o : Obj} (h : RefM w r most v A) (hg : (w.alloc o).grownBy w3 v.ownBlock) :
    w3.cell? ⟨r, 1, none⟩ = some v ∧ w3.frozen? ⟨r, 1, none⟩ = false := by
  have hr : r < w.heap.size := World.block_lt_of_cell? w _ h.c0
  have hk : w3.heap[r]? = w.heap[r]? := (hg.block r (by simp; omega) (fun e => by have := (h.row.lt r e.symm).1; omega)).trans (Below.heap_alloc _ _ _ hr)
  exact ⟨(World.cell?_of_block (w := w) hk).trans h.c1, (World.frozen?_of_block (w := w) (a := ⟨r, 1, none⟩) hk).trans (h.fr 1)⟩
theorem rpush_end {w w3 : World} {r most n : Nat} {v v3 : Value} {A : List (ByteArray × Int)} {xs : List Value} {o : Obj} {s : ByteArray} {x : Int} (h : RefM w r most v A) (hA : A.length < 4096) (hg : (w.alloc o).grownBy w3 v.ownBlock)
    (hn : n = A.length + 1) (hxs : xs = flatP A ++ [.string s, .int .i64 x]) (hown : w3.ownsRow (r + 1) 151 2 v3 n xs) (hk : v3.ownBlock = v.ownBlock ∨ v3.ownBlock = some (w.alloc o).heap.size) :
    RefM (w3.setCell ⟨r, 1, none⟩ v3) r most v3 (A ++ [(s, x)]) ∧ Off (Rown r v) w (w3.setCell ⟨r, 1, none⟩ v3) ∧ (∀ b, Rown r v3 b → Rown r v b ∨ w.heap.size ≤ b) := by
  have hr : r < w.heap.size := World.block_lt_of_cell? w _ h.c0
  have hb : w3.heap[r]? = w.heap[r]? := (hg.block r (by simp; omega) (fun e => by have := (h.row.lt r e.symm).1; omega)).trans (Below.heap_alloc _ _ _ hr)
  have hz := hg.size
  simp at hz
  refine ⟨rstored h.c0 h.fr h.big (by simp; omega) (by simp; omega) (by rw [hxs, flatP_append]; rfl) hb (Nat.lt_succ_self r) hown ((World.cell?_of_block (w := w) hb).trans h.c1), ?_, fun b hb => ?_⟩
  · have ho : Off (Rown r v) w w3 := ⟨hg.os, hg.tape, hg.output, by omega, fun k hk hn => (hg.block k (by simp; omega) (fun e => hn (Or.inr e.symm))).trans (Below.heap_alloc _ _ _ hk)⟩
    exact ho.setCell (fun _ => Or.inl rfl) _
  · rcases hb with hb | hb
    · exact Or.inl (Or.inl hb)
    · rcases hk with hk | hk
      · exact Or.inl (Or.inr (hk ▸ hb))
      · right
        rw [hk] at hb
        injection hb with hb
        simp at hb
        omega
set_option maxHeartbeats 6400000 in
set_option maxRecDepth 100000 in
theorem rput_old {w : World} {r most : Nat} {v : Value} {X C : List (ByteArray × Int)} {y : ByteArray × Int} (h : RefM w r most v (X ++ y :: C)) (val : Int) (hpl : plA (X ++ y :: C) y.1 = (X.length : Int)) :
    Calls Tryz.prog 48 #[.pointer (some ⟨r, 0, none⟩), .string y.1, .int .i64 val] w fun e w' => e = .returned (.tuple #[.string ⟨#[]⟩, .bool false, .int .i64 0]) ∧ ∃ v', RefM w' r most v' (X ++ C ++ [(y.1, val)]) ∧ Off (Rown r v) w w' ∧ (∀ b, Rown r v' b → Rown r v b ∨ w.heap.size ≤ b) := by
  obtain ⟨i0, hi, hz0, hz1, hz2⟩ := info_parts info_pairR
  have HP := Lib.hid (rplace_any h y.1)
  have HO := Lib.hid (rout_any h)
  rw [hpl] at HP
  have hsm := h.small
  have HH := Lib.hid h
  have hN : (X ++ y :: C).length = X.length + 1 + C.length := by simp; omega
  have hN2 : (X ++ C).length = X.length + C.length := by simp
  rw [hN] at hsm
  have k0 : (0 : Int) ≤ (X.length : Int) := by omega
  clear h hpl hN
  go_enter Tryz.func48, Tryz.ntmps48
  go_wp2_with (fail)
  refine HP.out.mono ?_
  rintro e w1 ⟨rfl, rfl⟩
  go_wp2_with (fail)
  refine HO.out.mono ?_
  rintro e w2 ⟨rfl, vk, hk, ho, hb⟩
  have HK := Lib.hid hk
  have c1 := hk.c1
  have hrow := hk.row
  have hrl : r < w2.heap.size := World.block_lt_of_cell? w2 _ c1
  clear hk
  go_wp2_with (at_builtin; refine wpList_append_where _ rfl (.tmp 45) (.tmp 49) 129 rfl (r + 1) 151 i0 (.agg #[.string ⟨#[]⟩, .int .i64 0]) 2 24 Tryz.underlying129 hi hz0 hz1 hz2 rfl (by decide) vk (X ++ C).length (flatP (X ++ C)) rfl (HK.out.row.alloc _) ⟨_, 0, none⟩ 1 1 [.string y.1, .int .i64 val] rfl rfl (two_cells _ _ _ _) (by intro u hu; simp at hu; rcases hu with rfl | rfl <;> rfl) (by unfold maxLen; omega) (by omega) (by simp; omega) (by decide) ?_; intro v3 w9 hown3 hg3 hk3; obtain ⟨c2, f2⟩ := rpush_mid HK.out hg3; obtain ⟨a3, cap3, rfl⟩ := own_sliceR hown3)
  go_ret3
  obtain ⟨q1, q2, q3⟩ := rpush_end (s := y.1) (x := val) HK.out (by omega) hg3 rfl rfl hown3 hk3
  rw [hN2] at q1 q2 q3
  refine ⟨rfl, _, q1, ((ho.mono (fun i _ e => Or.inl e)).trans q2 (fun i hi e => ?_)), fun b hbb => ?_⟩
  · rcases e with e | e
    · exact Or.inl e
    · have := hb i e; omega
  · rcases q3 b hbb with e | e
    · rcases e with e | e
      · exact Or.inl (Or.inl e)
      · exact Or.inr (hb b e)
    · right; have := ho.size; omega
set_option maxHeartbeats 6400000 in
set_option maxRecDepth 100000 in
theorem rput_new {w : World} {r most : Nat} {v : Value} {A : List (ByteArray × Int)} (h : RefM w r most v A) (s : ByteArray) (val : Int) (hno : hasA A s = false) (hroom : A.length ≠ most) (hle : A.length ≤ most) :
    Calls Tryz.prog 48 #[.pointer (some ⟨r, 0, none⟩), .string s, .int .i64 val] w fun e w' => e = .returned (.tuple #[.string ⟨#[]⟩, .bool false, .int .i64 0]) ∧ ∃ v', RefM w' r most v' (A ++ [(s, val)]) ∧ Off (Rown r v) w w' ∧ (∀ b, Rown r v' b → Rown r v b ∨ w.heap.size ≤ b) := by
  obtain ⟨i0, hi, hz0, hz1, hz2⟩ := info_parts info_pairR
  have HP := Lib.hid (rplace_any h s)
  rw [plA_no hno] at HP
  have hsm := h.small
  have hbig := h.big
  obtain ⟨a0, cap0, rfl⟩ := own_sliceR h.row
  have HH := Lib.hid h
  have c1 := h.c1
  have c0 := h.c0
  have hdec : ((A.length : Int) == (most : Int)) = false := by simp; omega
  clear h hno
  go_enter Tryz.func48, Tryz.ntmps48
  go_wp2_with (fail)
  refine HP.out.mono ?_
  rintro e w1 ⟨rfl, rfl⟩
  go_wp2_with (fail)
  go_region
  all_goals
    have HD := Lib.hid (And.intro (HH.out.below (w' := w1.drew) ((Below.refl _ _).drew)) (And.intro (show w1.drew.heap.size = w1.heap.size from rfl) ((Off.refl (Rown r (.slice a0 A.length cap0)) w1).drew)))
    generalize w1.drew = w2 at HD ⊢
    clear c1 c0 HP
    have HK := Lib.hid HD.out.1
    have c1 := HK.out.c1
    have hrl : r < w2.heap.size := World.block_lt_of_cell? w2 _ c1
    go_wp2_with (at_builtin; refine wpList_append_where _ rfl (.tmp 45) (.tmp 49) 129 rfl (r + 1) 151 i0 (.agg #[.string ⟨#[]⟩, .int .i64 0]) 2 24 Tryz.underlying129 hi hz0 hz1 hz2 rfl (by decide) (.slice a0 A.length cap0) (A).length (flatP (A)) rfl (HK.out.row.alloc _) ⟨_, 0, none⟩ 1 1 [.string s, .int .i64 val] rfl rfl (two_cells _ _ _ _) (by intro u hu; simp at hu; rcases hu with rfl | rfl <;> rfl) (by unfold maxLen; omega) (by omega) (by simp; omega) (by decide) ?_; intro v3 w9 hown3 hg3 hk3; obtain ⟨c2, f2⟩ := rpush_mid HK.out hg3; obtain ⟨a3, cap3, rfl⟩ := own_sliceR hown3)
    go_ret3
    obtain ⟨q1, q2, q3⟩ := rpush_end (s := s) (x := val) HK.out (by omega) hg3 rfl rfl hown3 hk3
    refine ⟨rfl, _, q1, HD.out.2.2.trans q2 (fun i _ e => e), fun b hbb => ?_⟩
    rcases q3 b hbb with e | e
    · exact Or.inl e
    · right; have := HD.out.2.1; omega
set_option maxHeartbeats 6400000 in
set_option maxRecDepth 100000 in
theorem rput_full {w : World} {r most : Nat} {v : Value} {C : List (ByteArray × Int)} {y : ByteArray × Int} (h : RefM w r most v (y :: C)) (s : ByteArray) (val : Int) (hno : hasA (y :: C) s = false) (hfull : (y :: C).length = most) :
    Calls Tryz.prog 48 #[.pointer (some ⟨r, 0, none⟩), .string s, .int .i64 val] w fun e w' => e = .returned (.tuple #[.string y.1, .bool true, .int .i64 0]) ∧ ∃ v', RefM w' r most v' (C ++ [(s, val)]) ∧ Off (Rown r v) w w' ∧ (∀ b, Rown r v' b → Rown r v b ∨ w.heap.size ≤ b) := by
  obtain ⟨i0, hi, hz0, hz1, hz2⟩ := info_parts info_pairR
  have HP := Lib.hid (rplace_any h s)
  rw [plA_no hno] at HP
  have hsm := h.small
  have hbig := h.big
  obtain ⟨g, cap0, rfl, d1, _⟩ := rcell (X := []) h
  simp only [List.nil_append, List.length_nil, Nat.zero_mul] at d1
  have HH := Lib.hid h
  have c1 := h.c1
  have c0 := h.c0
  have hdec : (((y :: C).length : Int) == (most : Int)) = true := by rw [hfull]; simp
  simp only [List.nil_append] at c1
  simp only [List.length_cons] at hsm
  have hpos : (0 : Int) < ((y :: C).length : Int) := by simp
  generalize hN : (y :: C).length = N at c1 hdec hpos
  clear h hno hN
  go_enter Tryz.func48, Tryz.ntmps48
  go_wp2_with (fail)
  refine HP.out.mono ?_
  rintro e w1 ⟨rfl, rfl⟩
  go_wp2_with (fail)
  go_region
  all_goals
    have HD := Lib.hid (And.intro (HH.out.below (w' := w1.drew) ((Below.refl _ _).drew)) (And.intro (show w1.drew.heap.size = w1.heap.size from rfl) (And.intro ((Off.refl (Rown r (.slice (some ⟨g, 0, none⟩) ([] ++ y :: C).length cap0)) w1).drew) (And.intro (show w1.drew.cell? ⟨r, 1, none⟩ = some (.slice (some ⟨g, 0, none⟩) N cap0) from c1) (show w1.drew.cell? ⟨g, 0, none⟩ = some (.string y.1) from d1)))))
    generalize w1.drew = w2 at HD ⊢
    have c1' := HD.out.2.2.2.1
    have d1' := HD.out.2.2.2.2
    clear c1 c0 d1 HP
    have HO := Lib.hid (rout_any (X := []) HD.out.1)
    go_wp2_with (fail)
    refine HO.out.mono ?_
    rintro e w3 ⟨rfl, vk, hk, ho, hb⟩
    have HK := Lib.hid hk
    have c1 := hk.c1
    have hrow := hk.row
    have hrl : r < w3.heap.size := World.block_lt_of_cell? w3 _ c1
    simp only [List.nil_append] at HK hk hrow
    clear hk c1' d1'
    go_wp2_with (at_builtin; refine wpList_append_where _ rfl (.tmp 45) (.tmp 49) 129 rfl (r + 1) 151 i0 (.agg #[.string ⟨#[]⟩, .int .i64 0]) 2 24 Tryz.underlying129 hi hz0 hz1 hz2 rfl (by decide) vk (C).length (flatP (C)) rfl (HK.out.row.alloc _) ⟨_, 0, none⟩ 1 1 [.string s, .int .i64 val] rfl rfl (two_cells _ _ _ _) (by intro u hu; simp at hu; rcases hu with rfl | rfl <;> rfl) (by unfold maxLen; omega) (by omega) (by simp; omega) (by decide) ?_; intro v3 w9 hown3 hg3 hk3; obtain ⟨c2, f2⟩ := rpush_mid HK.out hg3; obtain ⟨a3, cap3, rfl⟩ := own_sliceR hown3)
    go_ret3
    obtain ⟨q1, q2, q3⟩ := rpush_end (s := s) (x := val) HK.out (by omega) hg3 rfl rfl hown3 hk3
    refine ⟨rfl, _, q1, (HD.out.2.2.1.trans (ho.mono (fun i _ e => Or.inl e)) (fun _ _ e => e)).trans q2 (fun i hi e => ?_), fun b hbb => ?_⟩
    · rcases e with e | e
      · exact Or.inl e
      · have := hb i e; have := HD.out.2.1; omega
    · rcases q3 b hbb with e | e
      · rcases e with e | e
        · exact Or.inl (Or.inl e)
        · right; have := hb b e; have := HD.out.2.1; omega
      · right; have := ho.size; have := HD.out.2.1; omega
end Go.Proofs.YtemlafbkkaloiaaGreat
