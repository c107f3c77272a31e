/- lru's answer by the document: Put. -/
import Derived.Test.YtidcbjgiohkidaaLruS
namespace Go.Proofs.Ytidcbjgiohkidaa
open Go.RowKit
set_option linter.unusedVariables false
set_option linter.unusedSimpArgs false

theorem two_cells (w : World) (x y : Value) (t : TypeId) : ∀ j u, ([x, y] : List Value)[j]? = some u → (w.alloc (.cells #[x, y] t)).cell? ((⟨w.heap.size, 0, none⟩ : Addr).add j) = some u := by
  intro j u h
  have hz : (w.alloc (.cells #[x, y] t)).heap[w.heap.size]? = some (.cells #[x, y] t) := by
    show (Array.push w.heap _)[_]? = _
    rw [Array.getElem?_push, if_pos rfl]
  rw [WideShapes.add_plain, Nat.zero_add]
  match j with
  | 0 => simp at h; subst h; simp only [World.cell?, hz]; rfl
  | 1 => simp at h; subst h; simp only [World.cell?, hz]; rfl
  | j + 2 => simp at h

theorem rpush_mid {w w3 : World} {r most : Nat} {v : Value} {A : List (ByteArray × Int)} {o : Obj} (h : RefM w r most v A) (hg : (w.alloc o).grownBy w3 v.ownBlock) :
    w3.cell? ⟨r, 1, none⟩ = some v ∧ w3.frozen? ⟨r, 1, none⟩ = false := by
  have hr : r < w.heap.size := World.block_lt_of_cell? w _ h.c0
  have hk : w3.heap[r]? = w.heap[r]? := (hg.block r (by simp; omega) (fun e => by have := (h.row.lt r e.symm).1; omega)).trans (Below.heap_alloc _ _ _ hr)
  exact ⟨(World.cell?_of_block (w := w) hk).trans h.c1, (World.frozen?_of_block (w := w) (a := ⟨r, 1, none⟩) hk).trans (h.fr 1)⟩

theorem rpush_end {w w3 : World} {r most n : Nat} {v v3 : Value} {A : List (ByteArray × Int)} {xs : List Value} {o : Obj} {s : ByteArray} {x : Int} (h : RefM w r most v A) (hA : A.length < 4096) (hg : (w.alloc o).grownBy w3 v.ownBlock)
    (hn : n = A.length + 1) (hxs : xs = flatP A ++ [.string s, .int .i64 x]) (hown : w3.ownsRow (r + 1) 64 2 v3 n xs) (hk : v3.ownBlock = v.ownBlock ∨ v3.ownBlock = some (w.alloc o).heap.size) :
    RefM (w3.setCell ⟨r, 1, none⟩ v3) r most v3 (A ++ [(s, x)]) ∧ Off (Rown r v) w (w3.setCell ⟨r, 1, none⟩ v3) ∧ (∀ b, Rown r v3 b → Rown r v b ∨ w.heap.size ≤ b) := by
  have hr : r < w.heap.size := World.block_lt_of_cell? w _ h.c0
  have hb : w3.heap[r]? = w.heap[r]? := (hg.block r (by simp; omega) (fun e => by have := (h.row.lt r e.symm).1; omega)).trans (Below.heap_alloc _ _ _ hr)
  have hz := hg.size
  simp at hz
  refine ⟨rstored h.c0 h.fr h.big (by simp; omega) (by simp; omega) (by rw [hxs, flatP_append]; rfl) hb (Nat.lt_succ_self r) hown ((World.cell?_of_block (w := w) hb).trans h.c1), ?_, fun b hb => ?_⟩
  · have ho : Off (Rown r v) w w3 := ⟨hg.os, hg.tape, hg.output, by omega, fun k hk hn => (hg.block k (by simp; omega) (fun e => hn (Or.inr e.symm))).trans (Below.heap_alloc _ _ _ hk)⟩
    exact ho.setCell (fun _ => Or.inl rfl) _
  · rcases hb with hb | hb
    · exact Or.inl (Or.inl hb)
    · rcases hk with hk | hk
      · exact Or.inl (Or.inr (hk ▸ hb))
      · right
        rw [hk] at hb
        injection hb with hb
        simp at hb
        omega

set_option maxHeartbeats 6400000 in
set_option maxRecDepth 100000 in
theorem rput_old {w : World} {r most : Nat} {v : Value} {X C : List (ByteArray × Int)} {y : ByteArray × Int} (h : RefM w r most v (X ++ y :: C)) (val : Int) (hpl : plA (X ++ y :: C) y.1 = (X.length : Int)) :
    Calls Try.prog 26 #[.pointer (some ⟨r, 0, none⟩), .string y.1, .int .i64 val] w fun e w' => e = .returned (.tuple #[.string ⟨#[]⟩, .bool false, .int .i64 0]) ∧ ∃ v', RefM w' r most v' (X ++ C ++ [(y.1, val)]) ∧ Off (Rown r v) w w' ∧ (∀ b, Rown r v' b → Rown r v b ∨ w.heap.size ≤ b) := by
  obtain ⟨i0, hi, hz0, hz1, hz2⟩ := info_parts info_pairR
  have HP := Lib.hid (rplace_any h y.1)
  have HO := Lib.hid (rout_any h)
  rw [hpl] at HP
  have hsm := h.small
  have HH := Lib.hid h
  have hN : (X ++ y :: C).length = X.length + 1 + C.length := by simp; omega
  have hN2 : (X ++ C).length = X.length + C.length := by simp
  rw [hN] at hsm
  have k0 : (0 : Int) ≤ (X.length : Int) := by omega
  clear h hpl hN
  go_enter Try.func26, Try.ntmps26
  go_wp2_with (fail)
  refine HP.out.mono ?_
  rintro e w1 ⟨rfl, rfl⟩
  go_wp2_with (fail)
  refine HO.out.mono ?_
  rintro e w2 ⟨rfl, vk, hk, ho, hb⟩
  have HK := Lib.hid hk
  have c1 := hk.c1
  have hrow := hk.row
  have hrl : r < w2.heap.size := World.block_lt_of_cell? w2 _ c1
  clear hk
  go_wp2_with (at_builtin; refine wpList_append_where _ rfl (.tmp 45) (.tmp 49) 57 rfl (r + 1) 64 i0 (.agg #[.string ⟨#[]⟩, .int .i64 0]) 2 24 Try.underlying57 hi hz0 hz1 hz2 rfl (by decide) vk (X ++ C).length (flatP (X ++ C)) rfl (HK.out.row.alloc _) ⟨_, 0, none⟩ 1 1 [.string y.1, .int .i64 val] rfl rfl (two_cells _ _ _ _) (by intro u hu; simp at hu; rcases hu with rfl | rfl <;> rfl) (by unfold maxLen; omega) (by omega) (by simp; omega) (by decide) ?_; intro v3 w9 hown3 hg3 hk3; obtain ⟨c2, f2⟩ := rpush_mid HK.out hg3; obtain ⟨a3, cap3, rfl⟩ := own_sliceR hown3)
  go_ret3
  obtain ⟨q1, q2, q3⟩ := rpush_end (s := y.1) (x := val) HK.out (by omega) hg3 rfl rfl hown3 hk3
  rw [hN2] at q1 q2 q3
  refine ⟨rfl, _, q1, ((ho.mono (fun i _ e => Or.inl e)).trans q2 (fun i hi e => ?_)), fun b hbb => ?_⟩
  · rcases e with e | e
    · exact Or.inl e
    · have := hb i e; omega
  · rcases q3 b hbb with e | e
    · rcases e with e | e
      · exact Or.inl (Or.inl e)
      · exact Or.inr (hb b e)
    · right; have := ho.size; omega

set_option maxHeartbeats 6400000 in
set_option maxRecDepth 100000 in
theorem rput_new {w : World} {r most : Nat} {v : Value} {A : List (ByteArray × Int)} (h : RefM w r most v A) (s : ByteArray) (val : Int) (hno : hasA A s = false) (hroom : A.length ≠ most) (hle : A.length ≤ most) :
    Calls Try.prog 26 #[.pointer (some ⟨r, 0, none⟩), .string s, .int .i64 val] w fun e w' => e = .returned (.tuple #[.string ⟨#[]⟩, .bool false, .int .i64 0]) ∧ ∃ v', RefM w' r most v' (A ++ [(s, val)]) ∧ Off (Rown r v) w w' ∧ (∀ b, Rown r v' b → Rown r v b ∨ w.heap.size ≤ b) := by
  obtain ⟨i0, hi, hz0, hz1, hz2⟩ := info_parts info_pairR
  have HP := Lib.hid (rplace_any h s)
  rw [plA_no hno] at HP
  have hsm := h.small
  have hbig := h.big
  obtain ⟨a0, cap0, rfl⟩ := own_sliceR h.row
  have HH := Lib.hid h
  have c1 := h.c1
  have c0 := h.c0
  have hdec : ((A.length : Int) == (most : Int)) = false := by simp; omega
  clear h hno
  go_enter Try.func26, Try.ntmps26
  go_wp2_with (fail)
  refine HP.out.mono ?_
  rintro e w1 ⟨rfl, rfl⟩
  go_wp2_with (fail)
  go_region
  all_goals
    have HD := Lib.hid (And.intro (HH.out.below (w' := w1.drew) ((Below.refl _ _).drew)) (And.intro (show w1.drew.heap.size = w1.heap.size from rfl) ((Off.refl (Rown r (.slice a0 A.length cap0)) w1).drew)))
    generalize w1.drew = w2 at HD ⊢
    clear c1 c0 HP
    have HK := Lib.hid HD.out.1
    have c1 := HK.out.c1
    have hrl : r < w2.heap.size := World.block_lt_of_cell? w2 _ c1
    go_wp2_with (at_builtin; refine wpList_append_where _ rfl (.tmp 45) (.tmp 49) 57 rfl (r + 1) 64 i0 (.agg #[.string ⟨#[]⟩, .int .i64 0]) 2 24 Try.underlying57 hi hz0 hz1 hz2 rfl (by decide) (.slice a0 A.length cap0) (A).length (flatP (A)) rfl (HK.out.row.alloc _) ⟨_, 0, none⟩ 1 1 [.string s, .int .i64 val] rfl rfl (two_cells _ _ _ _) (by intro u hu; simp at hu; rcases hu with rfl | rfl <;> rfl) (by unfold maxLen; omega) (by omega) (by simp; omega) (by decide) ?_; intro v3 w9 hown3 hg3 hk3; obtain ⟨c2, f2⟩ := rpush_mid HK.out hg3; obtain ⟨a3, cap3, rfl⟩ := own_sliceR hown3)
    go_ret3
    obtain ⟨q1, q2, q3⟩ := rpush_end (s := s) (x := val) HK.out (by omega) hg3 rfl rfl hown3 hk3
    refine ⟨rfl, _, q1, HD.out.2.2.trans q2 (fun i _ e => e), fun b hbb => ?_⟩
    rcases q3 b hbb with e | e
    · exact Or.inl e
    · right; have := HD.out.2.1; omega

set_option maxHeartbeats 6400000 in
set_option maxRecDepth 100000 in
theorem rput_full {w : World} {r most : Nat} {v : Value} {C : List (ByteArray × Int)} {y : ByteArray × Int} (h : RefM w r most v (y :: C)) (s : ByteArray) (val : Int) (hno : hasA (y :: C) s = false) (hfull : (y :: C).length = most) :
    Calls Try.prog 26 #[.pointer (some ⟨r, 0, none⟩), .string s, .int .i64 val] w fun e w' => e = .returned (.tuple #[.string y.1, .bool true, .int .i64 0]) ∧ ∃ v', RefM w' r most v' (C ++ [(s, val)]) ∧ Off (Rown r v) w w' ∧ (∀ b, Rown r v' b → Rown r v b ∨ w.heap.size ≤ b) := by
  obtain ⟨i0, hi, hz0, hz1, hz2⟩ := info_parts info_pairR
  have HP := Lib.hid (rplace_any h s)
  rw [plA_no hno] at HP
  have hsm := h.small
  have hbig := h.big
  obtain ⟨g, cap0, rfl, d1, _⟩ := rcell (X := []) h
  simp only [List.nil_append, List.length_nil, Nat.zero_mul] at d1
  have HH := Lib.hid h
  have c1 := h.c1
  have c0 := h.c0
  have hdec : (((y :: C).length : Int) == (most : Int)) = true := by rw [hfull]; simp
  simp only [List.nil_append] at c1
  simp only [List.length_cons] at hsm
  have hpos : (0 : Int) < ((y :: C).length : Int) := by simp
  generalize hN : (y :: C).length = N at c1 hdec hpos
  clear h hno hN
  go_enter Try.func26, Try.ntmps26
  go_wp2_with (fail)
  refine HP.out.mono ?_
  rintro e w1 ⟨rfl, rfl⟩
  go_wp2_with (fail)
  go_region
  all_goals
    have HD := Lib.hid (And.intro (HH.out.below (w' := w1.drew) ((Below.refl _ _).drew)) (And.intro (show w1.drew.heap.size = w1.heap.size from rfl) (And.intro ((Off.refl (Rown r (.slice (some ⟨g, 0, none⟩) ([] ++ y :: C).length cap0)) w1).drew) (And.intro (show w1.drew.cell? ⟨r, 1, none⟩ = some (.slice (some ⟨g, 0, none⟩) N cap0) from c1) (show w1.drew.cell? ⟨g, 0, none⟩ = some (.string y.1) from d1)))))
    generalize w1.drew = w2 at HD ⊢
    have c1' := HD.out.2.2.2.1
    have d1' := HD.out.2.2.2.2
    clear c1 c0 d1 HP
    have HO := Lib.hid (rout_any (X := []) HD.out.1)
    go_wp2_with (fail)
    refine HO.out.mono ?_
    rintro e w3 ⟨rfl, vk, hk, ho, hb⟩
    have HK := Lib.hid hk
    have c1 := hk.c1
    have hrow := hk.row
    have hrl : r < w3.heap.size := World.block_lt_of_cell? w3 _ c1
    simp only [List.nil_append] at HK hk hrow
    clear hk c1' d1'
    go_wp2_with (at_builtin; refine wpList_append_where _ rfl (.tmp 45) (.tmp 49) 57 rfl (r + 1) 64 i0 (.agg #[.string ⟨#[]⟩, .int .i64 0]) 2 24 Try.underlying57 hi hz0 hz1 hz2 rfl (by decide) vk (C).length (flatP (C)) rfl (HK.out.row.alloc _) ⟨_, 0, none⟩ 1 1 [.string s, .int .i64 val] rfl rfl (two_cells _ _ _ _) (by intro u hu; simp at hu; rcases hu with rfl | rfl <;> rfl) (by unfold maxLen; omega) (by omega) (by simp; omega) (by decide) ?_; intro v3 w9 hown3 hg3 hk3; obtain ⟨c2, f2⟩ := rpush_mid HK.out hg3; obtain ⟨a3, cap3, rfl⟩ := own_sliceR hown3)
    go_ret3
    obtain ⟨q1, q2, q3⟩ := rpush_end (s := s) (x := val) HK.out (by omega) hg3 rfl rfl hown3 hk3
    refine ⟨rfl, _, q1, (HD.out.2.2.1.trans (ho.mono (fun i _ e => Or.inl e)) (fun _ _ e => e)).trans q2 (fun i hi e => ?_), fun b hbb => ?_⟩
    · rcases e with e | e
      · exact Or.inl e
      · have := hb i e; have := HD.out.2.1; omega
    · rcases q3 b hbb with e | e
      · rcases e with e | e
        · exact Or.inl (Or.inl e)
        · right; have := hb b e; have := HD.out.2.1; omega
      · right; have := ho.size; have := HD.out.2.1; omega
end Go.Proofs.Ytidcbjgiohkidaa
