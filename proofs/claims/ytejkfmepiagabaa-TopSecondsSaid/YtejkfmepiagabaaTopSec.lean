/- TopSeconds: a node's second is a window of ten buckets. -/
import Derived.Test.YtejkfmepiagabaaStE
import Derived.Test.YtejkfmepiagabaaRecs
namespace Go.Proofs.Ytejkfmepiagabaa
open Go.RowKit
set_option linter.unusedVariables false
set_option linter.unusedSimpArgs false

def NoteW.vals (x : NoteW) : List Value := [.int .i64 x.at_, .int .i64 x.c.p]
def flatN (l : List NoteW) : List Value := l.flatMap NoteW.vals
theorem flatN_len : ∀ l : List NoteW, (flatN l).length = l.length * 2
  | [] => rfl
  | x :: l => by simp only [flatN, List.flatMap_cons, List.length_append, List.length_cons]; rw [show (l.flatMap NoteW.vals).length = l.length * 2 from flatN_len l]; simp [NoteW.vals]; omega
theorem flatN_get : ∀ {l : List NoteW} {j : Nat} {x : NoteW}, l[j]? = some x → ∀ k, k < 2 → (flatN l)[j * 2 + k]? = x.vals[k]?
  | y :: l, 0, x, h, k, hk => by
    obtain rfl : y = x := by simpa using h
    simp only [flatN, List.flatMap_cons, Nat.zero_mul, Nat.zero_add]
    rw [List.getElem?_append_left (by simp [NoteW.vals]; omega)]
  | y :: l, j + 1, x, h, k, hk => by
    have h' : l[j]? = some x := by simpa using h
    have := flatN_get h' k hk
    simp only [flatN, List.flatMap_cons] at this ⊢
    rw [List.getElem?_append_right (by simp [NoteW.vals]; omega), ← this]
    congr 1
    simp [NoteW.vals]; omega
theorem info_note : (Try.prog.info? 31).map (fun i => (i.zero, i.size, i.bytes)) = some (some (.agg #[.int .i64 0, .int .i64 0]), 2, 16) := by kernel_rfl
def noteO (a c : Int) : Obj := .cells #[.int .i64 a, .int .i64 c] 31
theorem newsN (w : World) (x : NoteW) : ∀ j u, (flatN [x])[j]? = some u → (w.alloc (noteO x.at_ x.c.p)).cell? ((⟨w.heap.size, 0, none⟩ : Addr).add j) = some u := by
  intro j u hu
  have hn : (w.alloc (noteO x.at_ x.c.p)).heap[w.heap.size]? = some (noteO x.at_ x.c.p) := (get_allocW w _ _).trans (if_pos rfl)
  rw [WideShapes.add_plain, Nat.zero_add]
  have hl : j < 2 := by have := (List.getElem?_eq_some_iff.1 hu).1; simpa [flatN, NoteW.vals] using this
  match j, hl with
  | 0, _ => have e : Value.int .i64 x.at_ = u := by simpa [flatN, NoteW.vals] using hu
            rw [← e]; simp only [World.cell?, hn]; rfl
  | 1, _ => have e : Value.int .i64 x.c.p = u := by simpa [flatN, NoteW.vals] using hu
            rw [← e]; simp only [World.cell?, hn]; rfl
theorem flatN_one (l : List NoteW) : ∀ u, u ∈ flatN l → u.oneCell' = true := by
  intro u hu
  obtain ⟨c, _, h⟩ := List.mem_flatMap.1 hu
  simp only [NoteW.vals, List.mem_cons, List.mem_nil_iff, or_false] at h
  rcases h with rfl | rfl <;> rfl
theorem run_append_note {base : Nat} {wr : World} {v : Value} {j : Nat} {l : List NoteW} (hown : wr.ownsRow base 31 2 v j (flatN l)) (hb : base ≤ wr.heap.size) (hj : j < 1000) (x : NoteW) (ty : TypeId) :
    ∃ v' w', (Builtin.append_ #[22, 22] ty #[v, .slice (some ⟨wr.heap.size, 0, none⟩) 1 1]).run Try.prog (wr.alloc (noteO x.at_ x.c.p)) = .ok v' w' ∧ w'.ownsRow base 31 2 v' (j + 1) (flatN (l ++ [x])) ∧ wr.grownBy w' v.ownBlock := by
  obtain ⟨i0, hi, hz0, hz1, hz2⟩ := info_parts info_note
  obtain ⟨v', w', hr, h2, h3, h4⟩ := run_append_own (P := Try.prog) (wr.alloc (noteO x.at_ x.c.p)) base 22 ty 31 i0 _ 2 16 Try.underlying22 hi hz0 hz1 hz2 rfl (by decide) v j (flatN l) (hown.alloc _) ⟨wr.heap.size, 0, none⟩ 1 1 (flatN [x]) rfl (newsN wr x) (flatN_one [x]) (by unfold maxLen; omega) (by omega) (by simp; omega)
  refine ⟨v', w', hr, by rw [show flatN (l ++ [x]) = flatN l ++ flatN [x] by simp [flatN]]; exact h2, ⟨h3.os, h3.tape, h3.output, by have := h3.size; simp at this; omega, fun k hk hne => (h3.block k (by simp; omega) hne).trans (Below.heap_alloc wr _ k hk)⟩⟩
theorem ownsN_cells {w : World} {base : Nat} {v : Value} {n : Nat} {l : List NoteW} (h : w.ownsRow base 31 2 v n (flatN l)) (hne : l ≠ []) : ∃ g cap, v = .slice (some ⟨g, 0, none⟩) n cap ∧ n ≤ cap ∧ g < w.heap.size ∧ ∀ j x, l[j]? = some x → w.cell? ⟨g, j * 2, none⟩ = some (.int .i64 x.at_) ∧ w.cell? ⟨g, j * 2 + 1, none⟩ = some (.int .i64 x.c.p) := by
  have hn : l.length = n := by have := h.1; rw [flatN_len] at this; omega
  rcases h.2 with ⟨h1, h2⟩ | ⟨g, cap, cur, rfl, hb, hg, hnc, _⟩
  · exact absurd (List.length_eq_zero_iff.1 (hn.trans h2)) hne
  · refine ⟨g, cap, rfl, hnc, (Array.getElem?_eq_some_iff.1 hg).1, fun j x hj => ?_⟩
    have hjl : j < n := by have := (List.getElem?_eq_some_iff.1 hj).1; omega
    have e0 := (h.cellAt (j * 2) (by omega)).trans (show (flatN l)[j * 2]? = _ from flatN_get hj 0 (by omega))
    have e1 := (h.cellAt (j * 2 + 1) (by omega)).trans (flatN_get hj 1 (by omega))
    exact ⟨e0, e1⟩
theorem ownsN_slice {w : World} {base : Nat} {v : Value} {n : Nat} {l : List NoteW} (h : w.ownsRow base 31 2 v n (flatN l)) : ∃ a cap, v = .slice a n cap := by
  have hn : l.length = n := by have := h.1; rw [flatN_len] at this; omega
  rcases h.2 with ⟨h1, h2⟩ | ⟨g, cap, cur, rfl, _⟩
  · have : n = 0 := h2
    rw [h1, this]; exact ⟨none, 0, rfl⟩
  · exact ⟨_, cap, rfl⟩

/-- What is so of both. -/
structure BothAt (w wr : World) (k : NBk) (p m base : Nat) (last : Int) (v : Value) (notes : List NoteW) : Prop where
  node : NodeAt wr k last notes.length notes
  win : WinN wr p m 1000000 10 last notes
  pass : PassL notes
  row : wr.ownsRow base 31 2 v notes.length (flatN notes)
  bel : Below w.heap.size w wr
  sz : base ≤ wr.heap.size
theorem BothAt.below {w wr w' : World} {k : NBk} {p m base : Nat} {last : Int} {v : Value} {notes : List NoteW} (h : BothAt w wr k p m base last v notes) (hb : Below wr.heap.size wr w') : BothAt w w' k p m base last v notes :=
  ⟨h.node.below hb, h.win.below hb, h.pass, h.row.kept (row := none) ⟨hb.os, hb.tape, hb.output, hb.size, fun k hk _ => hb.block k hk⟩ (by cases h : v.ownBlock <;> simp), h.bel.trans (hb.mono h.bel.size), Nat.le_trans h.sz hb.size⟩
/-- Where the blocks lie. -/
structure Lie (w : World) (k : NBk) (p m base : Nat) : Prop where
  own : ∀ i, NOwn k i → w.heap.size ≤ i ∧ i < base
  pl : w.heap.size ≤ p ∧ p < base
  ml : w.heap.size ≤ m ∧ m < base
  np : ¬ NOwn k p
  nm : ¬ NOwn k m
theorem passE_ok {last flight at_ : Int} {ns : List Int} (h : passE last flight at_ ns = 0) : lookN last at_ ns = 0 := by
  unfold passE at h
  by_cases e : lookN last at_ ns = 0
  · exact e
  · rw [if_pos e] at h; exact absurd h e
theorem lookW_self {last at_ : Int} (h : lookW last at_ = 0) : lookW at_ at_ = 0 := by
  obtain ⟨h0, h1, _⟩ := lookW_ok h
  unfold lookW
  rw [if_neg (by omega), if_neg (by omega)]
theorem passL_snoc {notes : List NoteW} {at_ c : Int} (h : PassL notes) (h0 : 1 ≤ c) (h1 : c ≤ 1099511627776) : PassL (notes ++ newW at_ [passC c]) := by
  intro x hx
  rcases List.mem_append.1 hx with hx | hx
  · exact h x hx
  · simp only [newW, List.map_cons, List.map_nil, List.mem_singleton] at hx
    subst hx
    exact ⟨rfl, h0, h1⟩
theorem row_off {w w' : World} {base : Nat} {v : Value} {n : Nat} {xs : List Value} {S : Nat → Prop} (h : w.ownsRow base 31 2 v n xs) (ho : Off S w w') (hS : ∀ i, S i → i < base) : w'.ownsRow base 31 2 v n xs := by
  obtain ⟨h1, h2⟩ := h
  refine ⟨h1, ?_⟩
  rcases h2 with h2 | ⟨g, cap, cur, rfl, hb, hg, hrest⟩
  · exact Or.inl h2
  · exact Or.inr ⟨g, cap, cur, rfl, hb, (ho.block g (Array.getElem?_eq_some_iff.1 hg).1 (fun e => by have := hS g e; omega)).trans hg, hrest⟩

set_option maxHeartbeats 12800000 in
set_option maxRecDepth 100000 in
theorem topsec_walk (w : World) (a : Option Addr) (len cap : Nat) (V : Nat → Nat → Value) (hm : len ≤ 140737488351232) (hr : RecsAt w a 2 len V)
    (h0 : ∀ j, j < len → V j 0 = .int .i64 (intOf (V j 0)) ∧ (Lit.int .i64 (intOf (V j 0))).wf = true) (h1 : ∀ j, j < len → V j 1 = .int .i64 (intOf (V j 1)) ∧ (Lit.int .i64 (intOf (V j 1))).wf = true) :
    Calls Try.prog 3 #[.slice a len cap] w fun e w' => e = .returned (.bool true) ∧ Below w.heap.size w w' := by
  have HR := Lib.hid hr
  have H0 := Lib.hid (fun j hj => (h0 j hj).1)
  have H1 := Lib.hid (fun j hj => (h1 j hj).1)
  have HN := Lib.hid (snew_any w)
  have HW := Lib.hid (fun wx => wnew_any wx shape10)
  obtain ⟨hk0, hb0⟩ := node_made w
  have hzw : (nodeW w).heap.size = w.heap.size + 5 := by simp [nodeW]
  have HLIE := Lib.hid (show Lie w (madeN w.heap.size) (w.heap.size + 6) (w.heap.size + 5) (w.heap.size + 7) from ⟨fun i h => by
      simp only [NOwn, madeN, NBk.l, List.mem_cons, List.mem_nil_iff, or_false] at h
      omega, by omega, by omega, fun h => by
      simp only [NOwn, madeN, NBk.l, List.mem_cons, List.mem_nil_iff, or_false] at h
      omega, fun h => by
      simp only [NOwn, madeN, NBk.l, List.mem_cons, List.mem_nil_iff, or_false] at h
      omega⟩)
  have hw2 := winN_made (nodeW w) shape10
  rw [hzw] at hw2
  have hb2 : Below (nodeW w).heap.size (nodeW w) (((nodeW w).alloc (.map #[] 0)).alloc (winObj 1000000 10 (w.heap.size + 5))) := ((Below.refl _ _).alloc (Nat.le_refl _) _).alloc (by simp) _
  have HBO := Lib.hid (show BothAt w (((nodeW w).alloc (.map #[] 0)).alloc (winObj 1000000 10 (w.heap.size + 5))) (madeN w.heap.size) (w.heap.size + 6) (w.heap.size + 5) (w.heap.size + 7) 0 (.slice none 0 0) [] from
    ⟨hk0.below hb2, hw2, by intro x hx; simp at hx, World.ownsRow_nil _ _ _ _, hb0.trans (hb2.mono hb0.size), by simp [hzw]⟩)
  have HQ := Lib.hid (madeN_q w.heap.size)
  have HZW := Lib.hid hzw
  obtain ⟨k, hk⟩ : ∃ k, madeN w.heap.size = k := ⟨_, rfl⟩
  rw [hk] at HLIE HBO HQ
  obtain ⟨wn, hwn⟩ : ∃ wn, nodeW w = wn := ⟨_, rfl⟩
  rw [hwn] at HN HBO HZW
  clear hr h0 h1 hk0 hb0 hw2 hb2 hk hwn hzw
  go_enter Try.func3, Try.ntmps3
  go_wp2_with (fail)
  refine HN.out.mono ?_
  rintro e wq ⟨rfl, hq⟩
  subst hq
  rw [← HQ.out]
  clear HN HQ
  go_wp2_with (fail)
  refine (HW.out _).mono ?_
  rintro e wb ⟨rfl, hq⟩
  rw [HZW.out] at hq ⊢
  rw [← hq] at HBO
  clear hq HZW HW
  obtain ⟨p, hp⟩ : ∃ p, w.heap.size + 5 + 1 = p := ⟨_, rfl⟩
  obtain ⟨m, hm2⟩ : ∃ m, w.heap.size + 5 = m := ⟨_, rfl⟩
  obtain ⟨base, hbs⟩ : ∃ base, w.heap.size + 7 = base := ⟨_, rfl⟩
  rw [show w.heap.size + 6 = p from hp, hm2, hbs] at HLIE HBO
  rw [hp]
  clear hp hm2 hbs
  go_wp2_with (fail)
  go_loopw [6, 7] (fun vin i wr => ∃ (j : Nat) (v : Value) (last : Int) (notes : List NoteW), j ≤ len ∧ j ≤ 100 ∧ notes.length ≤ j ∧ i = .int .i64 j ∧ vin = v ∧ Hid (BothAt w wr k p m base last v notes)) (fun _ i _ => len - (intOf i).toNat)
  case atStart => exact ⟨0, _, 0, [], Nat.zero_le _, Nat.zero_le _, Nat.le_refl _, rfl, rfl, HBO⟩
  case round =>
    rename World => wy
    obtain ⟨j, v, last, notes, hj, hj1, hnl, rfl, rfl, HB⟩ := hrel
    by_cases hlt : j < len
    · have j0 : (0 : Int) ≤ j := by omega
      have j1 : (j : Int) < len := by omega
      by_cases hlt2 : j < 100
      · have j2 : (j : Int) < 100 := by omega
        have hlt2n : j + 1 ≤ 100 := by omega
        obtain ⟨b0, off, ha, hbl, hc⟩ : ∃ b off, a = some ⟨b, off, none⟩ ∧ b < w.heap.size ∧ ∀ j, j < len → ∀ k, k < 2 → w.cell? ⟨b, off + (j * 2 + k), none⟩ = some (V j k) := by
          rcases HR.out with h | h
          · omega
          · exact h
        subst ha
        obtain ⟨AT, hAT⟩ : ∃ AT, intOf (V j 0) = AT := ⟨_, rfl⟩
        obtain ⟨CT, hCT⟩ : ∃ CT, intOf (V j 1) = CT := ⟨_, rfl⟩
        have e0 : w.cell? ⟨b0, off + j * 2, none⟩ = some (.int .i64 AT) := by
          have := hc j hlt 0 (by decide)
          rw [H0.out j hlt, hAT] at this; exact this
        have e1 : w.cell? ⟨b0, off + j * 2 + 1, none⟩ = some (.int .i64 CT) := by
          have := hc j hlt 1 (by decide)
          rw [H1.out j hlt, hCT] at this; exact this
        have HCC := Lib.hid (fun (wx : World) (hb : Below w.heap.size w wx) => And.intro ((hb.cell (p := ⟨b0, off + j * 2, none⟩) hbl).trans e0) ((hb.cell (p := ⟨b0, off + j * 2 + 1, none⟩) hbl).trans e1))
        clear hc hAT hCT e0 e1
        obtain ⟨d0, d1⟩ := HCC.out wy HB.out.bel
        have hnl2 := hnl
        have HP := Lib.hid (spass_one (w := wy.drew) (HB.out.node.below (Below.refl _ _).drew) AT CT)
        by_cases hE : passE last notes.length AT [CT] = 0
        · have HE := Lib.hid hE
          rw [hE] at HP
          clear hE
          go_wp2_with (fail)
          refine wp_region_noPanic ?_
          refine wp_region_held_drew (S := fun wx => wx.cell? ⟨b0, off + j * 2, none⟩ = some (.int .i64 AT) ∧ wx.cell? ⟨b0, off + j * 2 + 1, none⟩ = some (.int .i64 CT)) (by kernel_rfl) ?_ (fun hHeld => ?_)
          · exact ⟨d0, d1⟩
          refine wpAnyH_take (i := 0) (v := ?_) rfl (by kernel_rfl) (by kernel_rfl) (by kernel_rfl) (fun _ _ _ h => h) (Or.inl ⟨by rfl, ?hy⟩) (by assumption) ?_
          case hy => intro w hSw; (try dsimp only at hSw); go_simp; try with_reducible rfl
          try simp only [Act.put, List.getElem_toArray, List.getElem_cons_succ, List.getElem_cons_zero, List.setIfInBounds_toArray, List.set_cons_zero, List.set_cons_succ]
          refine wpAnyH_take (i := 1) (v := ?_) rfl (by kernel_rfl) (by kernel_rfl) (by kernel_rfl) (fun _ _ _ h => h) (Or.inl ⟨by rfl, ?hy⟩) (by assumption) ?_
          case hy => intro w hSw; (try dsimp only at hSw); go_simp; try with_reducible rfl
          try simp only [Act.put, List.getElem_toArray, List.getElem_cons_succ, List.getElem_cons_zero, List.setIfInBounds_toArray, List.set_cons_zero, List.set_cons_succ]
          refine wpAnyH_take (i := 2) (v := ?_) rfl (by kernel_rfl) (by kernel_rfl) (by kernel_rfl) (fun _ _ _ h => h) (Or.inl ⟨by rfl, ?hy⟩) (by assumption) ?_
          case hy => intro w hSw; (try dsimp only at hSw); go_simp; try with_reducible rfl
          try simp only [Act.put, List.getElem_toArray, List.getElem_cons_succ, List.getElem_cons_zero, List.setIfInBounds_toArray, List.set_cons_zero, List.set_cons_succ]
          refine wpAnyH_take (i := 3) (v := ?_) rfl (by kernel_rfl) (by kernel_rfl) (by kernel_rfl) (fun _ _ _ h => h) (Or.inl ⟨by rfl, ?hy⟩) (by assumption) ?_
          case hy => intro w hSw; (try dsimp only at hSw); go_simp; try with_reducible rfl
          try simp only [Act.put, List.getElem_toArray, List.getElem_cons_succ, List.getElem_cons_zero, List.setIfInBounds_toArray, List.set_cons_zero, List.set_cons_succ]
          refine wpAnyH_take (i := 4) (v := ?_) rfl (by kernel_rfl) (by kernel_rfl) (by kernel_rfl) (fun _ _ _ h => h) (Or.inl ⟨by rfl, ?hy⟩) (by assumption) ?_
          case hy => intro w hSw; (try dsimp only at hSw); go_simp; try with_reducible rfl
          try simp only [Act.put, List.getElem_toArray, List.getElem_cons_succ, List.getElem_cons_zero, List.setIfInBounds_toArray, List.set_cons_zero, List.set_cons_succ]
          refine wpAnyH_take (i := 5) (v := ?_) rfl (by kernel_rfl) (by kernel_rfl) (by kernel_rfl) (fun _ _ _ h => h) (Or.inl ⟨by rfl, ?hy⟩) (by assumption) ?_
          case hy => intro w hSw; (try dsimp only at hSw); go_simp; try with_reducible rfl
          try simp only [Act.put, List.getElem_toArray, List.getElem_cons_succ, List.getElem_cons_zero, List.setIfInBounds_toArray, List.set_cons_zero, List.set_cons_succ]
          refine wpAnyH_take (i := 6) (v := ?_) rfl (by kernel_rfl) (by kernel_rfl) (by kernel_rfl) (fun _ _ _ h => h) (Or.inl ⟨by rfl, ?hy⟩) (by assumption) ?_
          case hy => intro w hSw; (try dsimp only at hSw); go_simp; try with_reducible rfl
          try simp only [Act.put, List.getElem_toArray, List.getElem_cons_succ, List.getElem_cons_zero, List.setIfInBounds_toArray, List.set_cons_zero, List.set_cons_succ]
          refine wpAnyH_take (i := 7) (v := ?_) rfl (by kernel_rfl) (by kernel_rfl) (by kernel_rfl) (fun _ _ _ h => h) (Or.inl ⟨by rfl, ?hy⟩) (by assumption) ?_
          case hy => intro w hSw; (try dsimp only at hSw); go_simp; try with_reducible rfl
          try simp only [Act.put, List.getElem_toArray, List.getElem_cons_succ, List.getElem_cons_zero, List.setIfInBounds_toArray, List.set_cons_zero, List.set_cons_succ]
          refine wpAnyH_take (i := 8) (v := ?_) rfl (by kernel_rfl) (by kernel_rfl) (by kernel_rfl) (fun _ _ _ h => h) (Or.inl ⟨by rfl, ?hy⟩) (by assumption) ?_
          case hy => intro w hSw; (try dsimp only at hSw); go_simp; try with_reducible rfl
          try simp only [Act.put, List.getElem_toArray, List.getElem_cons_succ, List.getElem_cons_zero, List.setIfInBounds_toArray, List.set_cons_zero, List.set_cons_succ]
          refine wpAnyH_take (i := 9) (v := ?_) rfl (by kernel_rfl) (by kernel_rfl) (by kernel_rfl) (fun _ _ _ h => h) (Or.inl ⟨by rfl, ?hy⟩) (by assumption) ?_
          case hy => intro w hSw; (try dsimp only at hSw); go_simp; try with_reducible rfl
          try simp only [Act.put, List.getElem_toArray, List.getElem_cons_succ, List.getElem_cons_zero, List.setIfInBounds_toArray, List.set_cons_zero, List.set_cons_succ]
          refine wpAnyH_take (i := 10) (v := ?_) rfl (by kernel_rfl) (by kernel_rfl) (by kernel_rfl) (fun _ _ _ h => h) (Or.inl ⟨by rfl, ?hy⟩) (by assumption) ?_
          case hy => intro w hSw; (try dsimp only at hSw); go_simp; try with_reducible rfl
          try simp only [Act.put, List.getElem_toArray, List.getElem_cons_succ, List.getElem_cons_zero, List.setIfInBounds_toArray, List.set_cons_zero, List.set_cons_succ]
          refine wpAnyH_ready (rs := [11]) (by kernel_rfl) (by simp) (AllReadyH.cons rfl (fun K hK => ?_) AllReadyH.nil)
          go_simp
          skip
          try (go_wp2_with fail)
          refine hK.out _ _ ?_ (fun hHeld => ?_)
          · exact HCC.out _ (HB.out.bel.drew.alloc (show w.heap.size ≤ wy.drew.heap.size from HB.out.bel.size) _)
          clear hK K
          try simp only [Act.put, List.getElem_toArray, List.getElem_cons_succ, List.getElem_cons_zero, List.setIfInBounds_toArray, List.set_cons_zero, List.set_cons_succ]
          refine wpAnyH_ready (rs := [12]) (by kernel_rfl) (by simp) (AllReadyH.cons rfl (fun K hK => ?_) AllReadyH.nil)
          go_simp
          refine HP.out.mono ?_
          rintro e w1 ⟨rfl, _, hyes⟩
          obtain ⟨hn1, ho1⟩ := hyes trivial
          have HN1 := Lib.hid hn1
          have HO1 := Lib.hid (show Off (NOwn k) wy w1 from (Off.ofBelow (S := NOwn k) ((Below.refl wy.heap.size wy).drew)).trans ho1 (fun _ _ h => h))
          have HB1 := Lib.hid (show Below w.heap.size w w1 from HB.out.bel.trans (HO1.out.below HB.out.bel.size (fun i hi h => by have := (HLIE.out.own i h).1; omega)))
          clear hyes hn1 ho1 HP
          try (go_wp2_with fail)
          refine hK.out _ _ ?_ (fun hHeld => ?_)
          · exact HCC.out _ HB1.out
          clear hK K
          try simp only [Act.put, List.getElem_toArray, List.getElem_cons_succ, List.getElem_cons_zero, List.setIfInBounds_toArray, List.set_cons_zero, List.set_cons_succ]
          refine wpAnyH_take (i := 13) (v := ?_) rfl (by kernel_rfl) (by kernel_rfl) (by kernel_rfl) (fun _ _ _ h => h) (Or.inl ⟨by rfl, ?hy⟩) (by assumption) ?_
          case hy => intro w hSw; (try dsimp only at hSw); go_simp; try with_reducible rfl
          try simp only [Act.put, List.getElem_toArray, List.getElem_cons_succ, List.getElem_cons_zero, List.setIfInBounds_toArray, List.set_cons_zero, List.set_cons_succ]
          refine wpAnyH_done (by kernel_rfl) ?_ _
          refine NoPanic.normal ?_
          obtain ⟨d0, d1⟩ := HCC.out w1 HB1.out
          have hok := lookN_ok (passE_ok HE.out)
          have HLW := Lib.hid hok.1
          have HCT := Lib.hid (hok.2 CT (by simp))
          have HWN := Lib.hid (HB.out.win.kept (HO1.out.block p HB.out.win.lt.1 HLIE.out.np) (HO1.out.block m HB.out.win.lt.2 HLIE.out.nm))
          have hbx : Below w1.drew.heap.size w1.drew (w1.drew.alloc (ctO (passC CT) 34)) := (Below.refl _ _).alloc (Nat.le_refl _) _
          have hdr : Below w1.heap.size w1 w1.drew := (Below.refl _ _).drew
          have HBX := Lib.hid (hdr.trans (hbx.mono (Nat.le_refl _)))
          have HAD := Lib.hid (wAddN_any ((HWN.out.below hdr).below hbx) AT HLW.out (some ⟨w1.drew.heap.size, 0, none⟩) 1 1 [passC CT] rfl (by omega) (fun e => by cases e) (cts_one (w := w1.drew) (passC CT)) (fun c hc => by obtain rfl := List.mem_singleton.1 hc; exact passC_right HCT.out.1 HCT.out.2) (fun g off e => by
            cases e
            have h1 := HB1.out.size
            have h2 := HB.out.sz
            have h3 := HO1.out.size
            have h4 := HLIE.out.pl
            have h5 := HLIE.out.ml
            show w1.heap.size ≠ p ∧ w1.heap.size ≠ m
            omega))
          rw [show w1.drew.heap.size = w1.heap.size from rfl] at HAD
          unfold ctO passC at HAD HBX
          dsimp only at HAD HBX
          clear hok hbx hdr
          go_wp2_with (fail)
          refine wp_region_noPanic ?_
          refine wp_region_held_drew (S := fun wx => wx.cell? ⟨b0, off + j * 2, none⟩ = some (.int .i64 AT) ∧ wx.cell? ⟨b0, off + j * 2 + 1, none⟩ = some (.int .i64 CT)) (by kernel_rfl) ?_ (fun hHeld => ?_)
          · exact ⟨d0, d1⟩
          refine wpAnyH_take (i := 0) (v := ?_) rfl (by kernel_rfl) (by kernel_rfl) (by kernel_rfl) (fun _ _ _ h => h) (Or.inl ⟨by rfl, ?hy⟩) (by assumption) ?_
          case hy => intro w hSw; (try dsimp only at hSw); go_simp; try with_reducible rfl
          try simp only [Act.put, List.getElem_toArray, List.getElem_cons_succ, List.getElem_cons_zero, List.setIfInBounds_toArray, List.set_cons_zero, List.set_cons_succ]
          refine wpAnyH_take (i := 1) (v := ?_) rfl (by kernel_rfl) (by kernel_rfl) (by kernel_rfl) (fun _ _ _ h => h) (Or.inl ⟨by rfl, ?hy⟩) (by assumption) ?_
          case hy => intro w hSw; (try dsimp only at hSw); go_simp; try with_reducible rfl
          try simp only [Act.put, List.getElem_toArray, List.getElem_cons_succ, List.getElem_cons_zero, List.setIfInBounds_toArray, List.set_cons_zero, List.set_cons_succ]
          refine wpAnyH_take (i := 2) (v := ?_) rfl (by kernel_rfl) (by kernel_rfl) (by kernel_rfl) (fun _ _ _ h => h) (Or.inl ⟨by rfl, ?hy⟩) (by assumption) ?_
          case hy => intro w hSw; (try dsimp only at hSw); go_simp; try with_reducible rfl
          try simp only [Act.put, List.getElem_toArray, List.getElem_cons_succ, List.getElem_cons_zero, List.setIfInBounds_toArray, List.set_cons_zero, List.set_cons_succ]
          refine wpAnyH_take (i := 3) (v := ?_) rfl (by kernel_rfl) (by kernel_rfl) (by kernel_rfl) (fun _ _ _ h => h) (Or.inl ⟨by rfl, ?hy⟩) (by assumption) ?_
          case hy => intro w hSw; (try dsimp only at hSw); go_simp; try with_reducible rfl
          try simp only [Act.put, List.getElem_toArray, List.getElem_cons_succ, List.getElem_cons_zero, List.setIfInBounds_toArray, List.set_cons_zero, List.set_cons_succ]
          refine wpAnyH_take (i := 4) (v := ?_) rfl (by kernel_rfl) (by kernel_rfl) (by kernel_rfl) (fun _ _ _ h => h) (Or.inl ⟨by rfl, ?hy⟩) (by assumption) ?_
          case hy => intro w hSw; (try dsimp only at hSw); go_simp; try with_reducible rfl
          try simp only [Act.put, List.getElem_toArray, List.getElem_cons_succ, List.getElem_cons_zero, List.setIfInBounds_toArray, List.set_cons_zero, List.set_cons_succ]
          refine wpAnyH_take (i := 5) (v := ?_) rfl (by kernel_rfl) (by kernel_rfl) (by kernel_rfl) (fun _ _ _ h => h) (Or.inl ⟨by rfl, ?hy⟩) (by assumption) ?_
          case hy => intro w hSw; (try dsimp only at hSw); go_simp; try with_reducible rfl
          try simp only [Act.put, List.getElem_toArray, List.getElem_cons_succ, List.getElem_cons_zero, List.setIfInBounds_toArray, List.set_cons_zero, List.set_cons_succ]
          refine wpAnyH_take (i := 6) (v := ?_) rfl (by kernel_rfl) (by kernel_rfl) (by kernel_rfl) (fun _ _ _ h => h) (Or.inl ⟨by rfl, ?hy⟩) (by assumption) ?_
          case hy => intro w hSw; (try dsimp only at hSw); go_simp; try with_reducible rfl
          try simp only [Act.put, List.getElem_toArray, List.getElem_cons_succ, List.getElem_cons_zero, List.setIfInBounds_toArray, List.set_cons_zero, List.set_cons_succ]
          refine wpAnyH_take (i := 7) (v := ?_) rfl (by kernel_rfl) (by kernel_rfl) (by kernel_rfl) (fun _ _ _ h => h) (Or.inl ⟨by rfl, ?hy⟩) (by assumption) ?_
          case hy => intro w hSw; (try dsimp only at hSw); go_simp; try with_reducible rfl
          try simp only [Act.put, List.getElem_toArray, List.getElem_cons_succ, List.getElem_cons_zero, List.setIfInBounds_toArray, List.set_cons_zero, List.set_cons_succ]
          refine wpAnyH_take (i := 8) (v := ?_) rfl (by kernel_rfl) (by kernel_rfl) (by kernel_rfl) (fun _ _ _ h => h) (Or.inl ⟨by rfl, ?hy⟩) (by assumption) ?_
          case hy => intro w hSw; (try dsimp only at hSw); go_simp; try with_reducible rfl
          try simp only [Act.put, List.getElem_toArray, List.getElem_cons_succ, List.getElem_cons_zero, List.setIfInBounds_toArray, List.set_cons_zero, List.set_cons_succ]
          refine wpAnyH_take (i := 9) (v := ?_) rfl (by kernel_rfl) (by kernel_rfl) (by kernel_rfl) (fun _ _ _ h => h) (Or.inl ⟨by rfl, ?hy⟩) (by assumption) ?_
          case hy => intro w hSw; (try dsimp only at hSw); go_simp; try with_reducible rfl
          try simp only [Act.put, List.getElem_toArray, List.getElem_cons_succ, List.getElem_cons_zero, List.setIfInBounds_toArray, List.set_cons_zero, List.set_cons_succ]
          refine wpAnyH_take (i := 10) (v := ?_) rfl (by kernel_rfl) (by kernel_rfl) (by kernel_rfl) (fun _ _ _ h => h) (Or.inl ⟨by rfl, ?hy⟩) (by assumption) ?_
          case hy => intro w hSw; (try dsimp only at hSw); go_simp; try with_reducible rfl
          try simp only [Act.put, List.getElem_toArray, List.getElem_cons_succ, List.getElem_cons_zero, List.setIfInBounds_toArray, List.set_cons_zero, List.set_cons_succ]
          refine wpAnyH_take (i := 11) (v := ?_) rfl (by kernel_rfl) (by kernel_rfl) (by kernel_rfl) (fun _ _ _ h => h) (Or.inl ⟨by rfl, ?hy⟩) (by assumption) ?_
          case hy => intro w hSw; (try dsimp only at hSw); go_simp; try with_reducible rfl
          try simp only [Act.put, List.getElem_toArray, List.getElem_cons_succ, List.getElem_cons_zero, List.setIfInBounds_toArray, List.set_cons_zero, List.set_cons_succ]
          refine wpAnyH_ready (rs := [12]) (by kernel_rfl) (by simp) (AllReadyH.cons rfl (fun K hK => ?_) AllReadyH.nil)
          go_simp
          skip
          try (go_wp2_with fail)
          refine hK.out _ _ ?_ (fun hHeld => ?_)
          · exact HCC.out _ (HB1.out.drew.alloc (show w.heap.size ≤ w1.drew.heap.size from HB1.out.size) _)
          clear hK K
          try simp only [Act.put, List.getElem_toArray, List.getElem_cons_succ, List.getElem_cons_zero, List.setIfInBounds_toArray, List.set_cons_zero, List.set_cons_succ]
          refine wpAnyH_ready (rs := [13]) (by kernel_rfl) (by simp) (AllReadyH.cons rfl (fun K hK => ?_) AllReadyH.nil)
          go_simp
          refine HAD.out.mono ?_
          rintro e w2 ⟨rfl, hw2, ho2⟩
          have HW2 := Lib.hid hw2
          have HOO := Lib.hid (show Off (fun i => i = p ∨ i = m) w1 w2 from (Off.ofBelow (S := fun i => i = p ∨ i = m) HBX.out).trans ho2 (fun _ _ h => h))
          have HN2 := Lib.hid (HN1.out.kept (fun i hi => HOO.out.block i (HN1.out.lt hi) (fun e => by
            rcases e with e | e
            · exact HLIE.out.np (e ▸ hi)
            · exact HLIE.out.nm (e ▸ hi))))
          have HBL2 := Lib.hid (show Below w.heap.size w w2 from HB1.out.trans (HOO.out.below HB1.out.size (fun i hi h => by
            have h4 := HLIE.out.pl
            have h5 := HLIE.out.ml
            rcases h with h | h <;> omega)))
          have HSZ2 := Lib.hid (show base ≤ w2.heap.size from Nat.le_trans HB.out.sz (Nat.le_trans HO1.out.size HOO.out.size))
          have HR2 := Lib.hid (row_off (row_off HB.out.row HO1.out (fun i h => (HLIE.out.own i h).2)) HOO.out (fun i h => by
            have h4 := HLIE.out.pl
            have h5 := HLIE.out.ml
            rcases h with h | h <;> omega))
          clear hw2 ho2 HAD HBX
          try (go_wp2_with fail)
          refine hK.out _ _ ?_ (fun hHeld => ?_)
          · exact HCC.out _ HBL2.out
          clear hK K
          try simp only [Act.put, List.getElem_toArray, List.getElem_cons_succ, List.getElem_cons_zero, List.setIfInBounds_toArray, List.set_cons_zero, List.set_cons_succ]
          refine wpAnyH_take (i := 14) (v := ?_) rfl (by kernel_rfl) (by kernel_rfl) (by kernel_rfl) (fun _ _ _ h => h) (Or.inl ⟨by rfl, ?hy⟩) (by assumption) ?_
          case hy => intro w hSw; (try dsimp only at hSw); go_simp; try with_reducible rfl
          try simp only [Act.put, List.getElem_toArray, List.getElem_cons_succ, List.getElem_cons_zero, List.setIfInBounds_toArray, List.set_cons_zero, List.set_cons_succ]
          refine wpAnyH_done (by kernel_rfl) ?_ _
          refine NoPanic.normal ?_
          have hsz2 : base ≤ w2.heap.size := HSZ2.out
          have hcount : notes.length < 1000 := by omega
          obtain ⟨v3, w3, hap3, hrow3, hg3⟩ := run_append_note HR2.out hsz2 hcount (⟨AT, passC CT⟩ : NoteW) 22
          have HAP3 := Lib.hid hap3
          have hrb : ∀ i, i < base → some i ≠ u6.ownBlock := fun i hi e => by have := (HR2.out.lt i e.symm).1; omega
          have HB3 := Lib.hid (show BothAt w w3 k p m base AT v3 (notes ++ newW AT [passC CT]) from ⟨by
              have h1 := HN2.out.kept (fun i hi => hg3.block i (HN2.out.lt hi) (hrb i (HLIE.out.own i hi).2))
              simpa [newW] using h1, HW2.out.kept (hg3.block p HW2.out.lt.1 (hrb p HLIE.out.pl.2)) (hg3.block m HW2.out.lt.2 (hrb m HLIE.out.ml.2)), passL_snoc HB.out.pass HCT.out.1 HCT.out.2, by
              have h1 := hrow3
              simpa [newW] using h1, HBL2.out.grown hg3 HBL2.out.size (fun i e => by have := (HR2.out.lt i e).1; have := HLIE.out.pl; omega), Nat.le_trans hsz2 hg3.size⟩)
          obtain ⟨d0, d1⟩ := HCC.out w2 HBL2.out
          have HL3 := Lib.hid (show (notes ++ newW AT [passC CT]).length = notes.length + 1 by simp [newW])
          obtain ⟨f0, f1⟩ := HCC.out w3 HB3.out.bel
          obtain ⟨a6, c6, hv6⟩ := ownsN_slice HR2.out
          have HV6 := Lib.hid hv6
          clear hap3 hrow3 hg3 hrb hsz2
          unfold noteO at HAP3
          dsimp only at HAP3
          go_wp2_with (at_builtin; refine wpList_append_run (by rfl) (.tmp 65) (.tmp 70) 22 22 (by rfl) (by rfl) (by rfl) (by rfl) HAP3.out ?_)
          clear d0 d1 HAP3 HN1 HO1 HB1 HWN HN2 HW2 HOO HBL2 HR2 HSZ2 HV6
          have HLA := Lib.hid (lookW_self HLW.out)
          obtain ⟨NS, hNS⟩ : ∃ NS, notes ++ newW AT [passC CT] = NS := ⟨_, rfl⟩
          rw [hNS] at HB3 HL3
          clear hNS HB HE HCT HLW
          have HS1 := Lib.hid (ssum_any HB3.out.node AT HLA.out)
          have hCR : RightC (winC 100000 10 AT NS) := winC_right HB3.out.node.sec.right.1 AT
          have HNR := Lib.hid (near_le (at_ := AT) HB3.out.win.right.1 (fun x hx => (HB3.out.win.right.2 x hx).2) (by
            have h1 := (sumW_bound (p := nearB AT) HB3.out.pass).2
            have h2 := HL3.out
            rw [h2] at h1
            omega))
          obtain ⟨C, hC⟩ : ∃ C, winC 100000 10 AT NS = C := ⟨_, rfl⟩
          have HWC := Lib.hid (show winC (1000000 / 10) 10 AT NS = C from hC)
          rw [hC] at HS1 hCR HNR
          clear hC hCR
          obtain ⟨xp, xb, xd, xe, xr, xm⟩ := C
          unfold ctV at HS1
          dsimp only at HS1 HNR
          refine HS1.out.mono ?_
          rintro e w4 ⟨rfl, h4⟩
          have HB4 := Lib.hid (HB3.out.below h4)
          clear h4 HS1 HB3 f0 f1
          have hb5 : Below w4.heap.size w4 (w4.alloc (ctO ⟨xp, xb, xd, xe, xr, xm⟩ 34)) := (Below.refl _ _).alloc (Nat.le_refl _) _
          have HB5 := Lib.hid (HB4.out.below hb5)
          have HN5 := Lib.hid ((get_allocW w4 (ctO ⟨xp, xb, xd, xe, xr, xm⟩ 34) w4.heap.size).trans (if_pos rfl))
          have HZ5 := Lib.hid (show (w4.alloc (ctO ⟨xp, xb, xd, xe, xr, xm⟩ 34)).heap.size = w4.heap.size + 1 by simp)
          obtain ⟨f0, f1⟩ := HCC.out _ HB5.out.bel
          clear hb5 HB4
          unfold ctO at HB5 HN5 HZ5 f0 f1
          dsimp only at HB5 HN5 HZ5 f0 f1
          go_wp2_with (fail)
          obtain ⟨w5, hw5⟩ : ∃ w5, w4.alloc (.cells #[.int .i64 xp, .int .i64 xb, .int .i64 xd, .int .i64 xe, .int .i64 xr, .int .i64 xm] 34) = w5 := ⟨_, rfl⟩
          rw [hw5] at HB5 HN5 HZ5 f0 f1 ⊢
          clear hw5
          have HS2 := Lib.hid (wSumN_any HB5.out.win AT HLA.out)
          rw [HWC.out] at HS2
          unfold ctV at HS2
          dsimp only at HS2
          refine HS2.out.mono ?_
          rintro e w6 ⟨rfl, h6⟩
          have HB6 := Lib.hid (HB5.out.below h6)
          have hA := (h6.block w4.heap.size (by rw [HZ5.out]; omega)).trans HN5.out
          have HZ6 := Lib.hid (show w4.heap.size < w6.heap.size by have := h6.size; rw [HZ5.out] at this; omega)
          clear h6 HS2 HB5 f0 f1 HN5 HZ5
          have hb7 : Below w6.heap.size w6 (w6.alloc (ctO ⟨xp, xb, xd, xe, xr, xm⟩ 34)) := (Below.refl _ _).alloc (Nat.le_refl _) _
          have HB7 := Lib.hid (HB6.out.below hb7)
          have HNB := Lib.hid ((get_allocW w6 (ctO ⟨xp, xb, xd, xe, xr, xm⟩ 34) w6.heap.size).trans (if_pos rfl))
          have HNA := Lib.hid ((hb7.block w4.heap.size HZ6.out).trans hA)
          have HZ7 := Lib.hid (show w6.heap.size < (w6.alloc (ctO ⟨xp, xb, xd, xe, xr, xm⟩ 34)).heap.size by simp)
          clear hb7 HB6 hA
          unfold ctO at HB7 HNB HNA HZ7
          dsimp only at HB7 HNB HNA HZ7
          go_wp2_with (fail)
          obtain ⟨w7, hw7⟩ : ∃ w7, w6.alloc (.cells #[.int .i64 xp, .int .i64 xb, .int .i64 xd, .int .i64 xe, .int .i64 xr, .int .i64 xm] 34) = w7 := ⟨_, rfl⟩
          rw [hw7] at HB7 HNB HNA HZ7 ⊢
          clear hw7
          obtain ⟨g7, cap7, hv7, hcap7, hg7, hcl7⟩ := ownsN_cells HB7.out.row (by intro e; have := HL3.out; rw [e] at this; simp at this)
          subst hv7
          have HCL := Lib.hid hcl7
          obtain ⟨n7, hn7⟩ : ∃ n7, NS.length = n7 := ⟨_, rfl⟩
          have HN7 := Lib.hid hn7
          rw [hn7] at hcap7 HB7 HL3
          have hv7b : (Value.slice (some ⟨g7, 0, none⟩) NS.length cap7) = .slice (some ⟨g7, 0, none⟩) n7 cap7 := by rw [hn7]
          rw [hv7b]
          clear hcl7 hn7 hv7b
          have hn7b : n7 ≤ 101 := by have := HL3.out; omega
          have hn7c : n7 ≤ notes.length + 1 := by have := HL3.out; omega
          go_loopw [12, 13] (fun x y wr => ∃ q : Nat, q ≤ n7 ∧ y = .int .i64 q ∧ x = .int .i64 (sumW (nearB AT) (NS.take q)).p ∧ Hid (Below w7.heap.size w7 wr)) (fun _ y _ => n7 - (intOf y).toNat)
          case atStart => exact ⟨0, Nat.zero_le _, rfl, by simp [sumW, RawC.zero], Lib.hid (Below.refl _ _)⟩
          case round =>
            rename World => wz
            obtain ⟨q, hq, rfl, rfl, HBZ⟩ := hrel
            have HEN := Lib.hid (HB7.out.below HBZ.out)
            by_cases hqn : q < n7
            · have q0 : (0 : Int) ≤ q := by omega
              have q1 : (q : Int) < n7 := by omega
              obtain ⟨x, hx⟩ : ∃ x, NS[q]? = some x := ⟨_, List.getElem?_eq_getElem (by rw [HN7.out]; exact hqn)⟩
              have hxm := List.mem_of_getElem? hx
              obtain ⟨y0, y1⟩ := HCL.out q x hx
              have y0 := (HBZ.out.cell (p := ⟨g7, q * 2, none⟩) hg7).trans y0
              have y1 := (HBZ.out.cell (p := ⟨g7, q * 2 + 1, none⟩) hg7).trans y1
              obtain ⟨f0, f1⟩ := HCC.out wz HEN.out.bel
              obtain ⟨x0, x1⟩ := HB7.out.win.right.2 x hxm
              obtain ⟨_, x2, x3⟩ := HB7.out.pass x hxm
              obtain ⟨s0, s1⟩ := sumW_bound (p := nearB AT) (l := NS.take q) (fun y hy => HB7.out.pass y (List.mem_of_mem_take hy))
              have s2 : (NS.take q).length ≤ q := List.length_take_le _ _
              have HTK := Lib.hid (sumW_take (p := nearB AT) hx)
              have a1 := (lookW_ok HLA.out).2.1
              generalize (sumW (nearB AT) (NS.take q)).p = SM at *
              have HXB := Lib.hid (show nearB AT x = decide (AT - x.at_ < 900000) from rfl)
              generalize x.c.p = XP at *
              generalize x.at_ = XA at *
              have hw1 : IntKind.i64.wrap (AT - XA) = AT - XA := IntWalk.i64_in _ (by omega)
              clear hx hxm
              by_cases hnr : AT - XA < 900000
              · have hd : decide (AT - XA < 900000) = true := decide_eq_true hnr
                rw [HXB.out, hd, if_pos rfl] at HTK
                clear HXB
                go_wp2_with (fail)
                go_quiet (fail)
                go_wp2_with (fail)
                exact ⟨⟨q + 1, by omega, by go_num, by rw [HTK.out], Lib.hid (below_drewG HBZ.out _)⟩, by first | (simp [intOf]; done) | (simp [intOf]; omega)⟩
              · have hd : decide (AT - XA < 900000) = false := decide_eq_false hnr
                rw [HXB.out, hd, if_neg (by simp)] at HTK
                clear HXB
                go_wp2_with (fail)
                go_quiet (fail)
                go_wp2_with (fail)
                exact ⟨⟨q + 1, by omega, by go_num, by rw [HTK.out, Int.add_zero], Lib.hid (below_drewG HBZ.out _)⟩, by first | (simp [intOf]; done) | (simp [intOf]; omega)⟩
            · have q1 : ¬ (q : Int) < n7 := by omega
              have e1 : NS.take q = NS := List.take_of_length_le (by rw [HN7.out]; omega)
              rw [e1]
              clear e1
              have hnr := HNR.out
              obtain ⟨SM, hSM⟩ : ∃ SM, (sumW (nearB AT) NS).p = SM := ⟨_, rfl⟩
              rw [hSM] at hnr ⊢
              have hnr2 : ¬ xp < SM := by omega
              obtain ⟨⟨z0, z1, z2, z3, z4, z5⟩, zf⟩ := ct_cells (c := ⟨xp, xb, xd, xe, xr, xm⟩) ((HBZ.out.block w4.heap.size (Nat.lt_trans HZ6.out HZ7.out)).trans HNA.out)
              obtain ⟨⟨t0, t1, t2, t3, t4, t5⟩, tf⟩ := ct_cells (c := ⟨xp, xb, xd, xe, xr, xm⟩) ((HBZ.out.block w6.heap.size HZ7.out).trans HNB.out)
              dsimp only at z0 z1 z2 z3 z4 z5 t0 t1 t2 t3 t4 t5
              clear hSM hnr zf tf
              go_wp2_with (fail)
              have HEN2 := HEN.out
              rw [← HN7.out] at HEN2
              exact ⟨⟨j + 1, _, AT, NS, by omega, by omega, by have := HN7.out; omega, by go_num, rfl, Lib.hid (by rw [HN7.out] at HEN2; exact HEN2)⟩, by first | (simp [intOf]; done) | (simp [intOf]; omega)⟩
        · have HE := Lib.hid hE
          obtain ⟨E, hEE⟩ : ∃ E, passE last notes.length AT [CT] = E := ⟨_, rfl⟩
          rw [hEE] at HP hE HE
          have hne : (E != 0) = true := by simpa using hE
          clear hE hEE
          go_wp2_with (fail)
          refine wp_region_noPanic ?_
          refine wp_region_held_drew (S := fun wx => wx.cell? ⟨b0, off + j * 2, none⟩ = some (.int .i64 AT) ∧ wx.cell? ⟨b0, off + j * 2 + 1, none⟩ = some (.int .i64 CT)) (by kernel_rfl) ?_ (fun hHeld => ?_)
          · exact ⟨d0, d1⟩
          refine wpAnyH_take (i := 0) (v := ?_) rfl (by kernel_rfl) (by kernel_rfl) (by kernel_rfl) (fun _ _ _ h => h) (Or.inl ⟨by rfl, ?hy⟩) (by assumption) ?_
          case hy => intro w hSw; (try dsimp only at hSw); go_simp; try with_reducible rfl
          try simp only [Act.put, List.getElem_toArray, List.getElem_cons_succ, List.getElem_cons_zero, List.setIfInBounds_toArray, List.set_cons_zero, List.set_cons_succ]
          refine wpAnyH_take (i := 1) (v := ?_) rfl (by kernel_rfl) (by kernel_rfl) (by kernel_rfl) (fun _ _ _ h => h) (Or.inl ⟨by rfl, ?hy⟩) (by assumption) ?_
          case hy => intro w hSw; (try dsimp only at hSw); go_simp; try with_reducible rfl
          try simp only [Act.put, List.getElem_toArray, List.getElem_cons_succ, List.getElem_cons_zero, List.setIfInBounds_toArray, List.set_cons_zero, List.set_cons_succ]
          refine wpAnyH_take (i := 2) (v := ?_) rfl (by kernel_rfl) (by kernel_rfl) (by kernel_rfl) (fun _ _ _ h => h) (Or.inl ⟨by rfl, ?hy⟩) (by assumption) ?_
          case hy => intro w hSw; (try dsimp only at hSw); go_simp; try with_reducible rfl
          try simp only [Act.put, List.getElem_toArray, List.getElem_cons_succ, List.getElem_cons_zero, List.setIfInBounds_toArray, List.set_cons_zero, List.set_cons_succ]
          refine wpAnyH_take (i := 3) (v := ?_) rfl (by kernel_rfl) (by kernel_rfl) (by kernel_rfl) (fun _ _ _ h => h) (Or.inl ⟨by rfl, ?hy⟩) (by assumption) ?_
          case hy => intro w hSw; (try dsimp only at hSw); go_simp; try with_reducible rfl
          try simp only [Act.put, List.getElem_toArray, List.getElem_cons_succ, List.getElem_cons_zero, List.setIfInBounds_toArray, List.set_cons_zero, List.set_cons_succ]
          refine wpAnyH_take (i := 4) (v := ?_) rfl (by kernel_rfl) (by kernel_rfl) (by kernel_rfl) (fun _ _ _ h => h) (Or.inl ⟨by rfl, ?hy⟩) (by assumption) ?_
          case hy => intro w hSw; (try dsimp only at hSw); go_simp; try with_reducible rfl
          try simp only [Act.put, List.getElem_toArray, List.getElem_cons_succ, List.getElem_cons_zero, List.setIfInBounds_toArray, List.set_cons_zero, List.set_cons_succ]
          refine wpAnyH_take (i := 5) (v := ?_) rfl (by kernel_rfl) (by kernel_rfl) (by kernel_rfl) (fun _ _ _ h => h) (Or.inl ⟨by rfl, ?hy⟩) (by assumption) ?_
          case hy => intro w hSw; (try dsimp only at hSw); go_simp; try with_reducible rfl
          try simp only [Act.put, List.getElem_toArray, List.getElem_cons_succ, List.getElem_cons_zero, List.setIfInBounds_toArray, List.set_cons_zero, List.set_cons_succ]
          refine wpAnyH_take (i := 6) (v := ?_) rfl (by kernel_rfl) (by kernel_rfl) (by kernel_rfl) (fun _ _ _ h => h) (Or.inl ⟨by rfl, ?hy⟩) (by assumption) ?_
          case hy => intro w hSw; (try dsimp only at hSw); go_simp; try with_reducible rfl
          try simp only [Act.put, List.getElem_toArray, List.getElem_cons_succ, List.getElem_cons_zero, List.setIfInBounds_toArray, List.set_cons_zero, List.set_cons_succ]
          refine wpAnyH_take (i := 7) (v := ?_) rfl (by kernel_rfl) (by kernel_rfl) (by kernel_rfl) (fun _ _ _ h => h) (Or.inl ⟨by rfl, ?hy⟩) (by assumption) ?_
          case hy => intro w hSw; (try dsimp only at hSw); go_simp; try with_reducible rfl
          try simp only [Act.put, List.getElem_toArray, List.getElem_cons_succ, List.getElem_cons_zero, List.setIfInBounds_toArray, List.set_cons_zero, List.set_cons_succ]
          refine wpAnyH_take (i := 8) (v := ?_) rfl (by kernel_rfl) (by kernel_rfl) (by kernel_rfl) (fun _ _ _ h => h) (Or.inl ⟨by rfl, ?hy⟩) (by assumption) ?_
          case hy => intro w hSw; (try dsimp only at hSw); go_simp; try with_reducible rfl
          try simp only [Act.put, List.getElem_toArray, List.getElem_cons_succ, List.getElem_cons_zero, List.setIfInBounds_toArray, List.set_cons_zero, List.set_cons_succ]
          refine wpAnyH_take (i := 9) (v := ?_) rfl (by kernel_rfl) (by kernel_rfl) (by kernel_rfl) (fun _ _ _ h => h) (Or.inl ⟨by rfl, ?hy⟩) (by assumption) ?_
          case hy => intro w hSw; (try dsimp only at hSw); go_simp; try with_reducible rfl
          try simp only [Act.put, List.getElem_toArray, List.getElem_cons_succ, List.getElem_cons_zero, List.setIfInBounds_toArray, List.set_cons_zero, List.set_cons_succ]
          refine wpAnyH_take (i := 10) (v := ?_) rfl (by kernel_rfl) (by kernel_rfl) (by kernel_rfl) (fun _ _ _ h => h) (Or.inl ⟨by rfl, ?hy⟩) (by assumption) ?_
          case hy => intro w hSw; (try dsimp only at hSw); go_simp; try with_reducible rfl
          try simp only [Act.put, List.getElem_toArray, List.getElem_cons_succ, List.getElem_cons_zero, List.setIfInBounds_toArray, List.set_cons_zero, List.set_cons_succ]
          refine wpAnyH_ready (rs := [11]) (by kernel_rfl) (by simp) (AllReadyH.cons rfl (fun K hK => ?_) AllReadyH.nil)
          go_simp
          skip
          try (go_wp2_with fail)
          refine hK.out _ _ ?_ (fun hHeld => ?_)
          · exact HCC.out _ (HB.out.bel.drew.alloc (show w.heap.size ≤ wy.drew.heap.size from HB.out.bel.size) _)
          clear hK K
          try simp only [Act.put, List.getElem_toArray, List.getElem_cons_succ, List.getElem_cons_zero, List.setIfInBounds_toArray, List.set_cons_zero, List.set_cons_succ]
          refine wpAnyH_ready (rs := [12]) (by kernel_rfl) (by simp) (AllReadyH.cons rfl (fun K hK => ?_) AllReadyH.nil)
          go_simp
          refine HP.out.mono ?_
          rintro e w1 ⟨rfl, hno, _⟩
          have HBB := Lib.hid (show Below wy.heap.size wy w1 from ((Below.refl wy.heap.size wy).drew).trans ((hno HE.out).mono (Nat.le_refl _)))
          have HB1 := Lib.hid (show Below w.heap.size w w1 from HB.out.bel.trans (HBB.out.mono HB.out.bel.size))
          have HB9 := Lib.hid (HB.out.below HBB.out)
          clear hno HP
          try (go_wp2_with fail)
          refine hK.out _ _ ?_ (fun hHeld => ?_)
          · exact HCC.out _ HB1.out
          clear hK K
          try simp only [Act.put, List.getElem_toArray, List.getElem_cons_succ, List.getElem_cons_zero, List.setIfInBounds_toArray, List.set_cons_zero, List.set_cons_succ]
          refine wpAnyH_take (i := 13) (v := ?_) rfl (by kernel_rfl) (by kernel_rfl) (by kernel_rfl) (fun _ _ _ h => h) (Or.inl ⟨by rfl, ?hy⟩) (by assumption) ?_
          case hy => intro w hSw; (try dsimp only at hSw); go_simp; try with_reducible rfl
          try simp only [Act.put, List.getElem_toArray, List.getElem_cons_succ, List.getElem_cons_zero, List.setIfInBounds_toArray, List.set_cons_zero, List.set_cons_succ]
          refine wpAnyH_done (by kernel_rfl) ?_ _
          refine NoPanic.normal ?_
          go_wp2_with (fail)
          exact ⟨⟨j + 1, _, last, notes, by omega, by omega, by omega, by go_num, rfl, HB9⟩, by first | (simp [intOf]; done) | (simp [intOf]; omega)⟩
      · have j2 : ¬ (j : Int) < 100 := by omega
        obtain ⟨a6, c6, hv6⟩ := ownsN_slice HB.out.row
        subst hv6
        have HF := Lib.hid (sflight_any HB.out.node)
        go_wp2_with (fail)
        refine HF.out.mono ?_
        rintro e wq ⟨rfl, hq⟩
        subst hq
        go_wp2_with (fail)
        go_ret
        exact ⟨rfl, HB.out.bel⟩
    · have j1 : ¬ (j : Int) < len := by omega
      obtain ⟨a6, c6, hv6⟩ := ownsN_slice HB.out.row
      subst hv6
      have HF := Lib.hid (sflight_any HB.out.node)
      go_wp2_with (fail)
      refine HF.out.mono ?_
      rintro e wq ⟨rfl, hq⟩
      subst hq
      go_wp2_with (fail)
      go_ret
      exact ⟨rfl, HB.out.bel⟩
end Go.Proofs.Ytejkfmepiagabaa
