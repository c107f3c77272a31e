/- Texts of one chain, one behind the other: R3A, R3B, R3C. -/
import Derived.Test.YtemlafbkkaloiaaGreatGWinC
import Derived.Test.YtemlafbkkaloiaaGreatGWinB

/- Plain: the reference's window, a list of buckets, rising, each with the sums themselves. No program here. -/
namespace Go.Proofs.YtemlafbkkaloiaaGreat
open Go.RowKit
set_option linter.unusedVariables false
set_option linter.unusedSimpArgs false

structure Bk3 where
  at_ : Int
  r : RawC
def begB (b at_ : Int) : Int := at_ - at_ % b
def addL (b at_ : Int) (c : CntS) (L : List Bk3) : List Bk3 :=
  match L.getLast? with
  | some x => if x.at_ = begB b at_ then L.dropLast ++ [⟨x.at_, x.r.add (rawOf c)⟩] else L ++ [⟨begB b at_, rawOf c⟩]
  | none => [⟨begB b at_, rawOf c⟩]
def sumLR (P : Int → Bool) : List Bk3 → RawC
  | [] => .zero
  | k :: L => (if P k.at_ then k.r else .zero).add (sumLR P L)
theorem sumB_append (P : Int → Bool) : ∀ L M : List Bk3, sumLR P (L ++ M) = (sumLR P L).add (sumLR P M)
  | [], M => by rw [List.nil_append, sumLR, RawC.zero_add]
  | k :: L, M => by rw [List.cons_append, sumLR, sumLR, sumB_append P L M, RawC.add_assoc]
theorem sumB_one (P : Int → Bool) (k : Bk3) : sumLR P [k] = if P k.at_ then k.r else .zero := by rw [sumLR, sumLR, RawC.add_zero]
structure InvL (b last : Int) (notes : List NoteW) (L : List Bk3) : Prop where
  sum : ∀ P : Int → Bool, sumLR P L = sumW (fun x => P (begB b x.at_)) notes
  ok : ∀ k, k ∈ L → RawOk k.r ∧ 1 ≤ k.r.d
  mul : ∀ k, k ∈ L → 0 ≤ k.at_ ∧ k.at_ % b = 0 ∧ k.at_ ≤ last
  len : ∀ x, L.getLast? = some x → (L.length : Int) ≤ x.at_ / b + 1
theorem invL_nil (b last : Int) : InvL b last [] [] := ⟨fun P => rfl, fun k h => by simp at h, fun k h => by simp at h, fun x h => by simp at h⟩
theorem beg_facts {b at_ : Int} (hb : 1 ≤ b) (h0 : 0 ≤ at_) : 0 ≤ begB b at_ ∧ begB b at_ % b = 0 ∧ begB b at_ ≤ at_ ∧ begB b at_ / b = at_ / b ∧ begB b at_ = b * (at_ / b) := by
  unfold begB
  have h1 := Int.emod_nonneg at_ (show b ≠ 0 by omega)
  have h2 := Int.emod_lt_of_pos at_ (show 0 < b by omega)
  have h3 := Int.mul_ediv_add_emod at_ b
  have h4 : at_ - at_ % b = b * (at_ / b) := by omega
  have h5 : 0 ≤ at_ / b := Int.ediv_nonneg h0 (by omega)
  rw [h4]
  refine ⟨Int.mul_nonneg (by omega) h5, Int.mul_emod_right _ _, by omega, Int.mul_ediv_cancel_left _ (by omega), rfl⟩
theorem mul_lt {b x at_ : Int} (hb : 1 ≤ b) (hx : x % b = 0) (hle : x ≤ at_) (hne : x ≠ begB b at_) (h0 : 0 ≤ at_) : x / b + 1 ≤ at_ / b := by
  have h3 := Int.mul_ediv_add_emod x b
  have h4 := (beg_facts hb h0).2.2.2.2
  have h5 : x / b ≤ at_ / b := Int.ediv_le_ediv (by omega) hle
  rcases Int.lt_or_eq_of_le h5 with h | h
  · omega
  · exfalso
    apply hne
    rw [h4, ← h]
    omega
theorem sumW_snocB (P : NoteW → Bool) (l : List NoteW) (x : NoteW) : sumW P (l ++ [x]) = (sumW P l).add (if P x then rawOf x.c else .zero) := by rw [sumW_append, sumW, sumW, RawC.add_zero]
theorem InvL.add {b last at_ : Int} {notes : List NoteW} {L : List Bk3} (h : InvL b last notes L) (hb : 1 ≤ b) (hl : last ≤ at_) (h0 : 0 ≤ at_) {c : CntS} (hc : RightC c) (hd : 1 ≤ c.d) : InvL b at_ (notes ++ [⟨at_, c⟩]) (addL b at_ c L) := by
  obtain ⟨g0, g1, g2, g3, g4⟩ := beg_facts hb h0
  unfold addL
  cases hL : L.getLast? with
  | none =>
    obtain rfl := List.getLast?_eq_none_iff.1 hL
    refine ⟨fun P => ?_, fun k hk => ?_, fun k hk => ?_, fun x hx => ?_⟩
    · have := h.sum P
      rw [sumW_snocB, ← this]
      show sumLR P [_] = (sumLR P []).add _
      rw [sumB_one, sumLR, RawC.zero_add]
    · obtain rfl := List.mem_singleton.1 hk; exact ⟨rawOk_of hc, hd⟩
    · obtain rfl := List.mem_singleton.1 hk; exact ⟨g0, g1, g2⟩
    · simp at hx; subst hx; show (1 : Int) ≤ begB b at_ / b + 1
      have := Int.ediv_nonneg g0 (show 0 ≤ b by omega); omega
  | some x =>
    dsimp only
    have hmem : x ∈ L := List.mem_of_getLast? hL
    obtain ⟨L0, hL0⟩ := List.getLast?_eq_some_iff.1 hL
    subst hL0
    by_cases he : x.at_ = begB b at_
    · rw [if_pos he, List.dropLast_concat]
      refine ⟨fun P => ?_, fun k hk => ?_, fun k hk => ?_, fun y hy => ?_⟩
      · have := h.sum P
        rw [sumW_snocB, ← this, sumB_append, sumB_append, sumB_one, sumB_one, RawC.add_assoc]
        congr 1
        show (if P x.at_ then x.r.add (rawOf c) else .zero) = (if P x.at_ then x.r else .zero).add (if P (begB b at_) then rawOf c else .zero)
        rw [← he]
        cases P x.at_ <;> simp [RawC.add_zero]
      · rcases List.mem_append.1 hk with hk | hk
        · exact h.ok k (List.mem_append.2 (Or.inl hk))
        · obtain rfl := List.mem_singleton.1 hk
          have h1 := h.ok x hmem
          refine ⟨h1.1.add (rawOk_of hc), ?_⟩
          have h2 := h1.2
          show 1 ≤ x.r.d + c.d
          omega
      · rcases List.mem_append.1 hk with hk | hk
        · have := h.mul k (List.mem_append.2 (Or.inl hk)); exact ⟨this.1, this.2.1, by omega⟩
        · obtain rfl := List.mem_singleton.1 hk
          have := h.mul x hmem; exact ⟨this.1, this.2.1, by show x.at_ ≤ at_; omega⟩
      · have hy2 : (⟨x.at_, x.r.add (rawOf c)⟩ : Bk3) = y := by simpa using hy
        subst hy2
        have := h.len x hL
        simp at this ⊢
        exact this
    · rw [if_neg he]
      refine ⟨fun P => ?_, fun k hk => ?_, fun k hk => ?_, fun y hy => ?_⟩
      · have := h.sum P
        rw [sumW_snocB, ← this, sumB_append P (L0 ++ [x]), sumB_one]
      · rcases List.mem_append.1 hk with hk | hk
        · exact h.ok k hk
        · obtain rfl := List.mem_singleton.1 hk; exact ⟨rawOk_of hc, hd⟩
      · rcases List.mem_append.1 hk with hk | hk
        · have := h.mul k hk; exact ⟨this.1, this.2.1, by omega⟩
        · obtain rfl := List.mem_singleton.1 hk; exact ⟨g0, g1, g2⟩
      · have hy2 : (⟨begB b at_, rawOf c⟩ : Bk3) = y := by simpa using hy
        subst hy2
        have h1 := h.len x hL
        have h2 := h.mul x hmem
        have h3 := mul_lt hb h2.2.1 (by omega) he h0
        rw [List.length_append]
        show (((L0 ++ [x]).length + 1 : Nat) : Int) ≤ begB b at_ / b + 1
        rw [g3]
        push_cast
        omega
theorem InvL.few {b last : Int} {notes : List NoteW} {L : List Bk3} (h : InvL b last notes L) (hb : 1000000 ≤ b) (hl : last ≤ 1152921504606846976) : L.length ≤ 1152921504608 := by
  cases hL : L.getLast? with
  | none => rw [List.getLast?_eq_none_iff.1 hL]; simp
  | some x =>
    have h1 := h.len x hL
    have h2 := h.mul x (List.mem_of_getLast? hL)
    have h3 : x.at_ / b ≤ x.at_ / 1000000 := by
      apply Int.le_ediv_of_mul_le (by omega)
      have := Int.mul_ediv_add_emod x.at_ b
      have h5 := Int.emod_nonneg x.at_ (show b ≠ 0 by omega)
      have h6 : 0 ≤ x.at_ / b := Int.ediv_nonneg h2.1 (by omega)
      have h7 : x.at_ / b * 1000000 ≤ x.at_ / b * b := Int.mul_le_mul_of_nonneg_left hb h6
      have h8 : x.at_ / b * b = b * (x.at_ / b) := Int.mul_comm _ _
      omega
    omega
/-- What the list tells at a time: the sums of what lies in the window. -/
theorem joinB (P : Int → Bool) : ∀ {L : List Bk3} {A : RawC}, RawOk A → (∀ k, k ∈ L → RawOk k.r) → joinC (imgC A) ((L.filter (fun k => P k.at_)).map (fun k => imgC k.r)) = imgC (A.add (sumLR P L))
  | [], A, _, _ => by simp [joinC, sumLR, RawC.add_zero]
  | k :: L, A, hA, h => by
    have hk := h k (by simp)
    have ih := fun {A : RawC} (hA : RawOk A) => joinB P (L := L) (A := A) hA (fun x hx => h x (by simp [hx]))
    cases hP : P k.at_ with
    | true =>
      rw [List.filter_cons, if_pos hP, List.map_cons]
      show joinC (twoC (imgC A) (imgC k.r)) _ = _
      rw [twoC_img hA hk, ih (hA.add hk), sumLR, if_pos hP, RawC.add_assoc]
    | false =>
      rw [List.filter_cons, if_neg (by rw [hP]; simp), ih hA, sumLR, if_neg (by rw [hP]; simp), RawC.zero_add]
def inBk3 (b at_ : Int) (t : Int) : Bool := decide (begB b at_ - b < t)
theorem inB_win {b at_ : Int} (hb : 1 ≤ b) (h0 : 0 ≤ at_) {t : Int} (ht : 0 ≤ t) : inBk3 b at_ (begB b t) = decide (at_ / b - 1 < t / b) := by
  unfold inBk3
  rw [(beg_facts hb h0).2.2.2.2, (beg_facts hb ht).2.2.2.2]
  apply decide_eq_decide.2
  constructor
  · intro h
    have h1 : b * (at_ / b - 1) < b * (t / b) := by rw [Int.mul_sub]; omega
    exact Int.lt_of_mul_lt_mul_left h1 (by omega)
  · intro h
    have h1 := Int.mul_lt_mul_of_pos_left h (show 0 < b by omega)
    rw [Int.mul_sub] at h1
    omega
theorem sumW_congrB {p q : NoteW → Bool} : ∀ {l : List NoteW}, (∀ x, x ∈ l → p x = q x) → sumW p l = sumW q l
  | [], _ => rfl
  | x :: l, h => by rw [sumW, sumW, h x (by simp), sumW_congrB (fun y hy => h y (by simp [hy]))]
theorem InvL.tells {b last at_ : Int} {notes : List NoteW} {L : List Bk3} (h : InvL b last notes L) (hb : 1 ≤ b) (h0 : 0 ≤ at_) (hn : ∀ x, x ∈ notes → 0 ≤ x.at_) : joinC .zero ((L.filter (fun k => inBk3 b at_ k.at_)).map (fun k => imgC k.r)) = winC b 1 at_ notes := by
  have e := joinB (inBk3 b at_) (L := L) rawOk_zero (fun k hk => (h.ok k hk).1)
  rw [imgC_zero, RawC.zero_add, h.sum] at e
  rw [e]
  unfold winC
  rw [sumW_congrB (fun x hx => inB_win hb h0 (hn x hx))]
end Go.Proofs.YtemlafbkkaloiaaGreat

/- The reference's window: two counts together, what is right, all together. -/
namespace Go.Proofs.YtemlafbkkaloiaaGreat
open Go.RowKit
set_option linter.unusedVariables false
set_option linter.unusedSimpArgs false

set_option maxHeartbeats 800000 in
theorem r3sum_any (a b : Int) (a0 : 0 ≤ a) (a1 : a ≤ 4611686018427387904) (b0 : 0 ≤ b) (b1 : b ≤ 4611686018427387904) (w : World) :
    Calls Tryz.prog 109 #[.int .i64 a, .int .i64 b] w fun e w' => e = .returned (.int .i64 (plusW a b)) ∧ w' = w := by
  by_cases h : 4611686018427387904 - b < a
  · have e : plusW a b = 4611686018427387904 := by unfold plusW; rw [if_neg (by omega)]; omega
    rw [e]
    go_enter Tryz.func109, Tryz.ntmps109
    go_wp2_with (fail)
    go_ret
    exact ⟨rfl, rfl⟩
  · have e : plusW a b = a + b := by unfold plusW; split <;> omega
    rw [e]
    go_enter Tryz.func109, Tryz.ntmps109
    go_wp2_with (fail)
    go_ret
    exact ⟨rfl, rfl⟩
set_option maxHeartbeats 12800000 in
set_option maxRecDepth 100000 in
theorem r3two_any (x y : CntS) (hx : RightC x) (hy : RightC y) (w : World) : Calls Tryz.prog 88 #[ctV x, ctV y] w fun e w' => e = .returned (ctV (twoC x y)) ∧ Below w.heap.size w w' := by
  have C0 := Lib.hid (fun w => r3sum_any x.p y.p hx.p0 hx.p1 hy.p0 hy.p1 w)
  have C1 := Lib.hid (fun w => r3sum_any x.b y.b hx.b0 hx.b1 hy.b0 hy.b1 w)
  have C2 := Lib.hid (fun w => r3sum_any x.d y.d hx.d0 hx.d1 hy.d0 hy.d1 w)
  have C3 := Lib.hid (fun w => r3sum_any x.e y.e hx.e0 hx.e1 hy.e0 hy.e1 w)
  have C4 := Lib.hid (fun w => r3sum_any x.r y.r hx.r0 hx.r1 hy.r0 hy.r1 w)
  obtain ⟨M, hM⟩ : ∃ M, M = (twoC x y).m := ⟨_, rfl⟩
  have HV := Lib.hid (show ctV (twoC x y) = .agg #[.int .i64 (plusW x.p y.p), .int .i64 (plusW x.b y.b), .int .i64 (plusW x.d y.d), .int .i64 (plusW x.e y.e), .int .i64 (plusW x.r y.r), .int .i64 M] by rw [hM]; rfl)
  have HM := Lib.hid (show M = if x.d = 0 then y.m else if y.d = 0 then x.m else if x.m < y.m then x.m else y.m from hM)
  generalize plusW x.p y.p = P0 at C0 HV
  generalize plusW x.b y.b = P1 at C1 HV
  generalize plusW x.d y.d = P2 at C2 HV
  generalize plusW x.e y.e = P3 at C3 HV
  generalize plusW x.r y.r = P4 at C4 HV
  unfold ctV at HV
  unfold ctV
  rw [HV.out]
  clear hx hy hM HV
  go_enter Tryz.func88, Tryz.ntmps88
  go_wp2_with (fail)
  obtain ⟨W0, hW0⟩ : ∃ W0, ((w.alloc (ctO x 92)).alloc (ctO y 92)).alloc (ctO .zero 92) = W0 := ⟨_, rfl⟩
  obtain ⟨hsz, hSW, hBW, hR, hfz, hg2⟩ := two_open x y w W0 hW0
  have HSW := Lib.hid hSW
  have HBW := Lib.hid hBW
  have HR := Lib.hid hR
  have HSZ := Lib.hid hsz
  have HFZ := Lib.hid hfz
  have HG2 := Lib.hid hg2
  unfold ctO CntS.zero at hW0
  dsimp only at hW0
  rw [hW0]
  clear hW0 hSW hBW hR hsz hfz hg2
  generalize hNN : w.heap.size = N at *
  have HNN := Lib.hid hNN
  clear hNN
  refine wp_midW (fun a a' w' => TwoR a a' w' W0 P0 P1 P2 P3 P4) ?_ ?_
  · refine wp_region_noPanic ?_
    refine wp_region_held_drew (S := STwo N W0 x y) (by kernel_rfl) ?_ (fun hHeld => ?_)
    · exact HSW.out.drew
    refine wpAnyH_take (i := 0) (v := ?_) rfl (by kernel_rfl) (by kernel_rfl) (by kernel_rfl) (fun _ _ _ h => h) (Or.inl ⟨by rfl, ?hy⟩) (by assumption) ?_
    case hy => intro wq hSw; obtain ⟨a0, a1, a2, a3, a4, a5, b0, b1, b2, b3, b4, b5, hz, hB⟩ := hSw; go_simp; try with_reducible rfl
    try simp only [Act.put, List.getElem_toArray, List.getElem_cons_succ, List.getElem_cons_zero, List.setIfInBounds_toArray, List.set_cons_zero, List.set_cons_succ]
    refine wpAnyH_take (i := 1) (v := ?_) rfl (by kernel_rfl) (by kernel_rfl) (by kernel_rfl) (fun _ _ _ h => h) (Or.inl ⟨by rfl, ?hy⟩) (by assumption) ?_
    case hy => intro wq hSw; obtain ⟨a0, a1, a2, a3, a4, a5, b0, b1, b2, b3, b4, b5, hz, hB⟩ := hSw; go_simp; try with_reducible rfl
    try simp only [Act.put, List.getElem_toArray, List.getElem_cons_succ, List.getElem_cons_zero, List.setIfInBounds_toArray, List.set_cons_zero, List.set_cons_succ]
    refine wpAnyH_take (i := 2) (v := ?_) rfl (by kernel_rfl) (by kernel_rfl) (by kernel_rfl) (fun _ _ _ h => h) (Or.inl ⟨by rfl, ?hy⟩) (by assumption) ?_
    case hy => intro wq hSw; obtain ⟨a0, a1, a2, a3, a4, a5, b0, b1, b2, b3, b4, b5, hz, hB⟩ := hSw; go_simp; try with_reducible rfl
    try simp only [Act.put, List.getElem_toArray, List.getElem_cons_succ, List.getElem_cons_zero, List.setIfInBounds_toArray, List.set_cons_zero, List.set_cons_succ]
    refine wpAnyH_take (i := 3) (v := ?_) rfl (by kernel_rfl) (by kernel_rfl) (by kernel_rfl) (fun _ _ _ h => h) (Or.inl ⟨by rfl, ?hy⟩) (by assumption) ?_
    case hy => intro wq hSw; obtain ⟨a0, a1, a2, a3, a4, a5, b0, b1, b2, b3, b4, b5, hz, hB⟩ := hSw; go_simp; try with_reducible rfl
    try simp only [Act.put, List.getElem_toArray, List.getElem_cons_succ, List.getElem_cons_zero, List.setIfInBounds_toArray, List.set_cons_zero, List.set_cons_succ]
    refine wpAnyH_take (i := 5) (v := ?_) rfl (by kernel_rfl) (by kernel_rfl) (by kernel_rfl) (fun _ _ _ h => h) (Or.inl ⟨by rfl, ?hy⟩) (by assumption) ?_
    case hy => intro wq hSw; obtain ⟨a0, a1, a2, a3, a4, a5, b0, b1, b2, b3, b4, b5, hz, hB⟩ := hSw; go_simp; try with_reducible rfl
    try simp only [Act.put, List.getElem_toArray, List.getElem_cons_succ, List.getElem_cons_zero, List.setIfInBounds_toArray, List.set_cons_zero, List.set_cons_succ]
    refine wpAnyH_take (i := 6) (v := ?_) rfl (by kernel_rfl) (by kernel_rfl) (by kernel_rfl) (fun _ _ _ h => h) (Or.inl ⟨by rfl, ?hy⟩) (by assumption) ?_
    case hy => intro wq hSw; obtain ⟨a0, a1, a2, a3, a4, a5, b0, b1, b2, b3, b4, b5, hz, hB⟩ := hSw; go_simp; try with_reducible rfl
    try simp only [Act.put, List.getElem_toArray, List.getElem_cons_succ, List.getElem_cons_zero, List.setIfInBounds_toArray, List.set_cons_zero, List.set_cons_succ]
    refine wpAnyH_take (i := 7) (v := ?_) rfl (by kernel_rfl) (by kernel_rfl) (by kernel_rfl) (fun _ _ _ h => h) (Or.inl ⟨by rfl, ?hy⟩) (by assumption) ?_
    case hy => intro wq hSw; obtain ⟨a0, a1, a2, a3, a4, a5, b0, b1, b2, b3, b4, b5, hz, hB⟩ := hSw; go_simp; try with_reducible rfl
    try simp only [Act.put, List.getElem_toArray, List.getElem_cons_succ, List.getElem_cons_zero, List.setIfInBounds_toArray, List.set_cons_zero, List.set_cons_succ]
    refine wpAnyH_take (i := 8) (v := ?_) rfl (by kernel_rfl) (by kernel_rfl) (by kernel_rfl) (fun _ _ _ h => h) (Or.inl ⟨by rfl, ?hy⟩) (by assumption) ?_
    case hy => intro wq hSw; obtain ⟨a0, a1, a2, a3, a4, a5, b0, b1, b2, b3, b4, b5, hz, hB⟩ := hSw; go_simp; try with_reducible rfl
    try simp only [Act.put, List.getElem_toArray, List.getElem_cons_succ, List.getElem_cons_zero, List.setIfInBounds_toArray, List.set_cons_zero, List.set_cons_succ]
    refine wpAnyH_take (i := 10) (v := ?_) rfl (by kernel_rfl) (by kernel_rfl) (by kernel_rfl) (fun _ _ _ h => h) (Or.inl ⟨by rfl, ?hy⟩) (by assumption) ?_
    case hy => intro wq hSw; obtain ⟨a0, a1, a2, a3, a4, a5, b0, b1, b2, b3, b4, b5, hz, hB⟩ := hSw; go_simp; try with_reducible rfl
    try simp only [Act.put, List.getElem_toArray, List.getElem_cons_succ, List.getElem_cons_zero, List.setIfInBounds_toArray, List.set_cons_zero, List.set_cons_succ]
    refine wpAnyH_take (i := 11) (v := ?_) rfl (by kernel_rfl) (by kernel_rfl) (by kernel_rfl) (fun _ _ _ h => h) (Or.inl ⟨by rfl, ?hy⟩) (by assumption) ?_
    case hy => intro wq hSw; obtain ⟨a0, a1, a2, a3, a4, a5, b0, b1, b2, b3, b4, b5, hz, hB⟩ := hSw; go_simp; try with_reducible rfl
    try simp only [Act.put, List.getElem_toArray, List.getElem_cons_succ, List.getElem_cons_zero, List.setIfInBounds_toArray, List.set_cons_zero, List.set_cons_succ]
    refine wpAnyH_take (i := 12) (v := ?_) rfl (by kernel_rfl) (by kernel_rfl) (by kernel_rfl) (fun _ _ _ h => h) (Or.inl ⟨by rfl, ?hy⟩) (by assumption) ?_
    case hy => intro wq hSw; obtain ⟨a0, a1, a2, a3, a4, a5, b0, b1, b2, b3, b4, b5, hz, hB⟩ := hSw; go_simp; try with_reducible rfl
    try simp only [Act.put, List.getElem_toArray, List.getElem_cons_succ, List.getElem_cons_zero, List.setIfInBounds_toArray, List.set_cons_zero, List.set_cons_succ]
    refine wpAnyH_take (i := 13) (v := ?_) rfl (by kernel_rfl) (by kernel_rfl) (by kernel_rfl) (fun _ _ _ h => h) (Or.inl ⟨by rfl, ?hy⟩) (by assumption) ?_
    case hy => intro wq hSw; obtain ⟨a0, a1, a2, a3, a4, a5, b0, b1, b2, b3, b4, b5, hz, hB⟩ := hSw; go_simp; try with_reducible rfl
    try simp only [Act.put, List.getElem_toArray, List.getElem_cons_succ, List.getElem_cons_zero, List.setIfInBounds_toArray, List.set_cons_zero, List.set_cons_succ]
    refine wpAnyH_take (i := 15) (v := ?_) rfl (by kernel_rfl) (by kernel_rfl) (by kernel_rfl) (fun _ _ _ h => h) (Or.inl ⟨by rfl, ?hy⟩) (by assumption) ?_
    case hy => intro wq hSw; obtain ⟨a0, a1, a2, a3, a4, a5, b0, b1, b2, b3, b4, b5, hz, hB⟩ := hSw; go_simp; try with_reducible rfl
    try simp only [Act.put, List.getElem_toArray, List.getElem_cons_succ, List.getElem_cons_zero, List.setIfInBounds_toArray, List.set_cons_zero, List.set_cons_succ]
    refine wpAnyH_take (i := 16) (v := ?_) rfl (by kernel_rfl) (by kernel_rfl) (by kernel_rfl) (fun _ _ _ h => h) (Or.inl ⟨by rfl, ?hy⟩) (by assumption) ?_
    case hy => intro wq hSw; obtain ⟨a0, a1, a2, a3, a4, a5, b0, b1, b2, b3, b4, b5, hz, hB⟩ := hSw; go_simp; try with_reducible rfl
    try simp only [Act.put, List.getElem_toArray, List.getElem_cons_succ, List.getElem_cons_zero, List.setIfInBounds_toArray, List.set_cons_zero, List.set_cons_succ]
    refine wpAnyH_take (i := 17) (v := ?_) rfl (by kernel_rfl) (by kernel_rfl) (by kernel_rfl) (fun _ _ _ h => h) (Or.inl ⟨by rfl, ?hy⟩) (by assumption) ?_
    case hy => intro wq hSw; obtain ⟨a0, a1, a2, a3, a4, a5, b0, b1, b2, b3, b4, b5, hz, hB⟩ := hSw; go_simp; try with_reducible rfl
    try simp only [Act.put, List.getElem_toArray, List.getElem_cons_succ, List.getElem_cons_zero, List.setIfInBounds_toArray, List.set_cons_zero, List.set_cons_succ]
    refine wpAnyH_take (i := 18) (v := ?_) rfl (by kernel_rfl) (by kernel_rfl) (by kernel_rfl) (fun _ _ _ h => h) (Or.inl ⟨by rfl, ?hy⟩) (by assumption) ?_
    case hy => intro wq hSw; obtain ⟨a0, a1, a2, a3, a4, a5, b0, b1, b2, b3, b4, b5, hz, hB⟩ := hSw; go_simp; try with_reducible rfl
    try simp only [Act.put, List.getElem_toArray, List.getElem_cons_succ, List.getElem_cons_zero, List.setIfInBounds_toArray, List.set_cons_zero, List.set_cons_succ]
    refine wpAnyH_take (i := 20) (v := ?_) rfl (by kernel_rfl) (by kernel_rfl) (by kernel_rfl) (fun _ _ _ h => h) (Or.inl ⟨by rfl, ?hy⟩) (by assumption) ?_
    case hy => intro wq hSw; obtain ⟨a0, a1, a2, a3, a4, a5, b0, b1, b2, b3, b4, b5, hz, hB⟩ := hSw; go_simp; try with_reducible rfl
    try simp only [Act.put, List.getElem_toArray, List.getElem_cons_succ, List.getElem_cons_zero, List.setIfInBounds_toArray, List.set_cons_zero, List.set_cons_succ]
    refine wpAnyH_take (i := 21) (v := ?_) rfl (by kernel_rfl) (by kernel_rfl) (by kernel_rfl) (fun _ _ _ h => h) (Or.inl ⟨by rfl, ?hy⟩) (by assumption) ?_
    case hy => intro wq hSw; obtain ⟨a0, a1, a2, a3, a4, a5, b0, b1, b2, b3, b4, b5, hz, hB⟩ := hSw; go_simp; try with_reducible rfl
    try simp only [Act.put, List.getElem_toArray, List.getElem_cons_succ, List.getElem_cons_zero, List.setIfInBounds_toArray, List.set_cons_zero, List.set_cons_succ]
    refine wpAnyH_take (i := 22) (v := ?_) rfl (by kernel_rfl) (by kernel_rfl) (by kernel_rfl) (fun _ _ _ h => h) (Or.inl ⟨by rfl, ?hy⟩) (by assumption) ?_
    case hy => intro wq hSw; obtain ⟨a0, a1, a2, a3, a4, a5, b0, b1, b2, b3, b4, b5, hz, hB⟩ := hSw; go_simp; try with_reducible rfl
    try simp only [Act.put, List.getElem_toArray, List.getElem_cons_succ, List.getElem_cons_zero, List.setIfInBounds_toArray, List.set_cons_zero, List.set_cons_succ]
    refine wpAnyH_take (i := 23) (v := ?_) rfl (by kernel_rfl) (by kernel_rfl) (by kernel_rfl) (fun _ _ _ h => h) (Or.inl ⟨by rfl, ?hy⟩) (by assumption) ?_
    case hy => intro wq hSw; obtain ⟨a0, a1, a2, a3, a4, a5, b0, b1, b2, b3, b4, b5, hz, hB⟩ := hSw; go_simp; try with_reducible rfl
    try simp only [Act.put, List.getElem_toArray, List.getElem_cons_succ, List.getElem_cons_zero, List.setIfInBounds_toArray, List.set_cons_zero, List.set_cons_succ]
    refine wpAnyH_ready (rs := [4, 26]) (by kernel_rfl) (by simp) (AllReadyH.cons rfl (fun K hK => ?_) (AllReadyH.cons rfl (fun K hK => ?_) AllReadyH.nil))
    · go_simp
      refine (C0.out _).mono ?_
      rintro e w5 ⟨rfl, rfl⟩
      try (go_wp2_with fail)
      refine hK.out _ _ hHeld (fun hHeld => ?_)
      clear hK K
      try simp only [Act.put, List.getElem_toArray, List.getElem_cons_succ, List.getElem_cons_zero, List.setIfInBounds_toArray, List.set_cons_zero, List.set_cons_succ]
      refine wpAnyH_ready (rs := [9, 26]) (by kernel_rfl) (by simp) (AllReadyH.cons rfl (fun K hK => ?_) (AllReadyH.cons rfl (fun K hK => ?_) AllReadyH.nil))
      · go_simp
        refine (C1.out _).mono ?_
        rintro e w5 ⟨rfl, rfl⟩
        try (go_wp2_with fail)
        refine hK.out _ _ hHeld (fun hHeld => ?_)
        clear hK K
        try simp only [Act.put, List.getElem_toArray, List.getElem_cons_succ, List.getElem_cons_zero, List.setIfInBounds_toArray, List.set_cons_zero, List.set_cons_succ]
        refine wpAnyH_ready (rs := [14, 26]) (by kernel_rfl) (by simp) (AllReadyH.cons rfl (fun K hK => ?_) (AllReadyH.cons rfl (fun K hK => ?_) AllReadyH.nil))
        · go_simp
          refine (C2.out _).mono ?_
          rintro e w5 ⟨rfl, rfl⟩
          try (go_wp2_with fail)
          refine hK.out _ _ hHeld (fun hHeld => ?_)
          clear hK K
          try simp only [Act.put, List.getElem_toArray, List.getElem_cons_succ, List.getElem_cons_zero, List.setIfInBounds_toArray, List.set_cons_zero, List.set_cons_succ]
          refine wpAnyH_ready (rs := [19, 26]) (by kernel_rfl) (by simp) (AllReadyH.cons rfl (fun K hK => ?_) (AllReadyH.cons rfl (fun K hK => ?_) AllReadyH.nil))
          · go_simp
            refine (C3.out _).mono ?_
            rintro e w5 ⟨rfl, rfl⟩
            try (go_wp2_with fail)
            refine hK.out _ _ hHeld (fun hHeld => ?_)
            clear hK K
            try simp only [Act.put, List.getElem_toArray, List.getElem_cons_succ, List.getElem_cons_zero, List.setIfInBounds_toArray, List.set_cons_zero, List.set_cons_succ]
            refine wpAnyH_ready (rs := [24, 26]) (by kernel_rfl) (by simp) (AllReadyH.cons rfl (fun K hK => ?_) (AllReadyH.cons rfl (fun K hK => ?_) AllReadyH.nil))
            · go_simp
              refine (C4.out _).mono ?_
              rintro e w5 ⟨rfl, rfl⟩
              try (go_wp2_with fail)
              refine hK.out _ _ hHeld (fun hHeld => ?_)
              clear hK K
              try simp only [Act.put, List.getElem_toArray, List.getElem_cons_succ, List.getElem_cons_zero, List.setIfInBounds_toArray, List.set_cons_zero, List.set_cons_succ]
              refine wpAnyH_take (i := 25) (v := ?_) rfl (by kernel_rfl) (by kernel_rfl) (by kernel_rfl) (fun _ _ _ h => h) (Or.inl ⟨by rfl, ?hy⟩) (by assumption) ?_
              case hy => intro wq hSw; obtain ⟨a0, a1, a2, a3, a4, a5, b0, b1, b2, b3, b4, b5, hz, hB⟩ := hSw; go_simp; try with_reducible rfl
              try simp only [Act.put, List.getElem_toArray, List.getElem_cons_succ, List.getElem_cons_zero, List.setIfInBounds_toArray, List.set_cons_zero, List.set_cons_succ]
              refine wpAnyH_ready (rs := [26]) (by kernel_rfl) (by simp) (AllReadyH.cons rfl (fun K hK => ?_) AllReadyH.nil)
              go_simp
              try (go_wp2_with fail)
              refine hK.out _ _ (hHeld.alloc _) (fun hHeld => ?_)
              clear hK K
              try simp only [Act.put, List.getElem_toArray, List.getElem_cons_succ, List.getElem_cons_zero, List.setIfInBounds_toArray, List.set_cons_zero, List.set_cons_succ]
              refine wpAnyH_ready (rs := [27]) (by kernel_rfl) (by simp) (AllReadyH.cons rfl (fun K hK => ?_) AllReadyH.nil)
              go_simp
              try (go_wp2_with fail)
              have hSL := (HSW.out.alloc (.cells #[.int .i64 P0, .int .i64 P1, .int .i64 P2, .int .i64 P3, .int .i64 P4, .int .i64 0] 92)).drew
              refine hK.out _ _ hSL (fun hHeld => ?_)
              clear hK K
              try simp only [Act.put, List.getElem_toArray, List.getElem_cons_succ, List.getElem_cons_zero, List.setIfInBounds_toArray, List.set_cons_zero, List.set_cons_succ]
              refine wpAnyH_done (by kernel_rfl) ?_ _
              refine NoPanic.normal ?_
              refine ⟨rfl, .pointer (some ⟨N, 0, none⟩), .int .i64 x.p, .pointer (some ⟨N + 1, 0, none⟩), .int .i64 y.p, .int .i64 P0, .pointer (some ⟨N, 1, none⟩), .int .i64 x.b, .pointer (some ⟨N + 1, 1, none⟩), .int .i64 y.b, .int .i64 P1, .pointer (some ⟨N, 2, none⟩), .int .i64 x.d, .pointer (some ⟨N + 1, 2, none⟩), .int .i64 y.d, .int .i64 P2, .pointer (some ⟨N, 3, none⟩), .int .i64 x.e, .pointer (some ⟨N + 1, 3, none⟩), .int .i64 y.e, .int .i64 P3, .pointer (some ⟨N, 4, none⟩), .int .i64 x.r, .pointer (some ⟨N + 1, 4, none⟩), .int .i64 y.r, .int .i64 P4, .agg #[.int .i64 P0, .int .i64 P1, .int .i64 P2, .int .i64 P3, .int .i64 P4, .int .i64 0], ?_, rfl⟩
              simp only [Act.put, List.setIfInBounds_toArray, List.set_cons_zero, List.set_cons_succ]
            · go_simp
              try (go_wp2_with fail)
              refine hK.out _ _ (hHeld.alloc _) (fun hHeld => ?_)
              clear hK K
              try simp only [Act.put, List.getElem_toArray, List.getElem_cons_succ, List.getElem_cons_zero, List.setIfInBounds_toArray, List.set_cons_zero, List.set_cons_succ]
              refine wpAnyH_ready (rs := [24]) (by kernel_rfl) (by simp) (AllReadyH.cons rfl (fun K hK => ?_) AllReadyH.nil)
              go_simp
              refine (C4.out _).mono ?_
              rintro e w5 ⟨rfl, rfl⟩
              try (go_wp2_with fail)
              refine hK.out _ _ hHeld (fun hHeld => ?_)
              clear hK K
              try simp only [Act.put, List.getElem_toArray, List.getElem_cons_succ, List.getElem_cons_zero, List.setIfInBounds_toArray, List.set_cons_zero, List.set_cons_succ]
              refine wpAnyH_take (i := 25) (v := ?_) rfl (by kernel_rfl) (by kernel_rfl) (by kernel_rfl) (fun _ _ _ h => h) (Or.inl ⟨by rfl, ?hy⟩) (by assumption) ?_
              case hy => intro wq hSw; obtain ⟨a0, a1, a2, a3, a4, a5, b0, b1, b2, b3, b4, b5, hz, hB⟩ := hSw; go_simp; try with_reducible rfl
              try simp only [Act.put, List.getElem_toArray, List.getElem_cons_succ, List.getElem_cons_zero, List.setIfInBounds_toArray, List.set_cons_zero, List.set_cons_succ]
              refine wpAnyH_ready (rs := [27]) (by kernel_rfl) (by simp) (AllReadyH.cons rfl (fun K hK => ?_) AllReadyH.nil)
              go_simp
              try (go_wp2_with fail)
              have hSL := (HSW.out.alloc (.cells #[.int .i64 P0, .int .i64 P1, .int .i64 P2, .int .i64 P3, .int .i64 P4, .int .i64 0] 92)).drew
              refine hK.out _ _ hSL (fun hHeld => ?_)
              clear hK K
              try simp only [Act.put, List.getElem_toArray, List.getElem_cons_succ, List.getElem_cons_zero, List.setIfInBounds_toArray, List.set_cons_zero, List.set_cons_succ]
              refine wpAnyH_done (by kernel_rfl) ?_ _
              refine NoPanic.normal ?_
              refine ⟨rfl, .pointer (some ⟨N, 0, none⟩), .int .i64 x.p, .pointer (some ⟨N + 1, 0, none⟩), .int .i64 y.p, .int .i64 P0, .pointer (some ⟨N, 1, none⟩), .int .i64 x.b, .pointer (some ⟨N + 1, 1, none⟩), .int .i64 y.b, .int .i64 P1, .pointer (some ⟨N, 2, none⟩), .int .i64 x.d, .pointer (some ⟨N + 1, 2, none⟩), .int .i64 y.d, .int .i64 P2, .pointer (some ⟨N, 3, none⟩), .int .i64 x.e, .pointer (some ⟨N + 1, 3, none⟩), .int .i64 y.e, .int .i64 P3, .pointer (some ⟨N, 4, none⟩), .int .i64 x.r, .pointer (some ⟨N + 1, 4, none⟩), .int .i64 y.r, .int .i64 P4, .agg #[.int .i64 P0, .int .i64 P1, .int .i64 P2, .int .i64 P3, .int .i64 P4, .int .i64 0], ?_, rfl⟩
              simp only [Act.put, List.setIfInBounds_toArray, List.set_cons_zero, List.set_cons_succ]
          · go_simp
            try (go_wp2_with fail)
            refine hK.out _ _ (hHeld.alloc _) (fun hHeld => ?_)
            clear hK K
            try simp only [Act.put, List.getElem_toArray, List.getElem_cons_succ, List.getElem_cons_zero, List.setIfInBounds_toArray, List.set_cons_zero, List.set_cons_succ]
            refine wpAnyH_ready (rs := [19]) (by kernel_rfl) (by simp) (AllReadyH.cons rfl (fun K hK => ?_) AllReadyH.nil)
            go_simp
            refine (C3.out _).mono ?_
            rintro e w5 ⟨rfl, rfl⟩
            try (go_wp2_with fail)
            refine hK.out _ _ hHeld (fun hHeld => ?_)
            clear hK K
            try simp only [Act.put, List.getElem_toArray, List.getElem_cons_succ, List.getElem_cons_zero, List.setIfInBounds_toArray, List.set_cons_zero, List.set_cons_succ]
            refine wpAnyH_ready (rs := [24]) (by kernel_rfl) (by simp) (AllReadyH.cons rfl (fun K hK => ?_) AllReadyH.nil)
            go_simp
            refine (C4.out _).mono ?_
            rintro e w5 ⟨rfl, rfl⟩
            try (go_wp2_with fail)
            refine hK.out _ _ hHeld (fun hHeld => ?_)
            clear hK K
            try simp only [Act.put, List.getElem_toArray, List.getElem_cons_succ, List.getElem_cons_zero, List.setIfInBounds_toArray, List.set_cons_zero, List.set_cons_succ]
            refine wpAnyH_take (i := 25) (v := ?_) rfl (by kernel_rfl) (by kernel_rfl) (by kernel_rfl) (fun _ _ _ h => h) (Or.inl ⟨by rfl, ?hy⟩) (by assumption) ?_
            case hy => intro wq hSw; obtain ⟨a0, a1, a2, a3, a4, a5, b0, b1, b2, b3, b4, b5, hz, hB⟩ := hSw; go_simp; try with_reducible rfl
            try simp only [Act.put, List.getElem_toArray, List.getElem_cons_succ, List.getElem_cons_zero, List.setIfInBounds_toArray, List.set_cons_zero, List.set_cons_succ]
            refine wpAnyH_ready (rs := [27]) (by kernel_rfl) (by simp) (AllReadyH.cons rfl (fun K hK => ?_) AllReadyH.nil)
            go_simp
            try (go_wp2_with fail)
            have hSL := (HSW.out.alloc (.cells #[.int .i64 P0, .int .i64 P1, .int .i64 P2, .int .i64 P3, .int .i64 P4, .int .i64 0] 92)).drew
            refine hK.out _ _ hSL (fun hHeld => ?_)
            clear hK K
            try simp only [Act.put, List.getElem_toArray, List.getElem_cons_succ, List.getElem_cons_zero, List.setIfInBounds_toArray, List.set_cons_zero, List.set_cons_succ]
            refine wpAnyH_done (by kernel_rfl) ?_ _
            refine NoPanic.normal ?_
            refine ⟨rfl, .pointer (some ⟨N, 0, none⟩), .int .i64 x.p, .pointer (some ⟨N + 1, 0, none⟩), .int .i64 y.p, .int .i64 P0, .pointer (some ⟨N, 1, none⟩), .int .i64 x.b, .pointer (some ⟨N + 1, 1, none⟩), .int .i64 y.b, .int .i64 P1, .pointer (some ⟨N, 2, none⟩), .int .i64 x.d, .pointer (some ⟨N + 1, 2, none⟩), .int .i64 y.d, .int .i64 P2, .pointer (some ⟨N, 3, none⟩), .int .i64 x.e, .pointer (some ⟨N + 1, 3, none⟩), .int .i64 y.e, .int .i64 P3, .pointer (some ⟨N, 4, none⟩), .int .i64 x.r, .pointer (some ⟨N + 1, 4, none⟩), .int .i64 y.r, .int .i64 P4, .agg #[.int .i64 P0, .int .i64 P1, .int .i64 P2, .int .i64 P3, .int .i64 P4, .int .i64 0], ?_, rfl⟩
            simp only [Act.put, List.setIfInBounds_toArray, List.set_cons_zero, List.set_cons_succ]
        · go_simp
          try (go_wp2_with fail)
          refine hK.out _ _ (hHeld.alloc _) (fun hHeld => ?_)
          clear hK K
          try simp only [Act.put, List.getElem_toArray, List.getElem_cons_succ, List.getElem_cons_zero, List.setIfInBounds_toArray, List.set_cons_zero, List.set_cons_succ]
          refine wpAnyH_ready (rs := [14]) (by kernel_rfl) (by simp) (AllReadyH.cons rfl (fun K hK => ?_) AllReadyH.nil)
          go_simp
          refine (C2.out _).mono ?_
          rintro e w5 ⟨rfl, rfl⟩
          try (go_wp2_with fail)
          refine hK.out _ _ hHeld (fun hHeld => ?_)
          clear hK K
          try simp only [Act.put, List.getElem_toArray, List.getElem_cons_succ, List.getElem_cons_zero, List.setIfInBounds_toArray, List.set_cons_zero, List.set_cons_succ]
          refine wpAnyH_ready (rs := [19]) (by kernel_rfl) (by simp) (AllReadyH.cons rfl (fun K hK => ?_) AllReadyH.nil)
          go_simp
          refine (C3.out _).mono ?_
          rintro e w5 ⟨rfl, rfl⟩
          try (go_wp2_with fail)
          refine hK.out _ _ hHeld (fun hHeld => ?_)
          clear hK K
          try simp only [Act.put, List.getElem_toArray, List.getElem_cons_succ, List.getElem_cons_zero, List.setIfInBounds_toArray, List.set_cons_zero, List.set_cons_succ]
          refine wpAnyH_ready (rs := [24]) (by kernel_rfl) (by simp) (AllReadyH.cons rfl (fun K hK => ?_) AllReadyH.nil)
          go_simp
          refine (C4.out _).mono ?_
          rintro e w5 ⟨rfl, rfl⟩
          try (go_wp2_with fail)
          refine hK.out _ _ hHeld (fun hHeld => ?_)
          clear hK K
          try simp only [Act.put, List.getElem_toArray, List.getElem_cons_succ, List.getElem_cons_zero, List.setIfInBounds_toArray, List.set_cons_zero, List.set_cons_succ]
          refine wpAnyH_take (i := 25) (v := ?_) rfl (by kernel_rfl) (by kernel_rfl) (by kernel_rfl) (fun _ _ _ h => h) (Or.inl ⟨by rfl, ?hy⟩) (by assumption) ?_
          case hy => intro wq hSw; obtain ⟨a0, a1, a2, a3, a4, a5, b0, b1, b2, b3, b4, b5, hz, hB⟩ := hSw; go_simp; try with_reducible rfl
          try simp only [Act.put, List.getElem_toArray, List.getElem_cons_succ, List.getElem_cons_zero, List.setIfInBounds_toArray, List.set_cons_zero, List.set_cons_succ]
          refine wpAnyH_ready (rs := [27]) (by kernel_rfl) (by simp) (AllReadyH.cons rfl (fun K hK => ?_) AllReadyH.nil)
          go_simp
          try (go_wp2_with fail)
          have hSL := (HSW.out.alloc (.cells #[.int .i64 P0, .int .i64 P1, .int .i64 P2, .int .i64 P3, .int .i64 P4, .int .i64 0] 92)).drew
          refine hK.out _ _ hSL (fun hHeld => ?_)
          clear hK K
          try simp only [Act.put, List.getElem_toArray, List.getElem_cons_succ, List.getElem_cons_zero, List.setIfInBounds_toArray, List.set_cons_zero, List.set_cons_succ]
          refine wpAnyH_done (by kernel_rfl) ?_ _
          refine NoPanic.normal ?_
          refine ⟨rfl, .pointer (some ⟨N, 0, none⟩), .int .i64 x.p, .pointer (some ⟨N + 1, 0, none⟩), .int .i64 y.p, .int .i64 P0, .pointer (some ⟨N, 1, none⟩), .int .i64 x.b, .pointer (some ⟨N + 1, 1, none⟩), .int .i64 y.b, .int .i64 P1, .pointer (some ⟨N, 2, none⟩), .int .i64 x.d, .pointer (some ⟨N + 1, 2, none⟩), .int .i64 y.d, .int .i64 P2, .pointer (some ⟨N, 3, none⟩), .int .i64 x.e, .pointer (some ⟨N + 1, 3, none⟩), .int .i64 y.e, .int .i64 P3, .pointer (some ⟨N, 4, none⟩), .int .i64 x.r, .pointer (some ⟨N + 1, 4, none⟩), .int .i64 y.r, .int .i64 P4, .agg #[.int .i64 P0, .int .i64 P1, .int .i64 P2, .int .i64 P3, .int .i64 P4, .int .i64 0], ?_, rfl⟩
          simp only [Act.put, List.setIfInBounds_toArray, List.set_cons_zero, List.set_cons_succ]
      · go_simp
        try (go_wp2_with fail)
        refine hK.out _ _ (hHeld.alloc _) (fun hHeld => ?_)
        clear hK K
        try simp only [Act.put, List.getElem_toArray, List.getElem_cons_succ, List.getElem_cons_zero, List.setIfInBounds_toArray, List.set_cons_zero, List.set_cons_succ]
        refine wpAnyH_ready (rs := [9]) (by kernel_rfl) (by simp) (AllReadyH.cons rfl (fun K hK => ?_) AllReadyH.nil)
        go_simp
        refine (C1.out _).mono ?_
        rintro e w5 ⟨rfl, rfl⟩
        try (go_wp2_with fail)
        refine hK.out _ _ hHeld (fun hHeld => ?_)
        clear hK K
        try simp only [Act.put, List.getElem_toArray, List.getElem_cons_succ, List.getElem_cons_zero, List.setIfInBounds_toArray, List.set_cons_zero, List.set_cons_succ]
        refine wpAnyH_ready (rs := [14]) (by kernel_rfl) (by simp) (AllReadyH.cons rfl (fun K hK => ?_) AllReadyH.nil)
        go_simp
        refine (C2.out _).mono ?_
        rintro e w5 ⟨rfl, rfl⟩
        try (go_wp2_with fail)
        refine hK.out _ _ hHeld (fun hHeld => ?_)
        clear hK K
        try simp only [Act.put, List.getElem_toArray, List.getElem_cons_succ, List.getElem_cons_zero, List.setIfInBounds_toArray, List.set_cons_zero, List.set_cons_succ]
        refine wpAnyH_ready (rs := [19]) (by kernel_rfl) (by simp) (AllReadyH.cons rfl (fun K hK => ?_) AllReadyH.nil)
        go_simp
        refine (C3.out _).mono ?_
        rintro e w5 ⟨rfl, rfl⟩
        try (go_wp2_with fail)
        refine hK.out _ _ hHeld (fun hHeld => ?_)
        clear hK K
        try simp only [Act.put, List.getElem_toArray, List.getElem_cons_succ, List.getElem_cons_zero, List.setIfInBounds_toArray, List.set_cons_zero, List.set_cons_succ]
        refine wpAnyH_ready (rs := [24]) (by kernel_rfl) (by simp) (AllReadyH.cons rfl (fun K hK => ?_) AllReadyH.nil)
        go_simp
        refine (C4.out _).mono ?_
        rintro e w5 ⟨rfl, rfl⟩
        try (go_wp2_with fail)
        refine hK.out _ _ hHeld (fun hHeld => ?_)
        clear hK K
        try simp only [Act.put, List.getElem_toArray, List.getElem_cons_succ, List.getElem_cons_zero, List.setIfInBounds_toArray, List.set_cons_zero, List.set_cons_succ]
        refine wpAnyH_take (i := 25) (v := ?_) rfl (by kernel_rfl) (by kernel_rfl) (by kernel_rfl) (fun _ _ _ h => h) (Or.inl ⟨by rfl, ?hy⟩) (by assumption) ?_
        case hy => intro wq hSw; obtain ⟨a0, a1, a2, a3, a4, a5, b0, b1, b2, b3, b4, b5, hz, hB⟩ := hSw; go_simp; try with_reducible rfl
        try simp only [Act.put, List.getElem_toArray, List.getElem_cons_succ, List.getElem_cons_zero, List.setIfInBounds_toArray, List.set_cons_zero, List.set_cons_succ]
        refine wpAnyH_ready (rs := [27]) (by kernel_rfl) (by simp) (AllReadyH.cons rfl (fun K hK => ?_) AllReadyH.nil)
        go_simp
        try (go_wp2_with fail)
        have hSL := (HSW.out.alloc (.cells #[.int .i64 P0, .int .i64 P1, .int .i64 P2, .int .i64 P3, .int .i64 P4, .int .i64 0] 92)).drew
        refine hK.out _ _ hSL (fun hHeld => ?_)
        clear hK K
        try simp only [Act.put, List.getElem_toArray, List.getElem_cons_succ, List.getElem_cons_zero, List.setIfInBounds_toArray, List.set_cons_zero, List.set_cons_succ]
        refine wpAnyH_done (by kernel_rfl) ?_ _
        refine NoPanic.normal ?_
        refine ⟨rfl, .pointer (some ⟨N, 0, none⟩), .int .i64 x.p, .pointer (some ⟨N + 1, 0, none⟩), .int .i64 y.p, .int .i64 P0, .pointer (some ⟨N, 1, none⟩), .int .i64 x.b, .pointer (some ⟨N + 1, 1, none⟩), .int .i64 y.b, .int .i64 P1, .pointer (some ⟨N, 2, none⟩), .int .i64 x.d, .pointer (some ⟨N + 1, 2, none⟩), .int .i64 y.d, .int .i64 P2, .pointer (some ⟨N, 3, none⟩), .int .i64 x.e, .pointer (some ⟨N + 1, 3, none⟩), .int .i64 y.e, .int .i64 P3, .pointer (some ⟨N, 4, none⟩), .int .i64 x.r, .pointer (some ⟨N + 1, 4, none⟩), .int .i64 y.r, .int .i64 P4, .agg #[.int .i64 P0, .int .i64 P1, .int .i64 P2, .int .i64 P3, .int .i64 P4, .int .i64 0], ?_, rfl⟩
        simp only [Act.put, List.setIfInBounds_toArray, List.set_cons_zero, List.set_cons_succ]
    · go_simp
      try (go_wp2_with fail)
      refine hK.out _ _ (hHeld.alloc _) (fun hHeld => ?_)
      clear hK K
      try simp only [Act.put, List.getElem_toArray, List.getElem_cons_succ, List.getElem_cons_zero, List.setIfInBounds_toArray, List.set_cons_zero, List.set_cons_succ]
      refine wpAnyH_ready (rs := [4]) (by kernel_rfl) (by simp) (AllReadyH.cons rfl (fun K hK => ?_) AllReadyH.nil)
      go_simp
      refine (C0.out _).mono ?_
      rintro e w5 ⟨rfl, rfl⟩
      try (go_wp2_with fail)
      refine hK.out _ _ hHeld (fun hHeld => ?_)
      clear hK K
      try simp only [Act.put, List.getElem_toArray, List.getElem_cons_succ, List.getElem_cons_zero, List.setIfInBounds_toArray, List.set_cons_zero, List.set_cons_succ]
      refine wpAnyH_ready (rs := [9]) (by kernel_rfl) (by simp) (AllReadyH.cons rfl (fun K hK => ?_) AllReadyH.nil)
      go_simp
      refine (C1.out _).mono ?_
      rintro e w5 ⟨rfl, rfl⟩
      try (go_wp2_with fail)
      refine hK.out _ _ hHeld (fun hHeld => ?_)
      clear hK K
      try simp only [Act.put, List.getElem_toArray, List.getElem_cons_succ, List.getElem_cons_zero, List.setIfInBounds_toArray, List.set_cons_zero, List.set_cons_succ]
      refine wpAnyH_ready (rs := [14]) (by kernel_rfl) (by simp) (AllReadyH.cons rfl (fun K hK => ?_) AllReadyH.nil)
      go_simp
      refine (C2.out _).mono ?_
      rintro e w5 ⟨rfl, rfl⟩
      try (go_wp2_with fail)
      refine hK.out _ _ hHeld (fun hHeld => ?_)
      clear hK K
      try simp only [Act.put, List.getElem_toArray, List.getElem_cons_succ, List.getElem_cons_zero, List.setIfInBounds_toArray, List.set_cons_zero, List.set_cons_succ]
      refine wpAnyH_ready (rs := [19]) (by kernel_rfl) (by simp) (AllReadyH.cons rfl (fun K hK => ?_) AllReadyH.nil)
      go_simp
      refine (C3.out _).mono ?_
      rintro e w5 ⟨rfl, rfl⟩
      try (go_wp2_with fail)
      refine hK.out _ _ hHeld (fun hHeld => ?_)
      clear hK K
      try simp only [Act.put, List.getElem_toArray, List.getElem_cons_succ, List.getElem_cons_zero, List.setIfInBounds_toArray, List.set_cons_zero, List.set_cons_succ]
      refine wpAnyH_ready (rs := [24]) (by kernel_rfl) (by simp) (AllReadyH.cons rfl (fun K hK => ?_) AllReadyH.nil)
      go_simp
      refine (C4.out _).mono ?_
      rintro e w5 ⟨rfl, rfl⟩
      try (go_wp2_with fail)
      refine hK.out _ _ hHeld (fun hHeld => ?_)
      clear hK K
      try simp only [Act.put, List.getElem_toArray, List.getElem_cons_succ, List.getElem_cons_zero, List.setIfInBounds_toArray, List.set_cons_zero, List.set_cons_succ]
      refine wpAnyH_take (i := 25) (v := ?_) rfl (by kernel_rfl) (by kernel_rfl) (by kernel_rfl) (fun _ _ _ h => h) (Or.inl ⟨by rfl, ?hy⟩) (by assumption) ?_
      case hy => intro wq hSw; obtain ⟨a0, a1, a2, a3, a4, a5, b0, b1, b2, b3, b4, b5, hz, hB⟩ := hSw; go_simp; try with_reducible rfl
      try simp only [Act.put, List.getElem_toArray, List.getElem_cons_succ, List.getElem_cons_zero, List.setIfInBounds_toArray, List.set_cons_zero, List.set_cons_succ]
      refine wpAnyH_ready (rs := [27]) (by kernel_rfl) (by simp) (AllReadyH.cons rfl (fun K hK => ?_) AllReadyH.nil)
      go_simp
      try (go_wp2_with fail)
      have hSL := (HSW.out.alloc (.cells #[.int .i64 P0, .int .i64 P1, .int .i64 P2, .int .i64 P3, .int .i64 P4, .int .i64 0] 92)).drew
      refine hK.out _ _ hSL (fun hHeld => ?_)
      clear hK K
      try simp only [Act.put, List.getElem_toArray, List.getElem_cons_succ, List.getElem_cons_zero, List.setIfInBounds_toArray, List.set_cons_zero, List.set_cons_succ]
      refine wpAnyH_done (by kernel_rfl) ?_ _
      refine NoPanic.normal ?_
      refine ⟨rfl, .pointer (some ⟨N, 0, none⟩), .int .i64 x.p, .pointer (some ⟨N + 1, 0, none⟩), .int .i64 y.p, .int .i64 P0, .pointer (some ⟨N, 1, none⟩), .int .i64 x.b, .pointer (some ⟨N + 1, 1, none⟩), .int .i64 y.b, .int .i64 P1, .pointer (some ⟨N, 2, none⟩), .int .i64 x.d, .pointer (some ⟨N + 1, 2, none⟩), .int .i64 y.d, .int .i64 P2, .pointer (some ⟨N, 3, none⟩), .int .i64 x.e, .pointer (some ⟨N + 1, 3, none⟩), .int .i64 y.e, .int .i64 P3, .pointer (some ⟨N, 4, none⟩), .int .i64 x.r, .pointer (some ⟨N + 1, 4, none⟩), .int .i64 y.r, .int .i64 P4, .agg #[.int .i64 P0, .int .i64 P1, .int .i64 P2, .int .i64 P3, .int .i64 P4, .int .i64 0], ?_, rfl⟩
      simp only [Act.put, List.setIfInBounds_toArray, List.set_cons_zero, List.set_cons_succ]
  · rintro a' w5 ⟨x6, x7, x8, x9, x10, x11, x12, x13, x14, x15, x16, x17, x18, x19, x20, x21, x22, x23, x24, x25, x26, x27, x28, x29, x30, x31, rfl, rfl⟩
    try simp only [Act.put, List.getElem_toArray, List.getElem_cons_succ, List.getElem_cons_zero, List.setIfInBounds_toArray, List.set_cons_zero, List.set_cons_succ]
    have hLF := two_leaf (P0 := P0) (P1 := P1) (P2 := P2) (P3 := P3) (P4 := P4) HSZ.out HG2.out
    have hSL := (HSW.out.alloc (.cells #[.int .i64 P0, .int .i64 P1, .int .i64 P2, .int .i64 P3, .int .i64 P4, .int .i64 0] 92)).drew
    generalize (W0.alloc (.cells #[.int .i64 P0, .int .i64 P1, .int .i64 P2, .int .i64 P3, .int .i64 P4, .int .i64 0] 92)).drew = WL at *
    have hN : N < WL.heap.size := by have := hLF.lt; have := hLF.sz; omega
    have hN1 : N + 1 < WL.heap.size := by have := hLF.lt; have := hLF.sz; omega
    have hN2 : N + 1 + 1 < WL.heap.size := by have := hLF.lt; have := hLF.sz; omega
    have hS0 := HSZ.out
    have e1 : ¬ N = W0.heap.size := by omega
    have e2 : ¬ N + 1 = W0.heap.size := by omega
    have e3 : ¬ N + 1 + 1 = W0.heap.size := by omega
    have e4 : ¬ W0.heap.size = N + 1 + 1 := by omega
    clear HSW C0 C1 C2 C3 C4 HFZ HR
    have HNW := HNN
    have hNZ : N + 1 + 1 < W0.heap.size := by have := hLF.sz; omega
    have HBW2 := HBW
    clear HNN HSZ HG2 hS0
    obtain ⟨Z, hZ⟩ : ∃ Z, W0.heap.size = Z := ⟨_, rfl⟩
    have HZ := Lib.hid hZ
    simp only [hZ] at hLF e1 e2 e3 e4 hNZ ⊢
    clear hZ
    obtain ⟨a0, a1, a2, a3, a4, a5, b0, b1, b2, b3, b4, b5, hz, hB⟩ := hSL
    obtain ⟨r0, r1, r2, r3, r4, r5, n0, n1, n2, n3, n4, n5, fr, fn, sz, lt, g2, be⟩ := hLF
    have BE := Lib.hid be
    have G2 := Lib.hid g2
    clear be g2 hB sz
    by_cases q1 : x.d = 0
    · have q2 : (x.d == 0) = true := by simp [q1]
      have HMM := Lib.hid (show M = y.m by rw [HM.out, if_pos q1])
      clear HM q1
      go_wp2_with (fail)
      obtain ⟨hh, ht⟩ := two_end G2.out e4 HNW.out HBW2.out BE.out HZ.out hNZ y.m P0 P1 P2 P3 P4
      rw [HMM.out]
      refine bodyPost_ret (results_cell_row (P := Tryz.prog) rfl _ _ (N + 1 + 1) 92 #[.int .i64 P0, .int .i64 P1, .int .i64 P2, .int .i64 P3, .int .i64 P4, .int .i64 y.m] (0, 0) _ (by rfl) ?hh Tryz.underlying92 rfl (by kernel_rfl)) rfl ?_
      case hh => exact hh
      exact ⟨rfl, ht⟩
    · have q2 : (x.d == 0) = false := by simp [q1]
      by_cases q3 : y.d = 0
      · have q4 : (y.d == 0) = true := by simp [q3]
        have HMM := Lib.hid (show M = x.m by rw [HM.out, if_neg q1, if_pos q3])
        clear HM q1 q3
        go_wp2_with (fail)
        obtain ⟨hh, ht⟩ := two_end G2.out e4 HNW.out HBW2.out BE.out HZ.out hNZ x.m P0 P1 P2 P3 P4
        rw [HMM.out]
        refine bodyPost_ret (results_cell_row (P := Tryz.prog) rfl _ _ (N + 1 + 1) 92 #[.int .i64 P0, .int .i64 P1, .int .i64 P2, .int .i64 P3, .int .i64 P4, .int .i64 x.m] (0, 0) _ (by rfl) ?hh Tryz.underlying92 rfl (by kernel_rfl)) rfl ?_
        case hh => exact hh
        exact ⟨rfl, ht⟩
      · have q4 : (y.d == 0) = false := by simp [q3]
        by_cases q5 : x.m < y.m
        · skip
          have HMM := Lib.hid (show M = x.m by rw [HM.out, if_neg q1, if_neg q3, if_pos q5])
          clear HM q1 q3
          go_wp2_with (fail)
          obtain ⟨hh, ht⟩ := two_end G2.out e4 HNW.out HBW2.out BE.out HZ.out hNZ (x.m) P0 P1 P2 P3 P4
          rw [HMM.out]
          refine bodyPost_ret (results_cell_row (P := Tryz.prog) rfl _ _ (N + 1 + 1) 92 #[.int .i64 P0, .int .i64 P1, .int .i64 P2, .int .i64 P3, .int .i64 P4, .int .i64 (x.m)] (0, 0) _ (by rfl) ?hh Tryz.underlying92 rfl (by kernel_rfl)) rfl ?_
          case hh => exact hh
          exact ⟨rfl, ht⟩
        · skip
          have HMM := Lib.hid (show M = y.m by rw [HM.out, if_neg q1, if_neg q3, if_neg q5])
          clear HM q1 q3
          go_wp2_with (fail)
          obtain ⟨hh, ht⟩ := two_end G2.out e4 HNW.out HBW2.out BE.out HZ.out hNZ (y.m) P0 P1 P2 P3 P4
          rw [HMM.out]
          refine bodyPost_ret (results_cell_row (P := Tryz.prog) rfl _ _ (N + 1 + 1) 92 #[.int .i64 P0, .int .i64 P1, .int .i64 P2, .int .i64 P3, .int .i64 P4, .int .i64 (y.m)] (0, 0) _ (by rfl) ?hh Tryz.underlying92 rfl (by kernel_rfl)) rfl ?_
          case hh => exact hh
          exact ⟨rfl, ht⟩

set_option maxHeartbeats 3200000 in
theorem r3right_any (c : CntS) (h : RightC c) (w : World) : Calls Tryz.prog 85 #[ctV c] w fun e w' => e = .returned (.bool true) ∧ Below w.heap.size w w' := by
  have HIN := Lib.hid (fun (k : Nat) (hk : k < 6) => right_in h hk)
  have hb : Below w.heap.size w ((w.alloc (ctO c 92)).alloc (ctO c 188)) := ((Below.refl _ _).alloc (Nat.le_refl _) _).alloc (by simp) _
  have HB := Lib.hid hb
  have hg : ((w.alloc (ctO c 92)).alloc (ctO c 188)).heap[w.heap.size + 1]? = some (ctO c 188) := by simp only [get_allocW, World.size_alloc, if_true]
  have hc : ∀ j, j < 6 → ((w.alloc (ctO c 92)).alloc (ctO c 188)).cell? ⟨w.heap.size + 1, j, none⟩ = some (.int .i64 (c.l.getD j 0)) := by
    intro j hj
    simp only [World.cell?, hg]
    match j, hj with
    | 0, _ => rfl
    | 1, _ => rfl
    | 2, _ => rfl
    | 3, _ => rfl
    | 4, _ => rfl
    | 5, _ => rfl
  have HC := Lib.hid hc
  obtain ⟨L, hL⟩ : ∃ L, c.l = L := ⟨_, rfl⟩
  rw [hL] at HC HIN
  have hed := h.ed
  have hmr := h.mr
  have hdr := h.dr
  clear hb hg hc h hL
  obtain ⟨p, b, d, e, r, m⟩ := c
  unfold ctV ctO at *
  dsimp only at *
  go_enter Tryz.func85, Tryz.ntmps85
  go_wp2_with (fail)
  go_loop [4] (fun i => ∃ k : Nat, k ≤ 6 ∧ i = .int .i64 k) (fun i => 6 - (intOf i).toNat)
  case atStart => exact ⟨0, Nat.zero_le _, rfl⟩
  case round =>
    obtain ⟨k, hk, rfl⟩ := hrel
    by_cases hlt : k < 6
    · have d1 := HC.out k hlt
      have hs := HIN.out k hlt
      have k0 : (0 : Int) ≤ k := by omega
      have k1 : (k : Int) < 6 := by omega
      generalize L.getD k 0 = X at d1 hs
      obtain ⟨hs0, hs1⟩ := hs
      go_wp2_with (fail)
      exact ⟨⟨k + 1, by omega, by go_num⟩, by first | (simp [intOf]; done) | (simp [intOf]; omega)⟩
    · have k1 : ¬ (k : Int) < 6 := by omega
      by_cases hd : 0 < d
      · go_wp2_with (fail)
        go_ret
        exact ⟨rfl, HB.out⟩
      · have hr0 : r = 0 := by omega
        subst hr0
        go_wp2_with (fail)
        go_ret
        exact ⟨rfl, HB.out⟩
end Go.Proofs.YtemlafbkkaloiaaGreat

/- The reference's window: all together. -/
namespace Go.Proofs.YtemlafbkkaloiaaGreat
open Go.RowKit
set_option linter.unusedVariables false
set_option linter.unusedSimpArgs false

set_option maxHeartbeats 6400000 in
set_option maxRecDepth 100000 in
theorem r3join_any (w : World) (a : Option Addr) (len cap : Nat) (cs : List CntS) (hl : cs.length = len) (hm : len ≤ 9223372036854775807) (hr : ∀ c, c ∈ cs → RightC c) (hc : CtsAt w a cs) :
    Calls Tryz.prog 86 #[.slice a len cap] w fun e w' => e = .returned (ctV (joinC .zero cs)) ∧ Below w.heap.size w w' := by
  have HC := Lib.hid hc
  have HR := Lib.hid hr
  have HL := Lib.hid hl
  obtain ⟨N, hN⟩ : ∃ N, N = w.heap.size := ⟨_, rfl⟩
  have HN := Lib.hid hN
  have hb0 : Below w.heap.size w ((w.alloc (ctO .zero 92)).alloc (ctO .zero 92)) := ((Below.refl _ _).alloc (Nat.le_refl _) _).alloc (by simp) _
  have hg0 : ((w.alloc (ctO .zero 92)).alloc (ctO .zero 92)).heap[N]? = some (ctO .zero 92) := by
    rw [hN, get_allocW, if_neg (by simp), get_allocW, if_pos rfl]
  have hg1 : ((w.alloc (ctO .zero 92)).alloc (ctO .zero 92)).heap[N + 1]? = some (ctO .zero 92) := by
    rw [hN, get_allocW, if_pos (by simp)]
  have HB0 := Lib.hid hb0
  have HG0 := Lib.hid hg0
  have HG1 := Lib.hid hg1
  clear hc hr hl hb0 hg0 hg1
  go_enter Tryz.func86, Tryz.ntmps86
  go_wp2_with (fail)
  rw [← hN]
  clear hN
  obtain ⟨w0, hw0⟩ : ∃ w0, (w.alloc (ctO .zero 92)).alloc (ctO .zero 92) = w0 := ⟨_, rfl⟩
  rw [hw0] at HB0 HG0 HG1
  unfold ctO CntS.zero at hw0
  dsimp only at hw0
  rw [hw0]
  clear hw0
  go_loopw [4] (fun i wr => ∃ (k : Nat), k ≤ len ∧ i = .int .i64 k ∧ Hid (wr.heap[N]? = some (ctO .zero 92)) ∧ Hid (wr.heap[N + 1]? = some (ctO (joinC .zero (cs.take k)) 92)) ∧ Hid (Below w.heap.size w wr)) (fun i _ => len - (intOf i).toNat)
  case atStart => exact ⟨0, Nat.zero_le _, rfl, HG0, HG1, HB0⟩
  case round =>
    rename World => wy
    obtain ⟨k, hk, rfl, HA, HJ, HB⟩ := hrel
    by_cases hlt : k < len
    · have hkl : k < cs.length := by rw [HL.out]; exact hlt
      have k0 : (0 : Int) ≤ k := by omega
      have k1 : (k : Int) < len := by omega
      obtain ⟨c, hcx⟩ : ∃ c, cs[k]? = some c := ⟨_, List.getElem?_eq_getElem hkl⟩
      have hcm : c ∈ cs := List.mem_of_getElem? hcx
      have hrc := HR.out c hcm
      obtain ⟨bk, off, ha, hbl, hcc⟩ : ∃ b off, a = some ⟨b, off, none⟩ ∧ b < w.heap.size ∧ ∀ j c, cs[j]? = some c → w.cell? ⟨b, off + j * 6, none⟩ = some (.int .i64 c.p) ∧ w.cell? ⟨b, off + j * 6 + 1, none⟩ = some (.int .i64 c.b) ∧ w.cell? ⟨b, off + j * 6 + 2, none⟩ = some (.int .i64 c.d) ∧
          w.cell? ⟨b, off + j * 6 + 3, none⟩ = some (.int .i64 c.e) ∧ w.cell? ⟨b, off + j * 6 + 4, none⟩ = some (.int .i64 c.r) ∧ w.cell? ⟨b, off + j * 6 + 5, none⟩ = some (.int .i64 c.m) := by
        rcases HC.out with h | h
        · rw [h] at hkl; simp at hkl
        · exact h
      subst ha
      obtain ⟨d0, d1, d2, d3, d4, d5⟩ := hcc k c hcx
      have d0 := (HB.out.cell (p := ⟨bk, off + k * 6, none⟩) hbl).trans d0
      have d1 := (HB.out.cell (p := ⟨bk, off + k * 6 + 1, none⟩) hbl).trans d1
      have d2 := (HB.out.cell (p := ⟨bk, off + k * 6 + 2, none⟩) hbl).trans d2
      have d3 := (HB.out.cell (p := ⟨bk, off + k * 6 + 3, none⟩) hbl).trans d3
      have d4 := (HB.out.cell (p := ⟨bk, off + k * 6 + 4, none⟩) hbl).trans d4
      have d5 := (HB.out.cell (p := ⟨bk, off + k * 6 + 5, none⟩) hbl).trans d5
      have hjr : RightC (joinC .zero (cs.take k)) := joinC_right rightC_zero (fun x hx => HR.out x (List.mem_of_mem_take hx))
      have HST := Lib.hid (show joinC .zero (cs.take (k + 1)) = twoC (joinC .zero (cs.take k)) c by
        rw [List.take_succ_eq_append_getElem hkl, joinC_snoc]
        congr 1
        exact Option.some.inj ((List.getElem?_eq_getElem hkl).symm.trans hcx))
      generalize joinC .zero (cs.take k) = J at *
      have HRT := Lib.hid (fun wx => r3right_any c hrc wx)
      have HTW := Lib.hid (fun wx => r3two_any J c hjr hrc wx)
      have hzy : N + 1 < wy.heap.size := (Array.getElem?_eq_some_iff.1 HJ.out).1
      have HBK := Lib.hid hbl
      have HDD := Lib.hid (And.intro d0 (And.intro d1 (And.intro d2 (And.intro d3 (And.intro d4 d5)))))
      have HWY := Lib.hid (And.intro HB.out.size hzy)
      clear hcx hcc hcm hrc hjr
      obtain ⟨cp, cb, cd, ce, cr, cm⟩ := c
      obtain ⟨jp, jb, jd, je, jr, jm⟩ := J
      generalize twoC ⟨jp, jb, jd, je, jr, jm⟩ ⟨cp, cb, cd, ce, cr, cm⟩ = T at *
      obtain ⟨tp, tb, td, te, tr, tm⟩ := T
      unfold ctV at HRT HTW
      dsimp only at *
      go_wp2_with (fail)
      refine (HRT.out _).mono ?_
      rintro e w1 ⟨rfl, h1⟩
      have hJ1 := (h1.block (N + 1) hzy).trans HJ.out
      have HJ1 := Lib.hid hJ1
      have HB1 := Lib.hid h1
      obtain ⟨⟨b0, b1, b2, b3, b4, b5⟩, bf⟩ := ct_cells hJ1
      dsimp only at b0 b1 b2 b3 b4 b5
      have hbky : bk < wy.heap.size := Nat.lt_of_lt_of_le hbl HB.out.size
      obtain ⟨e0, e1, e2, e3, e4, e5⟩ := HDD.out
      have d0 := (h1.cell (p := ⟨bk, off + k * 6, none⟩) hbky).trans e0
      have d1 := (h1.cell (p := ⟨bk, off + k * 6 + 1, none⟩) hbky).trans e1
      have d2 := (h1.cell (p := ⟨bk, off + k * 6 + 2, none⟩) hbky).trans e2
      have d3 := (h1.cell (p := ⟨bk, off + k * 6 + 3, none⟩) hbky).trans e3
      have d4 := (h1.cell (p := ⟨bk, off + k * 6 + 4, none⟩) hbky).trans e4
      have d5 := (h1.cell (p := ⟨bk, off + k * 6 + 5, none⟩) hbky).trans e5
      clear h1 hJ1 e0 e1 e2 e3 e4 e5 hbky
      go_wp2_with (fail)
      go_region_with (go_at_call 88; refine (HTW.out _).mono ?_; rintro e w2 ⟨rfl, h2⟩; have HJ2 := Lib.hid ((h2.block (N + 1) (Array.getElem?_eq_some_iff.1 HJ1.out).1).trans HJ1.out); have HH2 := Lib.hid (show Below w1.heap.size w1 w2 from ((Below.refl _ w1).drew).trans h2); obtain ⟨⟨c0, c1, c2, c3, c4, c5⟩, cf⟩ := ct_cells HJ2.out; dsimp only at c0 c1 c2 c3 c4 c5; clear h2)
      all_goals
        go_wp2_with (fail)
        refine ⟨⟨k + 1, by omega, by go_num, ?_, ?_, ?_⟩, by first | (simp [intOf]; done) | (simp [intOf]; omega)⟩
        · exact Lib.hid ((sixC_other (by omega) tp tb td te tr tm).trans ((HH2.out.block N (by have := HB1.out.size; have := HWY.out; have := (Array.getElem?_eq_some_iff.1 HJ1.out).1; omega)).trans ((HB1.out.block N (by have := HWY.out; omega)).trans HA.out)))
        · rw [HST.out]
          exact Lib.hid (sixC_same HJ2.out tp tb td te tr tm)
        · exact Lib.hid (sixC_below (HB.out.trans ((HB1.out.trans (HH2.out.mono HB1.out.size)).mono HB.out.size)) (by rw [← HN.out]; omega) tp tb td te tr tm)
    · have k1 : ¬ (k : Int) < len := by omega
      have e1 : cs.take k = cs := List.take_of_length_le (by rw [HL.out]; omega)
      rw [e1] at HJ
      clear e1
      obtain ⟨J, hJJ⟩ : ∃ J, joinC .zero cs = J := ⟨_, rfl⟩
      have HJJ := Lib.hid hJJ
      rw [hJJ] at HJ
      clear hJJ
      obtain ⟨jp, jb, jd, je, jr, jm⟩ := J
      obtain ⟨⟨b0, b1, b2, b3, b4, b5⟩, bf⟩ := ct_cells HJ.out
      obtain ⟨⟨c0, c1, c2, c3, c4, c5⟩, cf⟩ := ct_cells HA.out
      go_wp2_with (fail)
      refine bodyPost_ret (results_cell_row (P := Tryz.prog) rfl _ _ N 92 #[.int .i64 jp, .int .i64 jb, .int .i64 jd, .int .i64 je, .int .i64 jr, .int .i64 jm] (0, 0) _ (by rfl) ?hh Tryz.underlying92 rfl (by kernel_rfl)) rfl ?_
      case hh => exact sixC_same HA.out jp jb jd je jr jm
      exact ⟨by rw [HJJ.out]; rfl, sixC_below HB.out (by rw [← HN.out]; omega) jp jb jd je jr jm⟩
end Go.Proofs.YtemlafbkkaloiaaGreat
