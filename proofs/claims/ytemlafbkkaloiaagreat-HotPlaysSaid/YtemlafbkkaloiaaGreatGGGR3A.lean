import Derived.Test.YtemlafbkkaloiaaGreatGS0
import Derived.Test.YtemlafbkkaloiaaGreatGGWinC
import Derived.Test.YtemlafbkkaloiaaGreatGGWinB
import Derived.Test.YtemlafbkkaloiaaGreatGGGWinF
import Derived.Test.YtemlafbkkaloiaaGreatInts
import Derived.Test.YtemlafbkkaloiaaGreatRowsOf
import Derived.Test.YtemlafbkkaloiaaGreatGGWinD
set_option linter.unusedVariables false
set_option linter.unusedSimpArgs false
namespace Go.Proofs.YtemlafbkkaloiaaGreat
open Go.RowKit
structure Bk3 where
  at_ : Int
  r : RawC
def begB (b at_ : Int) : Int := at_ - at_ % b
def addL (b at_ : Int) (c : CntS) (L : List Bk3) : List Bk3 :=
  match L.getLast? with
  | some x => if x.at_ = begB b at_ then L.dropLast ++ [⟨x.at_, x.r.add (rawOf c)⟩] else L ++ [⟨begB b at_, rawOf c⟩]
  | none => [⟨begB b at_, rawOf c⟩]
def sumLR (P : Int → Bool) : List Bk3 → RawC
  | [] => .zero
  | k :: L => (if P k.at_ then k.r else .zero).add (sumLR P L)
theorem sumB_append (P : Int → Bool) : ∀ L M : List Bk3, sumLR P (L ++ M) = (sumLR P L).add (sumLR P M)
  | [], M => by rw [List.nil_append, sumLR, RawC.zero_add]
  | k :: L, M => by rw [List.cons_append, sumLR, sumLR, sumB_append P L M, RawC.add_assoc]
theorem sumB_one (P : Int → Bool) (k : Bk3) : sumLR P [k] = if P k.at_ then k.r else .zero := by rw [sumLR, sumLR, RawC.add_zero]
structure InvL (b last : Int) (notes : List NoteW) (L : List Bk3) : Prop where
  sum : ∀ P : Int → Bool, sumLR P L = sumW (fun x => P (begB b x.at_)) notes
  ok : ∀ k, k ∈ L → RawOk k.r ∧ 1 ≤ k.r.d
  mul : ∀ k, k ∈ L → 0 ≤ k.at_ ∧ k.at_ % b = 0 ∧ k.at_ ≤ last
  len : ∀ x, L.getLast? = some x → (L.length : Int) ≤ x.at_ / b + 1
theorem beg_facts {b at_ : Int} (hb : 1 ≤ b) (h0 : 0 ≤ at_) : 0 ≤ begB b at_ ∧ begB b at_ % b = 0 ∧ begB b at_ ≤ at_ ∧ begB b at_ / b = at_ / b ∧ begB b at_ = b * (at_ / b) := by
  unfold begB
  have h1 := Int.emod_nonneg at_ (show b ≠ 0 by omega)
  have h2 := Int.emod_lt_of_pos at_ (show 0 < b by omega)
  have h3 := Int.mul_ediv_add_emod at_ b
  have h4 : at_ - at_ % b = b * (at_ / b) := by omega
  have h5 : 0 ≤ at_ / b := Int.ediv_nonneg h0 (by omega)
  rw [h4]
  refine ⟨Int.mul_nonneg (by omega) h5, Int.mul_emod_right _ _, by omega, Int.mul_ediv_cancel_left _ (by omega), rfl⟩
theorem mul_lt {b x at_ : Int} (hb : 1 ≤ b) (hx : x % b = 0) (hle : x ≤ at_) (hne : x ≠ begB b at_) (h0 : 0 ≤ at_) : x / b + 1 ≤ at_ / b := by
  have h3 := Int.mul_ediv_add_emod x b
  have h4 := (beg_facts hb h0).2.2.2.2
  have h5 : x / b ≤ at_ / b := Int.ediv_le_ediv (by omega) hle
  rcases Int.lt_or_eq_of_le h5 with h | h
  · omega
  · exfalso
    apply hne
    rw [h4, ← h]
    omega
theorem sumW_snocB (P : NoteW → Bool) (l : List NoteW) (x : NoteW) : sumW P (l ++ [x]) = (sumW P l).add (if P x then rawOf x.c else .zero) := by rw [sumW_append, sumW, sumW, RawC.add_zero]
theorem InvL.add {b last at_ : Int} {notes : List NoteW} {L : List Bk3} (h : InvL b last notes L) (hb : 1 ≤ b) (hl : last ≤ at_) (h0 : 0 ≤ at_) {c : CntS} (hc : RightC c) (hd : 1 ≤ c.d) : InvL b at_ (notes ++ [⟨at_, c⟩]) (addL b at_ c L) := by
  obtain ⟨g0, g1, g2, g3, g4⟩ := beg_facts hb h0
  unfold addL
  cases hL : L.getLast? with
  | none =>
    obtain rfl := List.getLast?_eq_none_iff.1 hL
    refine ⟨fun P => ?_, fun k hk => ?_, fun k hk => ?_, fun x hx => ?_⟩
    · have := h.sum P
      rw [sumW_snocB, ← this]
      show sumLR P [_] = (sumLR P []).add _
      rw [sumB_one, sumLR, RawC.zero_add]
    · obtain rfl := List.mem_singleton.1 hk; exact ⟨rawOk_of hc, hd⟩
    · obtain rfl := List.mem_singleton.1 hk; exact ⟨g0, g1, g2⟩
    · simp at hx; subst hx; show (1 : Int) ≤ begB b at_ / b + 1
      have := Int.ediv_nonneg g0 (show 0 ≤ b by omega); omega
  | some x =>
    dsimp only
    have hmem : x ∈ L := List.mem_of_getLast? hL
    obtain ⟨L0, hL0⟩ := List.getLast?_eq_some_iff.1 hL
    subst hL0
    by_cases he : x.at_ = begB b at_
    · rw [if_pos he, List.dropLast_concat]
      refine ⟨fun P => ?_, fun k hk => ?_, fun k hk => ?_, fun y hy => ?_⟩
      · have := h.sum P
        rw [sumW_snocB, ← this, sumB_append, sumB_append, sumB_one, sumB_one, RawC.add_assoc]
        congr 1
        show (if P x.at_ then x.r.add (rawOf c) else .zero) = (if P x.at_ then x.r else .zero).add (if P (begB b at_) then rawOf c else .zero)
        rw [← he]
        cases P x.at_ <;> simp [RawC.add_zero]
      · rcases List.mem_append.1 hk with hk | hk
        · exact h.ok k (List.mem_append.2 (Or.inl hk))
        · obtain rfl := List.mem_singleton.1 hk
          have h1 := h.ok x hmem
          refine ⟨h1.1.add (rawOk_of hc), ?_⟩
          have h2 := h1.2
          show 1 ≤ x.r.d + c.d
          omega
      · rcases List.mem_append.1 hk with hk | hk
        · have := h.mul k (List.mem_append.2 (Or.inl hk)); exact ⟨this.1, this.2.1, by omega⟩
        · obtain rfl := List.mem_singleton.1 hk
          have := h.mul x hmem; exact ⟨this.1, this.2.1, by show x.at_ ≤ at_; omega⟩
      · have hy2 : (⟨x.at_, x.r.add (rawOf c)⟩ : Bk3) = y := by simpa using hy
        subst hy2
        have := h.len x hL
        simp at this ⊢
        exact this
    · rw [if_neg he]
      refine ⟨fun P => ?_, fun k hk => ?_, fun k hk => ?_, fun y hy => ?_⟩
      · have := h.sum P
        rw [sumW_snocB, ← this, sumB_append P (L0 ++ [x]), sumB_one]
      · rcases List.mem_append.1 hk with hk | hk
        · exact h.ok k hk
        · obtain rfl := List.mem_singleton.1 hk; exact ⟨rawOk_of hc, hd⟩
      · rcases List.mem_append.1 hk with hk | hk
        · have := h.mul k hk; exact ⟨this.1, this.2.1, by omega⟩
        · obtain rfl := List.mem_singleton.1 hk; exact ⟨g0, g1, g2⟩
      · have hy2 : (⟨begB b at_, rawOf c⟩ : Bk3) = y := by simpa using hy
        subst hy2
        have h1 := h.len x hL
        have h2 := h.mul x hmem
        have h3 := mul_lt hb h2.2.1 (by omega) he h0
        rw [List.length_append]
        show (((L0 ++ [x]).length + 1 : Nat) : Int) ≤ begB b at_ / b + 1
        rw [g3]
        push_cast
        omega
theorem InvL.few {b last : Int} {notes : List NoteW} {L : List Bk3} (h : InvL b last notes L) (hb : 1000000 ≤ b) (hl : last ≤ 1152921504606846976) : L.length ≤ 1152921504608 := by
  cases hL : L.getLast? with
  | none => rw [List.getLast?_eq_none_iff.1 hL]; simp
  | some x =>
    have h1 := h.len x hL
    have h2 := h.mul x (List.mem_of_getLast? hL)
    have h3 : x.at_ / b ≤ x.at_ / 1000000 := by
      apply Int.le_ediv_of_mul_le (by omega)
      have := Int.mul_ediv_add_emod x.at_ b
      have h5 := Int.emod_nonneg x.at_ (show b ≠ 0 by omega)
      have h6 : 0 ≤ x.at_ / b := Int.ediv_nonneg h2.1 (by omega)
      have h7 : x.at_ / b * 1000000 ≤ x.at_ / b * b := Int.mul_le_mul_of_nonneg_left hb h6
      have h8 : x.at_ / b * b = b * (x.at_ / b) := Int.mul_comm _ _
      omega
    omega
theorem joinB (P : Int → Bool) : ∀ {L : List Bk3} {A : RawC}, RawOk A → (∀ k, k ∈ L → RawOk k.r) → joinC (imgC A) ((L.filter (fun k => P k.at_)).map (fun k => imgC k.r)) = imgC (A.add (sumLR P L))
  | [], A, _, _ => by simp [joinC, sumLR, RawC.add_zero]
  | k :: L, A, hA, h => by
    have hk := h k (by simp)
    have ih := fun {A : RawC} (hA : RawOk A) => joinB P (L := L) (A := A) hA (fun x hx => h x (by simp [hx]))
    cases hP : P k.at_ with
    | true =>
      rw [List.filter_cons, if_pos hP, List.map_cons]
      show joinC (twoC (imgC A) (imgC k.r)) _ = _
      rw [twoC_img hA hk, ih (hA.add hk), sumLR, if_pos hP, RawC.add_assoc]
    | false =>
      rw [List.filter_cons, if_neg (by rw [hP]; simp), ih hA, sumLR, if_neg (by rw [hP]; simp), RawC.zero_add]
def inBk3 (b at_ : Int) (t : Int) : Bool := decide (begB b at_ - b < t)
theorem inB_win {b at_ : Int} (hb : 1 ≤ b) (h0 : 0 ≤ at_) {t : Int} (ht : 0 ≤ t) : inBk3 b at_ (begB b t) = decide (at_ / b - 1 < t / b) := by
  unfold inBk3
  rw [(beg_facts hb h0).2.2.2.2, (beg_facts hb ht).2.2.2.2]
  apply decide_eq_decide.2
  constructor
  · intro h
    have h1 : b * (at_ / b - 1) < b * (t / b) := by rw [Int.mul_sub]; omega
    exact Int.lt_of_mul_lt_mul_left h1 (by omega)
  · intro h
    have h1 := Int.mul_lt_mul_of_pos_left h (show 0 < b by omega)
    rw [Int.mul_sub] at h1
    omega
theorem sumW_congrB {p q : NoteW → Bool} : ∀ {l : List NoteW}, (∀ x, x ∈ l → p x = q x) → sumW p l = sumW q l
  | [], _ => rfl
  | x :: l, h => by rw [sumW, sumW, h x (by simp), sumW_congrB (fun y hy => h y (by simp [hy]))]
theorem InvL.tells {b last at_ : Int} {notes : List NoteW} {L : List Bk3} (h : InvL b last notes L) (hb : 1 ≤ b) (h0 : 0 ≤ at_) (hn : ∀ x, x ∈ notes → 0 ≤ x.at_) : joinC .zero ((L.filter (fun k => inBk3 b at_ k.at_)).map (fun k => imgC k.r)) = winC b 1 at_ notes := by
  have e := joinB (inBk3 b at_) (L := L) rawOk_zero (fun k hk => (h.ok k hk).1)
  rw [imgC_zero, RawC.zero_add, h.sum] at e
  rw [e]
  unfold winC
  rw [sumW_congrB (fun x hx => inB_win hb h0 (hn x hx))]
end Go.Proofs.YtemlafbkkaloiaaGreat
namespace Go.Proofs.YtemlafbkkaloiaaGreat
open Go.RowKit
set_option maxHeartbeats 800000 in
theorem r3sum_any (a b : Int) (a0 : 0 ≤ a) (a1 : a ≤ 4611686018427387904) (b0 : 0 ≤ b) (b1 : b ≤ 4611686018427387904) (w : World) :
    Calls Tryz.prog 109 #[.int .i64 a, .int .i64 b] w fun e w' => e = .returned (.int .i64 (plusW a b)) ∧ w' = w := by
  by_cases h : 4611686018427387904 - b < a
  · have e : plusW a b = 4611686018427387904 := by unfold plusW; rw [if_neg (by omega)]; omega
    rw [e]
    go_enter Tryz.func109, Tryz.ntmps109
    go_wp2_with (fail)
    go_ret
    exact ⟨rfl, rfl⟩
  · have e : plusW a b = a + b := by unfold plusW; split <;> omega
    rw [e]
    go_enter Tryz.func109, Tryz.ntmps109
    go_wp2_with (fail)
    go_ret
    exact ⟨rfl, rfl⟩
set_option maxHeartbeats 12800000 in
set_option maxRecDepth 100000 in
theorem r3two_any (x y : CntS) (hx : RightC x) (hy : RightC y) (w : World) : Calls Tryz.prog 88 #[ctV x, ctV y] w fun e w' => e = .returned (ctV (twoC x y)) ∧ Below w.heap.size w w' := by
  have C0 := Lib.hid (fun w => r3sum_any x.p y.p hx.p0 hx.p1 hy.p0 hy.p1 w)
  have C1 := Lib.hid (fun w => r3sum_any x.b y.b hx.b0 hx.b1 hy.b0 hy.b1 w)
  have C2 := Lib.hid (fun w => r3sum_any x.d y.d hx.d0 hx.d1 hy.d0 hy.d1 w)
  have C3 := Lib.hid (fun w => r3sum_any x.e y.e hx.e0 hx.e1 hy.e0 hy.e1 w)
  have C4 := Lib.hid (fun w => r3sum_any x.r y.r hx.r0 hx.r1 hy.r0 hy.r1 w)
  obtain ⟨M, hM⟩ : ∃ M, M = (twoC x y).m := ⟨_, rfl⟩
  have HV := Lib.hid (show ctV (twoC x y) = .agg #[.int .i64 (plusW x.p y.p), .int .i64 (plusW x.b y.b), .int .i64 (plusW x.d y.d), .int .i64 (plusW x.e y.e), .int .i64 (plusW x.r y.r), .int .i64 M] by rw [hM]; rfl)
  have HM := Lib.hid (show M = if x.d = 0 then y.m else if y.d = 0 then x.m else if x.m < y.m then x.m else y.m from hM)
  generalize plusW x.p y.p = P0 at C0 HV
  generalize plusW x.b y.b = P1 at C1 HV
  generalize plusW x.d y.d = P2 at C2 HV
  generalize plusW x.e y.e = P3 at C3 HV
  generalize plusW x.r y.r = P4 at C4 HV
  unfold ctV at HV
  unfold ctV
  rw [HV.out]
  clear hx hy hM HV
  go_enter Tryz.func88, Tryz.ntmps88
  go_wp2_with (fail)
  obtain ⟨W0, hW0⟩ : ∃ W0, ((w.alloc (ctO x 92)).alloc (ctO y 92)).alloc (ctO .zero 92) = W0 := ⟨_, rfl⟩
  obtain ⟨hsz, hSW, hBW, hR, hfz, hg2⟩ := two_open x y w W0 hW0
  have HSW := Lib.hid hSW
  have HBW := Lib.hid hBW
  have HR := Lib.hid hR
  have HSZ := Lib.hid hsz
  have HFZ := Lib.hid hfz
  have HG2 := Lib.hid hg2
  unfold ctO CntS.zero at hW0
  dsimp only at hW0
  rw [hW0]
  clear hW0 hSW hBW hR hsz hfz hg2
  generalize hNN : w.heap.size = N at *
  have HNN := Lib.hid hNN
  clear hNN
  refine wp_midW (fun a a' w' => TwoR a a' w' W0 P0 P1 P2 P3 P4) ?_ ?_
  · refine wp_region_noPanic ?_
    refine wp_region_held_drew (S := STwo N W0 x y) (by kernel_rfl) ?_ (fun hHeld => ?_)
    · exact HSW.out.drew
    refine wpAnyH_take (i := 0) (v := ?_) rfl (by kernel_rfl) (by kernel_rfl) (by kernel_rfl) (fun _ _ _ h => h) (Or.inl ⟨by rfl, ?hy⟩) (by assumption) ?_
    case hy => intro wq hSw; obtain ⟨a0, a1, a2, a3, a4, a5, b0, b1, b2, b3, b4, b5, hz, hB⟩ := hSw; go_simp; try with_reducible rfl
    try simp only [Act.put, szA, szB, szC, szD, szE, szF]
    refine wpAnyH_take (i := 1) (v := ?_) rfl (by kernel_rfl) (by kernel_rfl) (by kernel_rfl) (fun _ _ _ h => h) (Or.inl ⟨by rfl, ?hy⟩) (by assumption) ?_
    case hy => intro wq hSw; obtain ⟨a0, a1, a2, a3, a4, a5, b0, b1, b2, b3, b4, b5, hz, hB⟩ := hSw; go_simp; try with_reducible rfl
    try simp only [Act.put, szA, szB, szC, szD, szE, szF]
    refine wpAnyH_take (i := 2) (v := ?_) rfl (by kernel_rfl) (by kernel_rfl) (by kernel_rfl) (fun _ _ _ h => h) (Or.inl ⟨by rfl, ?hy⟩) (by assumption) ?_
    case hy => intro wq hSw; obtain ⟨a0, a1, a2, a3, a4, a5, b0, b1, b2, b3, b4, b5, hz, hB⟩ := hSw; go_simp; try with_reducible rfl
    try simp only [Act.put, szA, szB, szC, szD, szE, szF]
    refine wpAnyH_take (i := 3) (v := ?_) rfl (by kernel_rfl) (by kernel_rfl) (by kernel_rfl) (fun _ _ _ h => h) (Or.inl ⟨by rfl, ?hy⟩) (by assumption) ?_
    case hy => intro wq hSw; obtain ⟨a0, a1, a2, a3, a4, a5, b0, b1, b2, b3, b4, b5, hz, hB⟩ := hSw; go_simp; try with_reducible rfl
    try simp only [Act.put, szA, szB, szC, szD, szE, szF]
    refine wpAnyH_take (i := 5) (v := ?_) rfl (by kernel_rfl) (by kernel_rfl) (by kernel_rfl) (fun _ _ _ h => h) (Or.inl ⟨by rfl, ?hy⟩) (by assumption) ?_
    case hy => intro wq hSw; obtain ⟨a0, a1, a2, a3, a4, a5, b0, b1, b2, b3, b4, b5, hz, hB⟩ := hSw; go_simp; try with_reducible rfl
    try simp only [Act.put, szA, szB, szC, szD, szE, szF]
    refine wpAnyH_take (i := 6) (v := ?_) rfl (by kernel_rfl) (by kernel_rfl) (by kernel_rfl) (fun _ _ _ h => h) (Or.inl ⟨by rfl, ?hy⟩) (by assumption) ?_
    case hy => intro wq hSw; obtain ⟨a0, a1, a2, a3, a4, a5, b0, b1, b2, b3, b4, b5, hz, hB⟩ := hSw; go_simp; try with_reducible rfl
    try simp only [Act.put, szA, szB, szC, szD, szE, szF]
    refine wpAnyH_take (i := 7) (v := ?_) rfl (by kernel_rfl) (by kernel_rfl) (by kernel_rfl) (fun _ _ _ h => h) (Or.inl ⟨by rfl, ?hy⟩) (by assumption) ?_
    case hy => intro wq hSw; obtain ⟨a0, a1, a2, a3, a4, a5, b0, b1, b2, b3, b4, b5, hz, hB⟩ := hSw; go_simp; try with_reducible rfl
    try simp only [Act.put, szA, szB, szC, szD, szE, szF]
    refine wpAnyH_take (i := 8) (v := ?_) rfl (by kernel_rfl) (by kernel_rfl) (by kernel_rfl) (fun _ _ _ h => h) (Or.inl ⟨by rfl, ?hy⟩) (by assumption) ?_
    case hy => intro wq hSw; obtain ⟨a0, a1, a2, a3, a4, a5, b0, b1, b2, b3, b4, b5, hz, hB⟩ := hSw; go_simp; try with_reducible rfl
    try simp only [Act.put, szA, szB, szC, szD, szE, szF]
    refine wpAnyH_take (i := 10) (v := ?_) rfl (by kernel_rfl) (by kernel_rfl) (by kernel_rfl) (fun _ _ _ h => h) (Or.inl ⟨by rfl, ?hy⟩) (by assumption) ?_
    case hy => intro wq hSw; obtain ⟨a0, a1, a2, a3, a4, a5, b0, b1, b2, b3, b4, b5, hz, hB⟩ := hSw; go_simp; try with_reducible rfl
    try simp only [Act.put, szA, szB, szC, szD, szE, szF]
    refine wpAnyH_take (i := 11) (v := ?_) rfl (by kernel_rfl) (by kernel_rfl) (by kernel_rfl) (fun _ _ _ h => h) (Or.inl ⟨by rfl, ?hy⟩) (by assumption) ?_
    case hy => intro wq hSw; obtain ⟨a0, a1, a2, a3, a4, a5, b0, b1, b2, b3, b4, b5, hz, hB⟩ := hSw; go_simp; try with_reducible rfl
    try simp only [Act.put, szA, szB, szC, szD, szE, szF]
    refine wpAnyH_take (i := 12) (v := ?_) rfl (by kernel_rfl) (by kernel_rfl) (by kernel_rfl) (fun _ _ _ h => h) (Or.inl ⟨by rfl, ?hy⟩) (by assumption) ?_
    case hy => intro wq hSw; obtain ⟨a0, a1, a2, a3, a4, a5, b0, b1, b2, b3, b4, b5, hz, hB⟩ := hSw; go_simp; try with_reducible rfl
    try simp only [Act.put, szA, szB, szC, szD, szE, szF]
    refine wpAnyH_take (i := 13) (v := ?_) rfl (by kernel_rfl) (by kernel_rfl) (by kernel_rfl) (fun _ _ _ h => h) (Or.inl ⟨by rfl, ?hy⟩) (by assumption) ?_
    case hy => intro wq hSw; obtain ⟨a0, a1, a2, a3, a4, a5, b0, b1, b2, b3, b4, b5, hz, hB⟩ := hSw; go_simp; try with_reducible rfl
    try simp only [Act.put, szA, szB, szC, szD, szE, szF]
    refine wpAnyH_take (i := 15) (v := ?_) rfl (by kernel_rfl) (by kernel_rfl) (by kernel_rfl) (fun _ _ _ h => h) (Or.inl ⟨by rfl, ?hy⟩) (by assumption) ?_
    case hy => intro wq hSw; obtain ⟨a0, a1, a2, a3, a4, a5, b0, b1, b2, b3, b4, b5, hz, hB⟩ := hSw; go_simp; try with_reducible rfl
    try simp only [Act.put, szA, szB, szC, szD, szE, szF]
    refine wpAnyH_take (i := 16) (v := ?_) rfl (by kernel_rfl) (by kernel_rfl) (by kernel_rfl) (fun _ _ _ h => h) (Or.inl ⟨by rfl, ?hy⟩) (by assumption) ?_
    case hy => intro wq hSw; obtain ⟨a0, a1, a2, a3, a4, a5, b0, b1, b2, b3, b4, b5, hz, hB⟩ := hSw; go_simp; try with_reducible rfl
    try simp only [Act.put, szA, szB, szC, szD, szE, szF]
    refine wpAnyH_take (i := 17) (v := ?_) rfl (by kernel_rfl) (by kernel_rfl) (by kernel_rfl) (fun _ _ _ h => h) (Or.inl ⟨by rfl, ?hy⟩) (by assumption) ?_
    case hy => intro wq hSw; obtain ⟨a0, a1, a2, a3, a4, a5, b0, b1, b2, b3, b4, b5, hz, hB⟩ := hSw; go_simp; try with_reducible rfl
    try simp only [Act.put, szA, szB, szC, szD, szE, szF]
    refine wpAnyH_take (i := 18) (v := ?_) rfl (by kernel_rfl) (by kernel_rfl) (by kernel_rfl) (fun _ _ _ h => h) (Or.inl ⟨by rfl, ?hy⟩) (by assumption) ?_
    case hy => intro wq hSw; obtain ⟨a0, a1, a2, a3, a4, a5, b0, b1, b2, b3, b4, b5, hz, hB⟩ := hSw; go_simp; try with_reducible rfl
    try simp only [Act.put, szA, szB, szC, szD, szE, szF]
    refine wpAnyH_take (i := 20) (v := ?_) rfl (by kernel_rfl) (by kernel_rfl) (by kernel_rfl) (fun _ _ _ h => h) (Or.inl ⟨by rfl, ?hy⟩) (by assumption) ?_
    case hy => intro wq hSw; obtain ⟨a0, a1, a2, a3, a4, a5, b0, b1, b2, b3, b4, b5, hz, hB⟩ := hSw; go_simp; try with_reducible rfl
    try simp only [Act.put, szA, szB, szC, szD, szE, szF]
    refine wpAnyH_take (i := 21) (v := ?_) rfl (by kernel_rfl) (by kernel_rfl) (by kernel_rfl) (fun _ _ _ h => h) (Or.inl ⟨by rfl, ?hy⟩) (by assumption) ?_
    case hy => intro wq hSw; obtain ⟨a0, a1, a2, a3, a4, a5, b0, b1, b2, b3, b4, b5, hz, hB⟩ := hSw; go_simp; try with_reducible rfl
    try simp only [Act.put, szA, szB, szC, szD, szE, szF]
    refine wpAnyH_take (i := 22) (v := ?_) rfl (by kernel_rfl) (by kernel_rfl) (by kernel_rfl) (fun _ _ _ h => h) (Or.inl ⟨by rfl, ?hy⟩) (by assumption) ?_
    case hy => intro wq hSw; obtain ⟨a0, a1, a2, a3, a4, a5, b0, b1, b2, b3, b4, b5, hz, hB⟩ := hSw; go_simp; try with_reducible rfl
    try simp only [Act.put, szA, szB, szC, szD, szE, szF]
    refine wpAnyH_take (i := 23) (v := ?_) rfl (by kernel_rfl) (by kernel_rfl) (by kernel_rfl) (fun _ _ _ h => h) (Or.inl ⟨by rfl, ?hy⟩) (by assumption) ?_
    case hy => intro wq hSw; obtain ⟨a0, a1, a2, a3, a4, a5, b0, b1, b2, b3, b4, b5, hz, hB⟩ := hSw; go_simp; try with_reducible rfl
    try simp only [Act.put, szA, szB, szC, szD, szE, szF]
    refine wpAnyH_ready (rs := [4, 26]) (by kernel_rfl) (by simp) (AllReadyH.cons rfl (fun K hK => ?_) (AllReadyH.cons rfl (fun K hK => ?_) AllReadyH.nil))
    · go_simp
      refine (C0.out _).mono ?_
      rintro e w5 ⟨rfl, rfl⟩
      try (go_wp2_with fail)
      refine hK.out _ _ hHeld (fun hHeld => ?_)
      clear hK K
      try simp only [Act.put, szA, szB, szC, szD, szE, szF]
      refine wpAnyH_ready (rs := [9, 26]) (by kernel_rfl) (by simp) (AllReadyH.cons rfl (fun K hK => ?_) (AllReadyH.cons rfl (fun K hK => ?_) AllReadyH.nil))
      · go_simp
        refine (C1.out _).mono ?_
        rintro e w5 ⟨rfl, rfl⟩
        try (go_wp2_with fail)
        refine hK.out _ _ hHeld (fun hHeld => ?_)
        clear hK K
        try simp only [Act.put, szA, szB, szC, szD, szE, szF]
        refine wpAnyH_ready (rs := [14, 26]) (by kernel_rfl) (by simp) (AllReadyH.cons rfl (fun K hK => ?_) (AllReadyH.cons rfl (fun K hK => ?_) AllReadyH.nil))
        · go_simp
          refine (C2.out _).mono ?_
          rintro e w5 ⟨rfl, rfl⟩
          try (go_wp2_with fail)
          refine hK.out _ _ hHeld (fun hHeld => ?_)
          clear hK K
          try simp only [Act.put, szA, szB, szC, szD, szE, szF]
          refine wpAnyH_ready (rs := [19, 26]) (by kernel_rfl) (by simp) (AllReadyH.cons rfl (fun K hK => ?_) (AllReadyH.cons rfl (fun K hK => ?_) AllReadyH.nil))
          · go_simp
            refine (C3.out _).mono ?_
            rintro e w5 ⟨rfl, rfl⟩
            try (go_wp2_with fail)
            refine hK.out _ _ hHeld (fun hHeld => ?_)
            clear hK K
            try simp only [Act.put, szA, szB, szC, szD, szE, szF]
            refine wpAnyH_ready (rs := [24, 26]) (by kernel_rfl) (by simp) (AllReadyH.cons rfl (fun K hK => ?_) (AllReadyH.cons rfl (fun K hK => ?_) AllReadyH.nil))
            · go_simp
              refine (C4.out _).mono ?_
              rintro e w5 ⟨rfl, rfl⟩
              try (go_wp2_with fail)
              refine hK.out _ _ hHeld (fun hHeld => ?_)
              clear hK K
              try simp only [Act.put, szA, szB, szC, szD, szE, szF]
              refine wpAnyH_take (i := 25) (v := ?_) rfl (by kernel_rfl) (by kernel_rfl) (by kernel_rfl) (fun _ _ _ h => h) (Or.inl ⟨by rfl, ?hy⟩) (by assumption) ?_
              case hy => intro wq hSw; obtain ⟨a0, a1, a2, a3, a4, a5, b0, b1, b2, b3, b4, b5, hz, hB⟩ := hSw; go_simp; try with_reducible rfl
              try simp only [Act.put, szA, szB, szC, szD, szE, szF]
              refine wpAnyH_ready (rs := [26]) (by kernel_rfl) (by simp) (AllReadyH.cons rfl (fun K hK => ?_) AllReadyH.nil)
              go_simp
              try (go_wp2_with fail)
              refine hK.out _ _ (hHeld.alloc _) (fun hHeld => ?_)
              clear hK K
              try simp only [Act.put, szA, szB, szC, szD, szE, szF]
              refine wpAnyH_ready (rs := [27]) (by kernel_rfl) (by simp) (AllReadyH.cons rfl (fun K hK => ?_) AllReadyH.nil)
              go_simp
              try (go_wp2_with fail)
              have hSL := (HSW.out.alloc (.cells #[.int .i64 P0, .int .i64 P1, .int .i64 P2, .int .i64 P3, .int .i64 P4, .int .i64 0] 92)).drew
              refine hK.out _ _ hSL (fun hHeld => ?_)
              clear hK K
              try simp only [Act.put, szA, szB, szC, szD, szE, szF]
              refine wpAnyH_done (by kernel_rfl) ?_ _
              refine NoPanic.normal ?_
              refine ⟨rfl, .pointer (some ⟨N, 0, none⟩), .int .i64 x.p, .pointer (some ⟨N + 1, 0, none⟩), .int .i64 y.p, .int .i64 P0, .pointer (some ⟨N, 1, none⟩), .int .i64 x.b, .pointer (some ⟨N + 1, 1, none⟩), .int .i64 y.b, .int .i64 P1, .pointer (some ⟨N, 2, none⟩), .int .i64 x.d, .pointer (some ⟨N + 1, 2, none⟩), .int .i64 y.d, .int .i64 P2, .pointer (some ⟨N, 3, none⟩), .int .i64 x.e, .pointer (some ⟨N + 1, 3, none⟩), .int .i64 y.e, .int .i64 P3, .pointer (some ⟨N, 4, none⟩), .int .i64 x.r, .pointer (some ⟨N + 1, 4, none⟩), .int .i64 y.r, .int .i64 P4, .agg #[.int .i64 P0, .int .i64 P1, .int .i64 P2, .int .i64 P3, .int .i64 P4, .int .i64 0], ?_, rfl⟩
              simp only [Act.put, List.setIfInBounds_toArray, List.set_cons_zero, List.set_cons_succ]
            · go_simp
              try (go_wp2_with fail)
              refine hK.out _ _ (hHeld.alloc _) (fun hHeld => ?_)
              clear hK K
              try simp only [Act.put, szA, szB, szC, szD, szE, szF]
              refine wpAnyH_ready (rs := [24]) (by kernel_rfl) (by simp) (AllReadyH.cons rfl (fun K hK => ?_) AllReadyH.nil)
              go_simp
              refine (C4.out _).mono ?_
              rintro e w5 ⟨rfl, rfl⟩
              try (go_wp2_with fail)
              refine hK.out _ _ hHeld (fun hHeld => ?_)
              clear hK K
              try simp only [Act.put, szA, szB, szC, szD, szE, szF]
              refine wpAnyH_take (i := 25) (v := ?_) rfl (by kernel_rfl) (by kernel_rfl) (by kernel_rfl) (fun _ _ _ h => h) (Or.inl ⟨by rfl, ?hy⟩) (by assumption) ?_
              case hy => intro wq hSw; obtain ⟨a0, a1, a2, a3, a4, a5, b0, b1, b2, b3, b4, b5, hz, hB⟩ := hSw; go_simp; try with_reducible rfl
              try simp only [Act.put, szA, szB, szC, szD, szE, szF]
              refine wpAnyH_ready (rs := [27]) (by kernel_rfl) (by simp) (AllReadyH.cons rfl (fun K hK => ?_) AllReadyH.nil)
              go_simp
              try (go_wp2_with fail)
              have hSL := (HSW.out.alloc (.cells #[.int .i64 P0, .int .i64 P1, .int .i64 P2, .int .i64 P3, .int .i64 P4, .int .i64 0] 92)).drew
              refine hK.out _ _ hSL (fun hHeld => ?_)
              clear hK K
              try simp only [Act.put, szA, szB, szC, szD, szE, szF]
              refine wpAnyH_done (by kernel_rfl) ?_ _
              refine NoPanic.normal ?_
              refine ⟨rfl, .pointer (some ⟨N, 0, none⟩), .int .i64 x.p, .pointer (some ⟨N + 1, 0, none⟩), .int .i64 y.p, .int .i64 P0, .pointer (some ⟨N, 1, none⟩), .int .i64 x.b, .pointer (some ⟨N + 1, 1, none⟩), .int .i64 y.b, .int .i64 P1, .pointer (some ⟨N, 2, none⟩), .int .i64 x.d, .pointer (some ⟨N + 1, 2, none⟩), .int .i64 y.d, .int .i64 P2, .pointer (some ⟨N, 3, none⟩), .int .i64 x.e, .pointer (some ⟨N + 1, 3, none⟩), .int .i64 y.e, .int .i64 P3, .pointer (some ⟨N, 4, none⟩), .int .i64 x.r, .pointer (some ⟨N + 1, 4, none⟩), .int .i64 y.r, .int .i64 P4, .agg #[.int .i64 P0, .int .i64 P1, .int .i64 P2, .int .i64 P3, .int .i64 P4, .int .i64 0], ?_, rfl⟩
              simp only [Act.put, List.setIfInBounds_toArray, List.set_cons_zero, List.set_cons_succ]
          · go_simp
            try (go_wp2_with fail)
            refine hK.out _ _ (hHeld.alloc _) (fun hHeld => ?_)
            clear hK K
            try simp only [Act.put, szA, szB, szC, szD, szE, szF]
            refine wpAnyH_ready (rs := [19]) (by kernel_rfl) (by simp) (AllReadyH.cons rfl (fun K hK => ?_) AllReadyH.nil)
            go_simp
            refine (C3.out _).mono ?_
            rintro e w5 ⟨rfl, rfl⟩
            try (go_wp2_with fail)
            refine hK.out _ _ hHeld (fun hHeld => ?_)
            clear hK K
            try simp only [Act.put, szA, szB, szC, szD, szE, szF]
            refine wpAnyH_ready (rs := [24]) (by kernel_rfl) (by simp) (AllReadyH.cons rfl (fun K hK => ?_) AllReadyH.nil)
            go_simp
            refine (C4.out _).mono ?_
            rintro e w5 ⟨rfl, rfl⟩
            try (go_wp2_with fail)
            refine hK.out _ _ hHeld (fun hHeld => ?_)
            clear hK K
            try simp only [Act.put, szA, szB, szC, szD, szE, szF]
            refine wpAnyH_take (i := 25) (v := ?_) rfl (by kernel_rfl) (by kernel_rfl) (by kernel_rfl) (fun _ _ _ h => h) (Or.inl ⟨by rfl, ?hy⟩) (by assumption) ?_
            case hy => intro wq hSw; obtain ⟨a0, a1, a2, a3, a4, a5, b0, b1, b2, b3, b4, b5, hz, hB⟩ := hSw; go_simp; try with_reducible rfl
            try simp only [Act.put, szA, szB, szC, szD, szE, szF]
            refine wpAnyH_ready (rs := [27]) (by kernel_rfl) (by simp) (AllReadyH.cons rfl (fun K hK => ?_) AllReadyH.nil)
            go_simp
            try (go_wp2_with fail)
            have hSL := (HSW.out.alloc (.cells #[.int .i64 P0, .int .i64 P1, .int .i64 P2, .int .i64 P3, .int .i64 P4, .int .i64 0] 92)).drew
            refine hK.out _ _ hSL (fun hHeld => ?_)
            clear hK K
            try simp only [Act.put, szA, szB, szC, szD, szE, szF]
            refine wpAnyH_done (by kernel_rfl) ?_ _
            refine NoPanic.normal ?_
            refine ⟨rfl, .pointer (some ⟨N, 0, none⟩), .int .i64 x.p, .pointer (some ⟨N + 1, 0, none⟩), .int .i64 y.p, .int .i64 P0, .pointer (some ⟨N, 1, none⟩), .int .i64 x.b, .pointer (some ⟨N + 1, 1, none⟩), .int .i64 y.b, .int .i64 P1, .pointer (some ⟨N, 2, none⟩), .int .i64 x.d, .pointer (some ⟨N + 1, 2, none⟩), .int .i64 y.d, .int .i64 P2, .pointer (some ⟨N, 3, none⟩), .int .i64 x.e, .pointer (some ⟨N + 1, 3, none⟩), .int .i64 y.e, .int .i64 P3, .pointer (some ⟨N, 4, none⟩), .int .i64 x.r, .pointer (some ⟨N + 1, 4, none⟩), .int .i64 y.r, .int .i64 P4, .agg #[.int .i64 P0, .int .i64 P1, .int .i64 P2, .int .i64 P3, .int .i64 P4, .int .i64 0], ?_, rfl⟩
            simp only [Act.put, List.setIfInBounds_toArray, List.set_cons_zero, List.set_cons_succ]
        · go_simp
          try (go_wp2_with fail)
          refine hK.out _ _ (hHeld.alloc _) (fun hHeld => ?_)
          clear hK K
          try simp only [Act.put, szA, szB, szC, szD, szE, szF]
          refine wpAnyH_ready (rs := [14]) (by kernel_rfl) (by simp) (AllReadyH.cons rfl (fun K hK => ?_) AllReadyH.nil)
          go_simp
          refine (C2.out _).mono ?_
          rintro e w5 ⟨rfl, rfl⟩
          try (go_wp2_with fail)
          refine hK.out _ _ hHeld (fun hHeld => ?_)
          clear hK K
          try simp only [Act.put, szA, szB, szC, szD, szE, szF]
          refine wpAnyH_ready (rs := [19]) (by kernel_rfl) (by simp) (AllReadyH.cons rfl (fun K hK => ?_) AllReadyH.nil)
          go_simp
          refine (C3.out _).mono ?_
          rintro e w5 ⟨rfl, rfl⟩
          try (go_wp2_with fail)
          refine hK.out _ _ hHeld (fun hHeld => ?_)
          clear hK K
          try simp only [Act.put, szA, szB, szC, szD, szE, szF]
          refine wpAnyH_ready (rs := [24]) (by kernel_rfl) (by simp) (AllReadyH.cons rfl (fun K hK => ?_) AllReadyH.nil)
          go_simp
          refine (C4.out _).mono ?_
          rintro e w5 ⟨rfl, rfl⟩
          try (go_wp2_with fail)
          refine hK.out _ _ hHeld (fun hHeld => ?_)
          clear hK K
          try simp only [Act.put, szA, szB, szC, szD, szE, szF]
          refine wpAnyH_take (i := 25) (v := ?_) rfl (by kernel_rfl) (by kernel_rfl) (by kernel_rfl) (fun _ _ _ h => h) (Or.inl ⟨by rfl, ?hy⟩) (by assumption) ?_
          case hy => intro wq hSw; obtain ⟨a0, a1, a2, a3, a4, a5, b0, b1, b2, b3, b4, b5, hz, hB⟩ := hSw; go_simp; try with_reducible rfl
          try simp only [Act.put, szA, szB, szC, szD, szE, szF]
          refine wpAnyH_ready (rs := [27]) (by kernel_rfl) (by simp) (AllReadyH.cons rfl (fun K hK => ?_) AllReadyH.nil)
          go_simp
          try (go_wp2_with fail)
          have hSL := (HSW.out.alloc (.cells #[.int .i64 P0, .int .i64 P1, .int .i64 P2, .int .i64 P3, .int .i64 P4, .int .i64 0] 92)).drew
          refine hK.out _ _ hSL (fun hHeld => ?_)
          clear hK K
          try simp only [Act.put, szA, szB, szC, szD, szE, szF]
          refine wpAnyH_done (by kernel_rfl) ?_ _
          refine NoPanic.normal ?_
          refine ⟨rfl, .pointer (some ⟨N, 0, none⟩), .int .i64 x.p, .pointer (some ⟨N + 1, 0, none⟩), .int .i64 y.p, .int .i64 P0, .pointer (some ⟨N, 1, none⟩), .int .i64 x.b, .pointer (some ⟨N + 1, 1, none⟩), .int .i64 y.b, .int .i64 P1, .pointer (some ⟨N, 2, none⟩), .int .i64 x.d, .pointer (some ⟨N + 1, 2, none⟩), .int .i64 y.d, .int .i64 P2, .pointer (some ⟨N, 3, none⟩), .int .i64 x.e, .pointer (some ⟨N + 1, 3, none⟩), .int .i64 y.e, .int .i64 P3, .pointer (some ⟨N, 4, none⟩), .int .i64 x.r, .pointer (some ⟨N + 1, 4, none⟩), .int .i64 y.r, .int .i64 P4, .agg #[.int .i64 P0, .int .i64 P1, .int .i64 P2, .int .i64 P3, .int .i64 P4, .int .i64 0], ?_, rfl⟩
          simp only [Act.put, List.setIfInBounds_toArray, List.set_cons_zero, List.set_cons_succ]
      · go_simp
        try (go_wp2_with fail)
        refine hK.out _ _ (hHeld.alloc _) (fun hHeld => ?_)
        clear hK K
        try simp only [Act.put, szA, szB, szC, szD, szE, szF]
        refine wpAnyH_ready (rs := [9]) (by kernel_rfl) (by simp) (AllReadyH.cons rfl (fun K hK => ?_) AllReadyH.nil)
        go_simp
        refine (C1.out _).mono ?_
        rintro e w5 ⟨rfl, rfl⟩
        try (go_wp2_with fail)
        refine hK.out _ _ hHeld (fun hHeld => ?_)
        clear hK K
        try simp only [Act.put, szA, szB, szC, szD, szE, szF]
        refine wpAnyH_ready (rs := [14]) (by kernel_rfl) (by simp) (AllReadyH.cons rfl (fun K hK => ?_) AllReadyH.nil)
        go_simp
        refine (C2.out _).mono ?_
        rintro e w5 ⟨rfl, rfl⟩
        try (go_wp2_with fail)
        refine hK.out _ _ hHeld (fun hHeld => ?_)
        clear hK K
        try simp only [Act.put, szA, szB, szC, szD, szE, szF]
        refine wpAnyH_ready (rs := [19]) (by kernel_rfl) (by simp) (AllReadyH.cons rfl (fun K hK => ?_) AllReadyH.nil)
        go_simp
        refine (C3.out _).mono ?_
        rintro e w5 ⟨rfl, rfl⟩
        try (go_wp2_with fail)
        refine hK.out _ _ hHeld (fun hHeld => ?_)
        clear hK K
        try simp only [Act.put, szA, szB, szC, szD, szE, szF]
        refine wpAnyH_ready (rs := [24]) (by kernel_rfl) (by simp) (AllReadyH.cons rfl (fun K hK => ?_) AllReadyH.nil)
        go_simp
        refine (C4.out _).mono ?_
        rintro e w5 ⟨rfl, rfl⟩
        try (go_wp2_with fail)
        refine hK.out _ _ hHeld (fun hHeld => ?_)
        clear hK K
        try simp only [Act.put, szA, szB, szC, szD, szE, szF]
        refine wpAnyH_take (i := 25) (v := ?_) rfl (by kernel_rfl) (by kernel_rfl) (by kernel_rfl) (fun _ _ _ h => h) (Or.inl ⟨by rfl, ?hy⟩) (by assumption) ?_
        case hy => intro wq hSw; obtain ⟨a0, a1, a2, a3, a4, a5, b0, b1, b2, b3, b4, b5, hz, hB⟩ := hSw; go_simp; try with_reducible rfl
        try simp only [Act.put, szA, szB, szC, szD, szE, szF]
        refine wpAnyH_ready (rs := [27]) (by kernel_rfl) (by simp) (AllReadyH.cons rfl (fun K hK => ?_) AllReadyH.nil)
        go_simp
        try (go_wp2_with fail)
        have hSL := (HSW.out.alloc (.cells #[.int .i64 P0, .int .i64 P1, .int .i64 P2, .int .i64 P3, .int .i64 P4, .int .i64 0] 92)).drew
        refine hK.out _ _ hSL (fun hHeld => ?_)
        clear hK K
        try simp only [Act.put, szA, szB, szC, szD, szE, szF]
        refine wpAnyH_done (by kernel_rfl) ?_ _
        refine NoPanic.normal ?_
        refine ⟨rfl, .pointer (some ⟨N, 0, none⟩), .int .i64 x.p, .pointer (some ⟨N + 1, 0, none⟩), .int .i64 y.p, .int .i64 P0, .pointer (some ⟨N, 1, none⟩), .int .i64 x.b, .pointer (some ⟨N + 1, 1, none⟩), .int .i64 y.b, .int .i64 P1, .pointer (some ⟨N, 2, none⟩), .int .i64 x.d, .pointer (some ⟨N + 1, 2, none⟩), .int .i64 y.d, .int .i64 P2, .pointer (some ⟨N, 3, none⟩), .int .i64 x.e, .pointer (some ⟨N + 1, 3, none⟩), .int .i64 y.e, .int .i64 P3, .pointer (some ⟨N, 4, none⟩), .int .i64 x.r, .pointer (some ⟨N + 1, 4, none⟩), .int .i64 y.r, .int .i64 P4, .agg #[.int .i64 P0, .int .i64 P1, .int .i64 P2, .int .i64 P3, .int .i64 P4, .int .i64 0], ?_, rfl⟩
        simp only [Act.put, List.setIfInBounds_toArray, List.set_cons_zero, List.set_cons_succ]
    · go_simp
      try (go_wp2_with fail)
      refine hK.out _ _ (hHeld.alloc _) (fun hHeld => ?_)
      clear hK K
      try simp only [Act.put, szA, szB, szC, szD, szE, szF]
      refine wpAnyH_ready (rs := [4]) (by kernel_rfl) (by simp) (AllReadyH.cons rfl (fun K hK => ?_) AllReadyH.nil)
      go_simp
      refine (C0.out _).mono ?_
      rintro e w5 ⟨rfl, rfl⟩
      try (go_wp2_with fail)
      refine hK.out _ _ hHeld (fun hHeld => ?_)
      clear hK K
      try simp only [Act.put, szA, szB, szC, szD, szE, szF]
      refine wpAnyH_ready (rs := [9]) (by kernel_rfl) (by simp) (AllReadyH.cons rfl (fun K hK => ?_) AllReadyH.nil)
      go_simp
      refine (C1.out _).mono ?_
      rintro e w5 ⟨rfl, rfl⟩
      try (go_wp2_with fail)
      refine hK.out _ _ hHeld (fun hHeld => ?_)
      clear hK K
      try simp only [Act.put, szA, szB, szC, szD, szE, szF]
      refine wpAnyH_ready (rs := [14]) (by kernel_rfl) (by simp) (AllReadyH.cons rfl (fun K hK => ?_) AllReadyH.nil)
      go_simp
      refine (C2.out _).mono ?_
      rintro e w5 ⟨rfl, rfl⟩
      try (go_wp2_with fail)
      refine hK.out _ _ hHeld (fun hHeld => ?_)
      clear hK K
      try simp only [Act.put, szA, szB, szC, szD, szE, szF]
      refine wpAnyH_ready (rs := [19]) (by kernel_rfl) (by simp) (AllReadyH.cons rfl (fun K hK => ?_) AllReadyH.nil)
      go_simp
      refine (C3.out _).mono ?_
      rintro e w5 ⟨rfl, rfl⟩
      try (go_wp2_with fail)
      refine hK.out _ _ hHeld (fun hHeld => ?_)
      clear hK K
      try simp only [Act.put, szA, szB, szC, szD, szE, szF]
      refine wpAnyH_ready (rs := [24]) (by kernel_rfl) (by simp) (AllReadyH.cons rfl (fun K hK => ?_) AllReadyH.nil)
      go_simp
      refine (C4.out _).mono ?_
      rintro e w5 ⟨rfl, rfl⟩
      try (go_wp2_with fail)
      refine hK.out _ _ hHeld (fun hHeld => ?_)
      clear hK K
      try simp only [Act.put, szA, szB, szC, szD, szE, szF]
      refine wpAnyH_take (i := 25) (v := ?_) rfl (by kernel_rfl) (by kernel_rfl) (by kernel_rfl) (fun _ _ _ h => h) (Or.inl ⟨by rfl, ?hy⟩) (by assumption) ?_
      case hy => intro wq hSw; obtain ⟨a0, a1, a2, a3, a4, a5, b0, b1, b2, b3, b4, b5, hz, hB⟩ := hSw; go_simp; try with_reducible rfl
      try simp only [Act.put, szA, szB, szC, szD, szE, szF]
      refine wpAnyH_ready (rs := [27]) (by kernel_rfl) (by simp) (AllReadyH.cons rfl (fun K hK => ?_) AllReadyH.nil)
      go_simp
      try (go_wp2_with fail)
      have hSL := (HSW.out.alloc (.cells #[.int .i64 P0, .int .i64 P1, .int .i64 P2, .int .i64 P3, .int .i64 P4, .int .i64 0] 92)).drew
      refine hK.out _ _ hSL (fun hHeld => ?_)
      clear hK K
      try simp only [Act.put, szA, szB, szC, szD, szE, szF]
      refine wpAnyH_done (by kernel_rfl) ?_ _
      refine NoPanic.normal ?_
      refine ⟨rfl, .pointer (some ⟨N, 0, none⟩), .int .i64 x.p, .pointer (some ⟨N + 1, 0, none⟩), .int .i64 y.p, .int .i64 P0, .pointer (some ⟨N, 1, none⟩), .int .i64 x.b, .pointer (some ⟨N + 1, 1, none⟩), .int .i64 y.b, .int .i64 P1, .pointer (some ⟨N, 2, none⟩), .int .i64 x.d, .pointer (some ⟨N + 1, 2, none⟩), .int .i64 y.d, .int .i64 P2, .pointer (some ⟨N, 3, none⟩), .int .i64 x.e, .pointer (some ⟨N + 1, 3, none⟩), .int .i64 y.e, .int .i64 P3, .pointer (some ⟨N, 4, none⟩), .int .i64 x.r, .pointer (some ⟨N + 1, 4, none⟩), .int .i64 y.r, .int .i64 P4, .agg #[.int .i64 P0, .int .i64 P1, .int .i64 P2, .int .i64 P3, .int .i64 P4, .int .i64 0], ?_, rfl⟩
      simp only [Act.put, List.setIfInBounds_toArray, List.set_cons_zero, List.set_cons_succ]
  · rintro a' w5 ⟨x6, x7, x8, x9, x10, x11, x12, x13, x14, x15, x16, x17, x18, x19, x20, x21, x22, x23, x24, x25, x26, x27, x28, x29, x30, x31, rfl, rfl⟩
    try simp only [Act.put, szA, szB, szC, szD, szE, szF]
    have hLF := two_leaf (P0 := P0) (P1 := P1) (P2 := P2) (P3 := P3) (P4 := P4) HSZ.out HG2.out
    have hSL := (HSW.out.alloc (.cells #[.int .i64 P0, .int .i64 P1, .int .i64 P2, .int .i64 P3, .int .i64 P4, .int .i64 0] 92)).drew
    generalize (W0.alloc (.cells #[.int .i64 P0, .int .i64 P1, .int .i64 P2, .int .i64 P3, .int .i64 P4, .int .i64 0] 92)).drew = WL at *
    have hN : N < WL.heap.size := by have := hLF.lt; have := hLF.sz; omega
    have hN1 : N + 1 < WL.heap.size := by have := hLF.lt; have := hLF.sz; omega
    have hN2 : N + 1 + 1 < WL.heap.size := by have := hLF.lt; have := hLF.sz; omega
    have hS0 := HSZ.out
    have e1 : ¬ N = W0.heap.size := by omega
    have e2 : ¬ N + 1 = W0.heap.size := by omega
    have e3 : ¬ N + 1 + 1 = W0.heap.size := by omega
    have e4 : ¬ W0.heap.size = N + 1 + 1 := by omega
    clear HSW C0 C1 C2 C3 C4 HFZ HR
    have HNW := HNN
    have hNZ : N + 1 + 1 < W0.heap.size := by have := hLF.sz; omega
    have HBW2 := HBW
    clear HNN HSZ HG2 hS0
    obtain ⟨Z, hZ⟩ : ∃ Z, W0.heap.size = Z := ⟨_, rfl⟩
    have HZ := Lib.hid hZ
    simp only [hZ] at hLF e1 e2 e3 e4 hNZ ⊢
    clear hZ
    obtain ⟨a0, a1, a2, a3, a4, a5, b0, b1, b2, b3, b4, b5, hz, hB⟩ := hSL
    obtain ⟨r0, r1, r2, r3, r4, r5, n0, n1, n2, n3, n4, n5, fr, fn, sz, lt, g2, be⟩ := hLF
    have BE := Lib.hid be
    have G2 := Lib.hid g2
    clear be g2 hB sz
    by_cases q1 : x.d = 0
    · have q2 : (x.d == 0) = true := by simp [q1]
      have HMM := Lib.hid (show M = y.m by rw [HM.out, if_pos q1])
      clear HM q1
      go_wp2_with (fail)
      obtain ⟨hh, ht⟩ := two_end G2.out e4 HNW.out HBW2.out BE.out HZ.out hNZ y.m P0 P1 P2 P3 P4
      rw [HMM.out]
      refine bodyPost_ret (results_cell_row (P := Tryz.prog) rfl _ _ (N + 1 + 1) 92 #[.int .i64 P0, .int .i64 P1, .int .i64 P2, .int .i64 P3, .int .i64 P4, .int .i64 y.m] (0, 0) _ (by rfl) ?hh Tryz.underlying92 rfl (by kernel_rfl)) rfl ?_
      case hh => exact hh
      exact ⟨rfl, ht⟩
    · have q2 : (x.d == 0) = false := by simp [q1]
      by_cases q3 : y.d = 0
      · have q4 : (y.d == 0) = true := by simp [q3]
        have HMM := Lib.hid (show M = x.m by rw [HM.out, if_neg q1, if_pos q3])
        clear HM q1 q3
        go_wp2_with (fail)
        obtain ⟨hh, ht⟩ := two_end G2.out e4 HNW.out HBW2.out BE.out HZ.out hNZ x.m P0 P1 P2 P3 P4
        rw [HMM.out]
        refine bodyPost_ret (results_cell_row (P := Tryz.prog) rfl _ _ (N + 1 + 1) 92 #[.int .i64 P0, .int .i64 P1, .int .i64 P2, .int .i64 P3, .int .i64 P4, .int .i64 x.m] (0, 0) _ (by rfl) ?hh Tryz.underlying92 rfl (by kernel_rfl)) rfl ?_
        case hh => exact hh
        exact ⟨rfl, ht⟩
      · have q4 : (y.d == 0) = false := by simp [q3]
        by_cases q5 : x.m < y.m
        · skip
          have HMM := Lib.hid (show M = x.m by rw [HM.out, if_neg q1, if_neg q3, if_pos q5])
          clear HM q1 q3
          go_wp2_with (fail)
          obtain ⟨hh, ht⟩ := two_end G2.out e4 HNW.out HBW2.out BE.out HZ.out hNZ (x.m) P0 P1 P2 P3 P4
          rw [HMM.out]
          refine bodyPost_ret (results_cell_row (P := Tryz.prog) rfl _ _ (N + 1 + 1) 92 #[.int .i64 P0, .int .i64 P1, .int .i64 P2, .int .i64 P3, .int .i64 P4, .int .i64 (x.m)] (0, 0) _ (by rfl) ?hh Tryz.underlying92 rfl (by kernel_rfl)) rfl ?_
          case hh => exact hh
          exact ⟨rfl, ht⟩
        · skip
          have HMM := Lib.hid (show M = y.m by rw [HM.out, if_neg q1, if_neg q3, if_neg q5])
          clear HM q1 q3
          go_wp2_with (fail)
          obtain ⟨hh, ht⟩ := two_end G2.out e4 HNW.out HBW2.out BE.out HZ.out hNZ (y.m) P0 P1 P2 P3 P4
          rw [HMM.out]
          refine bodyPost_ret (results_cell_row (P := Tryz.prog) rfl _ _ (N + 1 + 1) 92 #[.int .i64 P0, .int .i64 P1, .int .i64 P2, .int .i64 P3, .int .i64 P4, .int .i64 (y.m)] (0, 0) _ (by rfl) ?hh Tryz.underlying92 rfl (by kernel_rfl)) rfl ?_
          case hh => exact hh
          exact ⟨rfl, ht⟩
set_option maxHeartbeats 3200000 in
theorem r3right_any (c : CntS) (h : RightC c) (w : World) : Calls Tryz.prog 85 #[ctV c] w fun e w' => e = .returned (.bool true) ∧ Below w.heap.size w w' := by
  have HIN := Lib.hid (fun (k : Nat) (hk : k < 6) => right_in h hk)
  have hb : Below w.heap.size w ((w.alloc (ctO c 92)).alloc (ctO c 188)) := ((Below.refl _ _).alloc (Nat.le_refl _) _).alloc (by simp) _
  have HB := Lib.hid hb
  have hg : ((w.alloc (ctO c 92)).alloc (ctO c 188)).heap[w.heap.size + 1]? = some (ctO c 188) := by simp only [get_allocW, World.size_alloc, if_true]
  have hc : ∀ j, j < 6 → ((w.alloc (ctO c 92)).alloc (ctO c 188)).cell? ⟨w.heap.size + 1, j, none⟩ = some (.int .i64 (c.l.getD j 0)) := by
    intro j hj
    simp only [World.cell?, hg]
    match j, hj with
    | 0, _ => rfl
    | 1, _ => rfl
    | 2, _ => rfl
    | 3, _ => rfl
    | 4, _ => rfl
    | 5, _ => rfl
  have HC := Lib.hid hc
  obtain ⟨L, hL⟩ : ∃ L, c.l = L := ⟨_, rfl⟩
  rw [hL] at HC HIN
  have hed := h.ed
  have hmr := h.mr
  have hdr := h.dr
  clear hb hg hc h hL
  obtain ⟨p, b, d, e, r, m⟩ := c
  unfold ctV ctO at *
  dsimp only at *
  go_enter Tryz.func85, Tryz.ntmps85
  go_wp2_with (fail)
  go_loop [4] (fun i => ∃ k : Nat, k ≤ 6 ∧ i = .int .i64 k) (fun i => 6 - (intOf i).toNat)
  case atStart => exact ⟨0, Nat.zero_le _, rfl⟩
  case round =>
    obtain ⟨k, hk, rfl⟩ := hrel
    by_cases hlt : k < 6
    · have d1 := HC.out k hlt
      have hs := HIN.out k hlt
      have k0 : (0 : Int) ≤ k := by omega
      have k1 : (k : Int) < 6 := by omega
      generalize L.getD k 0 = X at d1 hs
      obtain ⟨hs0, hs1⟩ := hs
      go_wp2_with (fail)
      exact ⟨⟨k + 1, by omega, by go_num⟩, by first | (simp [intOf]; done) | (simp [intOf]; omega)⟩
    · have k1 : ¬ (k : Int) < 6 := by omega
      by_cases hd : 0 < d
      · go_wp2_with (fail)
        go_ret
        exact ⟨rfl, HB.out⟩
      · have hr0 : r = 0 := by omega
        subst hr0
        go_wp2_with (fail)
        go_ret
        exact ⟨rfl, HB.out⟩
end Go.Proofs.YtemlafbkkaloiaaGreat
namespace Go.Proofs.YtemlafbkkaloiaaGreat
open Go.RowKit
set_option maxHeartbeats 6400000 in
set_option maxRecDepth 100000 in
theorem r3join_any (w : World) (a : Option Addr) (len cap : Nat) (cs : List CntS) (hl : cs.length = len) (hm : len ≤ 9223372036854775807) (hr : ∀ c, c ∈ cs → RightC c) (hc : CtsAt w a cs) :
    Calls Tryz.prog 86 #[.slice a len cap] w fun e w' => e = .returned (ctV (joinC .zero cs)) ∧ Below w.heap.size w w' := by
  have HC := Lib.hid hc
  have HR := Lib.hid hr
  have HL := Lib.hid hl
  obtain ⟨N, hN⟩ : ∃ N, N = w.heap.size := ⟨_, rfl⟩
  have HN := Lib.hid hN
  have hb0 : Below w.heap.size w ((w.alloc (ctO .zero 92)).alloc (ctO .zero 92)) := ((Below.refl _ _).alloc (Nat.le_refl _) _).alloc (by simp) _
  have hg0 : ((w.alloc (ctO .zero 92)).alloc (ctO .zero 92)).heap[N]? = some (ctO .zero 92) := by
    rw [hN, get_allocW, if_neg (by simp), get_allocW, if_pos rfl]
  have hg1 : ((w.alloc (ctO .zero 92)).alloc (ctO .zero 92)).heap[N + 1]? = some (ctO .zero 92) := by
    rw [hN, get_allocW, if_pos (by simp)]
  have HB0 := Lib.hid hb0
  have HG0 := Lib.hid hg0
  have HG1 := Lib.hid hg1
  clear hc hr hl hb0 hg0 hg1
  go_enter Tryz.func86, Tryz.ntmps86
  go_wp2_with (fail)
  rw [← hN]
  clear hN
  obtain ⟨w0, hw0⟩ : ∃ w0, (w.alloc (ctO .zero 92)).alloc (ctO .zero 92) = w0 := ⟨_, rfl⟩
  rw [hw0] at HB0 HG0 HG1
  unfold ctO CntS.zero at hw0
  dsimp only at hw0
  rw [hw0]
  clear hw0
  go_loopw [4] (fun i wr => ∃ (k : Nat), k ≤ len ∧ i = .int .i64 k ∧ Hid (wr.heap[N]? = some (ctO .zero 92)) ∧ Hid (wr.heap[N + 1]? = some (ctO (joinC .zero (cs.take k)) 92)) ∧ Hid (Below w.heap.size w wr)) (fun i _ => len - (intOf i).toNat)
  case atStart => exact ⟨0, Nat.zero_le _, rfl, HG0, HG1, HB0⟩
  case round =>
    rename World => wy
    obtain ⟨k, hk, rfl, HA, HJ, HB⟩ := hrel
    by_cases hlt : k < len
    · have hkl : k < cs.length := by rw [HL.out]; exact hlt
      have k0 : (0 : Int) ≤ k := by omega
      have k1 : (k : Int) < len := by omega
      obtain ⟨c, hcx⟩ : ∃ c, cs[k]? = some c := ⟨_, List.getElem?_eq_getElem hkl⟩
      have hcm : c ∈ cs := List.mem_of_getElem? hcx
      have hrc := HR.out c hcm
      obtain ⟨bk, off, ha, hbl, hcc⟩ : ∃ b off, a = some ⟨b, off, none⟩ ∧ b < w.heap.size ∧ ∀ j c, cs[j]? = some c → w.cell? ⟨b, off + j * 6, none⟩ = some (.int .i64 c.p) ∧ w.cell? ⟨b, off + j * 6 + 1, none⟩ = some (.int .i64 c.b) ∧ w.cell? ⟨b, off + j * 6 + 2, none⟩ = some (.int .i64 c.d) ∧
          w.cell? ⟨b, off + j * 6 + 3, none⟩ = some (.int .i64 c.e) ∧ w.cell? ⟨b, off + j * 6 + 4, none⟩ = some (.int .i64 c.r) ∧ w.cell? ⟨b, off + j * 6 + 5, none⟩ = some (.int .i64 c.m) := by
        rcases HC.out with h | h
        · rw [h] at hkl; simp at hkl
        · exact h
      subst ha
      obtain ⟨d0, d1, d2, d3, d4, d5⟩ := hcc k c hcx
      have d0 := (HB.out.cell (p := ⟨bk, off + k * 6, none⟩) hbl).trans d0
      have d1 := (HB.out.cell (p := ⟨bk, off + k * 6 + 1, none⟩) hbl).trans d1
      have d2 := (HB.out.cell (p := ⟨bk, off + k * 6 + 2, none⟩) hbl).trans d2
      have d3 := (HB.out.cell (p := ⟨bk, off + k * 6 + 3, none⟩) hbl).trans d3
      have d4 := (HB.out.cell (p := ⟨bk, off + k * 6 + 4, none⟩) hbl).trans d4
      have d5 := (HB.out.cell (p := ⟨bk, off + k * 6 + 5, none⟩) hbl).trans d5
      have hjr : RightC (joinC .zero (cs.take k)) := joinC_right rightC_zero (fun x hx => HR.out x (List.mem_of_mem_take hx))
      have HST := Lib.hid (show joinC .zero (cs.take (k + 1)) = twoC (joinC .zero (cs.take k)) c by
        rw [List.take_succ_eq_append_getElem hkl, joinC_snoc]
        congr 1
        exact Option.some.inj ((List.getElem?_eq_getElem hkl).symm.trans hcx))
      generalize joinC .zero (cs.take k) = J at *
      have HRT := Lib.hid (fun wx => r3right_any c hrc wx)
      have HTW := Lib.hid (fun wx => r3two_any J c hjr hrc wx)
      have hzy : N + 1 < wy.heap.size := (Array.getElem?_eq_some_iff.1 HJ.out).1
      have HBK := Lib.hid hbl
      have HDD := Lib.hid (And.intro d0 (And.intro d1 (And.intro d2 (And.intro d3 (And.intro d4 d5)))))
      have HWY := Lib.hid (And.intro HB.out.size hzy)
      clear hcx hcc hcm hrc hjr
      obtain ⟨cp, cb, cd, ce, cr, cm⟩ := c
      obtain ⟨jp, jb, jd, je, jr, jm⟩ := J
      generalize twoC ⟨jp, jb, jd, je, jr, jm⟩ ⟨cp, cb, cd, ce, cr, cm⟩ = T at *
      obtain ⟨tp, tb, td, te, tr, tm⟩ := T
      unfold ctV at HRT HTW
      dsimp only at *
      go_wp2_with (fail)
      refine (HRT.out _).mono ?_
      rintro e w1 ⟨rfl, h1⟩
      have hJ1 := (h1.block (N + 1) hzy).trans HJ.out
      have HJ1 := Lib.hid hJ1
      have HB1 := Lib.hid h1
      obtain ⟨⟨b0, b1, b2, b3, b4, b5⟩, bf⟩ := ct_cells hJ1
      dsimp only at b0 b1 b2 b3 b4 b5
      have hbky : bk < wy.heap.size := Nat.lt_of_lt_of_le hbl HB.out.size
      obtain ⟨e0, e1, e2, e3, e4, e5⟩ := HDD.out
      have d0 := (h1.cell (p := ⟨bk, off + k * 6, none⟩) hbky).trans e0
      have d1 := (h1.cell (p := ⟨bk, off + k * 6 + 1, none⟩) hbky).trans e1
      have d2 := (h1.cell (p := ⟨bk, off + k * 6 + 2, none⟩) hbky).trans e2
      have d3 := (h1.cell (p := ⟨bk, off + k * 6 + 3, none⟩) hbky).trans e3
      have d4 := (h1.cell (p := ⟨bk, off + k * 6 + 4, none⟩) hbky).trans e4
      have d5 := (h1.cell (p := ⟨bk, off + k * 6 + 5, none⟩) hbky).trans e5
      clear h1 hJ1 e0 e1 e2 e3 e4 e5 hbky
      go_wp2_with (fail)
      go_region_with (go_at_call 88; refine (HTW.out _).mono ?_; rintro e w2 ⟨rfl, h2⟩; have HJ2 := Lib.hid ((h2.block (N + 1) (Array.getElem?_eq_some_iff.1 HJ1.out).1).trans HJ1.out); have HH2 := Lib.hid (show Below w1.heap.size w1 w2 from ((Below.refl _ w1).drew).trans h2); obtain ⟨⟨c0, c1, c2, c3, c4, c5⟩, cf⟩ := ct_cells HJ2.out; dsimp only at c0 c1 c2 c3 c4 c5; clear h2)
      all_goals
        go_wp2_with (fail)
        refine ⟨⟨k + 1, by omega, by go_num, ?_, ?_, ?_⟩, by first | (simp [intOf]; done) | (simp [intOf]; omega)⟩
        · exact Lib.hid ((sixC_other (by omega) tp tb td te tr tm).trans ((HH2.out.block N (by have := HB1.out.size; have := HWY.out; have := (Array.getElem?_eq_some_iff.1 HJ1.out).1; omega)).trans ((HB1.out.block N (by have := HWY.out; omega)).trans HA.out)))
        · rw [HST.out]
          exact Lib.hid (sixC_same HJ2.out tp tb td te tr tm)
        · exact Lib.hid (sixC_below (HB.out.trans ((HB1.out.trans (HH2.out.mono HB1.out.size)).mono HB.out.size)) (by rw [← HN.out]; omega) tp tb td te tr tm)
    · have k1 : ¬ (k : Int) < len := by omega
      have e1 : cs.take k = cs := List.take_of_length_le (by rw [HL.out]; omega)
      rw [e1] at HJ
      clear e1
      obtain ⟨J, hJJ⟩ : ∃ J, joinC .zero cs = J := ⟨_, rfl⟩
      have HJJ := Lib.hid hJJ
      rw [hJJ] at HJ
      clear hJJ
      obtain ⟨jp, jb, jd, je, jr, jm⟩ := J
      obtain ⟨⟨b0, b1, b2, b3, b4, b5⟩, bf⟩ := ct_cells HJ.out
      obtain ⟨⟨c0, c1, c2, c3, c4, c5⟩, cf⟩ := ct_cells HA.out
      go_wp2_with (fail)
      refine bodyPost_ret (results_cell_row (P := Tryz.prog) rfl _ _ N 92 #[.int .i64 jp, .int .i64 jb, .int .i64 jd, .int .i64 je, .int .i64 jr, .int .i64 jm] (0, 0) _ (by rfl) ?hh Tryz.underlying92 rfl (by kernel_rfl)) rfl ?_
      case hh => exact sixC_same HA.out jp jb jd je jr jm
      exact ⟨by rw [HJJ.out]; rfl, sixC_below HB.out (by rw [← HN.out]; omega) jp jb jd je jr jm⟩
end Go.Proofs.YtemlafbkkaloiaaGreat
namespace Go.Proofs.YtemlafbkkaloiaaGreat
open Go.RowKit
structure NBk where
  q : Nat
  s1 : Nat
  m1 : Nat
  s2 : Nat
  m2 : Nat
def NBk.l (k : NBk) : List Nat := [k.q, k.s1, k.m1, k.s2, k.m2]
end Go.Proofs.YtemlafbkkaloiaaGreat
namespace Go.Proofs.YtemlafbkkaloiaaGreat
open Go.RowKit
end Go.Proofs.YtemlafbkkaloiaaGreat
namespace Go.Proofs.YtemlafbkkaloiaaGreat
open Go.RowKit
def Bk3.cs (k : Bk3) : List Value := [.int .i64 k.at_, .int .i64 (imgC k.r).p, .int .i64 (imgC k.r).b, .int .i64 (imgC k.r).d, .int .i64 (imgC k.r).e, .int .i64 (imgC k.r).r, .int .i64 (imgC k.r).m]
def flat3 (L : List Bk3) : List Value := (L.map Bk3.cs).flatten
theorem cs_len7 (l : List Bk3) : ∀ r ∈ l.map Bk3.cs, r.length = 7 := by intro r hr; obtain ⟨x, _, rfl⟩ := List.mem_map.1 hr; rfl
theorem flat3_snoc (l : List Bk3) (d : Bk3) : flat3 (l ++ [d]) = flat3 l ++ d.cs := by simp [flat3]
theorem flat3_get {l : List Bk3} {j : Nat} {x : Bk3} (h : l[j]? = some x) (k : Nat) (hk : k < 7) : (flat3 l)[j * 7 + k]? = x.cs[k]? := flatten_get (cs_len7 l) (by rw [List.getElem?_map, h]; rfl) k hk
theorem flat3_len (l : List Bk3) : (flat3 l).length = l.length * 7 := by unfold flat3; rw [flatten_len (cs_len7 l), List.length_map]
theorem rowKept3 {w w' : World} {base : Nat} {e : TypeId} {size n : Nat} {v : Value} {xs : List Value} (h : w.ownsRow base e size v n xs) (hk : ∀ g, v.ownBlock = some g → w'.heap[g]? = w.heap[g]?) : w'.ownsRow base e size v n xs := by
  refine ⟨h.1, ?_⟩
  rcases h.2 with hn | ⟨g, cap, cur, hv, hb, hg, r⟩
  · exact Or.inl hn
  · exact Or.inr ⟨g, cap, cur, hv, hb, (hk g (by rw [hv]; rfl)).trans hg, r⟩
structure R3At (w : World) (p : Nat) (b last : Int) (v : Value) (notes : List NoteW) (L : List Bk3) : Prop where
  head : w.heap[p]? = some (.cells #[.int .i64 b, .int .i64 1, .int .i64 last, v] 148)
  row : w.ownsRow 0 168 7 v L.length (flat3 L)
  inv : InvL b last notes L
  b0 : 1000000 ≤ b
  b1 : b ≤ 120000000
  l0 : 0 ≤ last
  l1 : last ≤ 1152921504606846976
  ne : v.ownBlock ≠ some p
  pos : ∀ x, x ∈ notes → 0 ≤ x.at_
def R3Own (p : Nat) (v : Value) (i : Nat) : Prop := i = p ∨ v.ownBlock = some i
theorem R3At.lt {w : World} {p : Nat} {b last : Int} {v : Value} {notes : List NoteW} {L : List Bk3} (h : R3At w p b last v notes L) {i : Nat} (hi : R3Own p v i) : i < w.heap.size := by
  rcases hi with rfl | e
  · exact (Array.getElem?_eq_some_iff.1 h.head).1
  · exact (h.row.lt i e).2
theorem R3At.kept {w w' : World} {p : Nat} {b last : Int} {v : Value} {notes : List NoteW} {L : List Bk3} (h : R3At w p b last v notes L) (hk : ∀ i, R3Own p v i → w'.heap[i]? = w.heap[i]?) : R3At w' p b last v notes L :=
  ⟨(hk p (Or.inl rfl)).trans h.head, rowKept3 h.row (fun g e => hk g (Or.inr e)), h.inv, h.b0, h.b1, h.l0, h.l1, h.ne, h.pos⟩
theorem R3At.below {w w' : World} {p : Nat} {b last : Int} {v : Value} {notes : List NoteW} {L : List Bk3} (h : R3At w p b last v notes L) (hb : Below w.heap.size w w') : R3At w' p b last v notes L := h.kept (fun i hi => hb.block i (h.lt hi))
theorem R3At.cells {w : World} {p : Nat} {b last : Int} {v : Value} {notes : List NoteW} {L : List Bk3} (h : R3At w p b last v notes L) : w.cell? ⟨p, 0, none⟩ = some (.int .i64 b) ∧ w.cell? ⟨p, 1, none⟩ = some (.int .i64 1) ∧ w.cell? ⟨p, 2, none⟩ = some (.int .i64 last) ∧ w.cell? ⟨p, 3, none⟩ = some v := by
  have := h.head
  refine ⟨?_, ?_, ?_, ?_⟩ <;> simp [World.cell?, this]
end Go.Proofs.YtemlafbkkaloiaaGreat
namespace Go.Proofs.YtemlafbkkaloiaaGreat
open Go.RowKit
theorem InvL.mono {b last at_ : Int} {notes : List NoteW} {L : List Bk3} (h : InvL b last notes L) (hl : last ≤ at_) : InvL b at_ notes L :=
  ⟨h.sum, h.ok, fun k hk => ⟨(h.mul k hk).1, (h.mul k hk).2.1, by have := (h.mul k hk).2.2; omega⟩, h.len⟩
theorem R3At.stamp {w : World} {p : Nat} {b last : Int} {v : Value} {notes : List NoteW} {L : List Bk3} (h : R3At w p b last v notes L) {at_ : Int} (hl : last ≤ at_) (a0 : 0 ≤ at_) (a1 : at_ ≤ 1152921504606846976) : R3At (w.setCell ⟨p, 2, none⟩ (.int .i64 at_)) p b at_ v notes L := by
  refine ⟨?_, rowKept3 h.row (fun g e => heap_setCell_other w ⟨p, 2, none⟩ g _ (fun e2 => ?_)), h.inv.mono hl, h.b0, h.b1, a0, a1, h.ne, h.pos⟩
  · rw [heap_setCell_same w p 2 _ _ _ h.head]; rfl
  · have e2 : g = p := e2
    exact h.ne (by rw [← e2]; exact e)
theorem info_bk3 : (Tryz.prog.info? 168).map (fun i => (i.zero, i.size, i.bytes)) = some (some (.agg #[.int .i64 0, .int .i64 0, .int .i64 0, .int .i64 0, .int .i64 0, .int .i64 0, .int .i64 0]), 7, 56) := by kernel_rfl
theorem info_parts3 {i : Option TypeInfo} {z : Value} {s b : Nat} (h : i.map (fun i => (i.zero, i.size, i.bytes)) = some (some z, s, b)) : ∃ i0, i = some i0 ∧ i0.zero = some z ∧ i0.size = s ∧ i0.bytes = b := by
  cases i with
  | none => cases h
  | some i0 =>
    simp only [Option.map_some, Option.some.injEq, Prod.mk.injEq] at h
    exact ⟨i0, rfl, h.1, h.2.1, h.2.2⟩
theorem cs_one3 (k : Bk3) : ∀ u ∈ k.cs, u.oneCell' = true := by
  intro u hu
  simp only [Bk3.cs, List.mem_cons, List.not_mem_nil, or_false] at hu
  rcases hu with rfl | rfl | rfl | rfl | rfl | rfl | rfl <;> rfl
theorem flat3_one (L : List Bk3) : ∀ u ∈ flat3 L, u.oneCell' = true := by
  intro u hu
  obtain ⟨l, hl, hu⟩ := List.mem_flatten.1 hu
  obtain ⟨k, _, rfl⟩ := List.mem_map.1 hl
  exact cs_one3 k u hu
theorem row3_at {w : World} {base n : Nat} {v : Value} {L : List Bk3} (h : w.ownsRow base 168 7 v n (flat3 L)) (hn : L.length = n) (hne : L ≠ []) : ∃ g cap, v = .slice (some ⟨g, 0, none⟩) n cap ∧ n ≤ cap ∧ cap ≤ maxLen ∧ base ≤ g ∧ g < w.heap.size ∧ (∀ j k, L[j]? = some k → ∀ i, i < 7 → w.cell? ⟨g, j * 7 + i, none⟩ = k.cs[i]?) ∧ (∀ j, w.frozen? ⟨g, j, none⟩ = false) := by
  rcases h.2 with ⟨_, hz⟩ | ⟨g, cap, cur, hv, hb, hg, hc1, hc2, _⟩
  · exact absurd (List.length_eq_zero_iff.1 (hn.trans hz)) hne
  · subst hv
    refine ⟨g, cap, rfl, hc1, hc2, hb, (Array.getElem?_eq_some_iff.1 hg).1, fun j k hj i hi => ?_, fun j => frozen_of_row w g j _ _ hg⟩
    have hjl := (List.getElem?_eq_some_iff.1 hj).1
    rw [h.cellAt (j * 7 + i) (by omega), flat3_get hj i hi]
theorem run_copy3 {w : World} {v : Value} {L : List Bk3} (hown : w.ownsRow 0 168 7 v L.length (flat3 L)) (hL : L.length ≤ 1152921504608) (ty : TypeId) :
    ∃ v' w', (Builtin.append_ #[146, 146] ty #[.slice none 0 0, v]).run Tryz.prog w = .ok v' w' ∧ w'.ownsRow w.heap.size 168 7 v' L.length (flat3 L) ∧ Below w.heap.size w w' := by
  obtain ⟨i0, hi, hz0, hz1, hz2⟩ := info_parts3 info_bk3
  have hnil : w.ownsRow w.heap.size 168 7 (.slice none 0 0) 0 [] := World.ownsRow_nil _ _ _ _
  by_cases hne : L = []
  · subst hne
    have hv : v = .slice none 0 0 ∨ ∃ g cap, v = .slice (some ⟨g, 0, none⟩) 0 cap := by
      rcases hown.2 with ⟨hv, _⟩ | ⟨g, cap, cur, hv, _⟩
      · exact Or.inl hv
      · exact Or.inr ⟨g, cap, hv⟩
    rcases hv with rfl | ⟨g, cap, rfl⟩
    · exact ⟨_, w, run_append_owned_none (P := Tryz.prog) (w := w) (size := 7) w.heap.size 146 ty 168 i0 Tryz.underlying146 hi _ 0 [] hnil, hnil, Below.refl _ _⟩
    · obtain ⟨v', w', hr, h2, h3, h4⟩ := run_append_own (P := Tryz.prog) w w.heap.size 146 ty 168 i0 _ 7 56 Tryz.underlying146 hi hz0 hz1 hz2 rfl (by decide) _ 0 [] hnil ⟨g, 0, none⟩ 0 cap [] rfl (by intro j u h; simp at h) (by simp) (by unfold maxLen; omega) (by omega) (Nat.le_refl _)
      exact ⟨v', w', hr, h2, (Below.refl _ _).grown h3 (Nat.le_refl _) (fun k e => by cases e)⟩
  · obtain ⟨g, cap, rfl, c1, c2, _, hg, hcell, _⟩ := row3_at hown rfl hne
    obtain ⟨v', w', hr, h2, h3, h4⟩ := run_append_own (P := Tryz.prog) w w.heap.size 146 ty 168 i0 _ 7 56 Tryz.underlying146 hi hz0 hz1 hz2 rfl (by decide) _ 0 [] hnil ⟨g, 0, none⟩ L.length cap (flat3 L) (flat3_len L) (fun j u h => by
      rw [Go.WideShapes.add_plain, Nat.zero_add, hown.cellAt j (by have := (List.getElem?_eq_some_iff.1 h).1; rw [flat3_len] at this; omega)]
      exact h) (flat3_one L) (by unfold maxLen; omega) (by omega) (Nat.le_refl _)
    rw [Nat.zero_add, List.nil_append] at h2
    exact ⟨v', w', hr, h2, (Below.refl _ _).grown h3 (Nat.le_refl _) (fun k e => by cases e)⟩
theorem run_copy3_nil {w : World} {v : Value} (hown : w.ownsRow 0 168 7 v 0 []) (ty : TypeId) :
    ∃ w', (Builtin.append_ #[146, 146] ty #[.slice none 0 0, v]).run Tryz.prog w = .ok (.slice none 0 0) w' ∧ Below w.heap.size w w' := by
  obtain ⟨i0, hi, hz0, hz1, hz2⟩ := info_parts3 info_bk3
  have hnil : w.ownsRow w.heap.size 168 7 (.slice none 0 0) 0 [] := World.ownsRow_nil _ _ _ _
  rcases hown.2 with ⟨rfl, _⟩ | ⟨g, cap, cur, rfl, _⟩
  · exact ⟨w, run_append_owned_none (P := Tryz.prog) (w := w) (size := 7) w.heap.size 146 ty 168 i0 Tryz.underlying146 hi _ 0 [] hnil, Below.refl _ _⟩
  · obtain ⟨v', w', hr, h2, h3, h4⟩ := run_append_own (P := Tryz.prog) w w.heap.size 146 ty 168 i0 _ 7 56 Tryz.underlying146 hi hz0 hz1 hz2 rfl (by decide) _ 0 [] hnil ⟨g, 0, none⟩ 0 cap [] rfl (by intro j u h; simp at h) (by simp) (by unfold maxLen; omega) (by omega) (Nat.le_refl _)
    have e := h4.2 ⟨rfl, rfl⟩
    subst e
    exact ⟨w', hr, (Below.refl _ _).grown h3 (Nat.le_refl _) (fun k e => by cases e)⟩
theorem run_copy3_cons {w : World} {v : Value} {L : List Bk3} (hown : w.ownsRow 0 168 7 v L.length (flat3 L)) (hL : L.length ≤ 1152921504608) {K : Nat} (hK : L.length = K + 1) (ty : TypeId) :
    ∃ g cap w', (Builtin.append_ #[146, 146] ty #[.slice none 0 0, v]).run Tryz.prog w = .ok (.slice (some ⟨g, 0, none⟩) (K + 1) cap) w' ∧ w'.ownsRow w.heap.size 168 7 (.slice (some ⟨g, 0, none⟩) (K + 1) cap) (K + 1) (flat3 L) ∧ Below w.heap.size w w' ∧ w.heap.size ≤ g ∧ g < w'.heap.size ∧ K + 1 ≤ cap ∧ cap ≤ maxLen ∧ (∀ j k, L[j]? = some k → ∀ i, i < 7 → w'.cell? ⟨g, j * 7 + i, none⟩ = k.cs[i]?) ∧ (∀ j, w'.frozen? ⟨g, j, none⟩ = false) := by
  obtain ⟨v', w', hr, h2, h3⟩ := run_copy3 hown hL ty
  obtain ⟨g, cap, rfl, c1, c2, c3, c4, c5, c6⟩ := row3_at h2 rfl (by intro e; rw [e] at hK; simp at hK)
  rw [hK] at hr h2 c1
  exact ⟨g, cap, w', hr, h2, h3, c3, c4, c1, c2, c5, c6⟩
theorem cs_new {B : Int} {c : CntS} (hc : RightC c) : (⟨B, rawOf c⟩ : Bk3).cs = [.int .i64 B, .int .i64 c.p, .int .i64 c.b, .int .i64 c.d, .int .i64 c.e, .int .i64 c.r, .int .i64 c.m] := by
  unfold Bk3.cs
  rw [imgC_raw hc]
theorem run_append3 {base : Nat} {w wr : World} {v : Value} {j : Nat} {L : List Bk3} (hown : wr.ownsRow base 168 7 v j (flat3 L)) (hB : base ≤ w.heap.size) (hb : Below base w wr) (hj : j ≤ 1152921504608) (hL : L.length = j) (k : Bk3) (ty : TypeId) :
    ∃ g cap w', (Builtin.append_ #[146, 146] ty #[v, .slice (some ⟨wr.heap.size, 0, none⟩) 1 1]).run Tryz.prog (wr.alloc (.cells k.cs.toArray 168)) = .ok (.slice (some ⟨g, 0, none⟩) (j + 1) cap) w' ∧ w'.ownsRow base 168 7 (.slice (some ⟨g, 0, none⟩) (j + 1) cap) (j + 1) (flat3 (L ++ [k])) ∧ Below base w w' ∧ j + 1 ≤ cap ∧ cap ≤ maxLen := by
  obtain ⟨i0, hi, hz0, hz1, hz2⟩ := info_parts3 info_bk3
  obtain ⟨v', w', hr, h2, h3, h4⟩ := run_append_own (P := Tryz.prog) (wr.alloc (.cells k.cs.toArray 168)) base 146 ty 168 i0 _ 7 56 Tryz.underlying146 hi hz0 hz1 hz2 rfl (by decide) v j (flat3 L) (hown.alloc _) ⟨wr.heap.size, 0, none⟩ 1 1 k.cs rfl (by
    intro j u hu
    have hn := new_blockS wr (.cells k.cs.toArray 168)
    rw [WideShapes.add_plain, Nat.zero_add]
    simp only [World.cell?, hn]
    simpa using hu) (cs_one3 k) (by unfold maxLen; omega) (by omega) (by have := hb.size; simp; omega)
  have hwr := hb.size
  rw [← flat3_snoc] at h2
  obtain ⟨g, cap, rfl, c1, c2, _⟩ := row3_at h2 (by rw [List.length_append, hL]; rfl) (by simp)
  refine ⟨g, cap, w', hr, h2, (hb.alloc (by omega) _).grown h3 (by simp; omega) (fun k e => ?_), c1, c2⟩
  exact (hown.lt k e).1
end Go.Proofs.YtemlafbkkaloiaaGreat
namespace Go.Proofs.YtemlafbkkaloiaaGreat
open Go.RowKit
structure InvN (b last : Int) (notes : List NoteW) (L : List Bk3) : Prop where
  sum : ∀ P : Int → Bool, sumLR P L = sumW (fun x => P (begB b x.at_)) notes
  ok : ∀ k, k ∈ L → RawOk k.r
  mul : ∀ k, k ∈ L → 0 ≤ k.at_ ∧ k.at_ ≤ last
  len : L.length ≤ notes.length
  pas : ∀ k, k ∈ L → ∃ P : Int, k.r = ⟨P, 0, 0, 0, 0, none⟩
theorem invN_nil (b last : Int) : InvN b last [] [] := ⟨fun P => rfl, fun k h => by simp at h, fun k h => by simp at h, Nat.le_refl _, fun k h => by simp at h⟩
theorem InvN.mono {b last at_ : Int} {notes : List NoteW} {L : List Bk3} (h : InvN b last notes L) (hl : last ≤ at_) : InvN b at_ notes L :=
  ⟨h.sum, h.ok, fun k hk => ⟨(h.mul k hk).1, by have := (h.mul k hk).2; omega⟩, h.len, h.pas⟩
theorem InvN.add {b last at_ : Int} {notes : List NoteW} {L : List Bk3} (h : InvN b last notes L) (hb : 1 ≤ b) (hl : last ≤ at_) (h0 : 0 ≤ at_) {c : CntS} (hc : RightC c) (hpc : rawOf c = ⟨c.p, 0, 0, 0, 0, none⟩) : InvN b at_ (notes ++ [⟨at_, c⟩]) (addL b at_ c L) := by
  obtain ⟨g0, g1, g2, g3, g4⟩ := beg_facts hb h0
  unfold addL
  cases hL : L.getLast? with
  | none =>
    obtain rfl := List.getLast?_eq_none_iff.1 hL
    refine ⟨fun P => ?_, fun k hk => ?_, fun k hk => ?_, by simp, fun k hk => ?_⟩
    · have := h.sum P
      rw [sumW_snocB, ← this]
      show sumLR P [_] = (sumLR P []).add _
      rw [sumB_one, sumLR, RawC.zero_add]
    · obtain rfl := List.mem_singleton.1 hk; exact rawOk_of hc
    · obtain rfl := List.mem_singleton.1 hk; exact ⟨g0, g2⟩
    · obtain rfl := List.mem_singleton.1 hk; exact ⟨_, hpc⟩
  | some x =>
    dsimp only
    have hmem : x ∈ L := List.mem_of_getLast? hL
    obtain ⟨L0, hL0⟩ := List.getLast?_eq_some_iff.1 hL
    subst hL0
    by_cases he : x.at_ = begB b at_
    · rw [if_pos he, List.dropLast_concat]
      refine ⟨fun P => ?_, fun k hk => ?_, fun k hk => ?_, ?_, fun k hk => ?_⟩
      · have := h.sum P
        rw [sumW_snocB, ← this, sumB_append, sumB_append, sumB_one, sumB_one, RawC.add_assoc]
        congr 1
        show (if P x.at_ then x.r.add (rawOf c) else .zero) = (if P x.at_ then x.r else .zero).add (if P (begB b at_) then rawOf c else .zero)
        rw [← he]
        cases P x.at_ <;> simp [RawC.add_zero]
      · rcases List.mem_append.1 hk with hk | hk
        · exact h.ok k (List.mem_append.2 (Or.inl hk))
        · obtain rfl := List.mem_singleton.1 hk
          exact (h.ok x hmem).add (rawOk_of hc)
      · rcases List.mem_append.1 hk with hk | hk
        · have := h.mul k (List.mem_append.2 (Or.inl hk)); exact ⟨this.1, by omega⟩
        · obtain rfl := List.mem_singleton.1 hk
          have := h.mul x hmem; exact ⟨this.1, by show x.at_ ≤ at_; omega⟩
      · have := h.len
        simp at this ⊢
        omega
      · rcases List.mem_append.1 hk with hk | hk
        · exact h.pas k (List.mem_append.2 (Or.inl hk))
        · obtain rfl := List.mem_singleton.1 hk
          obtain ⟨P, hP⟩ := h.pas x hmem
          exact ⟨P + c.p, by show x.r.add (rawOf c) = _; rw [hP, hpc]; rfl⟩
    · rw [if_neg he]
      refine ⟨fun P => ?_, fun k hk => ?_, fun k hk => ?_, ?_, fun k hk => ?_⟩
      · have := h.sum P
        rw [sumW_snocB, ← this, sumB_append P (L0 ++ [x]), sumB_one]
      · rcases List.mem_append.1 hk with hk | hk
        · exact h.ok k hk
        · obtain rfl := List.mem_singleton.1 hk; exact rawOk_of hc
      · rcases List.mem_append.1 hk with hk | hk
        · have := h.mul k hk; exact ⟨this.1, by omega⟩
        · obtain rfl := List.mem_singleton.1 hk; exact ⟨g0, g2⟩
      · have := h.len
        simp only [List.length_append, List.length_singleton] at this ⊢
        omega
      · rcases List.mem_append.1 hk with hk | hk
        · exact h.pas k hk
        · obtain rfl := List.mem_singleton.1 hk; exact ⟨_, hpc⟩
structure W3At (w : World) (p : Nat) (b last : Int) (v : Value) (notes : List NoteW) (L : List Bk3) : Prop where
  head : w.heap[p]? = some (.cells #[.int .i64 (b * 10), .int .i64 10, .int .i64 last, v] 148)
  row : w.ownsRow 0 168 7 v L.length (flat3 L)
  inv : InvN b last notes L
  b0 : 100000 ≤ b
  b1 : b ≤ 6000000
  l0 : 0 ≤ last
  l1 : last ≤ 1152921504606846976
  ne : v.ownBlock ≠ some p
  pos : ∀ x, x ∈ notes → 0 ≤ x.at_
  rgt : RightL notes
theorem W3At.lt {w : World} {p : Nat} {b last : Int} {v : Value} {notes : List NoteW} {L : List Bk3} (h : W3At w p b last v notes L) {i : Nat} (hi : R3Own p v i) : i < w.heap.size := by
  rcases hi with rfl | e
  · exact (Array.getElem?_eq_some_iff.1 h.head).1
  · exact (h.row.lt i e).2
theorem W3At.kept {w w' : World} {p : Nat} {b last : Int} {v : Value} {notes : List NoteW} {L : List Bk3} (h : W3At w p b last v notes L) (hk : ∀ i, R3Own p v i → w'.heap[i]? = w.heap[i]?) : W3At w' p b last v notes L :=
  ⟨(hk p (Or.inl rfl)).trans h.head, rowKept3 h.row (fun g e => hk g (Or.inr e)), h.inv, h.b0, h.b1, h.l0, h.l1, h.ne, h.pos, h.rgt⟩
theorem W3At.below {w w' : World} {p : Nat} {b last : Int} {v : Value} {notes : List NoteW} {L : List Bk3} (h : W3At w p b last v notes L) (hb : Below w.heap.size w w') : W3At w' p b last v notes L := h.kept (fun i hi => hb.block i (h.lt hi))
theorem W3At.cells {w : World} {p : Nat} {b last : Int} {v : Value} {notes : List NoteW} {L : List Bk3} (h : W3At w p b last v notes L) : w.cell? ⟨p, 0, none⟩ = some (.int .i64 (b * 10)) ∧ w.cell? ⟨p, 1, none⟩ = some (.int .i64 10) ∧ w.cell? ⟨p, 2, none⟩ = some (.int .i64 last) ∧ w.cell? ⟨p, 3, none⟩ = some v := by
  have := h.head
  refine ⟨?_, ?_, ?_, ?_⟩ <;> simp [World.cell?, this]
def win10O (b : Int) : Obj := .cells #[.int .i64 (b * 10), .int .i64 10, .int .i64 0, .slice none 0 0] 148
theorem w3_made (w : World) {b : Int} (b0 : 100000 ≤ b) (b1 : b ≤ 6000000) : W3At (w.alloc (win10O b)) w.heap.size b 0 (.slice none 0 0) [] [] ∧ Below w.heap.size w (w.alloc (win10O b)) := by
  have hn := new_blockS w (win10O b)
  refine ⟨⟨hn, World.ownsRow_nil _ _ _ _, invN_nil _ _, b0, b1, by omega, by omega, by simp [Value.ownBlock], (fun x hx => by simp at hx), (fun x hx => by simp at hx)⟩, (Below.refl _ _).alloc (Nat.le_refl _) _⟩
set_option maxHeartbeats 1600000 in
theorem w3new_any (b : Int) (b0 : 100000 ≤ b) (b1 : b ≤ 6000000) (w : World) : Calls Tryz.prog 46 #[.int .i64 (b * 10), .int .i64 10] w fun e w' => e = .returned (.tuple #[.pointer (some ⟨w.heap.size, 0, none⟩), .int .i64 0]) ∧ w' = w.alloc (win10O b) := by
  have hm : (b * 10).tmod 10 = 0 := Int.mul_tmod_left _ _
  unfold win10O
  obtain ⟨W, hW⟩ : ∃ W, b * 10 = W := ⟨_, rfl⟩
  rw [hW] at hm ⊢
  have h1 : ¬ W < 1 := by omega
  have h2 : ¬ 1099511627776 < W := by omega
  clear b0 b1 hW
  go_enter Tryz.func46, Tryz.ntmps46
  go_wp2_with (fail)
  go_ret2
  exact ⟨rfl, rfl⟩
set_option maxHeartbeats 1600000 in
theorem w3look_any {w : World} {p : Nat} {b last : Int} {v : Value} {notes : List NoteW} {L : List Bk3} (h : W3At w p b last v notes L) (at_ : Int) : Calls Tryz.prog 84 #[.pointer (some ⟨p, 0, none⟩), .int .i64 at_] w fun e w' => e = .returned (.int .i64 (lookW last at_)) ∧ w' = w := by
  obtain ⟨c0, c1, c2, c3⟩ := h.cells
  clear h
  by_cases h1 : at_ < 0 ∨ 1152921504606846976 < at_
  · have e1 : lookW last at_ = 2 := by unfold lookW; rw [if_pos h1]
    rw [e1]
    clear e1
    by_cases h2 : at_ < 0
    · clear h1
      go_enter Tryz.func84, Tryz.ntmps84
      go_wp2_with (fail)
      go_ret
      exact ⟨rfl, rfl⟩
    · have h3 : 1152921504606846976 < at_ := by omega
      clear h1
      go_enter Tryz.func84, Tryz.ntmps84
      go_wp2_with (fail)
      go_ret
      exact ⟨rfl, rfl⟩
  · have h2 : ¬ at_ < 0 := by omega
    have h3 : ¬ 1152921504606846976 < at_ := by omega
    by_cases h4 : at_ < last
    · have e1 : lookW last at_ = 7 := by unfold lookW; rw [if_neg h1, if_pos h4]
      rw [e1]
      clear e1 h1
      go_enter Tryz.func84, Tryz.ntmps84
      go_wp2_with (fail)
      go_ret
      exact ⟨rfl, rfl⟩
    · have e1 : lookW last at_ = 0 := by unfold lookW; rw [if_neg h1, if_neg h4]
      rw [e1]
      clear e1 h1
      go_enter Tryz.func84, Tryz.ntmps84
      go_wp2_with (fail)
      go_ret
      exact ⟨rfl, rfl⟩
set_option maxHeartbeats 1600000 in
theorem w3begin_any {w : World} {p : Nat} {b last : Int} {v : Value} {notes : List NoteW} {L : List Bk3} (h : W3At w p b last v notes L) (at_ : Int) (a0 : 0 ≤ at_) (a1 : at_ ≤ 1152921504606846976) : Calls Tryz.prog 87 #[.pointer (some ⟨p, 0, none⟩), .int .i64 at_] w fun e w' => e = .returned (.int .i64 (begB b at_)) ∧ ∃ m, w' = w.drewN m := by
  obtain ⟨c0, c1, c2, c3⟩ := h.cells
  have hb0 := h.b0
  have hb1 := h.b1
  have hq : IntKind.i64.wrap ((b * 10).tdiv 10) = b := by rw [Int.mul_tdiv_cancel _ (by decide)]; exact wrap_small _ (by omega) (by omega)
  have hm : at_.tmod b = at_ % b := Int.tmod_eq_emod_of_nonneg a0
  obtain ⟨R, hR⟩ : ∃ R, at_ % b = R := ⟨_, rfl⟩
  have hr0 : 0 ≤ R := by rw [← hR]; exact Int.emod_nonneg _ (by omega)
  have hr1 : R ≤ at_ := by
    have := (beg_facts (b := b) (by omega) a0).1
    unfold begB at this
    omega
  have HE := Lib.hid (show begB b at_ = at_ - R by unfold begB; rw [hR])
  rw [hR] at hm
  rw [HE.out]
  clear h hR
  obtain ⟨W, hW⟩ : ∃ W, b * 10 = W := ⟨_, rfl⟩
  rw [hW] at hq c0
  clear hW
  go_enter Tryz.func87, Tryz.ntmps87
  go_wp2_with (fail)
  go_quiet (fail)
  go_wp2_with (fail)
  go_ret
  exact ⟨rfl, _, rfl⟩
end Go.Proofs.YtemlafbkkaloiaaGreat
namespace Go.Proofs.YtemlafbkkaloiaaGreat
open Go.RowKit
theorem W3At.stamp {w : World} {p : Nat} {b last : Int} {v : Value} {notes : List NoteW} {L : List Bk3} (h : W3At w p b last v notes L) {at_ : Int} (hl : last ≤ at_) (a0 : 0 ≤ at_) (a1 : at_ ≤ 1152921504606846976) : W3At (w.setCell ⟨p, 2, none⟩ (.int .i64 at_)) p b at_ v notes L := by
  refine ⟨?_, rowKept3 h.row (fun g e => heap_setCell_other w ⟨p, 2, none⟩ g _ (fun e2 => ?_)), h.inv.mono hl, h.b0, h.b1, a0, a1, h.ne, h.pos, h.rgt⟩
  · rw [heap_setCell_same w p 2 _ _ _ h.head]; rfl
  · have e2 : g = p := e2
    exact h.ne (by rw [← e2]; exact e)
theorem w3_frozen {w : World} {p : Nat} {b last : Int} {v : Value} {notes : List NoteW} {L : List Bk3} (h : W3At w p b last v notes L) (k : Nat) : w.frozen? ⟨p, k, none⟩ = false := frozen_of_row w p k _ _ h.head
structure W3Add (w : World) (p : Nat) (b at_ : Int) (v : Value) (notes : List NoteW) (L : List Bk3) (c : CntS) (e : Ending) (w' : World) : Prop where
  e : e = .returned (.int .i64 0)
  ex : ∃ v', W3At w' p b at_ v' (notes ++ [⟨at_, c⟩]) (addL b at_ c L) ∧ Off (R3Own p v) w w' ∧ (∀ i, R3Own p v' i → R3Own p v i ∨ w.heap.size ≤ i)
theorem w3add_end {w w1 w2 : World} {p : Nat} {b last at_ : Int} {v v' : Value} {notes : List NoteW} {L : List Bk3} {c : CntS} (h : W3At w p b last v notes L) (hl : last ≤ at_) (a0 : 0 ≤ at_) (a1 : at_ ≤ 1152921504606846976) (hc : RightC c) (hpc : rawOf c = ⟨c.p, 0, 0, 0, 0, none⟩)
    (h1 : W3At w1 p b at_ v notes L) (hO : Off (R3Own p v) w w1) (hown : w2.ownsRow w1.heap.size 168 7 v' (addL b at_ c L).length (flat3 (addL b at_ c L))) (hB : Below w1.heap.size w1 w2) :
    W3Add w p b at_ v notes L c (.returned (.int .i64 0)) (w2.setCell ⟨p, 3, none⟩ v') := by
  have hp1 : p < w1.heap.size := h1.lt (Or.inl rfl)
  have hne : v'.ownBlock ≠ some p := fun e => by have := (hown.lt p e).1; omega
  refine ⟨rfl, v', ⟨?_, ?_, h.inv.add (by have := h.b0; omega) hl a0 hc hpc, h.b0, h.b1, a0, a1, hne, ?_, (fun x hx => by
    rcases List.mem_append.1 hx with hx | hx
    · exact h.rgt x hx
    · obtain rfl := List.mem_singleton.1 hx; exact hc)⟩, ?_, ?_⟩
  · rw [heap_setCell_same w2 p 3 _ _ _ ((hB.block p hp1).trans h1.head)]; rfl
  · have := rowKept3 (w' := w2.setCell ⟨p, 3, none⟩ v') hown (fun g e => heap_setCell_other w2 ⟨p, 3, none⟩ g _ (fun e2 => hne (by
      have e2 : g = p := e2
      rw [← e2]; exact e)))
    exact ⟨this.1, by
      rcases this.2 with hn | ⟨g, cap, cur, hv, hb, hg, r⟩
      · exact Or.inl hn
      · exact Or.inr ⟨g, cap, cur, hv, Nat.zero_le _, hg, r⟩⟩
  · intro x hx
    rcases List.mem_append.1 hx with hx | hx
    · exact h.pos x hx
    · obtain rfl := List.mem_singleton.1 hx; exact a0
  · exact (hO.trans (Off.ofBelow (S := R3Own p v) hB) (fun _ _ h => h)).setCell (p := ⟨p, 3, none⟩) (fun _ => Or.inl rfl) v'
  · intro i hi
    rcases hi with rfl | hi
    · exact Or.inl (Or.inl rfl)
    · exact Or.inr (by have := (hown.lt i hi).1; have := hO.size; omega)
theorem addL_same {b at_ : Int} {c : CntS} {L : List Bk3} {x : Bk3} (hL : L.getLast? = some x) (he : x.at_ = begB b at_) : addL b at_ c L = L.set (L.length - 1) ⟨x.at_, x.r.add (rawOf c)⟩ := by
  obtain ⟨L0, rfl⟩ := List.getLast?_eq_some_iff.1 hL
  unfold addL
  rw [hL]
  dsimp only
  rw [if_pos he, List.dropLast_concat, List.length_append, List.length_singleton, Nat.add_sub_cancel, List.set_append_right _ _ (Nat.le_refl _), Nat.sub_self]
  rfl
theorem addL_new {b at_ : Int} {c : CntS} {L : List Bk3} (he : ∀ x, L.getLast? = some x → x.at_ ≠ begB b at_) : addL b at_ c L = L ++ [⟨begB b at_, rawOf c⟩] := by
  unfold addL
  cases hL : L.getLast? with
  | none => rw [List.getLast?_eq_none_iff.1 hL]; rfl
  | some x => exact if_neg (he x hL)
theorem set_same3 {α : Type} {l : List α} {i : Nat} {v : α} (h : l[i]? = some v) : l.set i v = l := by
  obtain ⟨hi, rfl⟩ := List.getElem?_eq_some_iff.1 h
  exact List.set_getElem_self hi
theorem two_put {w : World} {base g cap : Nat} {L : List Bk3} {x : Bk3} {c : CntS} {at_ b : Int} (hL : L.getLast? = some x) (he : x.at_ = begB b at_) (hx : RawOk x.r) (hc : RightC c) (h : w.ownsRow base 168 7 (.slice (some ⟨g, 0, none⟩) L.length cap) L.length (flat3 L)) {T : CntS} (hT : T = twoC (imgC x.r) c) :
    (w.setCells g ((L.length - 1) * 7 + 1) [.int .i64 T.p, .int .i64 T.b, .int .i64 T.d, .int .i64 T.e, .int .i64 T.r, .int .i64 T.m]).ownsRow base 168 7 (.slice (some ⟨g, 0, none⟩) L.length cap) (addL b at_ c L).length (flat3 (addL b at_ c L)) := by
  have hne : L ≠ [] := by intro e; rw [e] at hL; cases hL
  have hpos : 0 < L.length := List.length_pos_iff.2 hne
  have e1 : T = imgC (x.r.add (rawOf c)) := by
    have := twoC_img hx (rawOk_of hc)
    rw [imgC_raw hc] at this
    exact hT.trans this
  have hx1 : L[L.length - 1]? = some x := by rw [← hL, List.getLast?_eq_getElem?]
  rw [addL_same hL he, List.length_set]
  have e3 : flat3 (L.set (L.length - 1) ⟨x.at_, x.r.add (rawOf c)⟩) = putAll (flat3 L) ((L.length - 1) * 7) (⟨x.at_, x.r.add (rawOf c)⟩ : Bk3).cs := by
    unfold flat3
    rw [List.map_set]
    exact flatten_set (cs_len7 L) (by rw [List.length_map]; omega) rfl
  have e4 : putAll (flat3 L) ((L.length - 1) * 7) (⟨x.at_, x.r.add (rawOf c)⟩ : Bk3).cs = putAll (flat3 L) ((L.length - 1) * 7 + 1) [.int .i64 T.p, .int .i64 T.b, .int .i64 T.d, .int .i64 T.e, .int .i64 T.r, .int .i64 T.m] := by
    rw [e1]
    show putAll (flat3 L) _ (.int .i64 x.at_ :: _) = _
    rw [putAll, set_same3]
    have := flat3_get hx1 0 (by decide)
    exact this
  rw [e3, e4]
  exact (ownsRow_put _ _ w _ h).1
end Go.Proofs.YtemlafbkkaloiaaGreat
namespace Go.Proofs.YtemlafbkkaloiaaGreat
open Go.RowKit
set_option maxHeartbeats 6400000 in
set_option maxRecDepth 100000 in
theorem w3add_any {w : World} {p : Nat} {b last : Int} {v : Value} {notes : List NoteW} {L : List Bk3} (h : W3At w p b last v notes L) (at_ : Int) (hE : lookW last at_ = 0) (c : CntS) (hc : RightC c) (hpc : rawOf c = ⟨c.p, 0, 0, 0, 0, none⟩) (hfw : L.length ≤ 1152921504607) (cb co cap : Nat) (hcb : cb ≠ p) (hct : CtsAt w (some ⟨cb, co, none⟩) [c]) :
    Calls Tryz.prog 47 #[.pointer (some ⟨p, 0, none⟩), .int .i64 at_, .slice (some ⟨cb, co, none⟩) 1 cap] w (W3Add w p b at_ v notes L c) := by
  have HLK := Lib.hid (w3look_any h at_)
  rw [hE] at HLK
  obtain ⟨a0, a1, a2⟩ := lookW_ok hE
  have HH := Lib.hid h
  have HC := Lib.hid hct
  have HR := Lib.hid hc
  have HFL := Lib.hid hfw
  have HPC := Lib.hid hpc
  obtain ⟨hbl, hcc⟩ : cb < w.heap.size ∧ (w.cell? ⟨cb, co, none⟩ = some (.int .i64 c.p) ∧ w.cell? ⟨cb, co + 1, none⟩ = some (.int .i64 c.b) ∧ w.cell? ⟨cb, co + 2, none⟩ = some (.int .i64 c.d) ∧
      w.cell? ⟨cb, co + 3, none⟩ = some (.int .i64 c.e) ∧ w.cell? ⟨cb, co + 4, none⟩ = some (.int .i64 c.r) ∧ w.cell? ⟨cb, co + 5, none⟩ = some (.int .i64 c.m)) := by
    rcases hct with h | ⟨b', off', e, h1, h2⟩
    · cases h
    · cases e
      have := h2 0 c rfl
      rw [Nat.zero_mul, Nat.add_zero] at this
      exact ⟨h1, this⟩
  have HBL := Lib.hid hbl
  have HCC := Lib.hid hcc
  have HA := Lib.hid (And.intro a0 (And.intro a1 a2))
  have HCP := Lib.hid hcb
  clear h hE hct hc hpc hfw hcc hcb a0 a1 a2 hbl
  go_enter Tryz.func47, Tryz.ntmps47
  go_wp2_with (fail)
  refine HLK.out.mono ?_
  rintro e wq ⟨rfl, hq⟩
  have hq := hq.symm
  subst hq
  clear HLK
  go_wp2_with (fail)
  go_loopw [8] (fun i wr => ∃ k : Nat, k ≤ 1 ∧ i = .int .i64 k ∧ Hid (Below w.heap.size w wr)) (fun i _ => 1 - (intOf i).toNat)
  case atStart => exact ⟨0, by omega, rfl, Lib.hid (Below.refl _ _)⟩
  case round =>
    rename World => wr
    obtain ⟨k, hk, rfl, HB⟩ := hrel
    have hbz := HB.out.size
    by_cases hlt : k < 1
    · have k0 : (0 : Int) ≤ k := by omega
      have k1 : (k : Int) < 1 := by omega
      have HK := Lib.hid (show k = 0 by omega)
      obtain ⟨d0, d1, d2, d3, d4, d5⟩ := HCC.out
      have e0 : co + k * 6 = co := by rw [HK.out, Nat.zero_mul, Nat.add_zero]
      have d0 : wr.cell? ⟨cb, co + k * 6, none⟩ = some (.int .i64 c.p) := by rw [e0]; exact (HB.out.cell (p := ⟨cb, co, none⟩) HBL.out).trans d0
      have d1 : wr.cell? ⟨cb, co + k * 6 + 1, none⟩ = some (.int .i64 c.b) := by rw [e0]; exact (HB.out.cell (p := ⟨cb, co + 1, none⟩) HBL.out).trans d1
      have d2 : wr.cell? ⟨cb, co + k * 6 + 2, none⟩ = some (.int .i64 c.d) := by rw [e0]; exact (HB.out.cell (p := ⟨cb, co + 2, none⟩) HBL.out).trans d2
      have d3 : wr.cell? ⟨cb, co + k * 6 + 3, none⟩ = some (.int .i64 c.e) := by rw [e0]; exact (HB.out.cell (p := ⟨cb, co + 3, none⟩) HBL.out).trans d3
      have d4 : wr.cell? ⟨cb, co + k * 6 + 4, none⟩ = some (.int .i64 c.r) := by rw [e0]; exact (HB.out.cell (p := ⟨cb, co + 4, none⟩) HBL.out).trans d4
      have d5 : wr.cell? ⟨cb, co + k * 6 + 5, none⟩ = some (.int .i64 c.m) := by rw [e0]; exact (HB.out.cell (p := ⟨cb, co + 5, none⟩) HBL.out).trans d5
      have HRT := Lib.hid (r3right_any c HR.out wr)
      clear e0 hbz
      obtain ⟨cp, cB, cd, ce, cr, cm⟩ := c
      unfold ctV at HRT
      dsimp only at *
      go_wp2_with (fail)
      refine HRT.out.mono ?_
      rintro e w1 ⟨rfl, h1⟩
      have HB1 := Lib.hid (HB.out.trans (h1.mono HB.out.size))
      clear h1
      go_wp2_with (fail)
      exact ⟨⟨k + 1, by omega, by go_num, HB1⟩, by first | (simp [intOf]; done) | (simp [intOf]; omega)⟩
    · have hk1 : k = 1 := by omega
      have k1 : ¬ (k : Int) < 1 := by omega
      have HH0 := Lib.hid (HH.out.below HB.out)
      have f2 := w3_frozen HH0.out 2
      have c2 := HH0.out.cells.2.2.1
      have HH1 := Lib.hid (HH0.out.stamp HA.out.2.2 HA.out.1 HA.out.2.1)
      have HO1 := Lib.hid ((Off.ofBelow (S := R3Own p v) HB.out).setCell (p := ⟨p, 2, none⟩) (fun _ => Or.inl rfl) (.int .i64 at_))
      have HC1 := Lib.hid (show CtsAt (wr.setCell ⟨p, 2, none⟩ (.int .i64 at_)) (some ⟨cb, co, none⟩) [c] from by
        rcases HC.out with h | ⟨b', off', e, h1, h2⟩
        · cases h
        · cases e
          refine Or.inr ⟨cb, co, rfl, by simp [World.setCell]; omega, fun j x hx => ?_⟩
          have hkk : ∀ o, (wr.setCell ⟨p, 2, none⟩ (.int .i64 at_)).cell? ⟨cb, o, none⟩ = w.cell? ⟨cb, o, none⟩ := fun o => (World.cell?_of_block (a := ⟨cb, o, none⟩) (heap_setCell_other wr ⟨p, 2, none⟩ cb _ HCP.out)).trans (HB.out.cell (p := ⟨cb, o, none⟩) HBL.out)
          rw [hkk, hkk, hkk, hkk, hkk, hkk]
          exact h2 j x hx)
      have HJ := Lib.hid (r3join_any (wr.setCell ⟨p, 2, none⟩ (.int .i64 at_)) (some ⟨cb, co, none⟩) 1 cap [c] rfl (by omega) (fun x hx => by obtain rfl := List.mem_singleton.1 hx; exact HR.out) HC1.out)
      have hj1 : joinC .zero [c] = c := (joinC_zero HR.out []).trans rfl
      rw [hj1] at HJ
      clear hj1 HC1
      go_wp2_with (fail)
      refine HJ.out.mono ?_
      rintro e w2 ⟨rfl, h2⟩
      have HH2 := Lib.hid (HH1.out.below h2)
      have HO2 := Lib.hid (HO1.out.trans (Off.ofBelow (S := R3Own p v) h2) (fun _ _ h => h))
      clear h2 HJ HH1 HO1 HB HH0
      have hb3 : Below w2.heap.size w2 (w2.alloc (ctO c 92)) := (Below.refl _ _).alloc (Nat.le_refl _) _
      have HH3 := Lib.hid (HH2.out.below hb3)
      have HO3 := Lib.hid (HO2.out.trans (Off.ofBelow (S := R3Own p v) hb3) (fun _ _ h => h))
      have HBX := Lib.hid ((get_allocW w2 (ctO c 92) w2.heap.size).trans (if_pos rfl))
      have HBG := Lib.hid (w3begin_any HH3.out at_ HA.out.1 HA.out.2.1)
      clear hb3 c2 f2
      obtain ⟨xp, xb, xd, xe, xr, xm⟩ := c
      unfold ctO at HH3 HO3 HBX HBG
      unfold ctV
      dsimp only at *
      go_wp2_with (fail)
      refine HBG.out.mono ?_
      rintro e w4 ⟨rfl, m4, hq4⟩
      have hb4 : Below (w2.alloc (.cells #[.int .i64 xp, .int .i64 xb, .int .i64 xd, .int .i64 xe, .int .i64 xr, .int .i64 xm] 92)).heap.size (w2.alloc (.cells #[.int .i64 xp, .int .i64 xb, .int .i64 xd, .int .i64 xe, .int .i64 xr, .int .i64 xm] 92)) w4 := by rw [hq4]; exact below_drewN (Below.refl _ _) _
      have HH4 := Lib.hid (HH3.out.below hb4)
      have HO4 := Lib.hid (HO3.out.trans (Off.ofBelow (S := R3Own p v) hb4) (fun _ _ h => h))
      have HB4 := Lib.hid ((hb4.block w2.heap.size (by simp)).trans HBX.out)
      have hN4 : w2.heap.size < w4.heap.size := (Array.getElem?_eq_some_iff.1 HB4.out).1
      have c3 := HH4.out.cells.2.2.2
      clear hq4 hb4 HBG HH3 HO3 HBX HH2 HO2
      obtain ⟨B, hBB⟩ : ∃ B, begB b at_ = B := ⟨_, rfl⟩
      have HBB := Lib.hid hBB
      rw [hBB]
      clear hBB
      obtain ⟨N, hNN⟩ : ∃ N, w2.heap.size = N := ⟨_, rfl⟩
      rw [hNN] at HB4 hN4 ⊢
      clear hNN
      have HN4 := Lib.hid hN4
      clear hN4
      cases hL : L.getLast? with
      | none =>
        have hL0 := List.getLast?_eq_none_iff.1 hL
        have hrow := HH4.out.row
        rw [hL0] at hrow
        obtain ⟨w5, hr5, hb5⟩ := run_copy3_nil hrow 146
        have HR5 := Lib.hid hr5
        have HB5 := Lib.hid hb5
        clear hrow hr5 hb5
        obtain ⟨⟨z0, z1, z2, z3, z4, z5⟩, zf⟩ := ct_cells (c := ⟨xp, xb, xd, xe, xr, xm⟩) ((HB5.out.block N HN4.out).trans HB4.out)
        dsimp only at z0 z1 z2 z3 z4 z5
        obtain ⟨g6, cap6, w6, hr6, ho6, hb6, hc6, hc7⟩ := run_append3 (L := []) (World.ownsRow_nil (w := w5) w4.heap.size 168 7) (Nat.le_refl _) HB5.out (Nat.zero_le _) rfl ⟨B, rawOf ⟨xp, xb, xd, xe, xr, xm⟩⟩ 146
        rw [cs_new HR.out] at hr6
        have HR6 := Lib.hid hr6
        have HO6 := Lib.hid ho6
        have HB6 := Lib.hid hb6
        have f6 := w3_frozen (HH4.out.below hb6) 3
        have c6 := (HH4.out.below hb6).cells.2.2.2
        clear hr6 ho6 hb6
        go_wp2_with (first | (at_builtin; refine wpList_append_run (by rfl) (.tmp 40) (.tmp 44) 146 146 (by rfl) (by rfl) (by rfl) (by rfl) HR5.out ?_) | (at_builtin; refine wpList_append_run (by rfl) (.tmp 73) (.tmp 77) 146 146 (by rfl) (by rfl) (by rfl) (by rfl) HR6.out ?_))
        go_wp2_with (fail)
        go_ret
        refine w3add_end HH.out HA.out.2.2 HA.out.1 HA.out.2.1 HR.out HPC.out HH4.out HO4.out ?_ HB6.out
        rw [addL_new (fun x hx => by rw [hL] at hx; cases hx), HBB.out, hL0]
        exact HO6.out
      | some x =>
        obtain ⟨K, hK⟩ : ∃ K, L.length = K + 1 := by
          cases hn : L.length with
          | zero => rw [List.length_eq_zero_iff.1 hn] at hL; cases hL
          | succ K => exact ⟨K, rfl⟩
        have hfew := (show L.length ≤ 1152921504608 by have := HFL.out; omega)
        obtain ⟨g, cap5, w5, hr5, ho5, hb5, hg0, hg1, hc1, hc2, hcell, hfz⟩ := run_copy3_cons HH4.out.row hfew hK 146
        have hx1 : L[K]? = some x := by rw [← hL, List.getLast?_eq_getElem?, hK]; rfl
        have HR5 := Lib.hid hr5
        have HO5 := Lib.hid ho5
        have HB5 := Lib.hid hb5
        have HX1 := Lib.hid hx1
        have HKK := Lib.hid hK
        have HLL := Lib.hid hL
        have HFW := Lib.hid hfew
        have hkm : K + 1 ≤ 1152921504608 := by omega
        have l0 : w5.cell? ⟨g, K * 7, none⟩ = some (.int .i64 x.at_) := by have := hcell K x hx1 0 (by decide); exact this
        have l1 : w5.cell? ⟨g, K * 7 + 1, none⟩ = some (.int .i64 (imgC x.r).p) := hcell K x hx1 1 (by decide)
        have l2 : w5.cell? ⟨g, K * 7 + 1 + 1, none⟩ = some (.int .i64 (imgC x.r).b) := hcell K x hx1 2 (by decide)
        have l3 : w5.cell? ⟨g, K * 7 + 1 + 2, none⟩ = some (.int .i64 (imgC x.r).d) := hcell K x hx1 3 (by decide)
        have l4 : w5.cell? ⟨g, K * 7 + 1 + 3, none⟩ = some (.int .i64 (imgC x.r).e) := hcell K x hx1 4 (by decide)
        have l5 : w5.cell? ⟨g, K * 7 + 1 + 4, none⟩ = some (.int .i64 (imgC x.r).r) := hcell K x hx1 5 (by decide)
        have l6 : w5.cell? ⟨g, K * 7 + 1 + 5, none⟩ = some (.int .i64 (imgC x.r).m) := hcell K x hx1 6 (by decide)
        have HG0 := Lib.hid hg0
        have HXR := Lib.hid (HH4.out.inv.ok x (List.mem_of_getElem? hx1))
        clear hr5 ho5 hb5 hx1 hK hL hfew hcell hg0
        obtain ⟨⟨z0, z1, z2, z3, z4, z5⟩, zf⟩ := ct_cells (c := ⟨xp, xb, xd, xe, xr, xm⟩) ((HB5.out.block N HN4.out).trans HB4.out)
        dsimp only at z0 z1 z2 z3 z4 z5
        obtain ⟨X, hX⟩ : ∃ X, x.at_ = X := ⟨_, rfl⟩
        have HXX := Lib.hid hX
        rw [hX] at l0
        clear hX
        by_cases hxb : X = B
        · have HXB := Lib.hid hxb
          subst hxb
          have HT := Lib.hid (fun wx => r3two_any (imgC x.r) ⟨xp, xb, xd, xe, xr, xm⟩ (imgC_right HXR.out) HR.out wx)
          obtain ⟨T, hT⟩ : ∃ T, twoC (imgC x.r) ⟨xp, xb, xd, xe, xr, xm⟩ = T := ⟨_, rfl⟩
          rw [hT] at HT
          have HTT := Lib.hid hT.symm
          clear hT
          obtain ⟨I, hI⟩ : ∃ I, imgC x.r = I := ⟨_, rfl⟩
          rw [hI] at HT l1 l2 l3 l4 l5 l6
          clear hI
          obtain ⟨ip, ib, id_, ie, ir, im⟩ := I
          obtain ⟨tp, tb, td, te, tr, tm⟩ := T
          unfold ctV at HT
          dsimp only at HT l1 l2 l3 l4 l5 l6
          go_wp2_with ((at_builtin; refine wpList_append_run (by rfl) (.tmp 40) (.tmp 44) 146 146 (by rfl) (by rfl) (by rfl) (by rfl) HR5.out ?_))
          have hpw : p < w4.heap.size := HH4.out.lt (Or.inl rfl)
          have hgp : ¬ g = p := by have := HG0.out; omega
          have hpg : ¬ p = g := by have := HG0.out; omega
          have HPW := Lib.hid hpw
          have HGP := Lib.hid hgp
          clear hpw
          have k0 : (0 : Int) ≤ (K : Int) := by omega
          have k1 : (K : Int) < (K : Int) + 1 := by omega
          have k2 : ¬ (K : Int) < 0 := by omega
          have k3 : ¬ (K : Int) + 1 ≤ (K : Int) := by omega
          have k4 : IntKind.i64.wrap ((K : Int) + 1 - 1) = (K : Int) := by rw [Int.add_sub_cancel]; exact wrap_small _ (by omega) (by omega)
          have k5 : IntKind.i64.wrap (K : Int) = (K : Int) := wrap_small _ (by omega) (by omega)
          go_region_with (go_at_call 88; refine (HT.out _).mono ?_; rintro e w7 ⟨rfl, h7⟩; have HH7 := Lib.hid (show Below w5.heap.size w5 w7 from ((Below.refl _ w5).drew).trans h7); have m1 := (HH7.out.cell (p := ⟨g, K * 7 + 1, none⟩) hg1).trans l1; have m2 := (HH7.out.cell (p := ⟨g, K * 7 + 1 + 1, none⟩) hg1).trans l2; have m3 := (HH7.out.cell (p := ⟨g, K * 7 + 1 + 2, none⟩) hg1).trans l3; have m4 := (HH7.out.cell (p := ⟨g, K * 7 + 1 + 3, none⟩) hg1).trans l4; have m5 := (HH7.out.cell (p := ⟨g, K * 7 + 1 + 4, none⟩) hg1).trans l5; have m6 := (HH7.out.cell (p := ⟨g, K * 7 + 1 + 5, none⟩) hg1).trans l6; have hfz7 : ∀ j, w7.frozen? ⟨g, j, none⟩ = false := (by intro j; have h1 := hfz j; have h2 := HH7.out.block g hg1; simp only [World.frozen?] at h1 ⊢; rw [h2]; exact h1); have hq7 := (HH4.out.below HB5.out).below HH7.out; have f7 := w3_frozen hq7 3; have c7 := hq7.cells.2.2.2; clear h7 hq7)
          all_goals
            go_wp2_with (fail)
            have hrow7 : w7.ownsRow w4.heap.size 168 7 (.slice (some ⟨g, 0, none⟩) L.length cap5) L.length (flat3 L) := by
              rw [HKK.out]
              exact rowKept3 HO5.out (fun g' e => by
                cases e
                exact HH7.out.block g hg1)
            have hput := two_put (b := b) (at_ := at_) HLL.out (HXX.out.trans HBB.out.symm) HXR.out HR.out hrow7 HTT.out
            rw [HKK.out] at hput
            have hbel : Below w4.heap.size w4 (w7.setCells g (K * 7 + 1) [.int .i64 tp, .int .i64 tb, .int .i64 td, .int .i64 te, .int .i64 tr, .int .i64 tm]) :=
              ((((((HB5.out.trans (HH7.out.mono HB5.out.size)).setCell HG0.out _).setCell HG0.out _).setCell HG0.out _).setCell HG0.out _).setCell HG0.out _).setCell HG0.out _
            go_ret
            exact w3add_end HH.out HA.out.2.2 HA.out.1 HA.out.2.1 HR.out HPC.out HH4.out HO4.out hput hbel
        · obtain ⟨g6, cap6, w6, hr6, ho6, hb6, hc6, hc7⟩ := run_append3 HO5.out (Nat.le_refl _) HB5.out hkm HKK.out ⟨B, rawOf ⟨xp, xb, xd, xe, xr, xm⟩⟩ 146
          rw [cs_new HR.out] at hr6
          have HR6 := Lib.hid hr6
          have HO6 := Lib.hid ho6
          have HB6 := Lib.hid hb6
          have f6 := w3_frozen (HH4.out.below hb6) 3
          have c6 := (HH4.out.below hb6).cells.2.2.2
          have hne : (X == B) = false := by simpa using hxb
          clear hr6 ho6 hb6
          go_wp2_with (first | (at_builtin; refine wpList_append_run (by rfl) (.tmp 40) (.tmp 44) 146 146 (by rfl) (by rfl) (by rfl) (by rfl) HR5.out ?_) | (at_builtin; refine wpList_append_run (by rfl) (.tmp 73) (.tmp 77) 146 146 (by rfl) (by rfl) (by rfl) (by rfl) HR6.out ?_))
          go_wp2_with (fail)
          go_ret
          refine w3add_end HH.out HA.out.2.2 HA.out.1 HA.out.2.1 HR.out HPC.out HH4.out HO4.out ?_ HB6.out
          rw [addL_new (fun y hy => by rw [HLL.out] at hy; cases hy; rw [HXX.out, HBB.out]; exact hxb), HBB.out, List.length_append, HKK.out]
          exact HO6.out
end Go.Proofs.YtemlafbkkaloiaaGreat
namespace Go.Proofs.YtemlafbkkaloiaaGreat
open Go.RowKit
theorem row3_form {w : World} {base n : Nat} {v : Value} {L : List Bk3} (h : w.ownsRow base 168 7 v n (flat3 L)) (hn : L.length = n) : ∃ a cap, v = .slice a n cap ∧ ∀ j k, L[j]? = some k → ∃ g, a = some ⟨g, 0, none⟩ ∧ g < w.heap.size ∧ (w.cell? ⟨g, j * 7, none⟩ = some (.int .i64 k.at_) ∧ w.cell? ⟨g, j * 7 + 1, none⟩ = some (.int .i64 (imgC k.r).p) ∧ w.cell? ⟨g, j * 7 + 1 + 1, none⟩ = some (.int .i64 (imgC k.r).b) ∧ w.cell? ⟨g, j * 7 + 1 + 2, none⟩ = some (.int .i64 (imgC k.r).d) ∧ w.cell? ⟨g, j * 7 + 1 + 3, none⟩ = some (.int .i64 (imgC k.r).e) ∧ w.cell? ⟨g, j * 7 + 1 + 4, none⟩ = some (.int .i64 (imgC k.r).r) ∧ w.cell? ⟨g, j * 7 + 1 + 5, none⟩ = some (.int .i64 (imgC k.r).m)) := by
  by_cases hne : L = []
  · subst hne
    rcases h.2 with ⟨hv, hz⟩ | ⟨g, cap, cur, hv, _⟩
    · subst hz; exact ⟨none, 0, hv, fun j k hj => by simp at hj⟩
    · exact ⟨_, _, hv, fun j k hj => by simp at hj⟩
  · obtain ⟨g, cap, hv, c1, c2, c3, c4, c5, c6⟩ := row3_at h hn hne
    refine ⟨_, _, hv, fun j k hj => ⟨g, rfl, c4, ?_, ?_, ?_, ?_, ?_, ?_, ?_⟩⟩
    · exact c5 j k hj 0 (by decide)
    · exact c5 j k hj 1 (by decide)
    · exact c5 j k hj 2 (by decide)
    · exact c5 j k hj 3 (by decide)
    · exact c5 j k hj 4 (by decide)
    · exact c5 j k hj 5 (by decide)
    · exact c5 j k hj 6 (by decide)
def inT (b at_ : Int) (t : Int) : Bool := decide (begB b at_ - b * 10 < t)
def inLT (b at_ : Int) (L : List Bk3) : List Bk3 := L.filter (fun k => inT b at_ k.at_ && decide (k.r.p ≠ 0))
theorem inLT_len (b at_ : Int) (L : List Bk3) : (inLT b at_ L).length ≤ L.length := List.length_filter_le _ _
theorem inLT_succ {b at_ : Int} {L : List Bk3} {k : Nat} {x : Bk3} (h : L[k]? = some x) : inLT b at_ (L.take (k + 1)) = if (inT b at_ x.at_ && decide (x.r.p ≠ 0)) = true then inLT b at_ (L.take k) ++ [x] else inLT b at_ (L.take k) := by
  have hk := (List.getElem?_eq_some_iff.1 h).1
  have hx := (List.getElem?_eq_some_iff.1 h).2
  unfold inLT
  rw [List.take_succ_eq_append_getElem hk, List.filter_append, hx]
  by_cases hi : (inT b at_ x.at_ && decide (x.r.p ≠ 0)) = true
  · rw [if_pos hi, List.filter_cons, if_pos hi]; rfl
  · rw [if_neg hi, List.filter_cons, if_neg hi]; simp
theorem inT_win {b at_ : Int} (hb : 1 ≤ b) (h0 : 0 ≤ at_) {t : Int} (ht : 0 ≤ t) : inT b at_ (begB b t) = decide (at_ / b - 10 < t / b) := by
  unfold inT
  rw [(beg_facts hb h0).2.2.2.2, (beg_facts hb ht).2.2.2.2]
  apply decide_eq_decide.2
  constructor
  · intro h
    have h1 : b * (at_ / b - 10) < b * (t / b) := by rw [Int.mul_sub]; omega
    exact Int.lt_of_mul_lt_mul_left h1 (by omega)
  · intro h
    have h1 := Int.mul_lt_mul_of_pos_left h (show 0 < b by omega)
    rw [Int.mul_sub] at h1
    omega
theorem joinT (P : Int → Bool) : ∀ {L : List Bk3} {A : RawC}, RawOk A → (∀ k, k ∈ L → RawOk k.r) → (∀ k, k ∈ L → ∃ P : Int, k.r = ⟨P, 0, 0, 0, 0, none⟩) → joinC (imgC A) ((L.filter (fun k => P k.at_ && decide (k.r.p ≠ 0))).map (fun k => imgC k.r)) = imgC (A.add (sumLR P L))
  | [], A, _, _, _ => by simp [joinC, sumLR, RawC.add_zero]
  | k :: L, A, hA, h, hp => by
    have hk := h k (by simp)
    obtain ⟨Q, hQ⟩ := hp k (by simp)
    have ih := fun {A : RawC} (hA : RawOk A) => joinT P (L := L) (A := A) hA (fun x hx => h x (by simp [hx])) (fun x hx => hp x (by simp [hx]))
    cases hP : P k.at_ with
    | true =>
      by_cases h0 : k.r.p = 0
      · have hz : k.r = .zero := by rw [hQ] at h0 ⊢; have h0 : Q = 0 := h0; subst h0; rfl
        rw [List.filter_cons, if_neg (by simp [hP, h0]), ih hA, sumLR, if_pos hP, hz, RawC.zero_add]
      · rw [List.filter_cons, if_pos (by simp [hP, h0]), List.map_cons]
        show joinC (twoC (imgC A) (imgC k.r)) _ = _
        rw [twoC_img hA hk, ih (hA.add hk), sumLR, if_pos hP, RawC.add_assoc]
    | false =>
      rw [List.filter_cons, if_neg (by rw [hP]; simp), ih hA, sumLR, if_neg (by rw [hP]; simp), RawC.zero_add]
theorem InvN.tells {b last at_ : Int} {notes : List NoteW} {L : List Bk3} (h : InvN b last notes L) (hb : 1 ≤ b) (h0 : 0 ≤ at_) (hn : ∀ x, x ∈ notes → 0 ≤ x.at_) : joinC .zero ((inLT b at_ L).map (fun k => imgC k.r)) = winC b 10 at_ notes := by
  have e := joinT (inT b at_) (L := L) rawOk_zero h.ok h.pas
  rw [imgC_zero, RawC.zero_add, h.sum] at e
  show joinC .zero ((L.filter _).map _) = _
  rw [e]
  unfold winC
  rw [sumW_congrB (fun x hx => inT_win hb h0 (hn x hx))]
set_option maxHeartbeats 6400000 in
set_option maxRecDepth 100000 in
theorem w3buckets_any {w : World} {p : Nat} {b last : Int} {v : Value} {notes : List NoteW} {L : List Bk3} (h : W3At w p b last v notes L) (at_ : Int) (hE : lookW last at_ = 0) (hfw : L.length ≤ 1152921504607) :
    Calls Tryz.prog 105 #[.pointer (some ⟨p, 0, none⟩), .int .i64 at_] w fun e w' => ∃ a cap, e = .returned (.tuple #[.slice a (inLT b at_ L).length cap, .int .i64 0]) ∧ w'.ownsRow w.heap.size 168 7 (.slice a (inLT b at_ L).length cap) (inLT b at_ L).length (flat3 (inLT b at_ L)) ∧ Below w.heap.size w w' := by
  have HLK := Lib.hid (w3look_any h at_)
  rw [hE] at HLK
  obtain ⟨a0, a1, a2⟩ := lookW_ok hE
  have HA := Lib.hid (And.intro a0 (And.intro a1 a2))
  have HH := Lib.hid h
  obtain ⟨a, cap, hv, hcells⟩ := row3_form h.row rfl
  subst hv
  have HC := Lib.hid hcells
  have HOK := Lib.hid h.inv.ok
  obtain ⟨len, hlen⟩ : ∃ len, L.length = len := ⟨_, rfl⟩
  have hfew := hfw
  have HPA := Lib.hid h.inv.pas
  rw [hlen] at hfew
  have HLEN := Lib.hid hlen
  have c3 := h.cells.2.2.2
  rw [hlen] at c3
  have HP := Lib.hid (h.lt (Or.inl rfl))
  have hb0 := h.b0
  have hb1 := h.b1
  clear h hE a0 a1 a2 hcells hfw
  go_enter Tryz.func105, Tryz.ntmps105
  go_wp2_with (fail)
  refine HLK.out.mono ?_
  rintro e wq ⟨rfl, hq⟩
  have hq := hq.symm
  subst hq
  clear HLK
  go_wp2_with (fail)
  have HC3 := Lib.hid c3
  clear c3
  go_loopw [7, 8] (fun o i wr => ∃ k : Nat, k ≤ len ∧ i = .int .i64 k ∧ Hid (wr.ownsRow w.heap.size 168 7 o (inLT b at_ (L.take k)).length (flat3 (inLT b at_ (L.take k)))) ∧ Hid (Below w.heap.size w wr)) (fun _ i _ => len - (intOf i).toNat)
  case atStart => exact ⟨0, Nat.zero_le _, rfl, Lib.hid (by simpa [inLT, flat3] using World.ownsRow_nil (w := w) w.heap.size 168 7), Lib.hid (Below.refl _ _)⟩
  case round =>
    rename World => wr
    obtain ⟨k, hk, rfl, HO, HB⟩ := hrel
    have c3 := (HB.out.cell (p := ⟨p, 3, none⟩) HP.out).trans HC3.out
    by_cases hlt : k < len
    · have k0 : (0 : Int) ≤ k := by omega
      have k1 : (k : Int) < len := by omega
      obtain ⟨x, hx⟩ : ∃ x, L[k]? = some x := ⟨_, List.getElem?_eq_getElem (by rw [HLEN.out]; exact hlt)⟩
      obtain ⟨g, rfl, hg, d0, d1, d2, d3, d4, d5, d6⟩ := HC.out k x hx
      have xd1 := HOK.out x (List.mem_of_getElem? hx)
      obtain ⟨Q, hQ⟩ := HPA.out x (List.mem_of_getElem? hx)
      have hq0 : 0 ≤ Q := by have := xd1.p0; rw [hQ] at this; exact this
      have hI : imgC x.r = ⟨capW Q, 0, 0, 0, 0, 0⟩ := by rw [hQ]; rfl
      have hxp : x.r.p = Q := by rw [hQ]
      rw [hI] at d1 d2 d3 d4 d5 d6
      dsimp only at d1 d2 d3 d4 d5 d6
      have HI := Lib.hid hI
      have HXP := Lib.hid hxp
      have HS := Lib.hid (inLT_succ (b := b) (at_ := at_) hx)
      have e0 := (HB.out.cell (p := ⟨g, k * 7, none⟩) hg).trans d0
      have e1 := (HB.out.cell (p := ⟨g, k * 7 + 1, none⟩) hg).trans d1
      have e2 := (HB.out.cell (p := ⟨g, k * 7 + 1 + 1, none⟩) hg).trans d2
      have e3 := (HB.out.cell (p := ⟨g, k * 7 + 1 + 2, none⟩) hg).trans d3
      have e4 := (HB.out.cell (p := ⟨g, k * 7 + 1 + 3, none⟩) hg).trans d4
      have e5 := (HB.out.cell (p := ⟨g, k * 7 + 1 + 4, none⟩) hg).trans d5
      have e6 := (HB.out.cell (p := ⟨g, k * 7 + 1 + 5, none⟩) hg).trans d6
      have hH := HH.out.below HB.out
      have c0 := hH.cells.1
      have HBG := Lib.hid (fun n => w3begin_any (hH.below (below_drewN (Below.refl _ wr) n)) at_ HA.out.1 HA.out.2.1)
      obtain ⟨BG, hBG⟩ : ∃ BG, begB b at_ = BG := ⟨_, rfl⟩
      rw [hBG] at HBG
      have hbg := beg_facts (b := b) (at_ := at_) (by omega) HA.out.1
      rw [hBG] at hbg
      have hbg0 := hbg.1
      have hbg1 : BG ≤ 1152921504606846976 := by have := hbg.2.2.1; have := HA.out.2.1; omega
      have hsub : IntKind.i64.wrap (BG - b * 10) = BG - b * 10 := by have := wrap_i64_ediv (BG - b * 10) 1 (by omega) (by omega) (by omega); rwa [Int.ediv_one] at this
      have HIN := Lib.hid (show inT b at_ x.at_ = decide (BG - b * 10 < x.at_) by unfold inT; rw [hBG])
      clear d0 d1 d2 d3 d4 d5 d6 hH hbg hBG hg hxp hI
      obtain ⟨WW, hWW⟩ : ∃ WW, b * 10 = WW := ⟨_, rfl⟩
      rw [hWW] at c0 hsub HIN
      clear hWW
      have HX := Lib.hid hx
      clear hx
      have hxl := inLT_len b at_ (L.take k)
      have hkk : (inLT b at_ (L.take k)).length ≤ 1152921504608 := by rw [List.length_take] at hxl; omega
      clear hxl
      by_cases hin : BG - WW < x.at_
      · have hdc : decide (BG - WW < x.at_) = true := decide_eq_true hin
        by_cases hz : Q = 0
        · have HIT := Lib.hid (show (inT b at_ x.at_ && decide (x.r.p ≠ 0)) = false by rw [HXP.out, hz]; simp)
          have hcz : capW Q = 0 := by rw [hz]; rfl
          rw [hcz] at e1
          obtain ⟨X, hX⟩ : ∃ X, x.at_ = X := ⟨_, rfl⟩
          rw [hX] at e0 hin hdc
          clear hX hcz hz hQ
          go_wp2_with (fail)
          go_quiet ((go_at_call 87; exact Calls.quiet_of (HBG.out _)))
          go_wp2_with (fail)
          refine ⟨⟨k + 1, by omega, by go_num, ?_, Lib.hid (below_drewN HB.out _)⟩, by first | (simp [intOf]; done) | (simp [intOf]; omega)⟩
          rw [HS.out, HIT.out, if_neg (by simp)]
          exact Lib.hid (rowKept3 HO.out (fun g' e => (below_drewN (Below.refl wr.heap.size wr) _).block g' (HO.out.lt g' e).2))
        · have HIT := Lib.hid (show (inT b at_ x.at_ && decide (x.r.p ≠ 0)) = true by rw [HIN.out, hdc, HXP.out]; simpa using hz)
          obtain ⟨V, hV⟩ : ∃ V, capW Q = V := ⟨_, rfl⟩
          have hvd : (V == 0) = false := by
            rw [← hV]
            unfold capW
            split <;> simp <;> omega
          have HV := Lib.hid hV
          rw [hV] at e1
          obtain ⟨X, hX⟩ : ∃ X, x.at_ = X := ⟨_, rfl⟩
          have HXX := Lib.hid hX
          rw [hX] at e0 hin hdc
          clear hX hV hz hQ
          go_wp2_with (fail)
          go_quiet ((go_at_call 87; exact Calls.quiet_of (HBG.out _)))
          have hO2 := rowKept3 (w' := wr.drewN nq) HO.out (fun g' e => (below_drewN (Below.refl wr.heap.size wr) _).block g' (HO.out.lt g' e).2)
          obtain ⟨g6, cap6, w6, hr6, ho6, hb6, hc6, hc7⟩ := run_append3 hO2 (Nat.le_refl _) (below_drewN HB.out nq) hkk rfl x 146
          rw [show x.cs = [.int .i64 X, .int .i64 V, .int .i64 0, .int .i64 0, .int .i64 0, .int .i64 0, .int .i64 0] by unfold Bk3.cs; rw [HI.out, HXX.out, HV.out]] at hr6
          have HR6 := Lib.hid hr6
          have HO6 := Lib.hid ho6
          have HB6 := Lib.hid hb6
          clear hO2 hr6 ho6 hb6
          go_wp2_with (at_builtin; refine wpList_append_run (by rfl) (.tmp 53) (.tmp 61) 146 146 (by rfl) (by rfl) (by rfl) (by rfl) HR6.out ?_)
          refine ⟨⟨k + 1, by omega, by go_num, ?_, HB6⟩, by first | (simp [intOf]; done) | (simp [intOf]; omega)⟩
          rw [HS.out, HIT.out, if_pos rfl, List.length_append]
          exact HO6
      · have HIT := Lib.hid (show (inT b at_ x.at_ && decide (x.r.p ≠ 0)) = false by rw [HIN.out, decide_eq_false hin]; rfl)
        have hdc : decide (BG - WW < x.at_) = false := decide_eq_false hin
        obtain ⟨X, hX⟩ : ∃ X, x.at_ = X := ⟨_, rfl⟩
        rw [hX] at e0 hin hdc
        clear hX hQ
        go_wp2_with (fail)
        go_quiet ((go_at_call 87; exact Calls.quiet_of (HBG.out _)))
        go_wp2_with (fail)
        refine ⟨⟨k + 1, by omega, by go_num, ?_, Lib.hid (below_drewN HB.out _)⟩, by first | (simp [intOf]; done) | (simp [intOf]; omega)⟩
        rw [HS.out, HIT.out, if_neg (by simp)]
        exact Lib.hid (rowKept3 HO.out (fun g' e => (below_drewN (Below.refl wr.heap.size wr) _).block g' (HO.out.lt g' e).2))
    · have k1 : ¬ (k : Int) < len := by omega
      have hkk : L.take k = L := List.take_of_length_le (by rw [HLEN.out]; omega)
      rw [hkk] at HO
      clear hkk
      obtain ⟨ao, co, ho, _⟩ := row3_form HO.out rfl
      subst ho
      go_wp2_with (fail)
      go_ret2
      exact ⟨ao, co, rfl, HO.out, HB.out⟩
end Go.Proofs.YtemlafbkkaloiaaGreat
namespace Go.Proofs.YtemlafbkkaloiaaGreat
open Go.RowKit
set_option maxHeartbeats 6400000 in
set_option maxRecDepth 100000 in
theorem w3sum_any {w : World} {p : Nat} {b last : Int} {v : Value} {notes : List NoteW} {L : List Bk3} (h : W3At w p b last v notes L) (at_ : Int) (hE : lookW last at_ = 0) (hfw : L.length ≤ 1152921504607) :
    Calls Tryz.prog 82 #[.pointer (some ⟨p, 0, none⟩), .int .i64 at_] w fun e w' => e = .returned (.tuple #[ctV (winC b 10 at_ notes), .int .i64 0]) ∧ Below w.heap.size w w' := by
  obtain ⟨N, hN⟩ : ∃ N, w.heap.size = N := ⟨_, rfl⟩
  have HN := Lib.hid hN
  have hB : Below w.heap.size w (w.alloc (.cells #[.int .i64 0, .int .i64 0, .int .i64 0, .int .i64 0, .int .i64 0, .int .i64 0] 92)) := (Below.refl _ _).alloc (Nat.le_refl _) _
  have HBK := Lib.hid (w3buckets_any (h.below hB) at_ hE hfw)
  have HNW := Lib.hid (show (w.alloc (.cells #[.int .i64 0, .int .i64 0, .int .i64 0, .int .i64 0, .int .i64 0, .int .i64 0] 92)).heap[w.heap.size]? = some (ctO .zero 92) from (get_allocW w _ w.heap.size).trans (if_pos rfl))
  have HB := Lib.hid hB
  obtain ⟨a0, a1, a2⟩ := lookW_ok hE
  have htell := h.inv.tells (by have := h.b0; omega) a0 h.pos
  have HT := Lib.hid (show joinC .zero ((inLT b at_ L).map (fun k => imgC k.r)) = winC b 10 at_ notes from htell)
  have HOK := Lib.hid (show ∀ k, k ∈ inLT b at_ L → RawOk k.r from fun k hk => h.inv.ok k (List.mem_filter.1 hk |>.1))
  have hfew : (inLT b at_ L).length ≤ 1152921504608 := Nat.le_trans (inLT_len _ _ _) (show L.length ≤ 1152921504608 by omega)
  clear h hE hB htell a0 a1 a2 hfw
  generalize inLT b at_ L = M at *
  obtain ⟨len, hlen⟩ : ∃ len, M.length = len := ⟨_, rfl⟩
  have HLEN := Lib.hid hlen
  rw [hlen] at HBK hfew
  clear hlen
  go_enter Tryz.func82, Tryz.ntmps82
  go_wp2_with (fail)
  obtain ⟨w0, hw0⟩ : ∃ w0, (w.alloc (.cells #[.int .i64 0, .int .i64 0, .int .i64 0, .int .i64 0, .int .i64 0, .int .i64 0] 92)) = w0 := ⟨_, rfl⟩
  rw [hw0] at HBK HNW HB ⊢
  rw [hN] at HNW
  clear hw0 hN
  refine HBK.out.mono ?_
  rintro e w1 ⟨a, cap, rfl, hrow, hb1⟩
  have HROW := Lib.hid (rowKept3 (w' := w1.alloc (ctO .zero 92)) hrow (fun g' e => (get_allocW w1 _ g').trans (if_neg (by have := (hrow.lt g' e).2; omega))))
  obtain ⟨N2, hN2⟩ : ∃ N2, w1.heap.size = N2 := ⟨_, rfl⟩
  have HGL := Lib.hid (show ∀ g', (Value.slice a len cap).ownBlock = some g' → g' < N2 from fun g' e => by have := (hrow.lt g' e).2; omega)
  have hN1 : N < N2 := by have h1 := (Array.getElem?_eq_some_iff.1 HNW.out).1; have h2 := hb1.size; omega
  have HN1 := Lib.hid hN1
  have HB2 := Lib.hid (show Below w.heap.size w (w1.alloc (ctO .zero 92)) from (HB.out.trans (hb1.mono HB.out.size)).alloc (by have := HB.out.size; have := hb1.size; omega) _)
  have HA2 := Lib.hid (show (w1.alloc (ctO .zero 92)).heap[N]? = some (ctO .zero 92) by rw [get_allocW, if_neg (by omega)]; exact (hb1.block N (Array.getElem?_eq_some_iff.1 HNW.out).1).trans HNW.out)
  have HJ2 := Lib.hid (show (w1.alloc (ctO .zero 92)).heap[N2]? = some (ctO .zero 92) by rw [get_allocW, if_pos hN2.symm])
  clear hrow hb1 HBK HNW hN1
  go_wp2_with (fail)
  obtain ⟨w2, hw2⟩ : ∃ w2, w1.alloc (ctO .zero 92) = w2 := ⟨_, rfl⟩
  rw [hw2] at HROW HB2 HA2 HJ2
  unfold ctO CntS.zero at hw2
  dsimp only at hw2
  rw [hw2]
  clear hw2 hN2
  obtain ⟨z, cap2, hz, hcells⟩ := row3_form HROW.out HLEN.out
  cases hz
  have HC := Lib.hid hcells
  clear hcells
  go_loopw [9] (fun i wr => ∃ (k : Nat), k ≤ len ∧ i = .int .i64 k ∧ Hid (wr.heap[N]? = some (ctO .zero 92)) ∧ Hid (wr.heap[N2]? = some (ctO (joinC .zero ((M.take k).map (fun k => imgC k.r))) 92)) ∧ Hid (Below w.heap.size w wr) ∧ Hid (Below N2 w2 wr)) (fun i _ => len - (intOf i).toNat)
  case atStart => exact ⟨0, Nat.zero_le _, rfl, HA2, HJ2, HB2, Lib.hid (Below.refl _ _)⟩
  case round =>
    rename World => wy
    obtain ⟨k, hk, rfl, HA, HJ, HB, HBY⟩ := hrel
    by_cases hlt : k < len
    · have k0 : (0 : Int) ≤ k := by omega
      have k1 : (k : Int) < len := by omega
      obtain ⟨x, hx⟩ : ∃ x, M[k]? = some x := ⟨_, List.getElem?_eq_getElem (by rw [HLEN.out]; exact hlt)⟩
      obtain ⟨g, rfl, hg, d0, d1, d2, d3, d4, d5, d6⟩ := HC.out k x hx
      have hgl := HGL.out g rfl
      have hmx : x ∈ M := List.mem_of_getElem? hx
      have d1 := (HBY.out.cell (p := ⟨g, k * 7 + 1, none⟩) hgl).trans d1
      have d2 := (HBY.out.cell (p := ⟨g, k * 7 + 1 + 1, none⟩) hgl).trans d2
      have d3 := (HBY.out.cell (p := ⟨g, k * 7 + 1 + 2, none⟩) hgl).trans d3
      have d4 := (HBY.out.cell (p := ⟨g, k * 7 + 1 + 3, none⟩) hgl).trans d4
      have d5 := (HBY.out.cell (p := ⟨g, k * 7 + 1 + 4, none⟩) hgl).trans d5
      have d6 := (HBY.out.cell (p := ⟨g, k * 7 + 1 + 5, none⟩) hgl).trans d6
      have hxr := imgC_right (HOK.out x hmx)
      have hjr : RightC (joinC .zero ((M.take k).map (fun k => imgC k.r))) := joinC_right rightC_zero (fun y hy => by
        obtain ⟨z, hz, rfl⟩ := List.mem_map.1 hy
        exact imgC_right (HOK.out z (List.mem_of_mem_take hz)))
      have HST := Lib.hid (show joinC .zero ((M.take (k + 1)).map (fun k => imgC k.r)) = twoC (joinC .zero ((M.take k).map (fun k => imgC k.r))) (imgC x.r) by
        have hkl : k < M.length := (List.getElem?_eq_some_iff.1 hx).1
        rw [List.take_succ_eq_append_getElem hkl, List.map_append, List.map_singleton, joinC_snoc, (List.getElem?_eq_some_iff.1 hx).2])
      have HTW := Lib.hid (fun wx => r3two_any _ _ hjr hxr wx)
      generalize joinC .zero ((M.take k).map (fun k => imgC k.r)) = J at *
      generalize imgC x.r = c at *
      have hzy : N2 < wy.heap.size := (Array.getElem?_eq_some_iff.1 HJ.out).1
      have hzn : N < wy.heap.size := (Array.getElem?_eq_some_iff.1 HA.out).1
      have HZY := Lib.hid (And.intro hzy hzn)
      obtain ⟨⟨b0, b1, b2, b3, b4, b5⟩, bf⟩ := ct_cells HJ.out
      clear d0 hx hmx hxr hjr hgl hzy hzn hg
      obtain ⟨cp, cb, cd, ce, cr, cm⟩ := c
      obtain ⟨jp, jb, jd, je, jr, jm⟩ := J
      generalize twoC ⟨jp, jb, jd, je, jr, jm⟩ ⟨cp, cb, cd, ce, cr, cm⟩ = T at *
      obtain ⟨tp, tb, td, te, tr, tm⟩ := T
      unfold ctV at HTW
      dsimp only at *
      go_wp2_with (fail)
      go_region_with (go_at_call 88; refine (HTW.out _).mono ?_; rintro e w2 ⟨rfl, h2⟩; have HJ2 := Lib.hid ((h2.block N2 HZY.out.1).trans HJ.out); have HH2 := Lib.hid (show Below wy.heap.size wy w2 from ((Below.refl _ wy).drew).trans h2); obtain ⟨⟨c0, c1, c2, c3, c4, c5⟩, cf⟩ := ct_cells HJ2.out; dsimp only at c0 c1 c2 c3 c4 c5; clear h2)
      all_goals
        go_wp2_with (fail)
        refine ⟨⟨k + 1, by omega, by go_num, ?_, ?_, ?_, ?_⟩, by first | (simp [intOf]; done) | (simp [intOf]; omega)⟩
        · exact Lib.hid ((sixC_other (by have := HN1.out; omega) tp tb td te tr tm).trans ((HH2.out.block N HZY.out.2).trans HA.out))
        · rw [HST.out]
          exact Lib.hid (sixC_same HJ2.out tp tb td te tr tm)
        · exact Lib.hid (sixC_below (HB.out.trans (HH2.out.mono HB.out.size)) (by have := HN1.out; have := HN.out; omega) tp tb td te tr tm)
        · exact Lib.hid (sixC_below (HBY.out.trans (HH2.out.mono (by have := HZY.out.1; omega))) (Nat.le_refl _) tp tb td te tr tm)
    · have k1 : ¬ (k : Int) < len := by omega
      have e1 : M.take k = M := List.take_of_length_le (by rw [HLEN.out]; omega)
      rw [e1, HT.out] at HJ
      clear e1
      obtain ⟨J, hJJ⟩ : ∃ J, winC b 10 at_ notes = J := ⟨_, rfl⟩
      have HJJ := Lib.hid hJJ
      rw [hJJ] at HJ
      clear hJJ
      obtain ⟨jp, jb, jd, je, jr, jm⟩ := J
      obtain ⟨⟨b0, b1, b2, b3, b4, b5⟩, bf⟩ := ct_cells HJ.out
      obtain ⟨⟨c0, c1, c2, c3, c4, c5⟩, cf⟩ := ct_cells HA.out
      dsimp only [CntS.zero] at b0 b1 b2 b3 b4 b5 c0 c1 c2 c3 c4 c5
      go_wp2_with (fail)
      refine bodyPost_ret (results_cell_tmp (P := Tryz.prog) rfl _ _ N 92 #[.int .i64 jp, .int .i64 jb, .int .i64 jd, .int .i64 je, .int .i64 jr, .int .i64 jm] (0, 0) _ (.int .i64 0) (by rfl) (by rfl) ?hh Tryz.underlying92 rfl (by kernel_rfl)) rfl ?_
      case hh => exact sixC_same HA.out jp jb jd je jr jm
      exact ⟨by rw [HJJ.out]; rfl, sixC_below HB.out (by rw [HN.out]; omega) jp jb jd je jr jm⟩
end Go.Proofs.YtemlafbkkaloiaaGreat
