/- Plain integers for the layer window: what happened, summed up, of notes by their buckets. No program here. -/
import Derived.Test.YtemlafbkkaloiaaGreatGGMap
namespace Go.Proofs.YtemlafbkkaloiaaGreat
set_option linter.unusedVariables false

/-- What happened in a time. -/
structure CntS where
  p : Int
  b : Int
  d : Int
  e : Int
  r : Int
  m : Int
def CntS.zero : CntS := ⟨0, 0, 0, 0, 0, 0⟩
theorem CntS.ext' {a b : CntS} (h1 : a.p = b.p) (h2 : a.b = b.b) (h3 : a.d = b.d) (h4 : a.e = b.e) (h5 : a.r = b.r) (h6 : a.m = b.m) : a = b := by
  cases a; cases b; simp at *; exact ⟨h1, h2, h3, h4, h5, h6⟩

def capW (x : Int) : Int := if 4611686018427387904 < x then 4611686018427387904 else x
def plusW (a b : Int) : Int := (if a < 4611686018427387904 - b then a else 4611686018427387904 - b) + b
theorem capW_le (x : Int) : capW x ≤ 4611686018427387904 := by unfold capW; split <;> omega
theorem capW_nonneg {x : Int} (h : 0 ≤ x) : 0 ≤ capW x := by unfold capW; split <;> omega
theorem capW_zero : capW 0 = 0 := by unfold capW; rw [if_neg (by omega)]
theorem capW_eq0 {x : Int} (h : 0 ≤ x) : capW x = 0 ↔ x = 0 := by unfold capW; split <;> omega
theorem capW_small {x : Int} (h : x ≤ 4611686018427387904) : capW x = x := by unfold capW; rw [if_neg (by omega)]
theorem capW_mono {x y : Int} (h : x ≤ y) : capW x ≤ capW y := by unfold capW; split <;> split <;> omega
theorem plusW_cap {a b : Int} (ha : 0 ≤ a) (hb : 0 ≤ b) : plusW (capW a) (capW b) = capW (a + b) := by
  unfold plusW capW; split <;> split <;> (try split) <;> (try split) <;> omega

/-- Is it right? -/
structure RightC (c : CntS) : Prop where
  p0 : 0 ≤ c.p
  p1 : c.p ≤ 4611686018427387904
  b0 : 0 ≤ c.b
  b1 : c.b ≤ 4611686018427387904
  d0 : 0 ≤ c.d
  d1 : c.d ≤ 4611686018427387904
  e0 : 0 ≤ c.e
  e1 : c.e ≤ 4611686018427387904
  r0 : 0 ≤ c.r
  r1 : c.r ≤ 4611686018427387904
  m0 : 0 ≤ c.m
  m1 : c.m ≤ 4611686018427387904
  ed : c.e ≤ c.d
  mr : c.m ≤ c.r
  dr : 0 < c.d ∨ c.r = 0
theorem rightC_zero : RightC CntS.zero := by constructor <;> simp [CntS.zero]

/-- Two together. -/
def twoC (x y : CntS) : CntS := ⟨plusW x.p y.p, plusW x.b y.b, plusW x.d y.d, plusW x.e y.e, plusW x.r y.r, if x.d = 0 then y.m else if y.d = 0 then x.m else if x.m < y.m then x.m else y.m⟩

/-- The sums themselves, and the least time, if there is one. -/
structure RawC where
  p : Int
  b : Int
  d : Int
  e : Int
  r : Int
  m : Option Int
def omin : Option Int → Option Int → Option Int
  | none, y => y
  | x, none => x
  | some x, some y => some (if x < y then x else y)
theorem omin_none (x : Option Int) : omin x none = x := by cases x <;> rfl
theorem omin_comm (x y : Option Int) : omin x y = omin y x := by
  cases x <;> cases y <;> simp [omin]
  split <;> split <;> omega
theorem omin_assoc (x y z : Option Int) : omin (omin x y) z = omin x (omin y z) := by
  cases x <;> cases y <;> cases z <;> simp [omin]
  split <;> split <;> (try split) <;> (try split) <;> omega
theorem omin_eq_none {x y : Option Int} : omin x y = none ↔ x = none ∧ y = none := by cases x <;> cases y <;> simp [omin]

def RawC.zero : RawC := ⟨0, 0, 0, 0, 0, none⟩
def RawC.add (x y : RawC) : RawC := ⟨x.p + y.p, x.b + y.b, x.d + y.d, x.e + y.e, x.r + y.r, omin x.m y.m⟩
theorem RawC.add_zero (x : RawC) : x.add .zero = x := by cases x; simp [RawC.add, RawC.zero, omin_none]
theorem RawC.zero_add (x : RawC) : RawC.zero.add x = x := by cases x; simp [RawC.add, RawC.zero, omin]
theorem RawC.add_assoc (x y z : RawC) : (x.add y).add z = x.add (y.add z) := by
  simp only [RawC.add, omin_assoc, RawC.mk.injEq]
  refine ⟨by omega, by omega, by omega, by omega, by omega, trivial⟩
theorem RawC.add_comm (x y : RawC) : x.add y = y.add x := by
  simp only [RawC.add, omin_comm x.m y.m, RawC.mk.injEq]
  refine ⟨by omega, by omega, by omega, by omega, by omega, trivial⟩
theorem RawC.add_left_comm (x y z : RawC) : x.add (y.add z) = y.add (x.add z) := by
  rw [← RawC.add_assoc, RawC.add_comm x y, RawC.add_assoc]

structure RawOk (x : RawC) : Prop where
  p0 : 0 ≤ x.p
  b0 : 0 ≤ x.b
  d0 : 0 ≤ x.d
  e0 : 0 ≤ x.e
  r0 : 0 ≤ x.r
  ed : x.e ≤ x.d
  dm : x.d = 0 ↔ x.m = none
  dr : x.d = 0 → x.r = 0
  m0 : ∀ n, x.m = some n → 0 ≤ n ∧ n ≤ 4611686018427387904 ∧ n ≤ x.r
theorem rawOk_zero : RawOk .zero := by constructor <;> simp [RawC.zero]
theorem RawOk.add {x y : RawC} (h : RawOk x) (k : RawOk y) : RawOk (x.add y) := by
  obtain ⟨a1, a2, a3, a4, a5, a6, a7, a8, a9⟩ := h
  obtain ⟨b1, b2, b3, b4, b5, b6, b7, b8, b9⟩ := k
  refine ⟨?_, ?_, ?_, ?_, ?_, ?_, ?_, ?_, ?_⟩
  · show 0 ≤ x.p + y.p; omega
  · show 0 ≤ x.b + y.b; omega
  · show 0 ≤ x.d + y.d; omega
  · show 0 ≤ x.e + y.e; omega
  · show 0 ≤ x.r + y.r; omega
  · show x.e + y.e ≤ x.d + y.d; omega
  · show x.d + y.d = 0 ↔ omin x.m y.m = none
    rw [omin_eq_none, ← a7, ← b7]; omega
  · show x.d + y.d = 0 → x.r + y.r = 0
    intro h
    have := a8 (by omega); have := b8 (by omega); omega
  · intro n hn
    have hn : omin x.m y.m = some n := hn
    show 0 ≤ n ∧ n ≤ 4611686018427387904 ∧ n ≤ x.r + y.r
    cases hx : x.m with
    | none =>
      rw [hx] at hn
      have := b9 n hn
      omega
    | some u =>
      have hu := a9 u hx
      cases hy : y.m with
      | none =>
        rw [hx, hy] at hn
        simp [omin] at hn
        omega
      | some v =>
        have hv := b9 v hy
        rw [hx, hy] at hn
        simp [omin] at hn
        split at hn <;> omega

def rawOf (c : CntS) : RawC := ⟨c.p, c.b, c.d, c.e, c.r, if c.d = 0 then none else some c.m⟩
theorem rawOf_zero : rawOf .zero = .zero := rfl
theorem rawOk_of {c : CntS} (h : RightC c) : RawOk (rawOf c) := by
  obtain ⟨a1, a2, a3, a4, a5, a6, a7, a8, a9, a10, a11, a12, a13, a14, a15⟩ := h
  refine ⟨a1, a3, a5, a7, a9, a13, ?_, ?_, ?_⟩
  · show c.d = 0 ↔ (if c.d = 0 then none else some c.m) = none
    by_cases h : c.d = 0 <;> simp [h]
  · show c.d = 0 → c.r = 0
    intro h; omega
  · intro n hn
    have hn : (if c.d = 0 then none else some c.m) = some n := hn
    show 0 ≤ n ∧ n ≤ 4611686018427387904 ∧ n ≤ c.r
    split at hn
    · cases hn
    · cases hn; omega

def imgC (x : RawC) : CntS := ⟨capW x.p, capW x.b, capW x.d, capW x.e, capW x.r, x.m.getD 0⟩
theorem imgC_raw {c : CntS} (h : RightC c) : imgC (rawOf c) = c := by
  obtain ⟨a1, a2, a3, a4, a5, a6, a7, a8, a9, a10, a11, a12, a13, a14, a15⟩ := h
  refine CntS.ext' (capW_small a2) (capW_small a4) (capW_small a6) (capW_small a8) (capW_small a10) ?_
  show (if c.d = 0 then none else some c.m).getD 0 = c.m
  by_cases h : c.d = 0
  · rw [if_pos h]; show 0 = c.m; omega
  · rw [if_neg h]; rfl
theorem imgC_zero : imgC .zero = .zero := by simp [imgC, RawC.zero, CntS.zero, capW_zero]
theorem imgC_right {x : RawC} (h : RawOk x) : RightC (imgC x) := by
  obtain ⟨a1, a2, a3, a4, a5, a6, a7, a8, a9⟩ := h
  have hm : 0 ≤ x.m.getD 0 ∧ x.m.getD 0 ≤ 4611686018427387904 ∧ x.m.getD 0 ≤ x.r := by
    cases hx : x.m with
    | none => simp; exact a5
    | some u => exact a9 u hx
  refine ⟨capW_nonneg a1, capW_le _, capW_nonneg a2, capW_le _, capW_nonneg a3, capW_le _, capW_nonneg a4, capW_le _, capW_nonneg a5, capW_le _, hm.1, hm.2.1, capW_mono a6, ?_, ?_⟩
  · show x.m.getD 0 ≤ capW x.r
    unfold capW; split <;> omega
  · show 0 < capW x.d ∨ capW x.r = 0
    by_cases h : x.d = 0
    · right; rw [a8 h]; exact capW_zero
    · left; unfold capW; split <;> omega
theorem twoC_img {x y : RawC} (h : RawOk x) (k : RawOk y) : twoC (imgC x) (imgC y) = imgC (x.add y) := by
  refine CntS.ext' (plusW_cap h.p0 k.p0) (plusW_cap h.b0 k.b0) (plusW_cap h.d0 k.d0) (plusW_cap h.e0 k.e0) (plusW_cap h.r0 k.r0) ?_
  show (if capW x.d = 0 then y.m.getD 0 else if capW y.d = 0 then x.m.getD 0 else if x.m.getD 0 < y.m.getD 0 then x.m.getD 0 else y.m.getD 0) = (omin x.m y.m).getD 0
  have q1 := capW_eq0 h.d0
  have q2 := capW_eq0 k.d0
  have hx := h.dm
  have hy := k.dm
  by_cases e1 : x.d = 0
  · rw [if_pos (q1.2 e1), hx.1 e1]; rfl
  · rw [if_neg (fun e => e1 (q1.1 e))]
    by_cases e2 : y.d = 0
    · rw [if_pos (q2.2 e2), hy.1 e2, omin_none]
    · rw [if_neg (fun e => e2 (q2.1 e))]
      cases hxm : x.m with
      | none => exact absurd (hx.2 hxm) e1
      | some u =>
        cases hym : y.m with
        | none => exact absurd (hy.2 hym) e2
        | some v => simp [omin]
theorem imgC_eq_zero {x : RawC} (h : RawOk x) : imgC x = .zero ↔ x = .zero := by
  constructor
  · intro e
    have e1 := congrArg CntS.p e
    have e2 := congrArg CntS.b e
    have e3 := congrArg CntS.d e
    have e4 := congrArg CntS.e e
    have e5 := congrArg CntS.r e
    have z1 := (capW_eq0 h.p0).1 e1
    have z2 := (capW_eq0 h.b0).1 e2
    have z3 := (capW_eq0 h.d0).1 e3
    have z4 := (capW_eq0 h.e0).1 e4
    have z5 := (capW_eq0 h.r0).1 e5
    have z6 := h.dm.1 z3
    cases x
    simp only at z1 z2 z3 z4 z5 z6
    subst z1 z2 z3 z4 z5 z6
    rfl
  · rintro rfl; exact imgC_zero
theorem RawC.zero_of_add {x y : RawC} (h : RawOk x) (k : RawOk y) (e : x.add y = .zero) : x = .zero ∧ y = .zero := by
  have e1 : x.p + y.p = 0 := congrArg RawC.p e
  have e2 : x.b + y.b = 0 := congrArg RawC.b e
  have e3 : x.d + y.d = 0 := congrArg RawC.d e
  have e4 : x.e + y.e = 0 := congrArg RawC.e e
  have e5 : x.r + y.r = 0 := congrArg RawC.r e
  have := h.p0; have := h.b0; have := h.d0; have := h.e0; have := h.r0
  have := k.p0; have := k.b0; have := k.d0; have := k.e0; have := k.r0
  have m1 := h.dm.1 (by omega)
  have m2 := k.dm.1 (by omega)
  constructor
  · cases x
    simp only at *
    subst m1
    simp only [RawC.zero, RawC.mk.injEq]
    refine ⟨by omega, by omega, by omega, by omega, by omega, trivial⟩
  · cases y
    simp only at *
    subst m2
    simp only [RawC.zero, RawC.mk.injEq]
    refine ⟨by omega, by omega, by omega, by omega, by omega, trivial⟩

/-- What happened at a time. -/
structure NoteW where
  at_ : Int
  c : CntS
def sumW (p : NoteW → Bool) : List NoteW → RawC
  | [] => .zero
  | x :: l => (if p x then rawOf x.c else .zero).add (sumW p l)
def RightL (l : List NoteW) : Prop := ∀ x, x ∈ l → RightC x.c
theorem RightL.tail {x : NoteW} {l : List NoteW} (h : RightL (x :: l)) : RightL l := fun y hy => h y (by simp [hy])
theorem sumW_ok {p : NoteW → Bool} : ∀ {l : List NoteW}, RightL l → RawOk (sumW p l)
  | [], _ => rawOk_zero
  | x :: l, h => by
    rw [sumW]
    refine RawOk.add ?_ (sumW_ok h.tail)
    split
    · exact rawOk_of (h x (by simp))
    · exact rawOk_zero
theorem sumW_append (p : NoteW → Bool) : ∀ l l' : List NoteW, sumW p (l ++ l') = (sumW p l).add (sumW p l')
  | [], l' => by rw [List.nil_append, sumW, RawC.zero_add]
  | x :: l, l' => by rw [List.cons_append, sumW, sumW, sumW_append p l l', RawC.add_assoc]
theorem sumW_congr {p q : NoteW → Bool} : ∀ {l : List NoteW}, (∀ x, x ∈ l → p x = q x) → sumW p l = sumW q l
  | [], _ => rfl
  | x :: l, h => by rw [sumW, sumW, h x (by simp), sumW_congr (fun y hy => h y (by simp [hy]))]
theorem sumW_none {p : NoteW → Bool} {l : List NoteW} (h : ∀ x, x ∈ l → p x = false) : sumW p l = .zero := by
  rw [sumW_congr h]
  induction l with
  | nil => rfl
  | cons x l ih => rw [sumW, ih (fun y hy => h y (by simp [hy])), if_neg (by simp), RawC.add_zero]
theorem sumW_split {p q r : NoteW → Bool} : ∀ {l : List NoteW}, (∀ x, x ∈ l → r x = (p x || q x) ∧ (p x && q x) = false) → sumW r l = (sumW p l).add (sumW q l)
  | [], _ => rfl
  | x :: l, h => by
    rw [sumW, sumW, sumW, sumW_split (fun y hy => h y (by simp [hy]))]
    obtain ⟨h1, h2⟩ := h x (by simp)
    rw [h1]
    cases hp : p x <;> cases hq : q x <;> simp [hp, hq] at h2 ⊢
    · rw [RawC.zero_add, RawC.zero_add, RawC.zero_add]
    · rw [RawC.zero_add, RawC.add_left_comm]
    · rw [RawC.zero_add, RawC.add_assoc]

/-- What is so of a window: its buckets, by their numbers, against all that was noted. -/
structure InvW (b B : Int) (last : Int) (notes : List NoteW) (f : Int → Option CntS) : Prop where
  b1 : 0 < b
  B1 : 1 ≤ B
  l0 : 0 ≤ last
  right : RightL notes
  nn : ∀ x, x ∈ notes → 0 ≤ x.at_ ∧ x.at_ ≤ last
  there : ∀ g c, f g = some c → last / b - B < g ∧ 0 ≤ g ∧ g ≤ last / b ∧ c = imgC (sumW (fun x => decide (x.at_ / b = g)) notes)
  none : ∀ g, last / b - B < g → f g = none → sumW (fun x => decide (x.at_ / b = g)) notes = .zero

variable {b B last : Int} {notes : List NoteW} {f : Int → Option CntS}
theorem InvW.empty {b B : Int} (h1 : 0 < b) (h2 : 1 ≤ B) : InvW b B 0 [] (fun _ => Option.none) :=
  ⟨h1, h2, Int.le_refl _, by intro x hx; simp at hx, by simp, by simp, fun _ _ _ => rfl⟩
theorem InvW.at (h : InvW b B last notes f) {g : Int} (hg : last / b - B < g) : (f g).getD .zero = imgC (sumW (fun x => decide (x.at_ / b = g)) notes) := by
  cases hf : f g with
  | none => rw [h.none g hg hf, imgC_zero]; rfl
  | some c => exact (h.there g c hf).2.2.2

def joinC (s : CntS) (l : List CntS) : CntS := l.foldl twoC s
theorem joinC_img : ∀ {l : List CntS} {A : RawC}, RawOk A → (∀ c, c ∈ l → RightC c) → joinC (imgC A) l = imgC (A.add (sumW (fun _ => true) (l.map (fun c => ⟨0, c⟩))))
  | [], A, _, _ => by simp [joinC, sumW, RawC.add_zero]
  | c :: l, A, hA, h => by
    have hc := h c (by simp)
    show joinC (twoC (imgC A) c) l = _
    have e1 : twoC (imgC A) c = imgC (A.add (rawOf c)) := by
      have := twoC_img hA (rawOk_of hc)
      rwa [imgC_raw hc] at this
    rw [e1, joinC_img (hA.add (rawOk_of hc)) (fun x hx => h x (by simp [hx]))]
    simp only [List.map_cons, sumW, if_true, RawC.add_assoc]
def newW (at_ : Int) (l : List CntS) : List NoteW := l.map (fun c => ⟨at_, c⟩)
theorem sumW_new (p : NoteW → Bool) (at_ : Int) (q : Bool) (hq : ∀ c, p ⟨at_, c⟩ = q) : ∀ l : List CntS, sumW p (newW at_ l) = if q then sumW (fun _ => true) (l.map (fun c => ⟨0, c⟩)) else .zero
  | [] => by simp [newW, sumW]
  | c :: l => by
    show (if p ⟨at_, c⟩ then rawOf c else .zero).add (sumW p (newW at_ l)) = _
    rw [sumW_new p at_ q hq l, hq c]
    cases q
    · simp [RawC.zero_add]
    · simp [sumW]

/-- Nothing happened. -/
def zeroB (c : CntS) : Bool := decide (c.p = 0) && (decide (c.b = 0) && (decide (c.d = 0) && (decide (c.e = 0) && (decide (c.r = 0) && decide (c.m = 0)))))
theorem zeroB_iff {c : CntS} : zeroB c = true ↔ c = .zero := by
  cases c
  simp [zeroB, CntS.zero]
/-- The buckets behind what was noted at a time. -/
def addW (b B at_ : Int) (l : List CntS) (f : Int → Option CntS) : Int → Option CntS := fun g =>
  if g ≤ at_ / b - B then Option.none else if g = at_ / b then (if zeroB (joinC ((f g).getD .zero) l) then f g else some (joinC ((f g).getD .zero) l)) else f g
theorem InvW.add (h : InvW b B last notes f) {at_ : Int} (hat : last ≤ at_) {l : List CntS} (hl : ∀ c, c ∈ l → RightC c) : InvW b B at_ (notes ++ newW at_ l) (addW b B at_ l f) := by
  have hb := h.b1
  have hB := h.B1
  have hm : last / b ≤ at_ / b := Int.ediv_le_ediv hb hat
  have hk0 : 0 ≤ at_ / b := Int.ediv_nonneg (by have := h.l0; omega) (by omega)
  have hr : RightL (notes ++ newW at_ l) := fun x hx => by
    rcases List.mem_append.1 hx with hx | hx
    · exact h.right x hx
    · obtain ⟨c, hc, rfl⟩ := List.mem_map.1 hx
      exact hl c hc
  have hother : ∀ g, g ≠ at_ / b → sumW (fun x => decide (x.at_ / b = g)) (notes ++ newW at_ l) = sumW (fun x => decide (x.at_ / b = g)) notes := fun g hg => by
    rw [sumW_append, sumW_new _ at_ false (fun c => by simp; exact fun e => hg e.symm), if_neg (by simp), RawC.add_zero]
  have hsame : imgC (sumW (fun x => decide (x.at_ / b = at_ / b)) (notes ++ newW at_ l)) = joinC ((f (at_ / b)).getD .zero) l := by
    rw [sumW_append, sumW_new _ at_ true (fun c => by simp), if_pos rfl, h.at (by omega), joinC_img (sumW_ok h.right) hl]
  refine ⟨hb, hB, by have := h.l0; omega, hr, ?_, ?_, ?_⟩
  · intro x hx
    rcases List.mem_append.1 hx with hx | hx
    · have := h.nn x hx; omega
    · obtain ⟨c, hc, rfl⟩ := List.mem_map.1 hx
      exact ⟨by show 0 ≤ at_; have := h.l0; omega, Int.le_refl _⟩
  · intro g c hg
    unfold addW at hg
    by_cases h1 : g ≤ at_ / b - B
    · rw [if_pos h1] at hg; cases hg
    · rw [if_neg h1] at hg
      by_cases h2 : g = at_ / b
      · subst h2
        rw [if_pos rfl] at hg
        refine ⟨by omega, hk0, by omega, ?_⟩
        cases hz : zeroB (joinC ((f (at_ / b)).getD .zero) l)
        · rw [hz, if_neg (by simp)] at hg
          rw [hsame]; cases hg; rfl
        · rw [hz, if_pos rfl] at hg
          have hz := zeroB_iff.1 hz
          obtain ⟨_, _, _, e⟩ := h.there _ _ hg
          have hzz := hsame
          rw [hz, imgC_eq_zero (sumW_ok hr), sumW_append] at hzz
          have := (RawC.zero_of_add (sumW_ok h.right) (sumW_ok (fun x hx => hr x (by simp [hx]))) hzz).1
          rw [hsame, hz, e, this, imgC_zero]
      · rw [if_neg h2] at hg
        obtain ⟨a1, a2, a3, a4⟩ := h.there g c hg
        exact ⟨by omega, a2, by omega, by rw [hother g h2]; exact a4⟩
  · intro g hg hf
    unfold addW at hf
    rw [if_neg (by omega)] at hf
    by_cases h2 : g = at_ / b
    · subst h2
      rw [if_pos rfl] at hf
      cases hz : zeroB (joinC ((f (at_ / b)).getD .zero) l)
      · rw [hz, if_neg (by simp)] at hf; cases hf
      · have hz := zeroB_iff.1 hz
        rw [hz] at hsame
        exact (imgC_eq_zero (sumW_ok hr)).1 hsame
    · rw [if_neg h2] at hf
      rw [hother g h2]
      exact h.none g (by omega) hf

/-- The sum of n buckets, from lo. -/
def runW (f : Int → Option CntS) : Nat → Int → CntS → CntS
  | 0, _, s => s
  | n + 1, lo, s => runW f n (lo + 1) (match f lo with | some c => twoC s c | Option.none => s)
theorem runW_img (h : InvW b B last notes f) : ∀ {n : Nat} {lo : Int} {A : RawC}, RawOk A → last / b - B < lo → runW f n lo (imgC A) = imgC (A.add (sumW (fun x => decide (lo ≤ x.at_ / b) && decide (x.at_ / b < lo + n)) notes))
  | 0, lo, A, _, _ => by
    rw [runW, sumW_none (fun x _ => by
      rw [Bool.and_eq_false_iff, decide_eq_false_iff_not, decide_eq_false_iff_not]; omega), RawC.add_zero]
  | n + 1, lo, A, hA, hlo => by
    have e : (match f lo with | some c => twoC (imgC A) c | Option.none => imgC A) = imgC (A.add (sumW (fun x => decide (x.at_ / b = lo)) notes)) := by
      cases hf : f lo with
      | none => rw [h.none lo hlo hf, RawC.add_zero]
      | some c =>
        obtain ⟨_, _, _, e⟩ := h.there lo c hf
        show twoC (imgC A) c = _
        rw [e, twoC_img hA (sumW_ok h.right)]
    rw [runW, e, runW_img h (hA.add (sumW_ok h.right)) (by omega), RawC.add_assoc]
    congr 2
    refine (sumW_split (fun x hx => ?_)).symm
    by_cases h1 : x.at_ / b = lo
    · have h2 : ¬ lo + 1 ≤ x.at_ / b := by omega
      simp [h1]; omega
    · have h2 : (lo ≤ x.at_ / b) = (lo + 1 ≤ x.at_ / b) := propext ⟨fun h => by omega, fun h => by omega⟩
      have h3 : (x.at_ / b < lo + ((n + 1 : Nat) : Int)) = (x.at_ / b < lo + 1 + (n : Int)) := propext ⟨fun h => by omega, fun h => by omega⟩
      simp only [h2, h3, decide_eq_false h1, Bool.false_or, Bool.false_and, and_self]

/-- What happened in the window at a time. -/
def winC (b B at_ : Int) (notes : List NoteW) : CntS := imgC (sumW (fun x => decide (at_ / b - B < x.at_ / b)) notes)
/-- Where the window's buckets begin. -/
def lowW (k B : Int) : Int := if k - B + 1 < 0 then 0 else k - B + 1
theorem InvW.sum (h : InvW b B last notes f) {at_ : Int} (hat : last ≤ at_) {n : Nat} (hn : lowW (at_ / b) B + n = at_ / b + 1) : runW f n (lowW (at_ / b) B) .zero = winC b B at_ notes := by
  have hb := h.b1
  have hm : last / b ≤ at_ / b := Int.ediv_le_ediv hb hat
  by_cases hneg : at_ / b - B + 1 < 0
  · have hlo : lowW (at_ / b) B = 0 := by unfold lowW; rw [if_pos hneg]
    have hl0 : 0 ≤ last / b := Int.ediv_nonneg h.l0 (by omega)
    rw [hlo] at hn ⊢
    rw [← imgC_zero]
    by_cases hz : last / b - B < 0
    · rw [runW_img h rawOk_zero hz, RawC.zero_add, winC]
      congr 1
      refine sumW_congr (fun x hx => ?_)
      have h0 : 0 ≤ x.at_ / b := Int.ediv_nonneg (h.nn x hx).1 (by omega)
      have h1 : x.at_ / b ≤ last / b := Int.ediv_le_ediv hb (h.nn x hx).2
      rw [decide_eq_true (show 0 ≤ x.at_ / b from h0), decide_eq_true (show x.at_ / b < 0 + (n : Int) by omega), decide_eq_true (show at_ / b - B < x.at_ / b by omega)]
      rfl
    · omega
  · have hlo : lowW (at_ / b) B = at_ / b - B + 1 := by unfold lowW; rw [if_neg hneg]
    rw [hlo] at hn ⊢
    rw [← imgC_zero, runW_img h rawOk_zero (by omega), RawC.zero_add, winC]
    congr 1
    refine sumW_congr (fun x hx => ?_)
    have h1 : x.at_ / b ≤ last / b := Int.ediv_le_ediv hb (h.nn x hx).2
    have h2 : (at_ / b - B + 1 ≤ x.at_ / b) = (at_ / b - B < x.at_ / b) := propext ⟨fun h => by omega, fun h => by omega⟩
    rw [decide_eq_true (show x.at_ / b < at_ / b - B + 1 + (n : Int) by omega), Bool.and_true]
    simp only [h2]
theorem winC_right (h : RightL notes) (at_ : Int) : RightC (winC b B at_ notes) := imgC_right (sumW_ok h)
end Go.Proofs.YtemlafbkkaloiaaGreat
