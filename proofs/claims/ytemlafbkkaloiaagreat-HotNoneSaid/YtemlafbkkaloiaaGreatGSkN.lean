/- Texts of one chain, one behind the other: SkN, HtK. -/
import Derived.Test.YtemlafbkkaloiaaGreatGSkF
import Derived.Test.YtemlafbkkaloiaaGreatGLay2

/- sketch: what was added of a key, and its estimate (plain); the reference's Plus. -/
namespace Go.Proofs.YtemlafbkkaloiaaGreat
open Go.RowKit
set_option linter.unusedVariables false
set_option linter.unusedSimpArgs false

set_option maxHeartbeats 800000 in
theorem rplusS_any (a b : Int) (a0 : 0 ≤ a) (a1 : a ≤ 4611686018427387904) (b0 : 0 ≤ b) (b1 : b ≤ 4611686018427387904) (w : World) :
    Calls Tryz.prog 108 #[.int .i64 a, .int .i64 b] w fun e w' => e = .returned (.int .i64 (plusS a b)) ∧ w' = w := by
  by_cases h : 4611686018427387904 - a < b
  · go_enter Tryz.func108, Tryz.ntmps108
    go_wp2_with (fail)
    go_ret
    exact ⟨by unfold plusS; rw [if_pos (by omega)]; rfl, rfl⟩
  · go_enter Tryz.func108, Tryz.ntmps108
    go_wp2_with (fail)
    go_ret
    exact ⟨by unfold plusS; rw [if_neg (by omega)]; rfl, rfl⟩

/-- A deed that was done, with its numbers' slice. -/
structure DoneS where
  d : DeedS
  a : Option Addr
  l : Nat
  c : Nat
def DoneS.vals (x : DoneS) : List Value := [.int .i64 x.d.kind, .int .i64 x.d.at_, .string x.d.key, .slice x.a x.l x.c]
def flatD (xs : List DoneS) : List Value := xs.flatMap DoneS.vals
theorem flatD_len : ∀ xs : List DoneS, (flatD xs).length = xs.length * 4
  | [] => rfl
  | x :: xs => by simp only [flatD, List.flatMap_cons, List.length_append, List.length_cons]; rw [show (xs.flatMap DoneS.vals).length = xs.length * 4 from flatD_len xs]; simp [DoneS.vals]; omega
theorem flatD_get : ∀ {xs : List DoneS} {j : Nat} {x : DoneS}, xs[j]? = some x → ∀ k, k < 4 → (flatD xs)[j * 4 + k]? = x.vals[k]?
  | y :: xs, 0, x, h, k, hk => by
    obtain rfl : y = x := by simpa using h
    simp only [flatD, List.flatMap_cons, Nat.zero_mul, Nat.zero_add]
    rw [List.getElem?_append_left (by simp [DoneS.vals]; omega)]
  | y :: xs, j + 1, x, h, k, hk => by
    have h' : xs[j]? = some x := by simpa using h
    have := flatD_get h' k hk
    simp only [flatD, List.flatMap_cons] at this ⊢
    rw [List.getElem?_append_right (by simp [DoneS.vals]; omega), ← this]
    congr 1
    simp [DoneS.vals]; omega
def notesOf (xs : List DoneS) : List NoteS := xs.flatMap (fun x => newNotes x.d.at_ x.d.key x.d.ns)
theorem notesOf_snoc (xs : List DoneS) (x : DoneS) : notesOf (xs ++ [x]) = notesOf xs ++ newNotes x.d.at_ x.d.key x.d.ns := by simp [notesOf]
theorem notesOf_take {xs : List DoneS} {k : Nat} {x : DoneS} (h : xs[k]? = some x) : notesOf (xs.take (k + 1)) = notesOf (xs.take k) ++ newNotes x.d.at_ x.d.key x.d.ns := by
  obtain ⟨hk, rfl⟩ := List.getElem?_eq_some_iff.1 h
  rw [List.take_succ_eq_append_getElem hk, notesOf_snoc]
structure DoneOk (w : World) (x : DoneS) : Prop where
  len : x.d.ns.length = x.l
  small : x.l ≤ 9223372036854775807
  row : IntsAt w x.a x.d.ns
  fine : ∀ y, y ∈ x.d.ns → 0 ≤ y ∧ y ≤ 1099511627776
  a0 : 0 ≤ x.d.at_
  a1 : x.d.at_ ≤ 1152921504606846976

/-- What of the notes is the key's own, in the window. -/
def ownP (h : ShapeS) (b : Int) (D : DeedS) (y : NoteS) : Bool := decide (beginS b D.at_ - h.W < beginS b y.at_) && decide (y.key = D.key)
def condD (h : ShapeS) (b : Int) (D : DeedS) (x : DoneS) : Bool := decide (beginS b D.at_ - h.W < beginS b x.d.at_) && decide (x.d.key = D.key)
def ownN (h : ShapeS) (b : Int) (D : DeedS) (notes : List NoteS) : Int := capS (sumP (ownP h b D) notes)
theorem ownN_step {h : ShapeS} {b : Int} {D : DeedS} {xs : List DoneS} {k : Nat} {x : DoneS} (hx : xs[k]? = some x) : ownN h b D (notesOf (xs.take (k + 1))) = if condD h b D x then capS (sumP (ownP h b D) (notesOf (xs.take k)) + sumN x.d.ns) else ownN h b D (notesOf (xs.take k)) := by
  unfold ownN
  rw [notesOf_take hx, sumP_append, sumP_new (ownP h b D) x.d.at_ x.d.key (condD h b D x) (fun n => rfl)]
  cases condD h b D x
  · simp
  · rfl
theorem sumN_take {ns : List Int} {n : Nat} {y : Int} (hy : ns[n]? = some y) : sumN (ns.take (n + 1)) = sumN (ns.take n) + y := by
  obtain ⟨hk, rfl⟩ := List.getElem?_eq_some_iff.1 hy
  rw [List.take_succ_eq_append_getElem hk]
  generalize ns[n] = z
  have : ∀ l : List Int, sumN (l ++ [z]) = sumN l + z := fun l => by
    induction l with
    | nil => show z + sumN [] = sumN [] + z; show z + 0 = 0 + z; omega
    | cons a l ih => show a + sumN (l ++ [z]) = a + sumN l + z; rw [ih]; omega
  exact this _
theorem own_le_est {h : ShapeS} {b : Int} {D : DeedS} {notes : List NoteS} (hn : NonNeg notes) : ownN h b D notes ≤ estN h b D.at_ D.key notes := by
  refine le_leastS (capS_le _) (fun r hr => capS_mono (sumP_mono hn (fun y _ hy => ?_)))
  simp only [ownP, Bool.and_eq_true, decide_eq_true_eq] at hy
  rw [hy.2]
  simp [hy.1]
theorem est_le_tot {h : ShapeS} {b at_ : Int} {key : ByteArray} {notes : List NoteS} (hR : 1 ≤ h.R) (hn : NonNeg notes) : estN h b at_ key notes ≤ totN h b at_ notes := by
  refine Int.le_trans (leastS_le (r := 0) (by omega)) (capS_mono (sumP_mono hn (fun y _ hy => ?_)))
  simp only [Bool.and_eq_true, decide_eq_true_eq] at hy
  simp [hy.1]
theorem begin_mul {b t : Int} : beginS b t = b * (t / b) := by
  unfold beginS
  have := Int.mul_ediv_add_emod t b
  omega
theorem window_iff {h : ShapeS} {b : Int} (hb : ShapeOk h b) (s t : Int) : (t / b - h.B < s / b) ↔ (beginS b t - h.W < beginS b s) := by
  rw [begin_mul, begin_mul, hb.bW, ← Int.mul_sub]
  have hp : 0 < b := by have := hb.b1; omega
  constructor
  · intro hh
    exact Int.mul_lt_mul_of_pos_left hh hp
  · intro hh
    exact Int.lt_of_mul_lt_mul_left hh (by omega)
theorem four_cellsS (w : World) (x y z u : Value) (t : TypeId) : ∀ j v, ([x, y, z, u] : List Value)[j]? = some v → (w.alloc (.cells #[x, y, z, u] t)).cell? ((⟨w.heap.size, 0, none⟩ : Addr).add j) = some v := by
  intro j v h
  have hz := new_blockS w (.cells #[x, y, z, u] t)
  rw [WideShapes.add_plain, Nat.zero_add]
  match j with
  | 0 => simp at h; subst h; simp only [World.cell?, hz]; rfl
  | 1 => simp at h; subst h; simp only [World.cell?, hz]; rfl
  | 2 => simp at h; subst h; simp only [World.cell?, hz]; rfl
  | 3 => simp at h; subst h; simp only [World.cell?, hz]; rfl
end Go.Proofs.YtemlafbkkaloiaaGreat

/- hot: what must be whatever is asked; plain. -/
namespace Go.Proofs.YtemlafbkkaloiaaGreat
open Go.RowKit
set_option linter.unusedVariables false
set_option linter.unusedSimpArgs false

theorem est_nil {h : ShapeS} {b at_ : Int} (hR : 1 ≤ h.R) (key : ByteArray) : estN h b at_ key [] = 0 := by
  have h1 := est_le_tot (h := h) (b := b) (at_ := at_) (key := key) hR (notes := []) (by intro x hx; cases hx)
  have h2 := (estN_bd (h := h) (b := b) (at_ := at_) (key := key) (notes := []) (by intro x hx; cases hx)).1
  have h3 : totN h b at_ [] = 0 := by unfold totN sumP; exact capS_zero
  omega
/-- What counts as used, by what is kept. -/
theorem usedH_V (c : HotC) (s : HotV) (at_ : Int) (key : ByteArray) : usedH c s at_ key = match s.V key with | some ns => (winC (c.R.secs * 100000) 10 at_ ns).p | none => estN c.sh (c.R.secs * 100000) at_ key s.sn := by
  unfold usedH HotV.V
  cases findW s.WS key <;> rfl
theorem winC_p (b B at_ : Int) (ns : List NoteW) : (winC b B at_ ns).p = capW (sumW (fun x => decide (at_ / b - B < x.at_ / b)) ns).p := rfl
theorem sumW_pH (p : NoteW → Bool) (x : NoteW) (l : List NoteW) : (sumW p (x :: l)).p = (if p x then x.c.p else 0) + (sumW p l).p := by
  rw [sumW]
  cases p x
  · simp [RawC.add, RawC.zero]
  · simp [RawC.add, rawOf]
def liveHot : HotS := ⟨⟨#[97]⟩, 0, 2, 1, none, 0, 0, []⟩
def liveXH : ByteArray := ⟨#[120]⟩
theorem liveHot_E : hotE liveHot = 0 := by decide
theorem liveHot_ok (w : World) : HotOk w liveHot := ⟨by decide, rfl, Nat.le_refl _, by decide, fun _ => ⟨rfl, rfl⟩, Or.inl rfl, by intro x hx; simp [liveHot] at hx⟩
theorem liveHot_new : newHE liveHot 1 = 0 := by decide
theorem live_limit (a : Option Addr) (c : Nat) (k : ByteArray) : limI (liveHot.at a c) k = 2 := rfl
end Go.Proofs.YtemlafbkkaloiaaGreat
