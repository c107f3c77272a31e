/- stat: sums of what passed. No program here. -/
import Derived.Test.YtejkfmepiagabaaStD
namespace Go.Proofs.Ytejkfmepiagabaa
open Go.RowKit
set_option linter.unusedVariables false

theorem sumW_p (p : NoteW → Bool) (x : NoteW) (l : List NoteW) : (sumW p (x :: l)).p = (if p x then x.c.p else 0) + (sumW p l).p := by
  show (if p x then rawOf x.c else .zero).p + (sumW p l).p = _
  split <;> rfl
theorem sumW_mono {p q : NoteW → Bool} : ∀ {l : List NoteW}, RightL l → (∀ x, x ∈ l → p x = true → q x = true) → (sumW p l).p ≤ (sumW q l).p
  | [], _, _ => Int.le_refl _
  | x :: l, hr, h => by
    have ih := sumW_mono hr.tail (fun y hy => h y (by simp [hy]))
    have hx := (hr x (by simp)).p0
    rw [sumW_p, sumW_p]
    cases hp : p x with
    | true => rw [h x (by simp) hp]; simp only [if_true]; omega
    | false => cases q x <;> simp only [if_true, Bool.false_eq_true, if_false] <;> omega
theorem sumW_take {p : NoteW → Bool} {l : List NoteW} {k : Nat} {x : NoteW} (h : l[k]? = some x) : (sumW p (l.take (k + 1))).p = (sumW p (l.take k)).p + (if p x then x.c.p else 0) := by
  obtain ⟨hk, rfl⟩ := List.getElem?_eq_some_iff.1 h
  rw [List.take_succ_eq_append_getElem hk, sumW_append]
  show _ + (sumW p [l[k]]).p = _
  rw [sumW_p]
  show _ + (_ + 0) = _
  omega
/-- Each of them is a pass of so many tokens. -/
def PassL (l : List NoteW) : Prop := ∀ x, x ∈ l → x.c = passC x.c.p ∧ 1 ≤ x.c.p ∧ x.c.p ≤ 1099511627776
theorem sumW_bound {p : NoteW → Bool} : ∀ {l : List NoteW}, PassL l → 0 ≤ (sumW p l).p ∧ (sumW p l).p ≤ 1099511627776 * l.length
  | [], _ => by simp [sumW, RawC.zero]
  | x :: l, h => by
    have ih := sumW_bound (p := p) (l := l) (fun y hy => h y (by simp [hy]))
    obtain ⟨_, h1, h2⟩ := h x (by simp)
    rw [sumW_p]
    simp only [List.length_cons]
    split <;> omega
/-- Was it less than nine tenths of a second ago? -/
def nearB (at_ : Int) (x : NoteW) : Bool := decide (at_ - x.at_ < 900000)
theorem near_le {at_ : Int} {notes : List NoteW} (hr : RightL notes) (ha : ∀ x, x ∈ notes → x.at_ ≤ at_) : (sumW (nearB at_) notes).p ≤ 4611686018427387904 → (sumW (nearB at_) notes).p ≤ (winC 100000 10 at_ notes).p := by
  intro hb
  have h1 : (sumW (nearB at_) notes).p ≤ (sumW (fun x => decide (at_ / 100000 - 10 < x.at_ / 100000)) notes).p := sumW_mono hr (fun x hx hn => by
    have h1 : at_ - x.at_ < 900000 := by simpa [nearB] using hn
    have h2 := ha x hx
    rw [decide_eq_true_eq]
    omega)
  show _ ≤ capW _
  unfold capW
  split <;> omega
/-- Did it pass in the whole second ahead? -/
def aheadB (at_ : Int) (x : NoteW) : Bool := decide (x.at_ < at_ - at_ % 1000000) && decide (at_ - at_ % 1000000 - 1000000 ≤ x.at_)
theorem ahead_eq {at_ : Int} {notes : List NoteW} (hb : (sumW (aheadB at_) notes).p ≤ 4611686018427387904) : pastC 1000000 at_ notes = (sumW (aheadB at_) notes).p := by
  have h1 : sumW (fun x => decide (x.at_ / 1000000 = at_ / 1000000 - 1)) notes = sumW (aheadB at_) notes := sumW_congr (fun x _ => by
    unfold aheadB
    rw [← Bool.decide_and]
    congr 1
    exact propext ⟨fun h => by omega, fun h => by omega⟩)
  unfold pastC
  rw [h1]
  exact capW_small hb
end Go.Proofs.Ytejkfmepiagabaa
