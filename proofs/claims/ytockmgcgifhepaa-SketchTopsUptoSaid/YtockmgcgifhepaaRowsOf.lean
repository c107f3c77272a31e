/- Rows of structs in a block of the call's own: by element; stores of a whole element. -/
import Derived.WalkKit
import Derived.Laws.AppendOwn
import Derived.Laws.OwnMore
import Derived.Laws.MakeOwn
import Derived.Laws.IdiomCopy
import Derived.Test.YtockmgcgifhepaaProg
namespace Go.Proofs.Ytockmgcgifhepaa
open Go.RowKit
set_option linter.unusedVariables false
set_option linter.unusedSimpArgs false

theorem flatten_len {α : Type} {n : Nat} : ∀ {L : List (List α)}, (∀ r ∈ L, r.length = n) → L.flatten.length = L.length * n
  | [], _ => by simp
  | r :: L, h => by rw [List.flatten_cons, List.length_append, flatten_len (fun x hx => h x (by simp [hx])), h r (by simp), List.length_cons]; rw [Nat.add_mul]; omega
theorem flatten_get {α : Type} {n : Nat} : ∀ {L : List (List α)} (_ : ∀ r ∈ L, r.length = n) {j : Nat} {r : List α} (_ : L[j]? = some r) (k : Nat) (_ : k < n), L.flatten[j * n + k]? = r[k]?
  | [], _, j, r, h, _, _ => by simp at h
  | x :: L, hL, 0, r, h, k, hk => by
    obtain rfl : x = r := by simpa using h
    rw [List.flatten_cons, Nat.zero_mul, Nat.zero_add, List.getElem?_append_left (by rw [hL x (by simp)]; exact hk)]
  | x :: L, hL, j + 1, r, h, k, hk => by
    have hx := hL x (by simp)
    rw [List.flatten_cons, List.getElem?_append_right (by rw [hx, Nat.add_mul]; omega), hx, show (j + 1) * n + k - n = j * n + k by rw [Nat.add_mul]; omega]
    exact flatten_get (fun r hr => hL r (by simp [hr])) (by simpa using h) k hk
/-- A list with some of its places written. -/
def putAll {α : Type} (l : List α) (o : Nat) : List α → List α
  | [] => l
  | v :: r => putAll (l.set o v) (o + 1) r
theorem putAll_cons {α : Type} (x : α) : ∀ (r l : List α) (o : Nat), putAll (x :: l) (o + 1) r = x :: putAll l o r
  | [], l, o => rfl
  | v :: r, l, o => by rw [putAll, putAll, List.set_cons_succ, putAll_cons]
theorem putAll_append {α : Type} (A : List α) : ∀ (r l : List α) (o : Nat), putAll (A ++ l) (A.length + o) r = A ++ putAll l o r := by
  induction A with
  | nil => intro r l o; simp
  | cons x A ih => intro r l o; rw [List.cons_append, List.length_cons, show A.length + 1 + o = (A.length + o) + 1 by omega, putAll_cons, ih, List.cons_append]
theorem putAll_here {α : Type} : ∀ (r s l : List α), r.length = s.length → putAll (s ++ l) 0 r = r ++ l
  | [], [], l, _ => rfl
  | v :: r, x :: s, l, h => by
    rw [putAll, List.cons_append, List.set_cons_zero, putAll_cons, putAll_here r s l (by simpa using h), List.cons_append]
theorem flatten_set {α : Type} {n : Nat} : ∀ {L : List (List α)} (_ : ∀ r ∈ L, r.length = n) {i : Nat} (_ : i < L.length) {r : List α} (_ : r.length = n), (L.set i r).flatten = putAll L.flatten (i * n) r
  | x :: L, hL, 0, _, r, hr => by
    rw [List.set_cons_zero, List.flatten_cons, List.flatten_cons, Nat.zero_mul, putAll_here r x _ (by rw [hr, hL x (by simp)])]
  | x :: L, hL, i + 1, hi, r, hr => by
    have hx := hL x (by simp)
    rw [List.set_cons_succ, List.flatten_cons, List.flatten_cons, flatten_set (fun r hr => hL r (by simp [hr])) (by simpa using hi) hr, show (i + 1) * n = x.length + i * n by rw [hx, Nat.add_mul]; omega, putAll_append]
theorem ownsRow_put {base : Nat} {e : TypeId} {size g n cap : Nat} : ∀ (l : List Value) (o : Nat) (w : World) (xs : List Value), w.ownsRow base e size (.slice (some ⟨g, 0, none⟩) n cap) n xs →
    (w.setCells g o l).ownsRow base e size (.slice (some ⟨g, 0, none⟩) n cap) n (putAll xs o l) ∧ w.grownBy (w.setCells g o l) (some g)
  | [], o, w, xs, h => ⟨h, rfl, rfl, rfl, Nat.le_refl _, fun _ _ _ => rfl⟩
  | v :: l, o, w, xs, h => by
    obtain ⟨h1, g1⟩ := h.stored o v
    obtain ⟨h2, g2⟩ := ownsRow_put l (o + 1) _ _ h1
    exact ⟨h2, g2.os.trans g1.os, g2.tape.trans g1.tape, g2.output.trans g1.output, Nat.le_trans g1.size g2.size, fun k hk hne => (g2.block k (Nat.lt_of_lt_of_le hk g1.size) hne).trans (g1.block k hk hne)⟩
/-- One element is written. -/
theorem rows_put {w : World} {base : Nat} {e : TypeId} {n g m cap : Nat} {L : List (List Value)} (hL : ∀ r ∈ L, r.length = n) (h : w.ownsRow base e n (.slice (some ⟨g, 0, none⟩) m cap) m L.flatten) {i : Nat} (hi : i < L.length) {r : List Value} (hr : r.length = n) :
    (w.setCells g (i * n) r).ownsRow base e n (.slice (some ⟨g, 0, none⟩) m cap) m (L.set i r).flatten ∧ w.grownBy (w.setCells g (i * n) r) (some g) := by
  rw [flatten_set hL hi hr]
  exact ownsRow_put r (i * n) w _ h
theorem rows_cell {w : World} {base : Nat} {e : TypeId} {n m : Nat} {L : List (List Value)} (hL : ∀ r ∈ L, r.length = n) (hm : L.length = m) {g cap : Nat} (h : w.ownsRow base e n (.slice (some ⟨g, 0, none⟩) m cap) m L.flatten) {i : Nat} {r : List Value} (hi : L[i]? = some r) (k : Nat) (hk : k < n) : w.cell? ⟨g, i * n + k, none⟩ = r[k]? := by
  have hlt : i < L.length := (List.getElem?_eq_some_iff.1 hi).1
  have hmul : (i + 1) * n ≤ m * n := Nat.mul_le_mul_right _ (by omega)
  rw [Nat.add_mul] at hmul
  rw [h.cellAt (i * n + k) (by omega), flatten_get hL hi k hk]
/-- A slice of zero elements. -/
theorem made_rows (z : Array Value) (m : Nat) (hz : 0 < z.size) : (madeCells z (m * z.size)).toList = (List.replicate m z.toList).flatten := by
  apply List.ext_getElem?
  intro j
  have hlen : (List.replicate m z.toList).flatten.length = m * z.size := by
    rw [flatten_len (n := z.size) (by intro r hr; rw [List.eq_of_mem_replicate hr]; simp), List.length_replicate]
  by_cases hj : j < m * z.size
  · have h1 : (madeCells z (m * z.size)).toList[j]? = some (z[j % z.size]!) := by simp [madeCells, hj]
    have hd : j / z.size < m := Nat.div_lt_of_lt_mul (by rw [Nat.mul_comm]; exact hj)
    have h2 := flatten_get (n := z.size) (L := List.replicate m z.toList) (by intro r hr; rw [List.eq_of_mem_replicate hr]; simp) (j := j / z.size) (r := z.toList) (by rw [List.getElem?_replicate, if_pos hd]) (j % z.size) (Nat.mod_lt _ hz)
    rw [Nat.div_add_mod' j z.size] at h2
    rw [h1, h2]
    have := Nat.mod_lt j hz
    simp [this]
  · rw [List.getElem?_eq_none (by simp [madeCells]; omega), List.getElem?_eq_none (by omega)]
theorem set_fill {α : Type} {A : List α} {z r : α} {m i : Nat} (hA : A.length = i) : (A ++ List.replicate (m + 1) z).set i r = (A ++ [r]) ++ List.replicate m z := by
  subst hA
  rw [List.set_append_right _ _ (Nat.le_refl _), Nat.sub_self, List.replicate_succ, List.set_cons_zero]
  simp
end Go.Proofs.Ytockmgcgifhepaa
