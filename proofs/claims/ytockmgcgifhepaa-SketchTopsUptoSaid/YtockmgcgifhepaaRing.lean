/- A ring of links in memory: one taken out, one put in; and worlds that differ in some blocks alone. -/
import Derived.ProofKit
import Derived.Below
import Derived.Test.YtockmgcgifhepaaProg
namespace Go.Proofs.Ytockmgcgifhepaa
open Go.RowKit
set_option linter.unusedVariables false

/-- What lies outside the blocks S is as it was; no block has gone. -/
structure Off (S : Nat → Prop) (w w' : World) : Prop where
  os : w'.os = w.os
  tape : w'.tape = w.tape
  output : w'.output = w.output
  size : w.heap.size ≤ w'.heap.size
  block : ∀ k, k < w.heap.size → ¬ S k → w'.heap[k]? = w.heap[k]?

theorem Off.refl (S : Nat → Prop) (w : World) : Off S w w := ⟨rfl, rfl, rfl, Nat.le_refl _, fun _ _ _ => rfl⟩
theorem Off.trans {S S' : Nat → Prop} {a b c : World} (h : Off S a b) (k : Off S' b c) (hS : ∀ i, i < a.heap.size → S' i → S i) : Off S a c :=
  ⟨k.os.trans h.os, k.tape.trans h.tape, k.output.trans h.output, Nat.le_trans h.size k.size,
    fun i hi hn => (k.block i (Nat.lt_of_lt_of_le hi h.size) (fun h' => hn (hS i hi h'))).trans (h.block i hi hn)⟩
theorem Off.mono {S S' : Nat → Prop} {w w' : World} (h : Off S w w') (hS : ∀ i, i < w.heap.size → S i → S' i) : Off S' w w' :=
  ⟨h.os, h.tape, h.output, h.size, fun k hk hn => h.block k hk (fun h' => hn (hS k hk h'))⟩
theorem Off.below {S : Nat → Prop} {B : Nat} {w w' : World} (h : Off S w w') (hB : B ≤ w.heap.size) (hS : ∀ k, k < B → ¬ S k) : Below B w w' :=
  ⟨h.os, h.tape, h.output, h.size, fun k hk => h.block k (by omega) (hS k hk)⟩
theorem Off.ofBelow {S : Nat → Prop} {w w' : World} (h : Below w.heap.size w w') : Off S w w' :=
  ⟨h.os, h.tape, h.output, h.size, fun k hk _ => h.block k hk⟩
theorem Off.setCell {S : Nat → Prop} {a w : World} (h : Off S a w) {p : Addr} (hp : p.block < a.heap.size → S p.block) (u : Value) : Off S a (w.setCell p u) :=
  ⟨h.os, h.tape, h.output, by simp [World.setCell]; exact h.size, fun k hk hn => (Below.heap_setCell _ _ _ _ (fun e => hn (by subst e; exact hp hk))).trans (h.block k hk hn)⟩
theorem Off.alloc {S : Nat → Prop} {a w : World} (h : Off S a w) (o : Obj) : Off S a (w.alloc o) :=
  ⟨h.os, h.tape, h.output, by have := h.size; simp; omega, fun k hk hn => (Below.heap_alloc _ _ _ (Nat.lt_of_lt_of_le hk h.size)).trans (h.block k hk hn)⟩
theorem Off.grown {S : Nat → Prop} {a w w' : World} {b : Nat} (h : Off S a w) (hg : w.grownBy w' (some b)) (hb : b < a.heap.size → S b) : Off S a w' :=
  ⟨hg.os.trans h.os, hg.tape.trans h.tape, hg.output.trans h.output, Nat.le_trans h.size hg.size,
    fun k hk hn => (hg.block k (Nat.lt_of_lt_of_le hk h.size) (fun e => hn (by cases e; exact hb hk))).trans (h.block k hk hn)⟩
theorem Off.cell {S : Nat → Prop} {w w' : World} (h : Off S w w') {p : Addr} {v : Value} (hv : w.cell? p = some v) (hp : ¬ S p.block) : w'.cell? p = some v := by
  rw [World.cell?_of_block (w := w) (h.block p.block (World.block_lt_of_cell? w _ hv) hp)]; exact hv

/-- Where node j of the ring lies: 0, and the one behind the last, is the ends' own. -/
def rb (m : Nat) (B : List Nat) : Nat → Nat | 0 => m | j + 1 => (B[j]?).getD m
def ro (B : List Nat) : Nat → Nat | 0 => 2 | j + 1 => if j < B.length then 0 else 2
/-- The pointer at node j. -/
def rp (m : Nat) (B : List Nat) (j : Nat) : Value := .pointer (some ⟨rb m B j, ro B j, none⟩)

structure Ring (w : World) (m : Nat) (B : List Nat) : Prop where
  nodup : (m :: B).Nodup
  behind : ∀ j, j ≤ B.length → w.cell? ⟨rb m B j, ro B j + 3, none⟩ = some (rp m B (j + 1))
  ahead : ∀ j, j ≤ B.length → w.cell? ⟨rb m B (j + 1), ro B (j + 1) + 2, none⟩ = some (rp m B j)
  fr : ∀ b, b ∈ m :: B → ∀ o, w.frozen? ⟨b, o, none⟩ = false

theorem ro_two (B : List Nat) (j : Nat) : ro B j = 0 ∨ ro B j = 2 := by
  cases j with
  | zero => exact Or.inr rfl
  | succ j => simp only [ro]; split <;> simp
theorem rb_end (m : Nat) (B : List Nat) : rb m B (B.length + 1) = m := by simp [rb]
theorem ro_end (B : List Nat) : ro B (B.length + 1) = 2 := by simp [ro]
theorem rb_in {m : Nat} {B : List Nat} {j b : Nat} (h : B[j]? = some b) : rb m B (j + 1) = b ∧ ro B (j + 1) = 0 := by
  have := (List.getElem?_eq_some_iff.1 h).1
  refine ⟨?_, ?_⟩
  · rw [rb, h]; rfl
  · rw [ro, if_pos this]
theorem rb_mem {m : Nat} {B : List Nat} (j : Nat) : rb m B j ∈ m :: B := by
  cases j with
  | zero => simp [rb]
  | succ j =>
    by_cases h : j < B.length
    · simp [rb, h]
    · simp [rb, h]
theorem rb_inj {m : Nat} {B : List Nat} (hn : (m :: B).Nodup) {j k : Nat} (hj : j ≤ B.length) (hk : k ≤ B.length) (h : rb m B j = rb m B k) : j = k := by
  have e : ∀ i, i ≤ B.length → (m :: B)[i]? = some (rb m B i) := by
    intro i hi
    cases i with
    | zero => rfl
    | succ i => simp [rb, show i < B.length by omega]
  have h1 := e j hj
  rw [h, ← e k hk] at h1
  obtain ⟨l1, e1⟩ := List.getElem?_eq_some_iff.1 (e j hj)
  obtain ⟨l2, e2⟩ := List.getElem?_eq_some_iff.1 (e k hk)
  exact (List.getElem_inj hn).1 (e1.trans (h.trans e2.symm))
theorem rb_ne {m : Nat} {B : List Nat} (hn : (m :: B).Nodup) {j k : Nat} (hj : j ≤ B.length) (hk : k ≤ B.length) (h : j ≠ k) : rb m B j ≠ rb m B k := fun e => h (rb_inj hn hj hk e)
/-- .. and from 1 to the one behind the last. -/
theorem rb_ne' {m : Nat} {B : List Nat} (hn : (m :: B).Nodup) {j k : Nat} (hj : j ≤ B.length) (hk : k ≤ B.length) (h : j ≠ k) : rb m B (j + 1) ≠ rb m B (k + 1) := by
  by_cases h1 : j + 1 ≤ B.length
  · by_cases h2 : k + 1 ≤ B.length
    · exact rb_ne hn h1 h2 (by omega)
    · rw [show k = B.length by omega, rb_end]
      exact rb_ne (k := 0) hn h1 (by omega) (by omega)
  · by_cases h2 : k + 1 ≤ B.length
    · rw [show j = B.length by omega, rb_end]
      exact rb_ne (j := 0) hn (by omega) h2 (by omega)
    · omega
theorem rb_erase (m : Nat) (B : List Nat) {i : Nat} (hi : i < B.length) (j : Nat) : rb m (B.eraseIdx i) j = (if j ≤ i then rb m B j else rb m B (j + 1)) ∧ ro (B.eraseIdx i) j = (if j ≤ i then ro B j else ro B (j + 1)) := by
  have hl : (B.eraseIdx i).length = B.length - 1 := List.length_eraseIdx_of_lt hi
  cases j with
  | zero => simp [rb, ro]
  | succ j =>
    simp only [rb, ro, List.getElem?_eraseIdx, hl]
    by_cases h : j + 1 ≤ i
    · rw [if_pos (by omega), if_pos h, if_pos h]
      refine ⟨rfl, ?_⟩
      rw [if_pos (by omega), if_pos (by omega)]
    · rw [if_neg (by omega), if_neg h, if_neg h]
      refine ⟨rfl, ?_⟩
      by_cases h2 : j < B.length - 1
      · rw [if_pos h2, if_pos (by omega)]
      · rw [if_neg h2, if_neg (by omega)]
theorem rb_snoc (m : Nat) (B : List Nat) (c j : Nat) : rb m (B ++ [c]) j = (if j ≤ B.length then rb m B j else if j = B.length + 1 then c else m) ∧ ro (B ++ [c]) j = (if j ≤ B.length then ro B j else if j = B.length + 1 then 0 else 2) := by
  cases j with
  | zero => simp [rb, ro]
  | succ j =>
    simp only [rb, ro, List.getElem?_append, List.length_append, List.length_singleton]
    by_cases h : j + 1 ≤ B.length
    · rw [if_pos (by omega), if_pos h, if_pos h]
      exact ⟨rfl, by rw [if_pos (by omega), if_pos (by omega)]⟩
    · rw [if_neg (by omega), if_neg h, if_neg h]
      by_cases h2 : j = B.length
      · subst h2
        simp
      · have : j - B.length ≠ 0 := by omega
        rw [if_neg (by omega), if_neg (by omega), if_neg (by omega)]
        refine ⟨?_, rfl⟩
        have : ([c] : List Nat)[j - B.length]? = none := by simp; omega
        rw [this]; rfl

theorem cell_far {w : World} {p q : Addr} {u v : Value} (h : w.cell? q = some v) (hne : p ≠ q) : (w.setCell p u).cell? q = some v := (World.cell?_setCell_other w p q u hne).trans h

theorem cell_same {w : World} {p : Addr} {u v : Value} (h : w.cell? p = some u) : (w.setCell p v).cell? p = some v := World.cell?_setCell_same w p v h

/-- One taken out. -/
theorem Ring.out {w : World} {m : Nat} {B : List Nat} (h : Ring w m B) {i : Nat} (hi : i < B.length) :
    Ring ((w.setCell ⟨rb m B i, ro B i + 3, none⟩ (rp m B (i + 2))).setCell ⟨rb m B (i + 2), ro B (i + 2) + 2, none⟩ (rp m B i)) m (B.eraseIdx i) := by
  have hl : (B.eraseIdx i).length = B.length - 1 := List.length_eraseIdx_of_lt hi
  have hoff : ∀ a b x y, (⟨a, ro B x + 3, none⟩ : Addr) ≠ ⟨b, ro B y + 2, none⟩ := by
    intro a b x y e
    injection e with _ e2
    rcases ro_two B x with h1 | h1 <;> rcases ro_two B y with h2 | h2 <;> omega
  refine ⟨?_, fun j hj => ?_, fun j hj => ?_, fun b hb o => by
    simp only [World.frozen?_setCell]
    rcases List.mem_cons.1 hb with rfl | hb
    · exact h.fr _ (by simp) o
    · exact h.fr b (List.mem_cons_of_mem _ ((List.eraseIdx_sublist _ _).subset hb)) o⟩
  · obtain ⟨h1, h2⟩ := List.nodup_cons.1 h.nodup
    exact List.nodup_cons.2 ⟨fun hm => h1 ((List.eraseIdx_sublist _ _).subset hm), h2.sublist (List.eraseIdx_sublist _ _)⟩
  · rw [hl] at hj
    obtain ⟨e1, e2⟩ := rb_erase m B hi j
    obtain ⟨e3, e4⟩ := rb_erase m B hi (j + 1)
    rw [show rp m (B.eraseIdx i) (j + 1) = .pointer (some ⟨rb m (B.eraseIdx i) (j + 1), ro (B.eraseIdx i) (j + 1), none⟩) from rfl, e1, e2, e3, e4]
    rcases Nat.lt_trichotomy j i with hji | hji | hji
    · rw [if_pos (by omega), if_pos (by omega), if_pos (by omega), if_pos (by omega)]
      refine cell_far (cell_far (h.behind j (by omega)) ?_) (fun e => hoff _ _ _ _ e.symm)
      intro e; injection e with e1 _; exact rb_ne h.nodup (by omega) (by omega) (by omega) e1
    · subst hji
      rw [if_pos (by omega), if_pos (by omega), if_neg (by omega), if_neg (by omega)]
      exact cell_far (cell_same (h.behind j (by omega))) (fun e => hoff _ _ _ _ e.symm)
    · rw [if_neg (by omega), if_neg (by omega), if_neg (by omega), if_neg (by omega)]
      refine cell_far (cell_far (h.behind (j + 1) (by omega)) ?_) (fun e => hoff _ _ _ _ e.symm)
      intro e; injection e with e1 _; exact rb_ne h.nodup (by omega) (by omega) (by omega) e1
  · rw [hl] at hj
    obtain ⟨e1, e2⟩ := rb_erase m B hi j
    obtain ⟨e3, e4⟩ := rb_erase m B hi (j + 1)
    rw [show rp m (B.eraseIdx i) j = .pointer (some ⟨rb m (B.eraseIdx i) j, ro (B.eraseIdx i) j, none⟩) from rfl, e1, e2, e3, e4]
    rcases Nat.lt_trichotomy j i with hji | hji | hji
    · rw [if_pos (by omega), if_pos (by omega), if_pos (by omega), if_pos (by omega)]
      refine cell_far (cell_far (h.ahead j (by omega)) (hoff _ _ _ _)) ?_
      intro e; injection e with e1 _; exact rb_ne' h.nodup (j := i + 1) (k := j) (by omega) (by omega) (by omega) e1
    · subst hji
      rw [if_neg (by omega), if_neg (by omega), if_pos (by omega), if_pos (by omega)]
      exact cell_same (cell_far (h.ahead (j + 1) (by omega)) (hoff _ _ _ _))
    · rw [if_neg (by omega), if_neg (by omega), if_neg (by omega), if_neg (by omega)]
      refine cell_far (cell_far (h.ahead (j + 1) (by omega)) (hoff _ _ _ _)) ?_
      intro e; injection e with e1 _; exact rb_ne' h.nodup (j := i + 1) (k := j + 1) (by omega) (by omega) (by omega) e1

/-- One put in at the end. -/
theorem Ring.touch {w : World} {m : Nat} {B : List Nat} (h : Ring w m B) {c : Nat} (hc : c ∉ m :: B) {u v : Value} (h2 : w.cell? ⟨c, 2, none⟩ = some u) (h3 : w.cell? ⟨c, 3, none⟩ = some v) (hf : ∀ o, w.frozen? ⟨c, o, none⟩ = false) :
    Ring ((((w.setCell ⟨c, 2, none⟩ (rp m B B.length)).setCell ⟨c, 3, none⟩ (.pointer (some ⟨m, 2, none⟩))).setCell ⟨rb m B B.length, ro B B.length + 3, none⟩ (.pointer (some ⟨c, 0, none⟩))).setCell ⟨m, 4, none⟩ (.pointer (some ⟨c, 0, none⟩))) m (B ++ [c]) := by
  have hl : (B ++ [c]).length = B.length + 1 := by simp
  have hcm : ∀ j, rb m B j ≠ c := fun j e => hc (e ▸ rb_mem j)
  have hm : m ≠ c := fun e => hc (by simp [e])
  refine ⟨?_, fun j hj => ?_, fun j hj => ?_, fun b hb o => by
    simp only [World.frozen?_setCell]
    rcases List.mem_cons.1 hb with rfl | hb
    · exact h.fr _ (by simp) o
    · rcases List.mem_append.1 hb with hb | hb
      · exact h.fr b (by simp [hb]) o
      · simp only [List.mem_singleton] at hb
        subst hb
        exact hf o⟩
  · have := h.nodup
    rw [show m :: (B ++ [c]) = (m :: B) ++ [c] by simp]
    exact List.nodup_append.2 ⟨this, by simp, by simp only [List.mem_singleton, forall_eq]; exact fun a ha e => hc (e ▸ ha)⟩
  · rw [hl] at hj
    obtain ⟨e1, e2⟩ := rb_snoc m B c j
    obtain ⟨e3, e4⟩ := rb_snoc m B c (j + 1)
    rw [show rp m (B ++ [c]) (j + 1) = .pointer (some ⟨rb m (B ++ [c]) (j + 1), ro (B ++ [c]) (j + 1), none⟩) from rfl, e1, e2, e3, e4]
    rcases Nat.lt_trichotomy j B.length with hji | hji | hji
    · rw [if_pos (by omega), if_pos (by omega), if_pos (by omega), if_pos (by omega)]
      refine cell_far (cell_far (cell_far (cell_far (h.behind j (by omega)) ?_) ?_) ?_) ?_
      · intro e; injection e with e1 _; exact hcm _ e1.symm
      · intro e; injection e with e1 _; exact hcm _ e1.symm
      · intro e; injection e with e1 _; exact rb_ne h.nodup (by omega) (by omega) (by omega) e1
      · intro e; injection e with _ e2; rcases ro_two B j with h1 | h1 <;> omega
    · subst hji
      simp only [Nat.le_refl, show ¬ B.length + 1 ≤ B.length by omega, if_false, if_true]
      refine cell_far (cell_same (cell_far (cell_far (h.behind B.length (by omega)) ?_) ?_)) ?_
      · intro e; injection e with e1 _; exact hcm _ e1.symm
      · intro e; injection e with e1 _; exact hcm _ e1.symm
      · intro e; injection e with _ e2; rcases ro_two B B.length with h1 | h1 <;> omega
    · have : j = B.length + 1 := by omega
      subst this
      simp only [show ¬ B.length + 1 ≤ B.length by omega, show ¬ B.length + 1 + 1 ≤ B.length by omega, show B.length + 1 + 1 ≠ B.length + 1 by omega, if_false, if_true]
      refine cell_far (cell_far (cell_same (cell_far h3 ?_)) ?_) ?_
      · intro e; injection e with _ e2; omega
      · intro e; injection e with e1 _; exact hcm _ e1
      · intro e; injection e with e1 _; exact hm e1
  · rw [hl] at hj
    obtain ⟨e1, e2⟩ := rb_snoc m B c j
    obtain ⟨e3, e4⟩ := rb_snoc m B c (j + 1)
    rw [show rp m (B ++ [c]) j = .pointer (some ⟨rb m (B ++ [c]) j, ro (B ++ [c]) j, none⟩) from rfl, e1, e2, e3, e4]
    rcases Nat.lt_trichotomy j B.length with hji | hji | hji
    · rw [if_pos (by omega), if_pos (by omega), if_pos (by omega), if_pos (by omega)]
      refine cell_far (cell_far (cell_far (cell_far (h.ahead j (by omega)) ?_) ?_) ?_) ?_
      · intro e; injection e with e1 _; exact hcm _ e1.symm
      · intro e; injection e with e1 _; exact hcm _ e1.symm
      · intro e; injection e with _ e2; rcases ro_two B B.length with h1 | h1 <;> rcases ro_two B (j + 1) with h1' | h1' <;> omega
      · intro e; injection e with e1 _; exact rb_ne (j := 0) h.nodup (by omega) (by omega) (by omega) e1
    · subst hji
      simp only [Nat.le_refl, show ¬ B.length + 1 ≤ B.length by omega, if_false, if_true]
      refine cell_far (cell_far (cell_far (cell_same h2) ?_) ?_) ?_
      · intro e; injection e with _ e2; omega
      · intro e; injection e with e1 _; exact hcm _ e1
      · intro e; injection e with e1 _; exact hm e1
    · have : j = B.length + 1 := by omega
      subst this
      simp only [show ¬ B.length + 1 ≤ B.length by omega, show ¬ B.length + 1 + 1 ≤ B.length by omega, show B.length + 1 + 1 ≠ B.length + 1 by omega, if_false, if_true]
      have h0 := h.ahead B.length (by omega)
      rw [rb_end, ro_end] at h0
      refine cell_same (cell_far (cell_far (cell_far h0 ?_) ?_) ?_)
      · intro e; injection e with e1 _; exact hm e1.symm
      · intro e; injection e with e1 _; exact hm e1.symm
      · intro e; injection e with _ e2; rcases ro_two B B.length with h1 | h1 <;> omega
end Go.Proofs.Ytockmgcgifhepaa
