/- Texts of one chain, one behind the other: RowsOf, R3D. -/
import Derived.WalkKit
import Derived.Laws.AppendOwn
import Derived.Laws.OwnMore
import Derived.Laws.MakeOwn
import Derived.Laws.IdiomCopy
import Derived.Test.YtlipbkpbflgamaaProg
import Derived.Test.YtlipbkpbflgamaaGWinC
import Derived.Test.YtlipbkpbflgamaaGInts

/- Rows of structs in a block of the call's own: by element; stores of a whole element. -/
namespace Go.Proofs.Ytlipbkpbflgamaa
open Go.RowKit
set_option linter.unusedVariables false
set_option linter.unusedSimpArgs false

theorem flatten_len {α : Type} {n : Nat} : ∀ {L : List (List α)}, (∀ r ∈ L, r.length = n) → L.flatten.length = L.length * n
  | [], _ => by simp
  | r :: L, h => by rw [List.flatten_cons, List.length_append, flatten_len (fun x hx => h x (by simp [hx])), h r (by simp), List.length_cons]; rw [Nat.add_mul]; omega
theorem flatten_get {α : Type} {n : Nat} : ∀ {L : List (List α)} (_ : ∀ r ∈ L, r.length = n) {j : Nat} {r : List α} (_ : L[j]? = some r) (k : Nat) (_ : k < n), L.flatten[j * n + k]? = r[k]?
  | [], _, j, r, h, _, _ => by simp at h
  | x :: L, hL, 0, r, h, k, hk => by
    obtain rfl : x = r := by simpa using h
    rw [List.flatten_cons, Nat.zero_mul, Nat.zero_add, List.getElem?_append_left (by rw [hL x (by simp)]; exact hk)]
  | x :: L, hL, j + 1, r, h, k, hk => by
    have hx := hL x (by simp)
    rw [List.flatten_cons, List.getElem?_append_right (by rw [hx, Nat.add_mul]; omega), hx, show (j + 1) * n + k - n = j * n + k by rw [Nat.add_mul]; omega]
    exact flatten_get (fun r hr => hL r (by simp [hr])) (by simpa using h) k hk
/-- A list with some of its places written. -/
def putAll {α : Type} (l : List α) (o : Nat) : List α → List α
  | [] => l
  | v :: r => putAll (l.set o v) (o + 1) r
theorem putAll_cons {α : Type} (x : α) : ∀ (r l : List α) (o : Nat), putAll (x :: l) (o + 1) r = x :: putAll l o r
  | [], l, o => rfl
  | v :: r, l, o => by rw [putAll, putAll, List.set_cons_succ, putAll_cons]
theorem putAll_append {α : Type} (A : List α) : ∀ (r l : List α) (o : Nat), putAll (A ++ l) (A.length + o) r = A ++ putAll l o r := by
  induction A with
  | nil => intro r l o; simp
  | cons x A ih => intro r l o; rw [List.cons_append, List.length_cons, show A.length + 1 + o = (A.length + o) + 1 by omega, putAll_cons, ih, List.cons_append]
theorem putAll_here {α : Type} : ∀ (r s l : List α), r.length = s.length → putAll (s ++ l) 0 r = r ++ l
  | [], [], l, _ => rfl
  | v :: r, x :: s, l, h => by
    rw [putAll, List.cons_append, List.set_cons_zero, putAll_cons, putAll_here r s l (by simpa using h), List.cons_append]
theorem flatten_set {α : Type} {n : Nat} : ∀ {L : List (List α)} (_ : ∀ r ∈ L, r.length = n) {i : Nat} (_ : i < L.length) {r : List α} (_ : r.length = n), (L.set i r).flatten = putAll L.flatten (i * n) r
  | x :: L, hL, 0, _, r, hr => by
    rw [List.set_cons_zero, List.flatten_cons, List.flatten_cons, Nat.zero_mul, putAll_here r x _ (by rw [hr, hL x (by simp)])]
  | x :: L, hL, i + 1, hi, r, hr => by
    have hx := hL x (by simp)
    rw [List.set_cons_succ, List.flatten_cons, List.flatten_cons, flatten_set (fun r hr => hL r (by simp [hr])) (by simpa using hi) hr, show (i + 1) * n = x.length + i * n by rw [hx, Nat.add_mul]; omega, putAll_append]
theorem ownsRow_put {base : Nat} {e : TypeId} {size g n cap : Nat} : ∀ (l : List Value) (o : Nat) (w : World) (xs : List Value), w.ownsRow base e size (.slice (some ⟨g, 0, none⟩) n cap) n xs →
    (w.setCells g o l).ownsRow base e size (.slice (some ⟨g, 0, none⟩) n cap) n (putAll xs o l) ∧ w.grownBy (w.setCells g o l) (some g)
  | [], o, w, xs, h => ⟨h, rfl, rfl, rfl, Nat.le_refl _, fun _ _ _ => rfl⟩
  | v :: l, o, w, xs, h => by
    obtain ⟨h1, g1⟩ := h.stored o v
    obtain ⟨h2, g2⟩ := ownsRow_put l (o + 1) _ _ h1
    exact ⟨h2, g2.os.trans g1.os, g2.tape.trans g1.tape, g2.output.trans g1.output, Nat.le_trans g1.size g2.size, fun k hk hne => (g2.block k (Nat.lt_of_lt_of_le hk g1.size) hne).trans (g1.block k hk hne)⟩
/-- One element is written. -/
theorem rows_put {w : World} {base : Nat} {e : TypeId} {n g m cap : Nat} {L : List (List Value)} (hL : ∀ r ∈ L, r.length = n) (h : w.ownsRow base e n (.slice (some ⟨g, 0, none⟩) m cap) m L.flatten) {i : Nat} (hi : i < L.length) {r : List Value} (hr : r.length = n) :
    (w.setCells g (i * n) r).ownsRow base e n (.slice (some ⟨g, 0, none⟩) m cap) m (L.set i r).flatten ∧ w.grownBy (w.setCells g (i * n) r) (some g) := by
  rw [flatten_set hL hi hr]
  exact ownsRow_put r (i * n) w _ h
theorem rows_cell {w : World} {base : Nat} {e : TypeId} {n m : Nat} {L : List (List Value)} (hL : ∀ r ∈ L, r.length = n) (hm : L.length = m) {g cap : Nat} (h : w.ownsRow base e n (.slice (some ⟨g, 0, none⟩) m cap) m L.flatten) {i : Nat} {r : List Value} (hi : L[i]? = some r) (k : Nat) (hk : k < n) : w.cell? ⟨g, i * n + k, none⟩ = r[k]? := by
  have hlt : i < L.length := (List.getElem?_eq_some_iff.1 hi).1
  have hmul : (i + 1) * n ≤ m * n := Nat.mul_le_mul_right _ (by omega)
  rw [Nat.add_mul] at hmul
  rw [h.cellAt (i * n + k) (by omega), flatten_get hL hi k hk]
/-- A slice of zero elements. -/
theorem made_rows (z : Array Value) (m : Nat) (hz : 0 < z.size) : (madeCells z (m * z.size)).toList = (List.replicate m z.toList).flatten := by
  apply List.ext_getElem?
  intro j
  have hlen : (List.replicate m z.toList).flatten.length = m * z.size := by
    rw [flatten_len (n := z.size) (by intro r hr; rw [List.eq_of_mem_replicate hr]; simp), List.length_replicate]
  by_cases hj : j < m * z.size
  · have h1 : (madeCells z (m * z.size)).toList[j]? = some (z[j % z.size]!) := by simp [madeCells, hj]
    have hd : j / z.size < m := Nat.div_lt_of_lt_mul (by rw [Nat.mul_comm]; exact hj)
    have h2 := flatten_get (n := z.size) (L := List.replicate m z.toList) (by intro r hr; rw [List.eq_of_mem_replicate hr]; simp) (j := j / z.size) (r := z.toList) (by rw [List.getElem?_replicate, if_pos hd]) (j % z.size) (Nat.mod_lt _ hz)
    rw [Nat.div_add_mod' j z.size] at h2
    rw [h1, h2]
    have := Nat.mod_lt j hz
    simp [this]
  · rw [List.getElem?_eq_none (by simp [madeCells]; omega), List.getElem?_eq_none (by omega)]
theorem set_fill {α : Type} {A : List α} {z r : α} {m i : Nat} (hA : A.length = i) : (A ++ List.replicate (m + 1) z).set i r = (A ++ [r]) ++ List.replicate m z := by
  subst hA
  rw [List.set_append_right _ _ (Nat.le_refl _), Nat.sub_self, List.replicate_succ, List.set_cons_zero]
  simp
end Go.Proofs.Ytlipbkpbflgamaa

/- The reference's window in memory; New, look, begin. -/
namespace Go.Proofs.Ytlipbkpbflgamaa
open Go.RowKit
set_option linter.unusedVariables false
set_option linter.unusedSimpArgs false

def Bk3.cs (k : Bk3) : List Value := [.int .i64 k.at_, .int .i64 (imgC k.r).p, .int .i64 (imgC k.r).b, .int .i64 (imgC k.r).d, .int .i64 (imgC k.r).e, .int .i64 (imgC k.r).r, .int .i64 (imgC k.r).m]
def flat3 (L : List Bk3) : List Value := (L.map Bk3.cs).flatten
theorem cs_len7 (l : List Bk3) : ∀ r ∈ l.map Bk3.cs, r.length = 7 := by intro r hr; obtain ⟨x, _, rfl⟩ := List.mem_map.1 hr; rfl
theorem flat3_snoc (l : List Bk3) (d : Bk3) : flat3 (l ++ [d]) = flat3 l ++ d.cs := by simp [flat3]
theorem flat3_get {l : List Bk3} {j : Nat} {x : Bk3} (h : l[j]? = some x) (k : Nat) (hk : k < 7) : (flat3 l)[j * 7 + k]? = x.cs[k]? := flatten_get (cs_len7 l) (by rw [List.getElem?_map, h]; rfl) k hk
theorem flat3_len (l : List Bk3) : (flat3 l).length = l.length * 7 := by unfold flat3; rw [flatten_len (cs_len7 l), List.length_map]
theorem rowKept3 {w w' : World} {base : Nat} {e : TypeId} {size n : Nat} {v : Value} {xs : List Value} (h : w.ownsRow base e size v n xs) (hk : ∀ g, v.ownBlock = some g → w'.heap[g]? = w.heap[g]?) : w'.ownsRow base e size v n xs := by
  refine ⟨h.1, ?_⟩
  rcases h.2 with hn | ⟨g, cap, cur, hv, hb, hg, r⟩
  · exact Or.inl hn
  · exact Or.inr ⟨g, cap, cur, hv, hb, (hk g (by rw [hv]; rfl)).trans hg, r⟩
structure R3At (w : World) (p : Nat) (b last : Int) (v : Value) (notes : List NoteW) (L : List Bk3) : Prop where
  head : w.heap[p]? = some (.cells #[.int .i64 b, .int .i64 1, .int .i64 last, v] 89)
  row : w.ownsRow 0 108 7 v L.length (flat3 L)
  inv : InvL b last notes L
  b0 : 1000000 ≤ b
  b1 : b ≤ 120000000
  l0 : 0 ≤ last
  l1 : last ≤ 1152921504606846976
  ne : v.ownBlock ≠ some p
  pos : ∀ x, x ∈ notes → 0 ≤ x.at_
def R3Own (p : Nat) (v : Value) (i : Nat) : Prop := i = p ∨ v.ownBlock = some i
theorem R3At.lt {w : World} {p : Nat} {b last : Int} {v : Value} {notes : List NoteW} {L : List Bk3} (h : R3At w p b last v notes L) {i : Nat} (hi : R3Own p v i) : i < w.heap.size := by
  rcases hi with rfl | e
  · exact (Array.getElem?_eq_some_iff.1 h.head).1
  · exact (h.row.lt i e).2
theorem R3At.kept {w w' : World} {p : Nat} {b last : Int} {v : Value} {notes : List NoteW} {L : List Bk3} (h : R3At w p b last v notes L) (hk : ∀ i, R3Own p v i → w'.heap[i]? = w.heap[i]?) : R3At w' p b last v notes L :=
  ⟨(hk p (Or.inl rfl)).trans h.head, rowKept3 h.row (fun g e => hk g (Or.inr e)), h.inv, h.b0, h.b1, h.l0, h.l1, h.ne, h.pos⟩
theorem R3At.below {w w' : World} {p : Nat} {b last : Int} {v : Value} {notes : List NoteW} {L : List Bk3} (h : R3At w p b last v notes L) (hb : Below w.heap.size w w') : R3At w' p b last v notes L := h.kept (fun i hi => hb.block i (h.lt hi))
theorem R3At.cells {w : World} {p : Nat} {b last : Int} {v : Value} {notes : List NoteW} {L : List Bk3} (h : R3At w p b last v notes L) : w.cell? ⟨p, 0, none⟩ = some (.int .i64 b) ∧ w.cell? ⟨p, 1, none⟩ = some (.int .i64 1) ∧ w.cell? ⟨p, 2, none⟩ = some (.int .i64 last) ∧ w.cell? ⟨p, 3, none⟩ = some v := by
  have := h.head
  refine ⟨?_, ?_, ?_, ?_⟩ <;> simp [World.cell?, this]
def win3O (b : Int) : Obj := .cells #[.int .i64 b, .int .i64 1, .int .i64 0, .slice none 0 0] 89
theorem r3_made (w : World) {b : Int} (b0 : 1000000 ≤ b) (b1 : b ≤ 120000000) : R3At (w.alloc (win3O b)) w.heap.size b 0 (.slice none 0 0) [] [] ∧ Below w.heap.size w (w.alloc (win3O b)) := by
  have hn := new_blockS w (win3O b)
  refine ⟨⟨hn, World.ownsRow_nil _ _ _ _, invL_nil _ _, b0, b1, by omega, by omega, by simp [Value.ownBlock], fun x hx => by simp at hx⟩, (Below.refl _ _).alloc (Nat.le_refl _) _⟩
set_option maxHeartbeats 1600000 in
theorem r3new_any (b : Int) (b0 : 1000000 ≤ b) (b1 : b ≤ 120000000) (w : World) : Calls Try.prog 19 #[.int .i64 b, .int .i64 1] w fun e w' => e = .returned (.tuple #[.pointer (some ⟨w.heap.size, 0, none⟩), .int .i64 0]) ∧ w' = w.alloc (win3O b) := by
  have hm : b.tmod 1 = 0 := Int.tmod_one b
  unfold win3O
  go_enter Try.func19, Try.ntmps19
  go_wp2_with (fail)
  go_ret2
  exact ⟨rfl, rfl⟩
set_option maxHeartbeats 1600000 in
theorem r3look_any {w : World} {p : Nat} {b last : Int} {v : Value} {notes : List NoteW} {L : List Bk3} (h : R3At w p b last v notes L) (at_ : Int) : Calls Try.prog 64 #[.pointer (some ⟨p, 0, none⟩), .int .i64 at_] w fun e w' => e = .returned (.int .i64 (lookW last at_)) ∧ w' = w := by
  obtain ⟨c0, c1, c2, c3⟩ := h.cells
  clear h
  by_cases h1 : at_ < 0 ∨ 1152921504606846976 < at_
  · have e1 : lookW last at_ = 2 := by unfold lookW; rw [if_pos h1]
    rw [e1]
    clear e1
    by_cases h2 : at_ < 0
    · clear h1
      go_enter Try.func64, Try.ntmps64
      go_wp2_with (fail)
      go_ret
      exact ⟨rfl, rfl⟩
    · have h3 : 1152921504606846976 < at_ := by omega
      clear h1
      go_enter Try.func64, Try.ntmps64
      go_wp2_with (fail)
      go_ret
      exact ⟨rfl, rfl⟩
  · have h2 : ¬ at_ < 0 := by omega
    have h3 : ¬ 1152921504606846976 < at_ := by omega
    by_cases h4 : at_ < last
    · have e1 : lookW last at_ = 7 := by unfold lookW; rw [if_neg h1, if_pos h4]
      rw [e1]
      clear e1 h1
      go_enter Try.func64, Try.ntmps64
      go_wp2_with (fail)
      go_ret
      exact ⟨rfl, rfl⟩
    · have e1 : lookW last at_ = 0 := by unfold lookW; rw [if_neg h1, if_neg h4]
      rw [e1]
      clear e1 h1
      go_enter Try.func64, Try.ntmps64
      go_wp2_with (fail)
      go_ret
      exact ⟨rfl, rfl⟩
set_option maxHeartbeats 1600000 in
theorem r3begin_any {w : World} {p : Nat} {b last : Int} {v : Value} {notes : List NoteW} {L : List Bk3} (h : R3At w p b last v notes L) (at_ : Int) (a0 : 0 ≤ at_) (a1 : at_ ≤ 1152921504606846976) : Calls Try.prog 67 #[.pointer (some ⟨p, 0, none⟩), .int .i64 at_] w fun e w' => e = .returned (.int .i64 (begB b at_)) ∧ ∃ m, w' = w.drewN m := by
  obtain ⟨c0, c1, c2, c3⟩ := h.cells
  have hb0 := h.b0
  have hb1 := h.b1
  have hq : IntKind.i64.wrap (b.tdiv 1) = b := by rw [Int.tdiv_one]; exact wrap_small _ (by omega) (by omega)
  have hm : at_.tmod b = at_ % b := Int.tmod_eq_emod_of_nonneg a0
  obtain ⟨R, hR⟩ : ∃ R, at_ % b = R := ⟨_, rfl⟩
  have hr0 : 0 ≤ R := by rw [← hR]; exact Int.emod_nonneg _ (by omega)
  have hr1 : R ≤ at_ := by
    have := (beg_facts (b := b) (by omega) a0).1
    unfold begB at this
    omega
  have HE := Lib.hid (show begB b at_ = at_ - R by unfold begB; rw [hR])
  rw [hR] at hm
  rw [HE.out]
  clear h hR
  go_enter Try.func67, Try.ntmps67
  go_wp2_with (fail)
  go_quiet (fail)
  go_wp2_with (fail)
  go_ret
  exact ⟨rfl, _, rfl⟩
end Go.Proofs.Ytlipbkpbflgamaa
