/- lru: the contracts of New, Peek and Len. -/
import Derived.Test.YtglielpiojnnhaaLruC
namespace Go.Proofs.Ytglielpiojnnhaa
open Go.RowKit
set_option linter.unusedVariables false
set_option linter.unusedSimpArgs false

/-- The link of a key. -/
def look (L : List LNode) (s : ByteArray) : Option LNode := L.find? (fun x => decide (x.k = s))
theorem look_none {L : List LNode} {s : ByteArray} (h : ∀ x, x ∈ L → x.k ≠ s) : look L s = none := by
  rw [look, List.find?_eq_none]
  intro x hx
  simp [h x hx]
theorem look_none' {L : List LNode} {s : ByteArray} (h : look L s = none) : ∀ x, x ∈ L → x.k ≠ s := by
  rw [look, List.find?_eq_none] at h
  intro x hx e
  exact h x hx (by simp [e])
theorem look_some {L : List LNode} {s : ByteArray} {x : LNode} (hn : (L.map (·.k)).Nodup) (hx : x ∈ L) (e : x.k = s) : look L s = some x := by
  cases h : look L s with
  | none => exact absurd e (look_none' h x hx)
  | some y =>
    have h1 : y ∈ L := List.mem_of_find?_eq_some h
    have h2 := List.find?_some h
    simp only [decide_eq_true_eq] at h2
    rw [nodup_map_inj (f := fun x : LNode => x.k) hn h1 hx (h2.trans e.symm)]
theorem look_in {L : List LNode} {s : ByteArray} {x : LNode} (h : look L s = some x) : x ∈ L ∧ x.k = s := by
  have h2 := List.find?_some h
  simp only [decide_eq_true_eq] at h2
  exact ⟨List.mem_of_find?_eq_some h, h2⟩

/-- What the map's own look-up gives. -/
theorem LBody.lookup {w : World} {m mp most : Nat} {L : List LNode} (h : LBody w m mp most L) {s : ByteArray} (hs : s.size ≤ maxLen) :
    (Instr.lookup 41 (.map (some mp)) (.string s) false).run Try.prog w = .ok (ptrV ((look L s).map (·.b))) w := by
  obtain ⟨f, h1, h2⟩ := h.map
  rw [h1.lookup hs]
  congr 2
  cases hl : look L s with
  | none =>
    cases hf : f s with
    | none => rfl
    | some b =>
      obtain ⟨x, hx, e, _⟩ := (h2 s b).1 hf
      exact absurd e (look_none' hl x hx)
  | some x =>
    obtain ⟨hx, e⟩ := look_in hl
    exact (h2 s x.b).2 ⟨x, hx, e, rfl⟩

theorem LBody.len {w : World} {m mp most : Nat} {L : List LNode} (h : LBody w m mp most L) (ty : TypeId) :
    (Builtin.len_ #[41] ty #[.map (some mp)]).run Try.prog w = .ok (.int .i64 L.length) w := by
  obtain ⟨f, h1, h2⟩ := h.map
  exact h1.len ty

def lval (L : List LNode) (s : ByteArray) : Int := ((look L s).map (·.v)).getD 0
def lhas (L : List LNode) (s : ByteArray) : Bool := (look L s).isSome

set_option maxHeartbeats 1600000 in
theorem peek_nil (s : ByteArray) (w : World) : Calls Try.prog 6 #[.pointer none, .string s] w fun e w' => e = .returned (.tuple #[.int .i64 0, .bool false]) ∧ w' = w := by
  go_enter Try.func6, Try.ntmps6
  go_wp2_with (fail)
  go_ret2
  exact ⟨rfl, rfl⟩

set_option maxHeartbeats 1600000 in
theorem peek_any {w : World} {m mp most : Nat} {L : List LNode} (h : LBody w m mp most L) {s : ByteArray} (hs : s.size ≤ maxLen) :
    Calls Try.prog 6 #[.pointer (some ⟨m, 0, none⟩), .string s] w fun e w' => e = .returned (.tuple #[.int .i64 (lval L s), .bool (lhas L s)]) ∧ w' = w := by
  have hl := h.lookup hs
  have c1 := h.c1
  unfold lval lhas
  cases hk : look L s with
  | none =>
    rw [hk] at hl
    simp only [Option.map_none, ptrV] at hl
    clear hk h
    go_enter Try.func6, Try.ntmps6
    go_wp2_with (fail)
    go_ret2
    exact ⟨rfl, rfl⟩
  | some x =>
    rw [hk] at hl
    simp only [Option.map_some, ptrV] at hl
    have hv := h.val x (look_in hk).1
    clear hk h
    go_enter Try.func6, Try.ntmps6
    go_wp2_with (fail)
    go_ret2
    exact ⟨rfl, rfl⟩

set_option maxHeartbeats 1600000 in
theorem llen_any {w : World} {m mp most : Nat} {L : List LNode} (h : LBody w m mp most L) :
    Calls Try.prog 11 #[.pointer (some ⟨m, 0, none⟩)] w fun e w' => e = .returned (.int .i64 L.length) ∧ w' = w := by
  have hl := h.len
  have c1 := h.c1
  clear h
  go_enter Try.func11, Try.ntmps11
  go_wp2_with (fail)
  go_ret
  exact ⟨rfl, rfl⟩
end Go.Proofs.Ytglielpiojnnhaa
