/- lru, in plain lists: pairs of keys and values. -/
import Derived.Test.YtglielpiojnnhaaLruD
namespace Go.Proofs.Ytglielpiojnnhaa
open Go.RowKit
set_option linter.unusedVariables false
set_option linter.unusedSimpArgs false

def hasA (A : List (ByteArray × Int)) (s : ByteArray) : Bool := A.any (fun p => decide (p.1 = s))
def delA (A : List (ByteArray × Int)) (s : ByteArray) : List (ByteArray × Int) := A.filter (fun p => !decide (p.1 = s))
def valA (A : List (ByteArray × Int)) (s : ByteArray) : Int := ((A.find? (fun p => decide (p.1 = s))).map (·.2)).getD 0
def dropA (A : List (ByteArray × Int)) (ss : List ByteArray) : List (ByteArray × Int) × Nat := ss.foldl (fun q s => if hasA q.1 s then (delA q.1 s, q.2 + 1) else q) (A, 0)
def getA (A : List (ByteArray × Int)) (s : ByteArray) : List (ByteArray × Int) := if hasA A s then delA A s ++ [(s, valA A s)] else A
def putA (most : Nat) (A : List (ByteArray × Int)) (s : ByteArray) (v : Int) : List (ByteArray × Int) := if hasA A s then delA A s ++ [(s, v)] else if A.length = most then A.tail ++ [(s, v)] else A ++ [(s, v)]
def goneA (most : Nat) (A : List (ByteArray × Int)) (s : ByteArray) : ByteArray := if hasA A s then ⟨#[]⟩ else if A.length = most then ((A.head?).map (·.1)).getD ⟨#[]⟩ else ⟨#[]⟩
def wentA (most : Nat) (A : List (ByteArray × Int)) (s : ByteArray) : Bool := !hasA A s && decide (A.length = most)

def pr (L : List LNode) : List (ByteArray × Int) := L.map (fun x => (x.k, x.v))

theorem pr_len (L : List LNode) : (pr L).length = L.length := by simp [pr]
theorem find_pr (s : ByteArray) : ∀ L : List LNode, (pr L).find? (fun p => decide (p.1 = s)) = (look L s).map (fun x => (x.k, x.v))
  | [] => rfl
  | x :: L => by
    have ih := find_pr s L
    simp only [pr, look, List.map_cons, List.find?_cons] at ih ⊢
    cases h : decide (x.k = s)
    · exact ih
    · rfl
theorem has_pr (L : List LNode) (s : ByteArray) : lhas L s = hasA (pr L) s := by
  have h := find_pr s L
  unfold lhas hasA
  cases hl : look L s with
  | none =>
    rw [hl, Option.map_none, List.find?_eq_none] at h
    symm
    rw [Option.isSome_none, List.any_eq_false]
    exact h
  | some x =>
    rw [hl] at h
    symm
    rw [Option.isSome_some, List.any_eq_true]
    exact ⟨(x.k, x.v), List.mem_of_find?_eq_some h, by have := List.find?_some (p := fun p : ByteArray × Int => decide (p.1 = s)) h; exact this⟩
theorem val_pr (L : List LNode) (s : ByteArray) : lval L s = valA (pr L) s := by
  unfold lval valA
  rw [find_pr]
  cases look L s <;> rfl
theorem del_pr {A C : List LNode} {x : LNode} (hn : ((A ++ x :: C).map (·.k)).Nodup) : pr (A ++ C) = delA (pr (A ++ x :: C)) x.k := by
  have key : ∀ B : List LNode, (∀ y, y ∈ B → y.k ≠ x.k) → (pr B).filter (fun p => !decide (p.1 = x.k)) = pr B := by
    intro B hB
    rw [List.filter_eq_self]
    intro p hp
    obtain ⟨y, hy, rfl⟩ := List.mem_map.1 hp
    simp [hB y hy]
  simp only [List.map_append, List.map_cons, List.nodup_append, List.nodup_cons] at hn
  obtain ⟨_, ⟨h1, _⟩, h2⟩ := hn
  have ha := key A (fun y hy e => h2 y.k (List.mem_map.2 ⟨y, hy, rfl⟩) x.k (by simp) e)
  have hc := key C (fun y hy e => h1 (e ▸ List.mem_map.2 ⟨y, hy, rfl⟩))
  unfold delA
  simp only [pr, List.map_append, List.map_cons, List.filter_append, List.filter_cons] at ha hc ⊢
  rw [ha, hc]
  simp
theorem dropA_snoc (A : List (ByteArray × Int)) (ss : List ByteArray) (s : ByteArray) : dropA A (ss ++ [s]) = if hasA (dropA A ss).1 s then (delA (dropA A ss).1 s, (dropA A ss).2 + 1) else dropA A ss := by
  unfold dropA
  rw [List.foldl_append]
  rfl
theorem dropA_le (A : List (ByteArray × Int)) : ∀ ss : List ByteArray, (dropA A ss).2 ≤ ss.length := by
  intro ss
  have key : ∀ (ss : List ByteArray) (q : List (ByteArray × Int) × Nat), (ss.foldl (fun q s => if hasA q.1 s then (delA q.1 s, q.2 + 1) else q) q).2 ≤ q.2 + ss.length := by
    intro ss
    induction ss with
    | nil => intro q; simp
    | cons s ss ih =>
      intro q
      simp only [List.foldl_cons, List.length_cons]
      have := ih (if hasA q.1 s then (delA q.1 s, q.2 + 1) else q)
      refine Nat.le_trans this ?_
      split <;> simp <;> omega
  simpa [dropA] using key ss (A, 0)

/-- One struck out of the map. -/
theorem LBody.del {w : World} {m mp most : Nat} {A C : List LNode} {x : LNode} (h : LBody w m mp most (A ++ x :: C)) :
    ∃ w', (∀ ty, (Builtin.delete_ #[41, 9] ty #[.map (some mp), .string x.k]).run Try.prog w = .ok (.tuple #[]) w') ∧ LBody w' m mp most (A ++ C) ∧ w.grownBy w' (some mp) := by
  obtain ⟨f, h1, h2⟩ := h.map
  have hx : x ∈ A ++ x :: C := by simp
  obtain ⟨w', hrun, hmo, hg⟩ := h1.delete (h.small x hx)
  have sub : ∀ y, y ∈ A ++ C → y ∈ A ++ x :: C := by
    intro y hy
    simp only [List.mem_append, List.mem_cons] at hy ⊢
    rcases hy with hy | hy
    · exact Or.inl hy
    · exact Or.inr (Or.inr hy)
  have hk := h.keys
  have ne : ∀ y, y ∈ A ++ C → y.k ≠ x.k := by
    intro y hy e
    simp only [List.map_append, List.map_cons, List.nodup_append, List.nodup_cons] at hk
    obtain ⟨_, ⟨h1, _⟩, h2⟩ := hk
    rcases List.mem_append.1 hy with hy | hy
    · exact h2 y.k (List.mem_map.2 ⟨y, hy, rfl⟩) x.k (by simp) e
    · exact h1 (e ▸ List.mem_map.2 ⟨y, hy, rfl⟩)
  have hfx : f x.k = some x.b := (h2 _ _).2 ⟨x, hx, rfl, rfl⟩
  have cell : ∀ {p : Addr} {v : Value}, w.cell? p = some v → w'.cell? p = some v := fun {p v} hp => (World.cell?_of_block (w := w) (hg.block p.block (World.block_lt_of_cell? w _ hp) (fun e => map_not_cells h1 hp (by injection e)))).trans hp
  refine ⟨w', hrun, ⟨cell h.c0, cell h.c1, fun y hy => cell (h.key y (sub y hy)), fun y hy => cell (h.val y (sub y hy)), ⟨fun t => if t = x.k then none else f t, ?_, fun s b => ?_⟩, ?_, fun y hy => h.small y (sub y hy)⟩, hg⟩
  · rw [hfx] at hmo
    simpa using hmo
  · dsimp only
    by_cases e : s = x.k
    · rw [if_pos e]
      constructor
      · intro h; cases h
      · rintro ⟨y, hy, rfl, _⟩
        exact absurd e (ne y hy)
    · rw [if_neg e, h2]
      constructor
      · rintro ⟨y, hy, rfl, rfl⟩
        refine ⟨y, ?_, rfl, rfl⟩
        simp only [List.mem_append, List.mem_cons] at hy ⊢
        rcases hy with hy | hy | hy
        · exact Or.inl hy
        · exact absurd (hy ▸ rfl) e
        · exact Or.inr hy
      · rintro ⟨y, hy, r⟩
        exact ⟨y, sub y hy, r⟩
  · exact hk.sublist (List.Sublist.map _ ((List.Sublist.refl A).append (List.sublist_cons_self x C)))

/-- A new one laid into the map. -/
theorem LBody.add {w : World} {m mp most : Nat} {L : List LNode} (h : LBody w m mp most L) (hn : L.length < maxLen) {c : Nat} {s : ByteArray} {v : Int} (hs : s.size ≤ maxLen) (hl : look L s = none)
    (hk : w.cell? ⟨c, 0, none⟩ = some (.string s)) (hv : w.cell? ⟨c, 1, none⟩ = some (.int .i64 v)) :
    ∃ w', (Instr.mapUpdate 41 (.map (some mp)) (.string s) (.pointer (some ⟨c, 0, none⟩))).run Try.prog w = .ok () w' ∧ LBody w' m mp most (L ++ [⟨c, s, v⟩]) ∧ w.grownBy w' (some mp) := by
  obtain ⟨f, h1, h2⟩ := h.map
  obtain ⟨w', hrun, hmo, hg⟩ := h1.update hn hs c
  have hf : f s = none := by
    cases hf : f s with
    | none => rfl
    | some b =>
      obtain ⟨x, hx, e, _⟩ := (h2 s b).1 hf
      exact absurd e (look_none' hl x hx)
  have cell : ∀ {p : Addr} {v : Value}, w.cell? p = some v → w'.cell? p = some v := fun {p v} hp => (World.cell?_of_block (w := w) (hg.block p.block (World.block_lt_of_cell? w _ hp) (fun e => map_not_cells h1 hp (by injection e)))).trans hp
  have mem : ∀ y, y ∈ L ++ [⟨c, s, v⟩] → y ∈ L ∨ y = ⟨c, s, v⟩ := by intro y hy; simpa using hy
  refine ⟨w', hrun, ⟨cell h.c0, cell h.c1, fun y hy => ?_, fun y hy => ?_, ⟨fun t => if t = s then some c else f t, ?_, fun t b => ?_⟩, ?_, fun y hy => ?_⟩, hg⟩
  · rcases mem y hy with hy | rfl
    · exact cell (h.key y hy)
    · exact cell hk
  · rcases mem y hy with hy | rfl
    · exact cell (h.val y hy)
    · exact cell hv
  · rw [hf] at hmo
    simpa using hmo
  · dsimp only
    by_cases e : t = s
    · rw [if_pos e]
      constructor
      · intro h; cases h
        exact ⟨⟨c, s, v⟩, by simp, e.symm, rfl⟩
      · rintro ⟨y, hy, rfl, rfl⟩
        rcases mem y hy with hy | rfl
        · exact absurd e (look_none' hl y hy)
        · rfl
    · rw [if_neg e, h2]
      constructor
      · rintro ⟨y, hy, r⟩
        exact ⟨y, by simp [hy], r⟩
      · rintro ⟨y, hy, rfl, rfl⟩
        rcases mem y hy with hy | rfl
        · exact ⟨y, hy, rfl, rfl⟩
        · exact absurd rfl e
  · rw [List.map_append, List.nodup_append]
    refine ⟨h.keys, by simp, ?_⟩
    intro a ha b hb e
    obtain ⟨y, hy, rfl⟩ := List.mem_map.1 ha
    simp at hb
    exact look_none' hl y hy (e.trans hb)
  · rcases mem y hy with hy | rfl
    · exact h.small y hy
    · exact hs
end Go.Proofs.Ytglielpiojnnhaa
