/- Plain: a tree of nodes, by its keys. No program here. -/
import Derived.Test.YtpbbidijnmooaaaTrA
import Derived.Test.YtpbbidijnmooaaaStC
namespace Go.Proofs.Ytpbbidijnmooaaa
open Go.RowKit
set_option linter.unusedVariables false
set_option linter.unusedSimpArgs false

/-- A node: when it was noted last, what is in flight, what was noted. -/
structure NodeM where
  last : Int
  flight : Int
  notes : List NoteW
def NodeM.zero : NodeM := ⟨0, 0, []⟩
abbrev TreeM := List (KeyS × NodeM)
def getM (M : TreeM) (k : KeyS) : Option NodeM := (M.find? (fun p => decide (p.1 = k))).map (·.2)
def keysM (M : TreeM) : List KeyS := M.map (·.1)
def addM (M : TreeM) (k : KeyS) : TreeM := if (getM M k).isSome then M else M ++ [(k, .zero)]
def updM (M : TreeM) (k : KeyS) (f : NodeM → NodeM) : TreeM := M.map (fun p => if p.1 = k then (p.1, f p.2) else p)
def freshM (M : TreeM) (l : List KeyS) : Nat := (l.filter (fun k => !(getM M k).isSome)).length
def flightM (M : TreeM) (k : KeyS) : Int := ((getM M k).map (·.flight)).getD 0
def touchM (M : TreeM) (l : List KeyS) : TreeM := l.foldl addM M
def noteM (M : TreeM) (l : List KeyS) (f : NodeM → NodeM) : TreeM := l.foldl (fun M k => updM (addM M k) k f) M
def doneM (M : TreeM) (l : List KeyS) (f : NodeM → NodeM) : TreeM := l.foldl (fun M k => updM M k f) M
def passF (c : CallS) (n : NodeM) : NodeM := ⟨c.at_, n.flight + 1, n.notes ++ newW c.at_ [passC c.cnt]⟩
def blockF (c : CallS) (n : NodeM) : NodeM := ⟨c.at_, n.flight, n.notes ++ newW c.at_ [blockC c.cnt]⟩
def doneF (c : CallS) (rt : Int) (failed : Bool) (n : NodeM) : NodeM := ⟨c.at_, n.flight - 1, n.notes ++ newW c.at_ [doneC rt failed]⟩
/-- The errors of a call, one behind the other. -/
def noteE (M : TreeM) (last : Int) (c : CallS) (full : Bool) : Int :=
  if namesB c = false then 10
  else if (isT c.at_ && !badN c.cnt) = false then 2
  else if c.at_ < last then 7
  else if 512 - (M.length : Int) < freshM M (keysL c) then 3
  else if (full && (keysL c).any (fun k => decide (4096 ≤ flightM M k))) then 3 else 0
def touchE (M : TreeM) (c : CallS) : Int := if namesB c = false then 10 else if 512 - (M.length : Int) < freshM M (keysL c) then 3 else 0
def doneTE (M : TreeM) (last : Int) (c : CallS) (rt : Int) : Int :=
  if namesB c = false then 10
  else if (isT c.at_ && isT rt) = false then 2
  else if c.at_ < last then 7
  else if (keysL c).any (fun k => decide (flightM M k = 0)) then 4 else 0

theorem nodup_of_mapT {α β : Type} (f : α → β) : ∀ {l : List α}, (l.map f).Nodup → l.Nodup
  | [], _ => List.nodup_nil
  | x :: l, h => by
    obtain ⟨h1, h2⟩ := List.nodup_cons.1 h
    exact List.nodup_cons.2 ⟨fun hm => h1 (List.mem_map.2 ⟨x, hm, rfl⟩), nodup_of_mapT f h2⟩
/-- Of a call's keys, no two are of a kind. -/
theorem keysL_nodup (c : CallS) : (keysL c).Nodup := by
  have h : ((keysL c).map (·.kind)).Nodup := by
    unfold keysL
    cases c.org.toList == [] <;> cases c.inb <;> simp
  exact nodup_of_mapT _ h
theorem getM_nil (k : KeyS) : getM [] k = none := rfl
theorem getM_snoc (M : TreeM) (k x : KeyS) (n : NodeM) : getM (M ++ [(k, n)]) x = (getM M x).or (if k = x then some n else none) := by
  unfold getM
  rw [List.find?_append]
  cases h : M.find? (fun p => decide (p.1 = x)) with
  | some p => simp
  | none =>
    by_cases e : k = x
    · simp [e]
    · simp [e]
theorem getM_mem {M : TreeM} {k : KeyS} {n : NodeM} (h : getM M k = some n) : (k, n) ∈ M := by
  unfold getM at h
  cases hf : M.find? (fun p => decide (p.1 = k)) with
  | none => rw [hf] at h; cases h
  | some p =>
    rw [hf] at h
    have h1 := List.find?_some hf
    simp only [decide_eq_true_eq] at h1
    simp only [Option.map_some, Option.some.injEq] at h
    have h2 := List.mem_of_find?_eq_some hf
    rcases p with ⟨a, b⟩
    simp only at h1 h
    subst h1; subst h
    exact h2
theorem getM_none {M : TreeM} {k : KeyS} : getM M k = none ↔ k ∉ keysM M := by
  unfold getM keysM
  rw [Option.map_eq_none_iff, List.find?_eq_none]
  constructor
  · intro h hm
    obtain ⟨p, hp, rfl⟩ := List.mem_map.1 hm
    have := h p hp
    simp at this
  · intro h p hp
    simp only [decide_eq_true_eq]
    intro e
    exact h (List.mem_map.2 ⟨p, hp, e⟩)
theorem getM_some {M : TreeM} (hn : (keysM M).Nodup) {k : KeyS} {n : NodeM} (h : (k, n) ∈ M) : getM M k = some n := by
  unfold getM
  cases hf : M.find? (fun p => decide (p.1 = k)) with
  | none =>
    rw [List.find?_eq_none] at hf
    have := hf _ h
    simp at this
  | some p =>
    have h1 := List.find?_some hf
    simp only [decide_eq_true_eq] at h1
    have h2 := List.mem_of_find?_eq_some hf
    have : ∀ {L : TreeM}, (keysM L).Nodup → ∀ {x y : KeyS × NodeM}, x ∈ L → y ∈ L → x.1 = y.1 → x = y := by
      intro L
      induction L with
      | nil => intro _ x y hx; simp at hx
      | cons z L ih =>
        intro hn x y hx hy e
        obtain ⟨q1, q2⟩ := List.nodup_cons.1 hn
        rcases List.mem_cons.1 hx with e1 | hx'
        · rcases List.mem_cons.1 hy with e2 | hy'
          · exact e1.trans e2.symm
          · exact absurd (show z.1 ∈ keysM L from List.mem_map.2 ⟨y, hy', by rw [← e, e1]⟩) q1
        · rcases List.mem_cons.1 hy with e2 | hy'
          · exact absurd (show z.1 ∈ keysM L from List.mem_map.2 ⟨x, hx', by rw [e, e2]⟩) q1
          · exact ih q2 hx' hy' e
    have := this hn h2 h h1
    subst this
    rfl
theorem keysM_add (M : TreeM) (k : KeyS) : keysM (addM M k) = if k ∈ keysM M then keysM M else keysM M ++ [k] := by
  unfold addM
  cases h : getM M k with
  | none => rw [if_neg (by simp), if_neg (getM_none.1 h)]; simp [keysM]
  | some n =>
    rw [if_pos (show (some n).isSome = true from rfl), if_pos]
    apply Classical.byContradiction
    intro hm
    rw [getM_none.2 hm] at h
    cases h
theorem keysM_upd (M : TreeM) (k : KeyS) (f : NodeM → NodeM) : keysM (updM M k f) = keysM M := by
  unfold keysM updM
  rw [List.map_map]
  apply List.map_congr_left
  intro p _
  show (if p.1 = k then (p.1, f p.2) else p).1 = p.1
  split <;> rfl
theorem add_nodup {M : TreeM} (h : (keysM M).Nodup) (k : KeyS) : (keysM (addM M k)).Nodup := by
  rw [keysM_add]
  split
  · exact h
  · rename_i hm
    exact List.nodup_append.2 ⟨h, by simp, by intro a ha b hb; simp at hb; subst hb; exact fun e => hm (e ▸ ha)⟩
theorem upd_nodup {M : TreeM} (h : (keysM M).Nodup) (k : KeyS) (f : NodeM → NodeM) : (keysM (updM M k f)).Nodup := by rw [keysM_upd]; exact h
theorem getM_upd (M : TreeM) (k x : KeyS) (f : NodeM → NodeM) : getM (updM M k f) x = if x = k then (getM M x).map f else getM M x := by
  unfold getM updM
  induction M with
  | nil => simp
  | cons p M ih =>
    simp only [List.map_cons, List.find?_cons]
    by_cases e : p.1 = k
    · rw [if_pos e]
      by_cases e2 : p.1 = x
      · have : x = k := e2.symm.trans e
        simp [e2, this]
      · simp only [decide_eq_false e2]
        exact ih
    · rw [if_neg e]
      by_cases e2 : p.1 = x
      · have : x ≠ k := fun h => e (e2.trans h)
        simp [e2, this]
      · simp only [decide_eq_false e2]
        exact ih
theorem getM_add (M : TreeM) (k x : KeyS) : getM (addM M k) x = if x = k then some ((getM M k).getD .zero) else getM M x := by
  unfold addM
  cases h : getM M k with
  | none =>
    rw [if_neg (by simp), getM_snoc]
    by_cases e : x = k
    · subst e; rw [h]; simp
    · rw [if_neg e, if_neg (fun h => e h.symm)]; cases getM M x <;> rfl
  | some n =>
    rw [if_pos (show (some n).isSome = true from rfl)]
    by_cases e : x = k
    · subst e; rw [h]; simp
    · rw [if_neg e]
end Go.Proofs.Ytpbbidijnmooaaa
