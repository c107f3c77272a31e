/- lru: Get and Put. -/
import Derived.Test.YtglielpiojnnhaaLruF
namespace Go.Proofs.Ytglielpiojnnhaa
open Go.RowKit
set_option linter.unusedVariables false
set_option linter.unusedSimpArgs false

theorem hasA_no {L : List LNode} {s : ByteArray} (h : look L s = none) : hasA (pr L) s = false ∧ valA (pr L) s = 0 := by
  rw [← has_pr, ← val_pr, lhas, lval, h]; exact ⟨rfl, rfl⟩
theorem hasA_yes {L : List LNode} {s : ByteArray} {x : LNode} (h : look L s = some x) : hasA (pr L) s = true ∧ valA (pr L) s = x.v := by
  rw [← has_pr, ← val_pr, lhas, lval, h]; exact ⟨rfl, rfl⟩
theorem perm_move {A C : List LNode} {x : LNode} : (A ++ C ++ [x]).Perm (A ++ x :: C) := by
  rw [List.append_assoc]
  exact List.Perm.append_left A (List.perm_append_singleton x C)
theorem nodup_out {m : Nat} {A C : List LNode} {x : LNode} (h : (m :: (A ++ x :: C).map (·.b)).Nodup) : x.b ∉ m :: (A ++ C).map (·.b) := by
  simp only [List.map_append, List.map_cons, List.nodup_cons, List.mem_append, List.mem_cons, List.nodup_append] at h ⊢
  obtain ⟨h0, _, ⟨h1, _⟩, h2⟩ := h
  rintro (e | h | h)
  · exact h0 (Or.inr (Or.inl e.symm))
  · exact h2 _ h _ (by simp) rfl
  · exact h1 h

/-- The end of Get, and of Put at a key that is there. -/
theorem lru_moved {w1 w2 w3 : World} {m mp most : Nat} {A C : List LNode} {x : LNode} (hcap : (A ++ x :: C).length ≤ most) (hbig : 1 ≤ most ∧ most ≤ 4096) (hr : Ring w3 m ((A ++ C).map (·.b) ++ [x.b])) (hb : LBody w3 m mp most (A ++ x :: C)) :
    Lru w3 m mp most (A ++ C ++ [x]) :=
  ⟨by simpa using hr, hb.perm perm_move, by simp at hcap ⊢; omega, hbig⟩

theorem moved_own {m mp : Nat} {A C : List LNode} {x y : LNode} (hxy : y.b = x.b) {b : Nat} (h : Lown m mp (A ++ C ++ [y]) b) : Lown m mp (A ++ x :: C) b := by
  rcases h with h | h | h
  · exact Or.inl h
  · exact Or.inr (Or.inl h)
  · refine Or.inr (Or.inr ?_)
    simp only [List.map_append, List.map_cons, List.map_nil, List.mem_append, List.mem_cons, List.not_mem_nil, or_false] at h ⊢
    rcases h with (h | h) | h
    · exact Or.inl h
    · exact Or.inr (Or.inr h)
    · exact Or.inr (Or.inl (h.trans hxy))

theorem own_ring {m mp : Nat} {L : List LNode} {i : Nat} (h : i = m ∨ i ∈ L.map (·.b)) : Lown m mp L i := by
  rcases h with h | h
  · exact Or.inl h
  · exact Or.inr (Or.inr h)

set_option maxHeartbeats 6400000 in
set_option maxRecDepth 100000 in
theorem lget_any {w : World} {m mp most : Nat} {L : List LNode} (h : Lru w m mp most L) {s : ByteArray} (hs : s.size ≤ maxLen) :
    Calls Try.prog 9 #[.pointer (some ⟨m, 0, none⟩), .string s] w fun e w' => ∃ L', e = .returned (.tuple #[.int .i64 (valA (pr L) s), .bool (hasA (pr L) s)]) ∧ Lru w' m mp most L' ∧ pr L' = getA (pr L) s ∧ Off (Lown m mp L) w w' ∧ (∀ b, Lown m mp L' b → Lown m mp L b) := by
  have HL := Lib.hid h
  have HS := Lib.hid hs
  clear h hs
  cases hlk : look L s with
  | none =>
    obtain ⟨n1, n2⟩ := hasA_no hlk
    have hp := peek_any HL.out.body HS.out
    rw [has_pr, val_pr, n1, n2] at hp
    have HP := Lib.hid hp
    have hg : getA (pr L) s = pr L := by simp [getA, n1]
    rw [n1, n2, hg]
    clear hp n1 n2 hlk hg
    go_enter Try.func9, Try.ntmps9
    go_wp2_with (fail)
    refine HP.out.mono ?_
    rintro e w1 ⟨rfl, rfl⟩
    go_wp2_with (fail)
    go_ret2
    exact ⟨L, rfl, HL.out, rfl, Off.refl _ _, fun _ h => h⟩
  | some x =>
    obtain ⟨n1, n2⟩ := hasA_yes hlk
    have hp := peek_any HL.out.body HS.out
    rw [has_pr, val_pr, n1, n2] at hp
    have HP := Lib.hid hp
    have hlook := HL.out.body.lookup HS.out
    rw [hlk] at hlook
    simp only [Option.map_some, ptrV] at hlook
    obtain ⟨hx, rfl⟩ := look_in hlk
    have hg : getA (pr L) x.k = delA (pr L) x.k ++ [(x.k, x.v)] := by simp [getA, n1, n2]
    obtain ⟨A, C, rfl⟩ := split_at hx
    rw [n1, n2, hg, ← del_pr HL.out.body.keys]
    have c1 := HL.out.body.c1
    clear hp n1 n2 hlk hg hx
    go_enter Try.func9, Try.ntmps9
    go_wp2_with (fail)
    refine HP.out.mono ?_
    rintro e w1 ⟨rfl, rfl⟩
    go_wp2_with (fail)
    refine (lout_any _ m mp most A C (A ++ x :: C) x HL.out.ring HL.out.body).mono ?_
    rintro e w2 ⟨rfl, hr2, hb2, ho2, f2, k2, k3⟩
    have H2 := Lib.hid (And.intro hr2 (And.intro hb2 (And.intro ho2 (And.intro f2 (And.intro k2 k3)))))
    clear hr2 hb2 ho2 f2 k2 k3 hlook c1
    go_wp2_with (fail)
    refine (ltouch_any _ m mp most x.b ((A ++ C).map (·.b)) (A ++ x :: C) H2.out.1 H2.out.2.1 (nodup_out HL.out.ring.nodup) H2.out.2.2.2.1 H2.out.2.2.2.2.1 H2.out.2.2.2.2.2).mono ?_
    rintro e w3 ⟨rfl, hr3, hb3, ho3⟩
    have H3 := Lib.hid (And.intro hr3 (And.intro hb3 ho3))
    clear hr3 hb3 ho3
    go_wp2_with (fail)
    go_ret2
    refine ⟨A ++ C ++ [x], rfl, lru_moved (w1 := w2) (w2 := w2) HL.out.cap HL.out.big H3.out.1 H3.out.2.1, by simp [pr], ?_, fun b hb => moved_own rfl hb⟩
    refine (H2.out.2.2.1.mono (fun i _ hi => own_ring hi)).trans H3.out.2.2 ?_
    intro i _ hi
    refine own_ring ?_
    simp only [List.map_append, List.map_cons, List.mem_append, List.mem_cons] at hi ⊢
    rcases hi with h | (h | h) | h
    · exact Or.inl h
    · exact Or.inr (Or.inl h)
    · exact Or.inr (Or.inr (Or.inr h))
    · exact Or.inr (Or.inr (Or.inl h))
end Go.Proofs.Ytglielpiojnnhaa
