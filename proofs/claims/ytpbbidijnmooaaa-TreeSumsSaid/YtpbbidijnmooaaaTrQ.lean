/- Plain: a call's keys, one behind the other. No program here. -/
import Derived.Test.YtpbbidijnmooaaaTrP
namespace Go.Proofs.Ytpbbidijnmooaaa
open Go.RowKit
set_option linter.unusedVariables false
set_option linter.unusedSimpArgs false

theorem noteM_snoc (M : TreeM) (l : List KeyS) (q : KeyS) (f : NodeM → NodeM) : noteM M (l ++ [q]) f = updM (addM (noteM M l f) q) q f := by
  unfold noteM; rw [List.foldl_append]; rfl
theorem touchM_snoc (M : TreeM) (l : List KeyS) (q : KeyS) : touchM M (l ++ [q]) = addM (touchM M l) q := by
  unfold touchM; rw [List.foldl_append]; rfl
theorem doneM_snoc (M : TreeM) (l : List KeyS) (q : KeyS) (f : NodeM → NodeM) : doneM M (l ++ [q]) f = updM (doneM M l f) q f := by
  unfold doneM; rw [List.foldl_append]; rfl
theorem freshM_snoc (M : TreeM) (l : List KeyS) (q : KeyS) : freshM M (l ++ [q]) = freshM M l + (if (getM M q).isSome then 0 else 1) := by
  unfold freshM
  rw [List.filter_append, List.length_append]
  cases h : getM M q with
  | none => rw [show [q].filter (fun k => !(getM M k).isSome) = [q] from by rw [List.filter_cons, if_pos (by rw [h]; rfl), List.filter_nil]]; rfl
  | some n => rw [show [q].filter (fun k => !(getM M k).isSome) = [] from by rw [List.filter_cons, if_neg (by rw [h]; simp), List.filter_nil]]; rfl
theorem keys_len (M : TreeM) : (keysM M).length = M.length := by simp [keysM]
theorem isSome_mem {M : TreeM} {q : KeyS} : (getM M q).isSome = true ↔ q ∈ keysM M := by
  cases h : getM M q with
  | none => simp [getM_none.1 h]
  | some n =>
    simp only [Option.isSome_some, true_iff]
    exact List.mem_map.2 ⟨_, getM_mem h, rfl⟩
theorem touch_len (M : TreeM) {l : List KeyS} (hn : l.Nodup) : ∀ {j : Nat}, j ≤ l.length → (touchM M (l.take j)).length = M.length + freshM M (l.take j) := by
  intro j
  induction j with
  | zero => intro _; simp [touchM, freshM]
  | succ j ih =>
    intro hj
    have hq : l[j]? = some (l[j]'(by omega)) := List.getElem?_eq_getElem (by omega)
    have htk : l.take (j + 1) = l.take j ++ [l[j]'(by omega)] := List.take_succ_eq_append_getElem (by omega)
    have hnot : l[j]'(by omega) ∉ l.take j := by
      intro hm
      obtain ⟨i, hi, hiq⟩ := List.mem_take_iff_getElem.1 hm
      have := (List.getElem_inj hn).1 hiq
      omega
    rw [htk, touchM_snoc, freshM_snoc, ← keys_len, keysM_add]
    have ih := ih (by omega)
    by_cases hm : l[j]'(by omega) ∈ keysM M
    · rw [if_pos (mem_keys_touch.2 (Or.inl hm)), if_pos (isSome_mem.2 hm), keys_len]; omega
    · rw [if_neg (fun h => by rcases mem_keys_touch.1 h with h1 | h1; exact hm h1; exact hnot h1), if_neg (fun h => hm (isSome_mem.1 h)), List.length_append, List.length_singleton, keys_len]; omega
theorem note_len (M : TreeM) {l : List KeyS} (hn : l.Nodup) (f : NodeM → NodeM) {j : Nat} (hj : j ≤ l.length) : (noteM M (l.take j) f).length = M.length + freshM M (l.take j) := by
  rw [← keys_len, keys_note, keys_len, touch_len M hn hj]
theorem fresh_take_le (M : TreeM) (l : List KeyS) (j : Nat) : freshM M (l.take j) ≤ freshM M l := by
  unfold freshM
  exact ((List.take_sublist j l).filter _).length_le
theorem getM_note_other {f : NodeM → NodeM} {q : KeyS} : ∀ {l : List KeyS} {M : TreeM}, q ∉ l → getM (noteM M l f) q = getM M q
  | [], M, _ => rfl
  | k :: l, M, h => by
    rw [List.mem_cons, not_or] at h
    rw [noteM_cons, getM_note_other h.2, getM_upd, if_neg h.1, getM_add, if_neg h.1]
theorem getM_touch_other {q : KeyS} : ∀ {l : List KeyS} {M : TreeM}, q ∉ l → getM (touchM M l) q = getM M q
  | [], M, _ => rfl
  | k :: l, M, h => by
    rw [List.mem_cons, not_or] at h
    rw [touchM_cons, getM_touch_other h.2, getM_add, if_neg h.1]
theorem getM_done_other {f : NodeM → NodeM} {q : KeyS} : ∀ {l : List KeyS} {M : TreeM}, q ∉ l → getM (doneM M l f) q = getM M q
  | [], M, _ => rfl
  | k :: l, M, h => by
    rw [List.mem_cons, not_or] at h
    rw [doneM_cons, getM_done_other h.2, getM_upd, if_neg h.1]
theorem not_mem_take {l : List KeyS} (hn : l.Nodup) {j : Nat} {q : KeyS} (hq : l[j]? = some q) : q ∉ l.take j := by
  intro hm
  obtain ⟨i, hi, hiq⟩ := List.mem_take_iff_getElem.1 hm
  obtain ⟨hj, hjq⟩ := List.getElem?_eq_some_iff.1 hq
  have := (List.getElem_inj hn).1 (hiq.trans hjq.symm)
  omega
/-- There is room for what is missing. -/
theorem room_of {M A : TreeM} {l : List KeyS} (hn : l.Nodup) {j : Nat} {q : KeyS} (hq : l[j]? = some q) (hA : A.length = M.length + freshM M (l.take j)) (hAq : getM A q = none) (hM : getM A q = getM M q) (hf : (freshM M l : Int) ≤ 512 - M.length) : A.length < 512 := by
  have h1 := fresh_take_le M l (j + 1)
  rw [show l.take (j + 1) = l.take j ++ [q] by obtain ⟨hj, rfl⟩ := List.getElem?_eq_some_iff.1 hq; exact List.take_succ_eq_append_getElem hj, freshM_snoc, if_neg (by rw [← hM, hAq]; simp)] at h1
  omega
end Go.Proofs.Ytpbbidijnmooaaa
