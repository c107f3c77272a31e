/- lru: New, Get, Put. -/
import Derived.Test.YtglielpiojnnhaaLruE
namespace Go.Proofs.Ytglielpiojnnhaa
open Go.RowKit
set_option linter.unusedVariables false
set_option linter.unusedSimpArgs false

theorem lru_empty {W : World} {m mp : Nat} {most : Int} {x y : Value} {t : TypeId} (h1 : 1 ≤ most) (h2 : most ≤ 4096) (hz : W.heap[m]? = some (.cells #[.int .i64 most, .map (some mp), x, y, .pointer (some ⟨m, 2, none⟩), .pointer (some ⟨m, 2, none⟩)] t)) (hm : MapOf W mp (fun _ => none) 0) :
    Lru W m mp most.toNat [] := by
  have hn : (most.toNat : Int) = most := by omega
  refine ⟨⟨by simp, fun j hj => ?_, fun j hj => ?_, fun b hb o => ?_⟩, ⟨?_, ?_, by simp, by simp, ⟨fun _ => none, hm, by simp⟩, by simp, by simp⟩, by simp, by omega⟩
  · simp only [List.map_nil, List.length_nil, Nat.le_zero] at hj; subst hj
    simp only [rb, ro, rp, World.cell?, hz]
    rfl
  · simp only [List.map_nil, List.length_nil, Nat.le_zero] at hj; subst hj
    have e1 : rb m (List.map (fun x : LNode => x.b) []) (0 + 1) = m := rfl
    have e2 : ro (List.map (fun x : LNode => x.b) []) (0 + 1) = 2 := rfl
    rw [e1, e2]
    simp only [rb, ro, rp, World.cell?, hz]
    rfl
  · simp only [List.map_nil, List.mem_singleton] at hb; subst hb
    simp only [World.frozen?, hz]
    simp
  · simp only [World.cell?, hz, hn]; rfl
  · simp only [World.cell?, hz]; rfl

theorem lru_made (w : World) (most : Int) (h1 : 1 ≤ most) (h2 : most ≤ 4096) :
    Lru ((w.alloc (.map #[] 0)).alloc (.cells #[.int .i64 most, .map (some w.heap.size), .string ⟨#[]⟩, .int .i64 0, .pointer (some ⟨w.heap.size + 1, 2, none⟩), .pointer (some ⟨w.heap.size + 1, 2, none⟩)] 48)).drew (w.heap.size + 1) w.heap.size most.toNat [] := by
  refine lru_empty (x := .string ⟨#[]⟩) (y := .int .i64 0) (t := 48) h1 h2 ?_ ((mapOf_made w).kept ?_)
  · show (Array.push (Array.push w.heap _) _)[_]? = _
    rw [Array.getElem?_push, if_pos (by simp)]
  · show (Array.push (w.alloc (.map #[] 0)).heap _)[_]? = _
    rw [Array.getElem?_push, if_neg (by simp)]

set_option maxHeartbeats 3200000 in
set_option maxRecDepth 100000 in
theorem lnew_any (w : World) (most : Int) (h : 1 ≤ most ∧ most ≤ 4096) :
    Calls Try.prog 4 #[.int .i64 most] w fun e w' => e = .returned (.tuple #[.pointer (some ⟨w.heap.size + 1, 0, none⟩), .int .i64 0]) ∧ Lru w' (w.heap.size + 1) w.heap.size most.toNat [] ∧ Below w.heap.size w w' ∧ w'.heap.size = w.heap.size + 2 := by
  obtain ⟨h1, h2⟩ := h
  have hmk : (Instr.makeMap 41 none).run Try.prog w = .ok (.map (some w.heap.size)) (w.alloc (.map #[] 0)) := run_makeMap _ w
  go_enter Try.func4, Try.ntmps4
  go_wp2_with (fail)
  go_region
  all_goals
    go_wp2_with (fail)
    go_ret2
    refine ⟨rfl, lru_made w most h1 h2, (((Below.refl _ _).alloc (Nat.le_refl _) _).alloc (by simp) _).drew, by simp [World.drew]⟩

set_option maxHeartbeats 3200000 in
set_option maxRecDepth 100000 in
theorem lnew_no (w : World) (most : Int) (h : ¬ (1 ≤ most ∧ most ≤ 4096)) :
    Calls Try.prog 4 #[.int .i64 most] w fun e w' => e = .returned (.tuple #[.pointer none, .int .i64 2]) ∧ w' = w := by
  by_cases h1 : most < 1
  · clear h
    go_enter Try.func4, Try.ntmps4
    go_wp2_with (fail)
    go_ret2
    exact ⟨rfl, rfl⟩
  · have h2 : 4096 < most := by omega
    clear h
    go_enter Try.func4, Try.ntmps4
    go_wp2_with (fail)
    go_ret2
    exact ⟨rfl, rfl⟩
end Go.Proofs.Ytglielpiojnnhaa
