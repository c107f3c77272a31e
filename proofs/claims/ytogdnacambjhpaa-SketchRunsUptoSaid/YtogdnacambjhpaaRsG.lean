/- the reference's sketch: Fork. -/
import Derived.Test.YtogdnacambjhpaaRsF
namespace Go.Proofs.Ytogdnacambjhpaa
open Go.RowKit
set_option linter.unusedVariables false
set_option linter.unusedSimpArgs false

theorem flatR_one (ns : List NoteS) : ∀ u ∈ flatR ns, u.oneCell' = true := by
  intro u hu
  obtain ⟨x, _, hx⟩ := List.mem_flatMap.1 hu
  simp only [NoteS.vals, List.mem_cons, List.not_mem_nil, or_false] at hx
  rcases hx with rfl | rfl | rfl <;> rfl
theorem r6_forkNil {w : World} {q : Nat} {h : ShapeS} {last : Int} {v : Value} (k : R6At w q h last v []) :
    R6At ((w.alloc (.cells #[.int .i64 h.W, .int .i64 h.B, .int .i64 h.R, .int .i64 h.C, .int .u64 h.seed, .slice (some ⟨w.heap.size + 1, 0, none⟩) 0 0, .int .i64 last] 57)).alloc (.cells #[] 102)) w.heap.size h last (.slice (some ⟨w.heap.size + 1, 0, none⟩) 0 0) [] ∧
    Below w.heap.size w ((w.alloc (.cells #[.int .i64 h.W, .int .i64 h.B, .int .i64 h.R, .int .i64 h.C, .int .u64 h.seed, .slice (some ⟨w.heap.size + 1, 0, none⟩) 0 0, .int .i64 last] 57)).alloc (.cells #[] 102)) ∧ ∀ i, R6Own w.heap.size (.slice (some ⟨w.heap.size + 1, 0, none⟩) 0 0) i → w.heap.size ≤ i := by
  have hz : (w.alloc (.cells #[.int .i64 h.W, .int .i64 h.B, .int .i64 h.R, .int .i64 h.C, .int .u64 h.seed, .slice (some ⟨w.heap.size + 1, 0, none⟩) 0 0, .int .i64 last] 57)).heap.size = w.heap.size + 1 := by simp
  have hal : Below w.heap.size w (w.alloc (.cells #[.int .i64 h.W, .int .i64 h.B, .int .i64 h.R, .int .i64 h.C, .int .u64 h.seed, .slice (some ⟨w.heap.size + 1, 0, none⟩) 0 0, .int .i64 last] 57)) := (Below.refl _ _).alloc (Nat.le_refl _) _
  refine ⟨⟨(Below.heap_alloc _ _ w.heap.size (by rw [hz]; omega)).trans (new_blockS w _), ?_, by simp [Value.ownBlock], by simp, k.l0, k.l1, by simp⟩, hal.alloc hal.size _, fun i hi => ?_⟩
  · have := World.ownsRow_lit (base := 0) (e := 102) (size := 3) (w.alloc (.cells #[.int .i64 h.W, .int .i64 h.B, .int .i64 h.R, .int .i64 h.C, .int .u64 h.seed, .slice (some ⟨w.heap.size + 1, 0, none⟩) 0 0, .int .i64 last] 57)) #[] 0 (Nat.zero_le _) (by unfold maxLen; omega) rfl
    rw [hz] at this
    exact this
  · rcases hi with h | h
    · omega
    · simp [Value.ownBlock] at h; omega
theorem r6_forkEnd {w w3 : World} {q : Nat} {h : ShapeS} {last : Int} {v v' : Value} {ns : List NoteS} (k : R6At w q h last v ns) (hd : w3.heap[w.heap.size]? = some (.cells #[.int .i64 h.W, .int .i64 h.B, .int .i64 h.R, .int .i64 h.C, .int .u64 h.seed, v, .int .i64 last] 57))
    (hr : w3.ownsRow (w.heap.size + 1) 102 3 v' ns.length (flatR ns)) (hb : Below w.heap.size w w3) :
    R6At (w3.setCell ⟨w.heap.size, 5, none⟩ v') w.heap.size h last v' ns ∧ Below w.heap.size w (w3.setCell ⟨w.heap.size, 5, none⟩ v') ∧ ∀ i, R6Own w.heap.size v' i → w.heap.size ≤ i := by
  have hap : v'.ownBlock ≠ some w.heap.size := fun e => by have := (hr.lt _ e).1; omega
  refine ⟨⟨heap_setCell_same _ _ 5 _ _ _ hd, ?_, hap, k.fine, k.l0, k.l1, k.few⟩, hb.setCell (Nat.le_refl _) _, fun i hi => ?_⟩
  · have h1 := r6_row hr (w' := w3.setCell ⟨w.heap.size, 5, none⟩ v') (fun g e => heap_setCell_other _ _ _ _ (fun e2 => hap (by rw [e, e2])))
    obtain ⟨a, b⟩ := h1
    refine ⟨a, ?_⟩
    rcases b with b | ⟨g, cap, cur, e, hbb, rest⟩
    · exact Or.inl b
    · exact Or.inr ⟨g, cap, cur, e, Nat.zero_le _, rest⟩
  · rcases hi with h | h
    · omega
    · have := (hr.lt i h).1; omega
set_option maxHeartbeats 6400000 in
set_option maxRecDepth 100000 in
theorem r6fork_any {w : World} {q : Nat} {h : ShapeS} {last : Int} {v : Value} {ns : List NoteS} (k : R6At w q h last v ns) (hroom : ns.length ≤ 1099511627776) :
    Calls Try.prog 19 #[.pointer (some ⟨q, 0, none⟩)] w fun e w' => ∃ v', e = .returned (.pointer (some ⟨w.heap.size, 0, none⟩)) ∧ R6At w' w.heap.size h last v' ns ∧ Below w.heap.size w w' ∧ ∀ i, R6Own w.heap.size v' i → w.heap.size ≤ i := by
  obtain ⟨c0, c1, c2, c3, c4, c5, c6⟩ := k.cells
  obtain ⟨aD, capD, hvD⟩ := k.slice
  obtain ⟨n2, hn2⟩ : ∃ n2, ns.length = n2 := ⟨_, rfl⟩
  rw [hn2] at hvD
  subst hvD
  have K := Lib.hid k
  have HN2 := Lib.hid hn2
  have hql := k.lt
  have c5B : (w.alloc (.cells #[.int .i64 h.W, .int .i64 h.B, .int .i64 h.R, .int .i64 h.C, .int .u64 h.seed, .slice aD n2 capD, .int .i64 last] 57)).cell? ⟨q, 5, none⟩ = some (.slice aD n2 capD) := (World.cell?_alloc_lt w _ _ hql).trans c5
  have hal : Below w.heap.size w (w.alloc (.cells #[.int .i64 h.W, .int .i64 h.B, .int .i64 h.R, .int .i64 h.C, .int .u64 h.seed, .slice aD n2 capD, .int .i64 last] 57)) := (Below.refl _ _).alloc (Nat.le_refl _) _
  have hzw : (w.alloc (.cells #[.int .i64 h.W, .int .i64 h.B, .int .i64 h.R, .int .i64 h.C, .int .u64 h.seed, .slice aD n2 capD, .int .i64 last] 57)).heap.size = w.heap.size + 1 := by simp
  have hnw := new_blockS w (.cells #[.int .i64 h.W, .int .i64 h.B, .int .i64 h.R, .int .i64 h.C, .int .u64 h.seed, .slice aD n2 capD, .int .i64 last] 57)
  have hr := k.row
  rcases hr.2 with ⟨hv, hz⟩ | ⟨g, cp, cur, hv, _, hgg, _⟩
  · have hns : ns = [] := List.length_eq_zero_iff.1 hz
    injection hv with e1 e2 e3
    subst e1 e2 e3
    have hown : ((w.alloc (.cells #[.int .i64 h.W, .int .i64 h.B, .int .i64 h.R, .int .i64 h.C, .int .u64 h.seed, .slice none 0 0, .int .i64 last] 57)).alloc (.cells #[] 102)).ownsRow (w.heap.size + 1) 102 3 (.slice (some ⟨w.heap.size + 1, 0, none⟩) 0 0) 0 [] := by
      have := World.ownsRow_lit (base := w.heap.size + 1) (e := 102) (size := 3) (w.alloc (.cells #[.int .i64 h.W, .int .i64 h.B, .int .i64 h.R, .int .i64 h.C, .int .u64 h.seed, .slice none 0 0, .int .i64 last] 57)) #[] 0 (by rw [hzw]; exact Nat.le_refl _) (by unfold maxLen; omega) rfl
      rw [hzw] at this
      exact this
    have hb2 := hal.alloc hal.size (.cells #[] 102)
    have hn2' := (Below.heap_alloc (w.alloc (.cells #[.int .i64 h.W, .int .i64 h.B, .int .i64 h.R, .int .i64 h.C, .int .u64 h.seed, .slice none 0 0, .int .i64 last] 57)) (.cells #[] 102) w.heap.size (by rw [hzw]; omega)).trans hnw
    subst hns
    have HEND := Lib.hid (r6_forkNil (v := .slice none 0 0) k)
    have a5 : ((w.alloc (.cells #[.int .i64 h.W, .int .i64 h.B, .int .i64 h.R, .int .i64 h.C, .int .u64 h.seed, .slice none 0 0, .int .i64 last] 57)).alloc (.cells #[] 102)).cell? ⟨w.heap.size, 5, none⟩ = some (.slice none 0 0) := by simp only [World.cell?, hn2']; rfl
    have f5 : ((w.alloc (.cells #[.int .i64 h.W, .int .i64 h.B, .int .i64 h.R, .int .i64 h.C, .int .u64 h.seed, .slice none 0 0, .int .i64 last] 57)).alloc (.cells #[] 102)).frozen? ⟨w.heap.size, 5, none⟩ = false := by simp only [World.frozen?, hn2']; simp
    have HOWN := Lib.hid hown
    clear k hn2 hal hzw hnw hr hb2 hn2' hown
    go_enter Try.func19, Try.ntmps19
    go_wp2_with (fail)
    go_ret
    exact ⟨_, rfl, HEND.out⟩
  · injection hv with e1 e2 e3
    subst e1 e3
    clear e2
    have hown : ((w.alloc (.cells #[.int .i64 h.W, .int .i64 h.B, .int .i64 h.R, .int .i64 h.C, .int .u64 h.seed, .slice (some ⟨g, 0, none⟩) n2 capD, .int .i64 last] 57)).alloc (.cells #[] 102)).ownsRow (w.heap.size + 1) 102 3 (.slice (some ⟨w.heap.size + 1, 0, none⟩) 0 0) 0 [] := by
      have := World.ownsRow_lit (base := w.heap.size + 1) (e := 102) (size := 3) (w.alloc (.cells #[.int .i64 h.W, .int .i64 h.B, .int .i64 h.R, .int .i64 h.C, .int .u64 h.seed, .slice (some ⟨g, 0, none⟩) n2 capD, .int .i64 last] 57)) #[] 0 (by rw [hzw]; exact Nat.le_refl _) (by unfold maxLen; omega) rfl
      rw [hzw] at this
      exact this
    have hb2 := hal.alloc hal.size (.cells #[] 102)
    have hn2' := (Below.heap_alloc (w.alloc (.cells #[.int .i64 h.W, .int .i64 h.B, .int .i64 h.R, .int .i64 h.C, .int .u64 h.seed, .slice (some ⟨g, 0, none⟩) n2 capD, .int .i64 last] 57)) (.cells #[] 102) w.heap.size (by rw [hzw]; omega)).trans hnw
    rw [hn2] at hr
    have hnews : ∀ j u, (flatR ns)[j]? = some u → ((w.alloc (.cells #[.int .i64 h.W, .int .i64 h.B, .int .i64 h.R, .int .i64 h.C, .int .u64 h.seed, .slice (some ⟨g, 0, none⟩) n2 capD, .int .i64 last] 57)).alloc (.cells #[] 102)).cell? ((⟨g, 0, none⟩ : Addr).add j) = some u := fun j u hu => by
      have hj := (List.getElem?_eq_some_iff.1 hu).1
      rw [flatR_len] at hj
      rw [Go.WideShapes.add_plain]
      refine (hb2.cell (p := ⟨g, 0 + j, none⟩) (Array.getElem?_eq_some_iff.1 hgg).1).trans ?_
      rw [Nat.zero_add]
      exact (hr.cellAt j (by rw [← hn2]; omega)).trans hu
    obtain ⟨i0, hi, hz0, hz1, hz2⟩ := info_parts info_note6
    have HALL := Lib.hid (And.intro hb2 (And.intro hn2' hzw))
    clear hn2 hal hzw hnw hr hb2 hn2' k
    go_enter Try.func19, Try.ntmps19
    go_wp2_with (at_builtin; go_must (refine wpList_append_own _ rfl _ _ 55 (by rfl) (w.heap.size + 1) 102 i0 (.agg #[.int .i64 0, .int .i64 0, .string ⟨#[]⟩]) 3 32 Try.underlying55 hi hz0 hz1 hz2 (by rfl) (by decide) (.slice (some ⟨w.heap.size + 1, 0, none⟩) 0 0) 0 [] (by rfl) hown ⟨g, 0, none⟩ n2 capD (flatR ns) (by rfl) (by rw [flatR_len, HN2.out]) hnews (flatR_one ns) (by unfold maxLen; rw [← HN2.out]; omega) (by rw [← HN2.out]; omega) (by rw [HALL.out.2.2.symm]; simp) ?_); go_loud (intro v' w3 hown3 hg3 _; obtain ⟨g3, cap3, rfl⟩ : ∃ g c, v' = .slice g (0 + n2) c := (by rcases hown3.2 with ⟨hh, hz⟩ | ⟨g', c', cur', hh, _⟩; (· exact ⟨none, 0, by rw [hz]; exact hh⟩); (· exact ⟨_, _, hh⟩)); obtain ⟨hb2, hn2x, hzw⟩ := HALL.out; have hn3 := (hg3.block w.heap.size (Array.getElem?_eq_some_iff.1 hn2x).1 (by simp [Value.ownBlock])).trans hn2x; have a5 : w3.cell? ⟨w.heap.size, 5, none⟩ = some (.slice (some ⟨g, 0, none⟩) n2 capD) := (by simp only [World.cell?, hn3]; rfl); have f5 : w3.frozen? ⟨w.heap.size, 5, none⟩ = false := (by simp only [World.frozen?, hn3]; simp); have HEND := Lib.hid (r6_forkEnd K.out hn3 (by rw [HN2.out, ← Nat.zero_add n2, ← List.nil_append (flatR ns)]; exact hown3) (hb2.grown hg3 hb2.size (fun k e => by simp [Value.ownBlock] at e; omega))); clear hown3 hg3 hb2 hn2x hn3))
    go_ret
    have hend := HEND.out
    rw [Nat.zero_add] at hend
    exact ⟨_, rfl, hend⟩
end Go.Proofs.Ytogdnacambjhpaa
