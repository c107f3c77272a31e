/- The laws of the layer reject: RejectApart. -/
import Derived.Test.YtalpilahemajoaaLawRejD
import Derived.Laws.OwnMore
import Derived.Laws.AppendOwnNone
namespace Go.Proofs.Ytalpilahemajoaa
open Go.RowKit
set_option linter.unusedVariables false
set_option linter.unusedSimpArgs false

def flatF (fs : List FlowS) : List Value := fs.flatMap fun f => f.cells.toList
theorem cells_len (f : FlowS) : f.cells.toList.length = 12 := rfl
theorem flat_len (fs : List FlowS) : (flatF fs).length = fs.length * 12 := by
  induction fs with
  | nil => rfl
  | cons f fs ih =>
    have : flatF (f :: fs) = f.cells.toList ++ flatF fs := rfl
    rw [this, List.length_append, ih, cells_len, List.length_cons]; omega
theorem flat_get (k : Nat) (hk : k < 12) : ∀ (fs : List FlowS) (j : Nat), (flatF fs)[j * 12 + k]? = (fs[j]?).bind fun f => f.cells.toList[k]?
  | [], j => by simp [flatF]
  | f :: fs, 0 => by
    have : flatF (f :: fs) = f.cells.toList ++ flatF fs := rfl
    rw [this, List.getElem?_append_left (by rw [cells_len]; omega)]
    simp
  | f :: fs, j + 1 => by
    have h : flatF (f :: fs) = f.cells.toList ++ flatF fs := rfl
    rw [h, List.getElem?_append_right (by rw [cells_len]; omega), cells_len, show (j + 1) * 12 + k - 12 = j * 12 + k by omega, flat_get k hk fs j]
    simp
theorem flat_one {fs : List FlowS} : ∀ u ∈ flatF fs, u.oneCell' = true := by
  intro u hu
  obtain ⟨f, _, hf⟩ := List.mem_flatMap.1 hu
  simp only [FlowS.cells, List.mem_cons, List.not_mem_nil, or_false] at hf
  rcases hf with rfl | rfl | rfl | rfl | rfl | rfl | rfl | rfl | rfl | rfl | rfl | rfl <;> rfl
theorem flow_cell {w : World} {b o : Nat} {f : FlowS} (h : FlowAt w b o f) : ∀ k u, k < 12 → f.cells.toList[k]? = some u → w.cell? ⟨b, o + k, none⟩ = some u := by
  intro k u hk hu
  match k, hk with
  | 0, _ => obtain rfl : Value.string f.res = u := by simpa [FlowS.cells] using hu
            exact h.c0
  | 1, _ => obtain rfl : Value.string f.org = u := by simpa [FlowS.cells] using hu
            exact h.c1
  | 2, _ => obtain rfl : Value.bool f.thr = u := by simpa [FlowS.cells] using hu
            exact h.c2
  | 3, _ => obtain rfl : Value.int .i64 f.cnt = u := by simpa [FlowS.cells] using hu
            exact h.c3
  | 4, _ => obtain rfl : Value.int .u8 f.strat = u := by simpa [FlowS.cells] using hu
            exact h.c4
  | 5, _ => obtain rfl : Value.string f.ref = u := by simpa [FlowS.cells] using hu
            exact h.c5
  | 6, _ => obtain rfl : Value.int .u8 f.shape = u := by simpa [FlowS.cells] using hu
            exact h.c6
  | 7, _ => obtain rfl : Value.int .i64 f.warm = u := by simpa [FlowS.cells] using hu
            exact h.c7
  | 8, _ => obtain rfl : Value.int .i64 f.queue = u := by simpa [FlowS.cells] using hu
            exact h.c8
  | 9, _ => obtain rfl : Value.bool f.cl = u := by simpa [FlowS.cells] using hu
            exact h.c9
  | 10, _ => obtain rfl : Value.int .i64 f.id = u := by simpa [FlowS.cells] using hu
             exact h.c10
  | 11, _ => obtain rfl : Value.bool f.fb = u := by simpa [FlowS.cells] using hu
             exact h.c11
theorem flat_cells {w : World} {b off : Nat} {fs : List FlowS} (h : ∀ j f, fs[j]? = some f → FlowAt w b (off + j * 12) f) :
    ∀ j u, (flatF fs)[j]? = some u → w.cell? ((⟨b, off, none⟩ : Addr).add j) = some u := by
  intro j u hu
  rw [show j = (j / 12) * 12 + j % 12 by omega, flat_get _ (by omega)] at hu
  rcases hf : fs[j / 12]? with _ | f
  · rw [hf] at hu; simp at hu
  · rw [hf] at hu
    have := flow_cell (h _ f hf) _ u (by omega) hu
    rw [Go.WideShapes.add_plain]
    rwa [show off + j / 12 * 12 + j % 12 = off + j by omega] at this
theorem flows_own {w : World} {base : Nat} {v : Value} {n : Nat} {fs : List FlowS} (h : w.ownsRow base 25 12 v n (flatF fs)) : ∃ a cap, v = .slice a n cap ∧ FlowsAt w a fs ∧ fs.length = n := by
  have hn : fs.length = n := by have := h.1; rw [flat_len] at this; omega
  rcases h.2 with ⟨h1, h2⟩ | ⟨g, cap, cur, rfl, hb, hg, _⟩
  · subst h2
    exact ⟨none, 0, h1, Or.inl (List.length_eq_zero_iff.1 hn), hn⟩
  · refine ⟨_, cap, rfl, Or.inr ⟨g, 0, rfl, (Array.getElem?_eq_some_iff.1 hg).1, fun j f hj => ?_⟩, hn⟩
    have hjl : j < n := by have := (List.getElem?_eq_some_iff.1 hj).1; omega
    have g := fun k (hk : k < 12) => (h.cellAt (j * 12 + k) (by omega)).trans (flat_get k hk fs j)
    simp only [hj, Option.bind_some] at g
    have s : ∀ k, j * 12 + k = 0 + j * 12 + k := fun k => by omega
    simp only [s] at g
    exact ⟨g 0 (by decide), g 1 (by decide), g 2 (by decide), g 3 (by decide), g 4 (by decide), g 5 (by decide), g 6 (by decide), g 7 (by decide), g 8 (by decide), g 9 (by decide), g 10 (by decide), g 11 (by decide)⟩

theorem mineB_cons {o : FlowS} {fs : List FlowS} {c : CallS} (h : (o.res.toList == c.res.toList) = false) (f : FlowS) : mineB (o :: fs) c f = mineB fs c f := by
  unfold mineB
  cases h1 : (f.res.toList == c.res.toList)
  · rfl
  · have e : f.res.toList = c.res.toList := beq_iff_eq.1 h1
    have ho : ownB o f.res c.org = false := by unfold ownB; rw [e, h]; rfl
    unfold concF
    rw [List.any_cons, ho, Bool.false_or]
theorem came_cons {o : FlowS} {fs : List FlowS} {c : CallS} (h : (o.res.toList == c.res.toList) = false) : ∀ k, came (o :: fs) c (k + 1) = (came fs c k).map fun p => (p.1 + 1, p.2)
  | 0 => by
    have : mineB (o :: fs) c o = false := by unfold mineB; rw [h]; rfl
    simp [came, this]
  | k + 1 => by
    have ih := came_cons h (fs := fs) k
    rw [came, ih]
    conv => rhs; rw [came]
    rw [List.map_append]
    congr 1
    rw [List.getElem?_cons_succ]
    rcases fs[k]? with _ | f
    · rfl
    · simp only [mineB_cons h]
      split <;> rfl
theorem mine_cons {o : FlowS} {fs : List FlowS} {c : CallS} (h : (o.res.toList == c.res.toList) = false) : mineN (o :: fs) c = (mineN fs c).map (· + 1) := by
  unfold mineN outN
  rw [List.length_cons, came_cons h, List.filterMap_map, List.map_filterMap]
  congr 1
  funext p
  simp only [Function.comp]
  split
  · rfl
  · simp
theorem came_lt (fs : List FlowS) (c : CallS) : ∀ k, ∀ p ∈ came fs c k, p.1 < k
  | 0, p, h => by cases h
  | k + 1, p, h => by
    rw [came] at h
    rcases List.mem_append.1 h with h | h
    · have := came_lt fs c k p h; omega
    · rcases hf : fs[k]? with _ | f
      · rw [hf] at h; cases h
      · rw [hf] at h
        simp only at h
        split at h
        · simp at h; subst h; simp
        · cases h
theorem mine_bd {fs : List FlowS} {c : CallS} {x : Int} (h : x ∈ mineN fs c) : 0 ≤ x ∧ x < fs.length := by
  unfold mineN outN at h
  obtain ⟨p, hp, hx⟩ := List.mem_filterMap.1 h
  have := came_lt fs c _ p hp
  split at hx
  · cases hx
  · cases hx; omega

theorem info_flowA : (Try.prog.info? 25).map (fun i => (i.zero, i.size, i.bytes)) = some (some (.agg #[.string ⟨#[]⟩, .string ⟨#[]⟩, .bool false, .int .i64 0, .int .u8 0, .string ⟨#[]⟩, .int .u8 0, .int .i64 0, .int .i64 0, .bool false, .int .i64 0, .bool false]), 12, 120) := by kernel_rfl
theorem wp_append_none {P : Program} {w : World} {o : Oper} {a : Act} {K : Act → World → Prop} {Q : Exit → Act → World → Prop} (s x : Operand) (t : TypeId)
    (ho : o.op = .call { callee := .builtin .append, args := #[s, x], argTypes := #[t, t] })
    (base : Nat) (e : TypeId) (i : TypeInfo) (size : Nat) (ht : P.underlying t = some (.slice e)) (hi : P.info? e = some i)
    (v : Value) (n : Nat) (xs : List Value) (hs : a.eval s = v) (hown : w.ownsRow base e size v n xs) (hx : a.eval x = .slice none 0 0)
    (h : K (a.put o.dst v) w) : o.wp P a w K Q := by
  have hrun := run_append_owned_none (P := P) (w := w) base t o.type e i size ht hi v n xs hown
  unfold Oper.wp
  simp [execOp, ho, resolve, invoke, builtin, hs, hx, hrun, Result.andThen]
  exact h
end Go.Proofs.Ytalpilahemajoaa
