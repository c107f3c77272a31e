/- Flow rules that come in; rows of them that grow. -/
import Derived.Test.YtgkdpkpiejjfmaaFlow
import Derived.Test.YtgkdpkpiejjfmaaRecs2
import Derived.OwnWalk
import Derived.Laws.AppendOwn
import Derived.Laws.OwnMore
import Derived.Laws.AppendOwnNone
namespace Go.Proofs.Ytgkdpkpiejjfmaa
open Go.RowKit
set_option linter.unusedVariables false
set_option linter.unusedSimpArgs false

def flowsOf (V : Nat → Nat → Value) (len : Nat) : List FlowS := (List.range len).map fun j => ⟨strOf (V j 0), strOf (V j 1), boolOf (V j 2), intOf (V j 3), intOf (V j 4), strOf (V j 5), intOf (V j 6), intOf (V j 7), intOf (V j 8), boolOf (V j 9), intOf (V j 10), boolOf (V j 11)⟩
theorem flowsOf_length (V : Nat → Nat → Value) (len : Nat) : (flowsOf V len).length = len := by simp [flowsOf]
theorem flows_at {w : World} {a : Option Addr} {len : Nat} {V : Nat → Nat → Value} (h : RecsAt w a 12 len V)
    (f0 : ∀ j, j < len → V j 0 = .string (strOf (V j 0))) (f1 : ∀ j, j < len → V j 1 = .string (strOf (V j 1))) (f2 : ∀ j, j < len → V j 2 = .bool (boolOf (V j 2)))
    (f3 : ∀ j, j < len → V j 3 = .int .i64 (intOf (V j 3)) ∧ (Lit.int .i64 (intOf (V j 3))).wf = true) (f4 : ∀ j, j < len → V j 4 = .int .u8 (intOf (V j 4)) ∧ (Lit.int .u8 (intOf (V j 4))).wf = true)
    (f5 : ∀ j, j < len → V j 5 = .string (strOf (V j 5))) (f6 : ∀ j, j < len → V j 6 = .int .u8 (intOf (V j 6)) ∧ (Lit.int .u8 (intOf (V j 6))).wf = true)
    (f7 : ∀ j, j < len → V j 7 = .int .i64 (intOf (V j 7)) ∧ (Lit.int .i64 (intOf (V j 7))).wf = true) (f8 : ∀ j, j < len → V j 8 = .int .i64 (intOf (V j 8)) ∧ (Lit.int .i64 (intOf (V j 8))).wf = true)
    (f9 : ∀ j, j < len → V j 9 = .bool (boolOf (V j 9))) (f10 : ∀ j, j < len → V j 10 = .int .i64 (intOf (V j 10)) ∧ (Lit.int .i64 (intOf (V j 10))).wf = true) (f11 : ∀ j, j < len → V j 11 = .bool (boolOf (V j 11))) :
    FlowsAt w a (flowsOf V len) := by
  rcases h with h | ⟨b, off, rfl, hlt, hc⟩
  · subst h; exact Or.inl rfl
  · refine Or.inr ⟨b, off, rfl, hlt, fun j f hj => ?_⟩
    have hjl : j < len := by have := (List.getElem?_eq_some_iff.1 hj).1; rwa [flowsOf_length] at this
    simp only [flowsOf, List.getElem?_map, List.getElem?_range hjl, Option.map_some, Option.some.injEq] at hj
    subst hj
    have g := fun k hk => hc j hjl k hk
    have s : ∀ k, off + (j * 12 + k) = off + j * 12 + k := fun k => by omega
    simp only [s] at g
    exact ⟨(g 0 (by decide)).trans (congrArg some (f0 j hjl)), (g 1 (by decide)).trans (congrArg some (f1 j hjl)), (g 2 (by decide)).trans (congrArg some (f2 j hjl)), (g 3 (by decide)).trans (congrArg some (f3 j hjl).1), (g 4 (by decide)).trans (congrArg some (f4 j hjl).1), (g 5 (by decide)).trans (congrArg some (f5 j hjl)), (g 6 (by decide)).trans (congrArg some (f6 j hjl).1), (g 7 (by decide)).trans (congrArg some (f7 j hjl).1), (g 8 (by decide)).trans (congrArg some (f8 j hjl).1), (g 9 (by decide)).trans (congrArg some (f9 j hjl)), (g 10 (by decide)).trans (congrArg some (f10 j hjl).1), (g 11 (by decide)).trans (congrArg some (f11 j hjl))⟩

def flatF (fs : List FlowS) : List Value := fs.flatMap fun f => f.cells.toList
theorem cells_len (f : FlowS) : f.cells.toList.length = 12 := rfl
theorem flat_len (fs : List FlowS) : (flatF fs).length = fs.length * 12 := by
  induction fs with
  | nil => rfl
  | cons f fs ih =>
    have : flatF (f :: fs) = f.cells.toList ++ flatF fs := rfl
    rw [this, List.length_append, ih, cells_len, List.length_cons]; omega
theorem flat_get (k : Nat) (hk : k < 12) : ∀ (fs : List FlowS) (j : Nat), (flatF fs)[j * 12 + k]? = (fs[j]?).bind fun f => f.cells.toList[k]?
  | [], j => by simp [flatF]
  | f :: fs, 0 => by
    have : flatF (f :: fs) = f.cells.toList ++ flatF fs := rfl
    rw [this, List.getElem?_append_left (by rw [cells_len]; omega)]
    simp
  | f :: fs, j + 1 => by
    have h : flatF (f :: fs) = f.cells.toList ++ flatF fs := rfl
    rw [h, List.getElem?_append_right (by rw [cells_len]; omega), cells_len, show (j + 1) * 12 + k - 12 = j * 12 + k by omega, flat_get k hk fs j]
    simp
theorem flat_one {fs : List FlowS} : ∀ u ∈ flatF fs, u.oneCell' = true := by
  intro u hu
  obtain ⟨f, _, hf⟩ := List.mem_flatMap.1 hu
  simp only [FlowS.cells, List.mem_cons, List.not_mem_nil, or_false] at hf
  rcases hf with rfl | rfl | rfl | rfl | rfl | rfl | rfl | rfl | rfl | rfl | rfl | rfl <;> rfl
theorem flow_cell {w : World} {b o : Nat} {f : FlowS} (h : FlowAt w b o f) : ∀ k u, k < 12 → f.cells.toList[k]? = some u → w.cell? ⟨b, o + k, none⟩ = some u := by
  intro k u hk hu
  match k, hk with
  | 0, _ => obtain rfl : Value.string f.res = u := by simpa [FlowS.cells] using hu
            exact h.c0
  | 1, _ => obtain rfl : Value.string f.org = u := by simpa [FlowS.cells] using hu
            exact h.c1
  | 2, _ => obtain rfl : Value.bool f.thr = u := by simpa [FlowS.cells] using hu
            exact h.c2
  | 3, _ => obtain rfl : Value.int .i64 f.cnt = u := by simpa [FlowS.cells] using hu
            exact h.c3
  | 4, _ => obtain rfl : Value.int .u8 f.strat = u := by simpa [FlowS.cells] using hu
            exact h.c4
  | 5, _ => obtain rfl : Value.string f.ref = u := by simpa [FlowS.cells] using hu
            exact h.c5
  | 6, _ => obtain rfl : Value.int .u8 f.shape = u := by simpa [FlowS.cells] using hu
            exact h.c6
  | 7, _ => obtain rfl : Value.int .i64 f.warm = u := by simpa [FlowS.cells] using hu
            exact h.c7
  | 8, _ => obtain rfl : Value.int .i64 f.queue = u := by simpa [FlowS.cells] using hu
            exact h.c8
  | 9, _ => obtain rfl : Value.bool f.cl = u := by simpa [FlowS.cells] using hu
            exact h.c9
  | 10, _ => obtain rfl : Value.int .i64 f.id = u := by simpa [FlowS.cells] using hu
             exact h.c10
  | 11, _ => obtain rfl : Value.bool f.fb = u := by simpa [FlowS.cells] using hu
             exact h.c11
theorem flat_cells {w : World} {b off : Nat} {fs : List FlowS} (h : ∀ j f, fs[j]? = some f → FlowAt w b (off + j * 12) f) :
    ∀ j u, (flatF fs)[j]? = some u → w.cell? ((⟨b, off, none⟩ : Addr).add j) = some u := by
  intro j u hu
  rw [show j = (j / 12) * 12 + j % 12 by omega, flat_get _ (by omega)] at hu
  rcases hf : fs[j / 12]? with _ | f
  · rw [hf] at hu; simp at hu
  · rw [hf] at hu
    have := flow_cell (h _ f hf) _ u (by omega) hu
    rw [Go.WideShapes.add_plain]
    rwa [show off + j / 12 * 12 + j % 12 = off + j by omega] at this
theorem flows_own {w : World} {base : Nat} {v : Value} {n : Nat} {fs : List FlowS} (h : w.ownsRow base 41 12 v n (flatF fs)) : ∃ a cap, v = .slice a n cap ∧ FlowsAt w a fs ∧ fs.length = n := by
  have hn : fs.length = n := by have := h.1; rw [flat_len] at this; omega
  rcases h.2 with ⟨h1, h2⟩ | ⟨g, cap, cur, rfl, hb, hg, _⟩
  · subst h2
    exact ⟨none, 0, h1, Or.inl (List.length_eq_zero_iff.1 hn), hn⟩
  · refine ⟨_, cap, rfl, Or.inr ⟨g, 0, rfl, (Array.getElem?_eq_some_iff.1 hg).1, fun j f hj => ?_⟩, hn⟩
    have hjl : j < n := by have := (List.getElem?_eq_some_iff.1 hj).1; omega
    have g := fun k (hk : k < 12) => (h.cellAt (j * 12 + k) (by omega)).trans (flat_get k hk fs j)
    simp only [hj, Option.bind_some] at g
    have s : ∀ k, j * 12 + k = 0 + j * 12 + k := fun k => by omega
    simp only [s] at g
    exact ⟨g 0 (by decide), g 1 (by decide), g 2 (by decide), g 3 (by decide), g 4 (by decide), g 5 (by decide), g 6 (by decide), g 7 (by decide), g 8 (by decide), g 9 (by decide), g 10 (by decide), g 11 (by decide)⟩

theorem info_flowA : (Try.prog.info? 41).map (fun i => (i.zero, i.size, i.bytes)) = some (some (.agg #[.string ⟨#[]⟩, .string ⟨#[]⟩, .bool false, .int .i64 0, .int .u8 0, .string ⟨#[]⟩, .int .u8 0, .int .i64 0, .int .i64 0, .bool false, .int .i64 0, .bool false]), 12, 120) := by kernel_rfl

theorem wp_append_none {P : Program} {w : World} {o : Oper} {a : Act} {K : Act → World → Prop} {Q : Exit → Act → World → Prop} (s x : Operand) (t : TypeId)
    (ho : o.op = .call { callee := .builtin .append, args := #[s, x], argTypes := #[t, t] })
    (base : Nat) (e : TypeId) (i : TypeInfo) (size : Nat) (ht : P.underlying t = some (.slice e)) (hi : P.info? e = some i)
    (v : Value) (n : Nat) (xs : List Value) (hs : a.eval s = v) (hown : w.ownsRow base e size v n xs) (hx : a.eval x = .slice none 0 0)
    (h : K (a.put o.dst v) w) : o.wp P a w K Q := by
  have hrun := run_append_owned_none (P := P) (w := w) base t o.type e i size ht hi v n xs hown
  unfold Oper.wp
  simp [execOp, ho, resolve, invoke, builtin, hs, hx, hrun, Result.andThen]
  exact h

theorem wp_append_fl {P : Program} (w : World) {o : Oper} {a : Act} {K : Act → World → Prop} {Q : Exit → Act → World → Prop} (s x : Operand) (t : TypeId)
    (ho : o.op = .call { callee := .builtin .append, args := #[s, x], argTypes := #[t, t] })
    (base : Nat) (e : TypeId) (i : TypeInfo) (z : Value) (size bytes : Nat) (ht : P.underlying t = some (.slice e)) (hi : P.info? e = some i) (hz : i.zero = some z)
    (hsize : i.size = size) (hby : i.bytes = bytes) (hzs : z.cells.size = size) (hsz : 0 < size)
    (v : Value) (n : Nat) (xs : List Value) (hs : a.eval s = v) (hown : w.ownsRow base e size v n xs)
    (ad : Option Addr) (m c : Nat) (news : List Value) (hx : a.eval x = .slice ad m c) (hnil : ad = none → m = 0 ∧ c = 0) (hl : news.length = m * size) (hnews : ∀ b, ad = some b → ∀ j u, news[j]? = some u → w.cell? (b.add j) = some u) (h1 : ∀ u ∈ news, u.oneCell' = true)
    (h63 : n + m ≤ maxLen) (hbytes : (n + m) * bytes ≤ 140737488355328) (hbase : base ≤ w.heap.size)
    (h : ∀ v' w', w'.ownsRow base e size v' (n + m) (xs ++ news) → w.grownBy w' v.ownBlock → K (a.put o.dst v') w') : o.wp P a w K Q := by
  rcases ad with _ | b
  · obtain ⟨rfl, rfl⟩ := hnil rfl
    obtain rfl : news = [] := List.length_eq_zero_iff.1 (by omega)
    refine wp_append_none s x t ho base e i size ht hi v n xs hs hown hx (h _ _ (by rw [List.append_nil]; exact hown) ⟨rfl, rfl, rfl, Nat.le_refl _, fun _ _ _ => rfl⟩)
  · exact wp_append_own w s x t ho base e i z size bytes ht hi hz hsize hby hzs hsz v n xs hs hown b m c news hx hl (hnews b rfl) h1 h63 hbytes hbase (fun v' w' p q _ => h v' w' p q)
end Go.Proofs.Ytgkdpkpiejjfmaa
