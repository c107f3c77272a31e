/- window: its map of counts, by the buckets' numbers; a window in memory. -/
import Derived.Test.YtpbbidijnmooaaaWinC
import Derived.Laws.OwnMore
namespace Go.Proofs.Ytpbbidijnmooaaa
open Go.RowKit
set_option linter.unusedVariables false
set_option linter.unusedSimpArgs false

theorem intKeyed : Maps.Keyed Try.prog 3 := Maps.int_keyed Try.underlying3
theorem zero_ct (w : World) : (zeroValue 32).run Try.prog w = .ok (.agg #[.int .i64 0, .int .i64 0, .int .i64 0, .int .i64 0, .int .i64 0, .int .i64 0]) w := by kernel_rfl
def okW (k : Int) : Bool := (Lit.int .i64 k).wf
theorem okW_of {k : Int} (h : -9223372036854775808 ≤ k ∧ k ≤ 9223372036854775807) : okW k = true := by
  unfold okW
  simp only [Lit.wf, IntKind.min, IntKind.max, IntKind.signed, IntKind.bits, Bool.and_eq_true, decide_eq_true_eq, if_true]
  omega
theorem okW_iff {k : Int} : okW k = true ↔ -9223372036854775808 ≤ k ∧ k ≤ 9223372036854775807 := by
  constructor
  · intro h
    unfold okW at h
    simp only [Lit.wf, IntKind.min, IntKind.max, IntKind.signed, IntKind.bits, Bool.and_eq_true, decide_eq_true_eq, if_true] at h
    omega
  · exact okW_of
theorem keyW {k : Int} (h : okW k = true) : keyOf Try.prog 3 (.int .i64 k) = some (.int .i64 k) := Maps.keyOf_int_mk Try.underlying3 h
/-- What may lie in the map. -/
def FitW (f : Int → Option CntS) : Prop := ∀ k c, f k = some c → 0 ≤ k ∧ k ≤ 1152921504606846976 ∧ RightC c
/-- Block m is a map of counts, f. -/
def CtmAt (w : World) (m : Nat) (f : Int → Option CntS) : Prop :=
  FitW f ∧ ∃ F n, MapV w 3 m F n ∧ ∀ k, okW k = true → F (.int .i64 k) = (f k).map ctV
theorem CtmAt.lt {w : World} {m : Nat} {f : Int → Option CntS} (h : CtmAt w m f) : m < w.heap.size := by
  obtain ⟨_, F, n, h1, _⟩ := h
  exact h1.lt
theorem CtmAt.kept {w w' : World} {m : Nat} {f : Int → Option CntS} (h : CtmAt w m f) (hk : w'.heap[m]? = w.heap[m]?) : CtmAt w' m f := by
  obtain ⟨h0, F, n, h1, h2⟩ := h
  exact ⟨h0, F, n, h1.kept hk, h2⟩
theorem ctmAt_made (w : World) : CtmAt (w.alloc (.map #[] 0)) w.heap.size (fun _ => none) :=
  ⟨fun _ _ h => (by cases h), _, _, mapV_made w _, fun _ _ => rfl⟩
theorem CtmAt.getD_right {w : World} {m : Nat} {f : Int → Option CntS} (h : CtmAt w m f) (k : Int) : RightC ((f k).getD .zero) := by
  cases hf : f k with
  | none => exact rightC_zero
  | some c => exact (h.1 k c hf).2.2
theorem CtmAt.congr {w : World} {m : Nat} {f g : Int → Option CntS} (h : CtmAt w m f) (e : ∀ k, okW k = true → f k = g k) (hg : FitW g) : CtmAt w m g := by
  obtain ⟨h0, F, n, h1, h2⟩ := h
  exact ⟨hg, F, n, h1, fun k hk => by rw [← e k hk]; exact h2 k hk⟩
theorem getD_ct (o : Option CntS) : (o.map ctV).getD (.agg #[.int .i64 0, .int .i64 0, .int .i64 0, .int .i64 0, .int .i64 0, .int .i64 0]) = ctV (o.getD .zero) := by cases o <;> rfl
theorem CtmAt.look {w : World} {m : Nat} {f : Int → Option CntS} (h : CtmAt w m f) {k : Int} (hk : okW k = true) : (Instr.lookup 95 (.map (some m)) (.int .i64 k) false).run Try.prog w = .ok (ctV ((f k).getD .zero)) w := by
  obtain ⟨_, F, n, h1, h2⟩ := h
  have := h1.look false intKeyed Try.underlying95 (zero_ct w) (keyW hk)
  rw [if_neg (by simp), h2 k hk, getD_ct] at this
  exact this
theorem CtmAt.look2 {w : World} {m : Nat} {f : Int → Option CntS} (h : CtmAt w m f) {k : Int} (hk : okW k = true) : (Instr.lookup 95 (.map (some m)) (.int .i64 k) true).run Try.prog w = .ok (.tuple #[ctV ((f k).getD .zero), .bool (f k).isSome]) w := by
  obtain ⟨_, F, n, h1, h2⟩ := h
  have := h1.look true intKeyed Try.underlying95 (zero_ct w) (keyW hk)
  rw [if_pos rfl, h2 k hk, getD_ct, Option.isSome_map] at this
  exact this
theorem mapV_few {w : World} {m n : Nat} {F : Value → Option Value} {f : Int → Option CntS} (h : MapV w 3 m F n) (h0 : FitW f) (h2 : ∀ k, okW k = true → F (.int .i64 k) = (f k).map ctV) : n < maxLen := by
  obtain ⟨M, hM⟩ : ∃ M : Nat, M = 1152921504606846977 := ⟨_, rfl⟩
  have := h.size_le intKeyed ((List.range M).map (fun (i : Nat) => Value.int .i64 (i : Int))) (fun key kl hk hf => by
    obtain ⟨x, rfl, _, hx⟩ := Maps.keyOf_int_inv Try.underlying3 hk
    rw [h2 x hx, Option.isSome_map] at hf
    obtain ⟨c, hc⟩ := Option.isSome_iff_exists.1 hf
    obtain ⟨q0, q1, _⟩ := h0 x c hc
    refine List.mem_map.2 ⟨x.toNat, List.mem_range.2 (by omega), ?_⟩
    rw [Int.toNat_of_nonneg q0])
  rw [List.length_map, List.length_range] at this
  unfold maxLen
  omega
/-- One more. -/
def putW (f : Int → Option CntS) (k : Int) (o : Option CntS) : Int → Option CntS := fun g => if g = k then o else f g
theorem fitW_put {f : Int → Option CntS} (h : FitW f) {k : Int} {c : CntS} (k0 : 0 ≤ k) (k1 : k ≤ 1152921504606846976) (hc : RightC c) : FitW (putW f k (some c)) := by
  intro g x hx
  unfold putW at hx
  split at hx
  · rename_i e; subst e; cases hx; exact ⟨k0, k1, hc⟩
  · exact h g x hx
theorem fitW_del {f : Int → Option CntS} (h : FitW f) (k : Int) : FitW (putW f k none) := by
  intro g x hx
  unfold putW at hx
  split at hx
  · cases hx
  · exact h g x hx
theorem readsW_put {F : Value → Option Value} {f : Int → Option CntS} (h2 : ∀ k, okW k = true → F (.int .i64 k) = (f k).map ctV) (k : Int) (o : Option CntS) : ∀ x, okW x = true → updV F (.int .i64 k) (o.map ctV) (.int .i64 x) = (putW f k o x).map ctV := by
  intro x hx
  unfold putW
  by_cases e : x = k
  · subst e; rw [updV_same, if_pos rfl]
  · rw [updV_other _ _ (fun e' => e (by injection e')), if_neg e, h2 x hx]
theorem CtmAt.update {w : World} {m : Nat} {f : Int → Option CntS} (h : CtmAt w m f) {k : Int} (k0 : 0 ≤ k) (k1 : k ≤ 1152921504606846976) {c : CntS} (hc : RightC c) :
    ∃ w', (Instr.mapUpdate 95 (.map (some m)) (.int .i64 k) (ctV c)).run Try.prog w = .ok () w' ∧ CtmAt w' m (putW f k (some c)) ∧ w.grownBy w' (some m) ∧ w'.heap.size = w.heap.size := by
  obtain ⟨h0, F, n, h1, h2⟩ := h
  obtain ⟨w', hr, hm, hg, hs⟩ := h1.update intKeyed Try.underlying95 (mapV_few h1 h0 h2) (keyW (okW_of (k := k) (by omega))) (ctV c)
  exact ⟨w', hr, ⟨fitW_put h0 k0 k1 hc, _, _, hm, readsW_put h2 k (some c)⟩, hg, hs⟩

/-- 'for k := range m' under way. -/
def CtrAt (w : World) (m r : Nat) (f : Int → Option CntS) (todo : Int → Bool) (cnt : Nat) : Prop :=
  FitW f ∧ ∃ F n T, RangeV w 3 m r F n T cnt ∧ (∀ k, okW k = true → F (.int .i64 k) = (f k).map ctV) ∧ ∀ k, okW k = true → T (.int .i64 k) = todo k
theorem CtrAt.map {w : World} {m r : Nat} {f : Int → Option CntS} {todo : Int → Bool} {cnt : Nat} (h : CtrAt w m r f todo cnt) : CtmAt w m f := by
  obtain ⟨h0, F, n, T, h1, h2, _⟩ := h
  exact ⟨h0, F, n, h1.map, h2⟩
theorem CtrAt.left_eq {w : World} {m r : Nat} {f : Int → Option CntS} {todo : Int → Bool} {cnt : Nat} (h : CtrAt w m r f todo cnt) : w.rangeLeft m r = cnt := by
  obtain ⟨h0, F, n, T, h1, _⟩ := h
  exact h1.left_eq
theorem CtrAt.lt {w : World} {m r : Nat} {f : Int → Option CntS} {todo : Int → Bool} {cnt : Nat} (h : CtrAt w m r f todo cnt) : r < w.heap.size ∧ m < w.heap.size ∧ r ≠ m := by
  obtain ⟨h0, F, n, T, h1, _⟩ := h
  exact ⟨h1.lt, h1.map.lt, h1.ne⟩
theorem CtmAt.range {w : World} {m : Nat} {f : Int → Option CntS} (h : CtmAt w m f) :
    ∃ w' cnt, (Instr.range 95 (.map (some m))).run Try.prog w = .ok (.pointer (some ⟨w.heap.size, 0, none⟩)) w' ∧ CtrAt w' m w.heap.size f (fun k => (f k).isSome) cnt ∧ w.grownBy w' none ∧ w'.heap.size = w.heap.size + 1 := by
  obtain ⟨h0, F, n, h1, h2⟩ := h
  obtain ⟨w', hr, hm, hg, hs⟩ := h1.range intKeyed Try.underlying95
  exact ⟨w', n, hr, ⟨h0, F, n, _, hm, h2, fun k hk => by rw [h2 k hk, Option.isSome_map]⟩, hg, hs⟩
def strW (todo : Int → Bool) (k : Int) : Int → Bool := fun g => if g = k then false else todo g
theorem readsW_strike {T : Value → Bool} {todo : Int → Bool} (h : ∀ k, okW k = true → T (.int .i64 k) = todo k) (k : Int) : ∀ x, okW x = true → strikeV T (.int .i64 k) (.int .i64 x) = strW todo k x := by
  intro x hx
  unfold strW
  by_cases e : x = k
  · subst e; rw [strikeV_same, if_pos rfl]
  · rw [strikeV_other _ (fun e' => e (by injection e')), if_neg e, h x hx]
theorem CtrAt.next {w : World} {m r : Nat} {f : Int → Option CntS} {todo : Int → Bool} {cnt : Nat} (h : CtrAt w m r f todo cnt) (ty : TypeId) :
    (cnt = 0 ∧ (∀ k, okW k = true → todo k = false) ∧ (Instr.next (.pointer (some ⟨r, 0, none⟩)) false ty).run Try.prog w = .ok (.tuple #[.bool false]) w) ∨
    ∃ k c w' cnt', okW k = true ∧ todo k = true ∧ f k = some c ∧ (Instr.next (.pointer (some ⟨r, 0, none⟩)) false ty).run Try.prog w = .ok (.tuple #[.bool true, .int .i64 k, ctV c]) w' ∧
      CtrAt w' m r f (strW todo k) cnt' ∧ cnt' < cnt ∧ w.grownBy w' (some r) ∧ w'.heap.size = w.heap.size ∧ (Instr.entry (.pointer (some ⟨r, 0, none⟩))).run Try.prog w' = .ok (.tuple #[.int .i64 k, ctV c]) w' := by
  obtain ⟨h0, F, n, T, h1, h2, h3⟩ := h
  rcases h1.next intKeyed ty with ⟨hc, ht, hr⟩ | ⟨key, v, kl, w', cnt', hkey, htd, hv, hr, hrg, hlt, hg, hs, hen⟩
  · exact Or.inl ⟨hc, fun k hk => by rw [← h3 k hk]; exact ht _ _ (keyW hk), hr⟩
  · obtain ⟨x, rfl, _, hx⟩ := Maps.keyOf_int_inv Try.underlying3 hkey
    have hx : okW x = true := hx
    rw [h2 x hx] at hv
    obtain ⟨c, hc, rfl⟩ := Option.map_eq_some_iff.1 hv
    exact Or.inr ⟨x, c, w', cnt', hx, by rw [← h3 x hx]; exact htd, hc, hr, ⟨h0, F, n, _, hrg, h2, readsW_strike h3 x⟩, hlt, hg, hs, hen⟩
theorem CtrAt.delete {w : World} {m r : Nat} {f : Int → Option CntS} {todo : Int → Bool} {cnt : Nat} (h : CtrAt w m r f todo cnt) {k : Int} (hk : okW k = true) :
    ∃ w' cnt', (∀ ty, (Builtin.delete_ #[95, 3] ty #[.map (some m), .int .i64 k]).run Try.prog w = .ok (.tuple #[]) w') ∧ CtrAt w' m r (putW f k none) (strW todo k) cnt' ∧ cnt' ≤ cnt ∧ w.grownBy w' (some m) := by
  obtain ⟨h0, F, n, T, h1, h2, h3⟩ := h
  obtain ⟨w', cnt', n', hr, hrg, hle, _, hg⟩ := h1.delete intKeyed Try.underlying95 (keyW hk) 3
  exact ⟨w', cnt', fun _ => hr, ⟨fitW_del h0 k, _, n', _, hrg, readsW_put h2 k none, readsW_strike h3 k⟩, hle, hg⟩
theorem CtrAt.kept {w w' : World} {m r : Nat} {row : Option Nat} {f : Int → Option CntS} {todo : Int → Bool} {cnt : Nat} (h : CtrAt w m r f todo cnt) (hg : w.grownBy w' row) (hb : some m ≠ row) (hr : some r ≠ row) : CtrAt w' m r f todo cnt := by
  obtain ⟨h0, F, n, T, h1, h2⟩ := h
  exact ⟨h0, F, n, T, h1.kept hg hb hr, h2⟩

/-- How a window lies in memory. -/
structure WinAt (w : World) (p m : Nat) (W B last : Int) (f : Int → Option CntS) : Prop where
  head : w.heap[p]? = some (.cells #[.int .i64 W, .int .i64 B, .int .i64 last, .map (some m)] 97)
  map : CtmAt w m f
  ne : p ≠ m
  shape : ShapeW W B
  l0 : 0 ≤ last
  l1 : last ≤ 1152921504606846976
theorem WinAt.lt {w : World} {p m : Nat} {W B last : Int} {f : Int → Option CntS} (h : WinAt w p m W B last f) : p < w.heap.size ∧ m < w.heap.size := ⟨(Array.getElem?_eq_some_iff.1 h.head).1, h.map.lt⟩
theorem WinAt.kept {w w' : World} {p m : Nat} {W B last : Int} {f : Int → Option CntS} (h : WinAt w p m W B last f) (hp : w'.heap[p]? = w.heap[p]?) (hm : w'.heap[m]? = w.heap[m]?) : WinAt w' p m W B last f :=
  ⟨hp.trans h.head, h.map.kept hm, h.ne, h.shape, h.l0, h.l1⟩
theorem WinAt.below {w w' : World} {p m : Nat} {W B last : Int} {f : Int → Option CntS} (h : WinAt w p m W B last f) (hb : Below w.heap.size w w') : WinAt w' p m W B last f :=
  h.kept (hb.block p h.lt.1) (hb.block m h.lt.2)
theorem WinAt.cells {w : World} {p m : Nat} {W B last : Int} {f : Int → Option CntS} (h : WinAt w p m W B last f) : w.cell? ⟨p, 0, none⟩ = some (.int .i64 W) ∧ w.cell? ⟨p, 1, none⟩ = some (.int .i64 B) ∧ w.cell? ⟨p, 2, none⟩ = some (.int .i64 last) ∧ w.cell? ⟨p, 3, none⟩ = some (.map (some m)) := by
  simp only [World.cell?, h.head]
  exact ⟨rfl, rfl, rfl, rfl⟩

set_option maxHeartbeats 800000 in
theorem wLast_any {w : World} {p m : Nat} {W B last : Int} {f : Int → Option CntS} (h : WinAt w p m W B last f) : Calls Try.prog 47 #[.pointer (some ⟨p, 0, none⟩)] w fun e w' => e = .returned (.int .i64 last) ∧ w' = w := by
  obtain ⟨c0, c1, c2, c3⟩ := h.cells
  clear h
  go_enter Try.func47, Try.ntmps47
  go_wp2_with (fail)
  go_ret
  exact ⟨rfl, rfl⟩
theorem wLast_nil (w : World) : Calls Try.prog 47 #[.pointer none] w fun e w' => e = .returned (.int .i64 0) ∧ w' = w := by
  go_enter Try.func47, Try.ntmps47
  go_wp2_with (fail)
  go_ret
  exact ⟨rfl, rfl⟩

def winObj (W B : Int) (m : Nat) : Obj := .cells #[.int .i64 W, .int .i64 B, .int .i64 0, .map (some m)] 97
theorem winAt_made (w : World) {W B : Int} (hS : ShapeW W B) : WinAt ((w.alloc (.map #[] 0)).alloc (winObj W B w.heap.size)) (w.heap.size + 1) w.heap.size W B 0 (fun _ => none) := by
  refine ⟨?_, (ctmAt_made w).kept ?_, by omega, hS, by omega, by omega⟩
  · rw [get_allocW, if_pos (by simp)]; rfl
  · rw [get_allocW, if_neg (by simp)]
theorem run_makeMapW (w : World) : (Instr.makeMap 95 none).run Try.prog w = .ok (.map (some w.heap.size)) (w.alloc (.map #[] 0)) := run_makeMap _ w
set_option maxHeartbeats 1600000 in
theorem wnew_any (w : World) {W B : Int} (hS : ShapeW W B) : Calls Try.prog 60 #[.int .i64 W, .int .i64 B] w fun e w' => e = .returned (.tuple #[.pointer (some ⟨w.heap.size + 1, 0, none⟩), .int .i64 0]) ∧ w' = (w.alloc (.map #[] 0)).alloc (winObj W B w.heap.size) := by
  have hmk := fun wx => run_makeMapW wx
  obtain ⟨w0, w1, b0, b1, hm⟩ := hS
  unfold winObj
  have hne : (B == 0) = false := by rw [beq_eq_false_iff_ne]; omega
  have hne1 : (B == -1) = false := by rw [beq_eq_false_iff_ne]; omega
  go_enter Try.func60, Try.ntmps60
  go_wp2_with (fail)
  go_ret2
  exact ⟨rfl, rfl⟩
end Go.Proofs.Ytpbbidijnmooaaa
