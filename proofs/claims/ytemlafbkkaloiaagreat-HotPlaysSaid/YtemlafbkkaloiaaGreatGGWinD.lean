import Derived.Laws.OwnMore
import Derived.Test.YtemlafbkkaloiaaGreatGS0
import Derived.Test.YtemlafbkkaloiaaGreatGGWinC
set_option linter.unusedVariables false
set_option linter.unusedSimpArgs false
namespace Go.Proofs.YtemlafbkkaloiaaGreat
open Go.RowKit
theorem intKeyed : Maps.Keyed Tryz.prog 3 := Maps.int_keyed Tryz.underlying3
theorem zero_ct (w : World) : (zeroValue 92).run Tryz.prog w = .ok (.agg #[.int .i64 0, .int .i64 0, .int .i64 0, .int .i64 0, .int .i64 0, .int .i64 0]) w := by kernel_rfl
def okW (k : Int) : Bool := (Lit.int .i64 k).wf
theorem okW_of {k : Int} (h : -9223372036854775808 ≤ k ∧ k ≤ 9223372036854775807) : okW k = true := by
  unfold okW
  simp only [Lit.wf, IntKind.min, IntKind.max, IntKind.signed, IntKind.bits, Bool.and_eq_true, decide_eq_true_eq, if_true]
  omega
theorem okW_iff {k : Int} : okW k = true ↔ -9223372036854775808 ≤ k ∧ k ≤ 9223372036854775807 := by
  constructor
  · intro h
    unfold okW at h
    simp only [Lit.wf, IntKind.min, IntKind.max, IntKind.signed, IntKind.bits, Bool.and_eq_true, decide_eq_true_eq, if_true] at h
    omega
  · exact okW_of
theorem keyW {k : Int} (h : okW k = true) : keyOf Tryz.prog 3 (.int .i64 k) = some (.int .i64 k) := Maps.keyOf_int_mk Tryz.underlying3 h
def FitW (f : Int → Option CntS) : Prop := ∀ k c, f k = some c → 0 ≤ k ∧ k ≤ 1152921504606846976 ∧ RightC c
def CtmAt (w : World) (m : Nat) (f : Int → Option CntS) : Prop :=
  FitW f ∧ ∃ F n, MapV w 3 m F n ∧ ∀ k, okW k = true → F (.int .i64 k) = (f k).map ctV
theorem CtmAt.lt {w : World} {m : Nat} {f : Int → Option CntS} (h : CtmAt w m f) : m < w.heap.size := by
  obtain ⟨_, F, n, h1, _⟩ := h
  exact h1.lt
theorem CtmAt.kept {w w' : World} {m : Nat} {f : Int → Option CntS} (h : CtmAt w m f) (hk : w'.heap[m]? = w.heap[m]?) : CtmAt w' m f := by
  obtain ⟨h0, F, n, h1, h2⟩ := h
  exact ⟨h0, F, n, h1.kept hk, h2⟩
theorem ctmAt_made (w : World) : CtmAt (w.alloc (.map #[] 0)) w.heap.size (fun _ => none) :=
  ⟨fun _ _ h => (by cases h), _, _, mapV_made w _, fun _ _ => rfl⟩
theorem CtmAt.getD_right {w : World} {m : Nat} {f : Int → Option CntS} (h : CtmAt w m f) (k : Int) : RightC ((f k).getD .zero) := by
  cases hf : f k with
  | none => exact rightC_zero
  | some c => exact (h.1 k c hf).2.2
theorem CtmAt.congr {w : World} {m : Nat} {f g : Int → Option CntS} (h : CtmAt w m f) (e : ∀ k, okW k = true → f k = g k) (hg : FitW g) : CtmAt w m g := by
  obtain ⟨h0, F, n, h1, h2⟩ := h
  exact ⟨hg, F, n, h1, fun k hk => by rw [← e k hk]; exact h2 k hk⟩
theorem getD_ct (o : Option CntS) : (o.map ctV).getD (.agg #[.int .i64 0, .int .i64 0, .int .i64 0, .int .i64 0, .int .i64 0, .int .i64 0]) = ctV (o.getD .zero) := by cases o <;> rfl
theorem CtmAt.look {w : World} {m : Nat} {f : Int → Option CntS} (h : CtmAt w m f) {k : Int} (hk : okW k = true) : (Instr.lookup 142 (.map (some m)) (.int .i64 k) false).run Tryz.prog w = .ok (ctV ((f k).getD .zero)) w := by
  obtain ⟨_, F, n, h1, h2⟩ := h
  have := h1.look false intKeyed Tryz.underlying142 (zero_ct w) (keyW hk)
  rw [if_neg (by simp), h2 k hk, getD_ct] at this
  exact this
theorem CtmAt.look2 {w : World} {m : Nat} {f : Int → Option CntS} (h : CtmAt w m f) {k : Int} (hk : okW k = true) : (Instr.lookup 142 (.map (some m)) (.int .i64 k) true).run Tryz.prog w = .ok (.tuple #[ctV ((f k).getD .zero), .bool (f k).isSome]) w := by
  obtain ⟨_, F, n, h1, h2⟩ := h
  have := h1.look true intKeyed Tryz.underlying142 (zero_ct w) (keyW hk)
  rw [if_pos rfl, h2 k hk, getD_ct, Option.isSome_map] at this
  exact this
theorem mapV_few {w : World} {m n : Nat} {F : Value → Option Value} {f : Int → Option CntS} (h : MapV w 3 m F n) (h0 : FitW f) (h2 : ∀ k, okW k = true → F (.int .i64 k) = (f k).map ctV) : n < maxLen := by
  obtain ⟨M, hM⟩ : ∃ M : Nat, M = 1152921504606846977 := ⟨_, rfl⟩
  have := h.size_le intKeyed ((List.range M).map (fun (i : Nat) => Value.int .i64 (i : Int))) (fun key kl hk hf => by
    obtain ⟨x, rfl, _, hx⟩ := Maps.keyOf_int_inv Tryz.underlying3 hk
    rw [h2 x hx, Option.isSome_map] at hf
    obtain ⟨c, hc⟩ := Option.isSome_iff_exists.1 hf
    obtain ⟨q0, q1, _⟩ := h0 x c hc
    refine List.mem_map.2 ⟨x.toNat, List.mem_range.2 (by omega), ?_⟩
    rw [Int.toNat_of_nonneg q0])
  rw [List.length_map, List.length_range] at this
  unfold maxLen
  omega
def putW (f : Int → Option CntS) (k : Int) (o : Option CntS) : Int → Option CntS := fun g => if g = k then o else f g
theorem fitW_put {f : Int → Option CntS} (h : FitW f) {k : Int} {c : CntS} (k0 : 0 ≤ k) (k1 : k ≤ 1152921504606846976) (hc : RightC c) : FitW (putW f k (some c)) := by
  intro g x hx
  unfold putW at hx
  split at hx
  · rename_i e; subst e; cases hx; exact ⟨k0, k1, hc⟩
  · exact h g x hx
theorem fitW_del {f : Int → Option CntS} (h : FitW f) (k : Int) : FitW (putW f k none) := by
  intro g x hx
  unfold putW at hx
  split at hx
  · cases hx
  · exact h g x hx
theorem readsW_put {F : Value → Option Value} {f : Int → Option CntS} (h2 : ∀ k, okW k = true → F (.int .i64 k) = (f k).map ctV) (k : Int) (o : Option CntS) : ∀ x, okW x = true → updV F (.int .i64 k) (o.map ctV) (.int .i64 x) = (putW f k o x).map ctV := by
  intro x hx
  unfold putW
  by_cases e : x = k
  · subst e; rw [updV_same, if_pos rfl]
  · rw [updV_other _ _ (fun e' => e (by injection e')), if_neg e, h2 x hx]
theorem CtmAt.update {w : World} {m : Nat} {f : Int → Option CntS} (h : CtmAt w m f) {k : Int} (k0 : 0 ≤ k) (k1 : k ≤ 1152921504606846976) {c : CntS} (hc : RightC c) :
    ∃ w', (Instr.mapUpdate 142 (.map (some m)) (.int .i64 k) (ctV c)).run Tryz.prog w = .ok () w' ∧ CtmAt w' m (putW f k (some c)) ∧ w.grownBy w' (some m) ∧ w'.heap.size = w.heap.size := by
  obtain ⟨h0, F, n, h1, h2⟩ := h
  obtain ⟨w', hr, hm, hg, hs⟩ := h1.update intKeyed Tryz.underlying142 (mapV_few h1 h0 h2) (keyW (okW_of (k := k) (by omega))) (ctV c)
  exact ⟨w', hr, ⟨fitW_put h0 k0 k1 hc, _, _, hm, readsW_put h2 k (some c)⟩, hg, hs⟩
def CtrAt (w : World) (m r : Nat) (f : Int → Option CntS) (todo : Int → Bool) (cnt : Nat) : Prop :=
  FitW f ∧ ∃ F n T, RangeV w 3 m r F n T cnt ∧ (∀ k, okW k = true → F (.int .i64 k) = (f k).map ctV) ∧ ∀ k, okW k = true → T (.int .i64 k) = todo k
theorem CtrAt.map {w : World} {m r : Nat} {f : Int → Option CntS} {todo : Int → Bool} {cnt : Nat} (h : CtrAt w m r f todo cnt) : CtmAt w m f := by
  obtain ⟨h0, F, n, T, h1, h2, _⟩ := h
  exact ⟨h0, F, n, h1.map, h2⟩
theorem CtrAt.left_eq {w : World} {m r : Nat} {f : Int → Option CntS} {todo : Int → Bool} {cnt : Nat} (h : CtrAt w m r f todo cnt) : w.rangeLeft m r = cnt := by
  obtain ⟨h0, F, n, T, h1, _⟩ := h
  exact h1.left_eq
theorem CtrAt.lt {w : World} {m r : Nat} {f : Int → Option CntS} {todo : Int → Bool} {cnt : Nat} (h : CtrAt w m r f todo cnt) : r < w.heap.size ∧ m < w.heap.size ∧ r ≠ m := by
  obtain ⟨h0, F, n, T, h1, _⟩ := h
  exact ⟨h1.lt, h1.map.lt, h1.ne⟩
theorem CtmAt.range {w : World} {m : Nat} {f : Int → Option CntS} (h : CtmAt w m f) :
    ∃ w' cnt, (Instr.range 142 (.map (some m))).run Tryz.prog w = .ok (.pointer (some ⟨w.heap.size, 0, none⟩)) w' ∧ CtrAt w' m w.heap.size f (fun k => (f k).isSome) cnt ∧ w.grownBy w' none ∧ w'.heap.size = w.heap.size + 1 := by
  obtain ⟨h0, F, n, h1, h2⟩ := h
  obtain ⟨w', hr, hm, hg, hs⟩ := h1.range intKeyed Tryz.underlying142
  exact ⟨w', n, hr, ⟨h0, F, n, _, hm, h2, fun k hk => by rw [h2 k hk, Option.isSome_map]⟩, hg, hs⟩
def strW (todo : Int → Bool) (k : Int) : Int → Bool := fun g => if g = k then false else todo g
theorem readsW_strike {T : Value → Bool} {todo : Int → Bool} (h : ∀ k, okW k = true → T (.int .i64 k) = todo k) (k : Int) : ∀ x, okW x = true → strikeV T (.int .i64 k) (.int .i64 x) = strW todo k x := by
  intro x hx
  unfold strW
  by_cases e : x = k
  · subst e; rw [strikeV_same, if_pos rfl]
  · rw [strikeV_other _ (fun e' => e (by injection e')), if_neg e, h x hx]
theorem CtrAt.next {w : World} {m r : Nat} {f : Int → Option CntS} {todo : Int → Bool} {cnt : Nat} (h : CtrAt w m r f todo cnt) (ty : TypeId) :
    (cnt = 0 ∧ (∀ k, okW k = true → todo k = false) ∧ (Instr.next (.pointer (some ⟨r, 0, none⟩)) false ty).run Tryz.prog w = .ok (.tuple #[.bool false]) w) ∨
    ∃ k c w' cnt', okW k = true ∧ todo k = true ∧ f k = some c ∧ (Instr.next (.pointer (some ⟨r, 0, none⟩)) false ty).run Tryz.prog w = .ok (.tuple #[.bool true, .int .i64 k, ctV c]) w' ∧
      CtrAt w' m r f (strW todo k) cnt' ∧ cnt' < cnt ∧ w.grownBy w' (some r) ∧ w'.heap.size = w.heap.size ∧ (Instr.entry (.pointer (some ⟨r, 0, none⟩))).run Tryz.prog w' = .ok (.tuple #[.int .i64 k, ctV c]) w' := by
  obtain ⟨h0, F, n, T, h1, h2, h3⟩ := h
  rcases h1.next intKeyed ty with ⟨hc, ht, hr⟩ | ⟨key, v, kl, w', cnt', hkey, htd, hv, hr, hrg, hlt, hg, hs, hen⟩
  · exact Or.inl ⟨hc, fun k hk => by rw [← h3 k hk]; exact ht _ _ (keyW hk), hr⟩
  · obtain ⟨x, rfl, _, hx⟩ := Maps.keyOf_int_inv Tryz.underlying3 hkey
    have hx : okW x = true := hx
    rw [h2 x hx] at hv
    obtain ⟨c, hc, rfl⟩ := Option.map_eq_some_iff.1 hv
    exact Or.inr ⟨x, c, w', cnt', hx, by rw [← h3 x hx]; exact htd, hc, hr, ⟨h0, F, n, _, hrg, h2, readsW_strike h3 x⟩, hlt, hg, hs, hen⟩
theorem CtrAt.delete {w : World} {m r : Nat} {f : Int → Option CntS} {todo : Int → Bool} {cnt : Nat} (h : CtrAt w m r f todo cnt) {k : Int} (hk : okW k = true) :
    ∃ w' cnt', (∀ ty, (Builtin.delete_ #[142, 3] ty #[.map (some m), .int .i64 k]).run Tryz.prog w = .ok (.tuple #[]) w') ∧ CtrAt w' m r (putW f k none) (strW todo k) cnt' ∧ cnt' ≤ cnt ∧ w.grownBy w' (some m) := by
  obtain ⟨h0, F, n, T, h1, h2, h3⟩ := h
  obtain ⟨w', cnt', n', hr, hrg, hle, _, hg⟩ := h1.delete intKeyed Tryz.underlying142 (keyW hk) 3
  exact ⟨w', cnt', fun _ => hr, ⟨fitW_del h0 k, _, n', _, hrg, readsW_put h2 k none, readsW_strike h3 k⟩, hle, hg⟩
theorem CtrAt.kept {w w' : World} {m r : Nat} {row : Option Nat} {f : Int → Option CntS} {todo : Int → Bool} {cnt : Nat} (h : CtrAt w m r f todo cnt) (hg : w.grownBy w' row) (hb : some m ≠ row) (hr : some r ≠ row) : CtrAt w' m r f todo cnt := by
  obtain ⟨h0, F, n, T, h1, h2⟩ := h
  exact ⟨h0, F, n, T, h1.kept hg hb hr, h2⟩
structure WinAt (w : World) (p m : Nat) (W B last : Int) (f : Int → Option CntS) : Prop where
  head : w.heap[p]? = some (.cells #[.int .i64 W, .int .i64 B, .int .i64 last, .map (some m)] 144)
  map : CtmAt w m f
  ne : p ≠ m
  shape : ShapeW W B
  l0 : 0 ≤ last
  l1 : last ≤ 1152921504606846976
theorem WinAt.lt {w : World} {p m : Nat} {W B last : Int} {f : Int → Option CntS} (h : WinAt w p m W B last f) : p < w.heap.size ∧ m < w.heap.size := ⟨(Array.getElem?_eq_some_iff.1 h.head).1, h.map.lt⟩
theorem WinAt.kept {w w' : World} {p m : Nat} {W B last : Int} {f : Int → Option CntS} (h : WinAt w p m W B last f) (hp : w'.heap[p]? = w.heap[p]?) (hm : w'.heap[m]? = w.heap[m]?) : WinAt w' p m W B last f :=
  ⟨hp.trans h.head, h.map.kept hm, h.ne, h.shape, h.l0, h.l1⟩
theorem WinAt.below {w w' : World} {p m : Nat} {W B last : Int} {f : Int → Option CntS} (h : WinAt w p m W B last f) (hb : Below w.heap.size w w') : WinAt w' p m W B last f :=
  h.kept (hb.block p h.lt.1) (hb.block m h.lt.2)
theorem WinAt.cells {w : World} {p m : Nat} {W B last : Int} {f : Int → Option CntS} (h : WinAt w p m W B last f) : w.cell? ⟨p, 0, none⟩ = some (.int .i64 W) ∧ w.cell? ⟨p, 1, none⟩ = some (.int .i64 B) ∧ w.cell? ⟨p, 2, none⟩ = some (.int .i64 last) ∧ w.cell? ⟨p, 3, none⟩ = some (.map (some m)) := by
  simp only [World.cell?, h.head]
  exact ⟨rfl, rfl, rfl, rfl⟩
def winObj (W B : Int) (m : Nat) : Obj := .cells #[.int .i64 W, .int .i64 B, .int .i64 0, .map (some m)] 144
theorem winAt_made (w : World) {W B : Int} (hS : ShapeW W B) : WinAt ((w.alloc (.map #[] 0)).alloc (winObj W B w.heap.size)) (w.heap.size + 1) w.heap.size W B 0 (fun _ => none) := by
  refine ⟨?_, (ctmAt_made w).kept ?_, by omega, hS, by omega, by omega⟩
  · rw [get_allocW, if_pos (by simp)]; rfl
  · rw [get_allocW, if_neg (by simp)]
theorem run_makeMapW (w : World) : (Instr.makeMap 142 none).run Tryz.prog w = .ok (.map (some w.heap.size)) (w.alloc (.map #[] 0)) := run_makeMap _ w
set_option maxHeartbeats 1600000 in
theorem wnew_any (w : World) {W B : Int} (hS : ShapeW W B) : Calls Tryz.prog 71 #[.int .i64 W, .int .i64 B] w fun e w' => e = .returned (.tuple #[.pointer (some ⟨w.heap.size + 1, 0, none⟩), .int .i64 0]) ∧ w' = (w.alloc (.map #[] 0)).alloc (winObj W B w.heap.size) := by
  have hmk := fun wx => run_makeMapW wx
  obtain ⟨w0, w1, b0, b1, hm⟩ := hS
  unfold winObj
  have hne : (B == 0) = false := by rw [beq_eq_false_iff_ne]; omega
  have hne1 : (B == -1) = false := by rw [beq_eq_false_iff_ne]; omega
  go_enter Tryz.func71, Tryz.ntmps71
  go_wp2_with (fail)
  go_ret2
  exact ⟨rfl, rfl⟩
end Go.Proofs.YtemlafbkkaloiaaGreat
namespace Go.Proofs.YtemlafbkkaloiaaGreat
open Go.RowKit
def CntS.vals (c : CntS) : List Value := [.int .i64 c.p, .int .i64 c.b, .int .i64 c.d, .int .i64 c.e, .int .i64 c.r, .int .i64 c.m]
def flatC (cs : List CntS) : List Value := cs.flatMap CntS.vals
theorem flatC_len : ∀ cs : List CntS, (flatC cs).length = cs.length * 6
  | [] => rfl
  | x :: cs => by simp only [flatC, List.flatMap_cons, List.length_append, List.length_cons]; rw [show (cs.flatMap CntS.vals).length = cs.length * 6 from flatC_len cs]; simp [CntS.vals]; omega
theorem flatC_get : ∀ (k : Nat) (hk : k < 6) (cs : List CntS) (j : Nat), (flatC cs)[j * 6 + k]? = (cs[j]?).bind (fun c => c.vals[k]?)
  | k, hk, [], j => by simp [flatC]
  | k, hk, x :: cs, 0 => by
    simp only [flatC, List.flatMap_cons, Nat.zero_mul, Nat.zero_add]
    rw [List.getElem?_append_left (by simp [CntS.vals]; omega)]; rfl
  | k, hk, x :: cs, j + 1 => by
    have := flatC_get k hk cs j
    simp only [flatC, List.flatMap_cons] at this ⊢
    rw [List.getElem?_append_right (by simp [CntS.vals]; omega), List.getElem?_cons_succ, ← this]
    congr 1
    simp [CntS.vals]; omega
theorem flatC_one (cs : List CntS) : ∀ u, u ∈ flatC cs → u.oneCell' = true := by
  intro u hu
  obtain ⟨c, _, h⟩ := List.mem_flatMap.1 hu
  simp only [CntS.vals, List.mem_cons, List.mem_nil_iff, or_false] at h
  rcases h with rfl | rfl | rfl | rfl | rfl | rfl <;> rfl
theorem cts_news {w : World} {b off : Nat} {cs : List CntS} (h : ∀ j c, cs[j]? = some c → w.cell? ⟨b, off + j * 6, none⟩ = some (.int .i64 c.p) ∧ w.cell? ⟨b, off + j * 6 + 1, none⟩ = some (.int .i64 c.b) ∧ w.cell? ⟨b, off + j * 6 + 2, none⟩ = some (.int .i64 c.d) ∧
    w.cell? ⟨b, off + j * 6 + 3, none⟩ = some (.int .i64 c.e) ∧ w.cell? ⟨b, off + j * 6 + 4, none⟩ = some (.int .i64 c.r) ∧ w.cell? ⟨b, off + j * 6 + 5, none⟩ = some (.int .i64 c.m)) :
    ∀ j u, (flatC cs)[j]? = some u → w.cell? ((⟨b, off, none⟩ : Addr).add j) = some u := by
  intro j u hu
  rw [show j = (j / 6) * 6 + j % 6 by omega, flatC_get _ (by omega)] at hu
  rcases hf : cs[j / 6]? with _ | c
  · rw [hf] at hu; simp at hu
  · rw [hf] at hu
    obtain ⟨h0, h1, h2, h3, h4, h5⟩ := h _ c hf
    rw [Go.WideShapes.add_plain]
    have hj : j % 6 < 6 := by omega
    have e : off + j = off + j / 6 * 6 + j % 6 := by omega
    rw [e]
    simp only [Option.bind_some] at hu
    generalize j % 6 = r at *
    match r, hj with
    | 0, _ => obtain rfl : Value.int .i64 c.p = u := by simpa [CntS.vals] using hu
              exact h0
    | 1, _ => obtain rfl : Value.int .i64 c.b = u := by simpa [CntS.vals] using hu
              exact h1
    | 2, _ => obtain rfl : Value.int .i64 c.d = u := by simpa [CntS.vals] using hu
              exact h2
    | 3, _ => obtain rfl : Value.int .i64 c.e = u := by simpa [CntS.vals] using hu
              exact h3
    | 4, _ => obtain rfl : Value.int .i64 c.r = u := by simpa [CntS.vals] using hu
              exact h4
    | 5, _ => obtain rfl : Value.int .i64 c.m = u := by simpa [CntS.vals] using hu
              exact h5
theorem ownsC_cts {w : World} {base : Nat} {v : Value} {n : Nat} {cs : List CntS} (h : w.ownsRow base 92 6 v n (flatC cs)) : ∃ a cap, v = .slice a n cap ∧ CtsAt w a cs ∧ cs.length = n ∧ (a = none → n = 0 ∧ cap = 0) ∧ ∀ g off, a = some ⟨g, off, none⟩ → base ≤ g := by
  have hn : cs.length = n := by have := h.1; rw [flatC_len] at this; omega
  rcases h.2 with ⟨h1, h2⟩ | ⟨g, cap, cur, rfl, hb, hg, _⟩
  · have h0 : cs = [] := by
      exact List.length_eq_zero_iff.1 (by omega)
    subst h0
    simp at hn
    subst hn
    exact ⟨none, 0, h1, Or.inl rfl, rfl, fun _ => ⟨rfl, rfl⟩, fun _ _ e => by cases e⟩
  · refine ⟨_, cap, rfl, Or.inr ⟨g, 0, rfl, (Array.getElem?_eq_some_iff.1 hg).1, fun j c hj => ?_⟩, hn, fun e => (by cases e), fun g' off' e => (by cases e; exact hb)⟩
    have hjl : j < n := by have := (List.getElem?_eq_some_iff.1 hj).1; omega
    have g := fun k (hk : k < 6) => (h.cellAt (j * 6 + k) (by omega)).trans (flatC_get k hk cs j)
    simp only [hj, Option.bind_some] at g
    have s : ∀ k, j * 6 + k = 0 + j * 6 + k := fun k => by omega
    simp only [s] at g
    exact ⟨g 0 (by decide), g 1 (by decide), g 2 (by decide), g 3 (by decide), g 4 (by decide), g 5 (by decide)⟩
theorem info_ct : (Tryz.prog.info? 92).map (fun i => (i.zero, i.size, i.bytes)) = some (some (.agg #[.int .i64 0, .int .i64 0, .int .i64 0, .int .i64 0, .int .i64 0, .int .i64 0]), 6, 48) := by kernel_rfl
theorem run_append_cts (w : World) (c : CntS) (a : Option Addr) (len cap : Nat) (cs : List CntS) (hl : cs.length = len) (hm : len ≤ 1099511627776) (hnil : a = none → len = 0 ∧ cap = 0) (hc : CtsAt w a cs) (ty : TypeId) :
    ∃ g cap' w', (Builtin.append_ #[98, 98] ty #[.slice (some ⟨w.heap.size, 0, none⟩) 1 1, .slice a len cap]).run Tryz.prog (w.alloc (ctO c 92)) = .ok (.slice (some ⟨g, 0, none⟩) (1 + len) cap') w' ∧ CtsAt w' (some ⟨g, 0, none⟩) (c :: cs) ∧ Below w.heap.size w w' := by
  have hB : Below w.heap.size w (w.alloc (ctO c 92)) := (Below.refl _ _).alloc (Nat.le_refl _) _
  obtain ⟨i0, hi, hz0, hz1, hz2⟩ := info_parts info_ct
  have hown : (w.alloc (ctO c 92)).ownsRow w.heap.size 92 6 (.slice (some ⟨w.heap.size, 0, none⟩) 1 1) 1 (flatC [c]) := World.ownsRow_lit w (#[.int .i64 c.p, .int .i64 c.b, .int .i64 c.d, .int .i64 c.e, .int .i64 c.r, .int .i64 c.m]) 1 (Nat.le_refl _) (by unfold maxLen; omega) rfl
  rcases a with _ | ad
  · obtain ⟨rfl, rfl⟩ := hnil rfl
    obtain rfl : cs = [] := List.length_eq_zero_iff.1 hl
    have hrun := run_append_owned_none (P := Tryz.prog) (w := w.alloc (ctO c 92)) (size := 6) w.heap.size 98 ty 92 i0 Tryz.underlying98 hi _ 1 (flatC [c]) hown
    obtain ⟨a', cap', h1, h2, h3, _⟩ := ownsC_cts hown
    cases h1
    exact ⟨_, _, _, hrun, h2, hB⟩
  · by_cases h0 : cs = []
    · subst h0
      obtain rfl : len = 0 := hl.symm
      obtain ⟨v', w', hr, h2, h3, h4⟩ := run_append_own (P := Tryz.prog) (w.alloc (ctO c 92)) w.heap.size 98 ty 92 i0 _ 6 48 Tryz.underlying98 hi hz0 hz1 hz2 rfl (by decide) _ 1 (flatC [c]) hown ad 0 cap [] rfl (by intro j u h; simp at h) (by simp) (by unfold maxLen; omega) (by omega) (by simp)
      rw [List.append_nil] at h2
      obtain ⟨a', cap', rfl, h6, h7, h8, h9⟩ := ownsC_cts h2
      rcases a' with _ | ⟨g, off, sp⟩
      · have := h8 rfl; omega
      · rcases h6 with h6 | ⟨b', off', e, _⟩
        · cases h6
        · cases e
          have hoff : off = 0 := by
            rcases h2.2 with ⟨e, _⟩ | ⟨g', cap'', cur, e, _⟩
            · cases e
            · cases e; rfl
          subst hoff
          refine ⟨g, cap', w', hr, ?_, hB.grown h3 (by simp) (fun k e => by cases e; exact Nat.le_refl _)⟩
          obtain ⟨a'', cap'', e, h6', _⟩ := ownsC_cts h2
          cases e
          exact h6'
    · obtain ⟨b, off, hab, hbl, hcc⟩ : ∃ b off, some ad = some ⟨b, off, none⟩ ∧ b < w.heap.size ∧ ∀ j c, cs[j]? = some c → w.cell? ⟨b, off + j * 6, none⟩ = some (.int .i64 c.p) ∧ w.cell? ⟨b, off + j * 6 + 1, none⟩ = some (.int .i64 c.b) ∧ w.cell? ⟨b, off + j * 6 + 2, none⟩ = some (.int .i64 c.d) ∧
          w.cell? ⟨b, off + j * 6 + 3, none⟩ = some (.int .i64 c.e) ∧ w.cell? ⟨b, off + j * 6 + 4, none⟩ = some (.int .i64 c.r) ∧ w.cell? ⟨b, off + j * 6 + 5, none⟩ = some (.int .i64 c.m) := by
        rcases hc with h | h
        · exact absurd h h0
        · exact h
      cases hab
      have hnews := cts_news hcc
      obtain ⟨v', w', hr, h2, h3, h4⟩ := run_append_own (P := Tryz.prog) (w.alloc (ctO c 92)) w.heap.size 98 ty 92 i0 _ 6 48 Tryz.underlying98 hi hz0 hz1 hz2 rfl (by decide) _ 1 (flatC [c]) hown ⟨b, off, none⟩ len cap (flatC cs) (by rw [flatC_len, hl]) (fun j u h => by
        have h5 := hnews j u h
        rw [Go.WideShapes.add_plain] at h5 ⊢
        exact (hB.cell (p := ⟨b, off + j, none⟩) hbl).trans h5) (flatC_one cs) (by unfold maxLen; omega) (by omega) (by simp)
      have h2' : w'.ownsRow w.heap.size 92 6 v' (1 + len) (flatC (c :: cs)) := by
        have e : flatC [c] ++ flatC cs = flatC (c :: cs) := by simp [flatC]
        rw [← e]; exact h2
      obtain ⟨a', cap', rfl, h6, h7, h8, h9⟩ := ownsC_cts h2'
      rcases a' with _ | ⟨g, offg, sp⟩
      · have := h8 rfl; omega
      · rcases h6 with h6 | ⟨b', off', e, _⟩
        · cases h6
        · cases e
          have hoff : offg = 0 := by
            rcases h2'.2 with ⟨e, _⟩ | ⟨g', cap'', cur, e, _⟩
            · cases e
            · cases e; rfl
          subst hoff
          refine ⟨g, cap', w', hr, ?_, hB.grown h3 (by simp) (fun k e => by cases e; exact Nat.le_refl _)⟩
          obtain ⟨a'', cap'', e, h6', _⟩ := ownsC_cts h2'
          cases e
          exact h6'
theorem wpList_append_run {P : Program} {w : World} {ops : Array Oper} {rest : List Oper} {o : Oper} {a : Act} {Q : Exit → Act → World → Prop} (hgd : o.guard = none) (s x : Operand) (t ty : TypeId)
    (ho : o.op = .call { callee := .builtin .append, args := #[s, x], argTypes := #[t, t] }) (hty : o.type = ty) {v u r : Value} {w' : World} (hs : a.eval s = v) (hx : a.eval x = u)
    (hrun : (Builtin.append_ #[t, t] ty #[v, u]).run P w = .ok r w') (h : wpList P ops Q rest (a.put o.dst r) w') : wpList P ops Q (o :: rest) a w :=
  wpList_plain hgd fun _ hK => by
    subst hty
    unfold Oper.wp execOp
    simp only [ho, resolve, invoke, builtin, Sem.run_bind, Sem.run_pure, Result.andThen_ok, List.map_toArray, List.map_cons, List.map_nil, hs, hx, hrun]
    exact hK _ _ h
structure AddW (w : World) (p m : Nat) (W B at_ : Int) (f : Int → Option CntS) (cs : List CntS) (w' : World) : Prop where
  at' : WinAt w' p m W B at_ (addW (W / B) B at_ cs f)
  off : Off (fun i => i = p ∨ i = m) w w'
theorem joinC_zero {c : CntS} (hc : RightC c) (cs : List CntS) : joinC .zero (c :: cs) = joinC c cs := by
  show joinC (twoC .zero c) cs = _
  congr 1
  obtain ⟨a1, a2, a3, a4, a5, a6, a7, a8, a9, a10, a11, a12, a13, a14, a15⟩ := hc
  refine CntS.ext' ?_ ?_ ?_ ?_ ?_ ?_
  · show plusW 0 c.p = c.p
    unfold plusW; split <;> omega
  · show plusW 0 c.b = c.b
    unfold plusW; split <;> omega
  · show plusW 0 c.d = c.d
    unfold plusW; split <;> omega
  · show plusW 0 c.e = c.e
    unfold plusW; split <;> omega
  · show plusW 0 c.r = c.r
    unfold plusW; split <;> omega
  · show (if CntS.zero.d = 0 then c.m else if c.d = 0 then CntS.zero.m else if CntS.zero.m < c.m then CntS.zero.m else c.m) = c.m
    exact if_pos rfl
theorem add_endW {w : World} {m : Nat} {K B : Int} {f' f1 : Int → Option CntS} {todo : Int → Bool} (h : CtmAt w m f') (h1 : ∀ g, K - B < g → f' g = f1 g) (h2 : ∀ g, okW g = true → g ≤ K - B → f' g = none ∨ todo g = true) (h3 : ∀ g, okW g = true → todo g = false) : CtmAt w m (fun g => if g ≤ K - B then none else f1 g) := by
  refine h.congr (fun g hg => ?_) (fun g c hc => ?_)
  · by_cases e : g ≤ K - B
    · rw [if_pos e]
      rcases h2 g hg e with h4 | h4
      · exact h4
      · rw [h3 g hg] at h4; cases h4
    · rw [if_neg e]; exact h1 g (by omega)
  · by_cases e : g ≤ K - B
    · rw [if_pos e] at hc; cases hc
    · rw [if_neg e, ← h1 g (by omega)] at hc
      exact h.1 g c hc
theorem add_zeroW {W B at_ K : Int} {f : Int → Option CntS} {cs : List CntS} {C0 : CntS} (hK : at_ / (W / B) = K) (hC : (f K).getD .zero = C0) (hJ : joinC C0 cs = ⟨0, 0, 0, 0, 0, 0⟩) : addW (W / B) B at_ cs f = fun g => if g ≤ K - B then none else f g := by
  funext g
  unfold addW
  rw [hK]
  by_cases h1 : g ≤ K - B
  · rw [if_pos h1, if_pos h1]
  · rw [if_neg h1, if_neg h1]
    by_cases h2 : g = K
    · subst h2
      rw [if_pos rfl, hC, hJ, if_pos (by rfl)]
    · rw [if_neg h2]
theorem add_someW {W B at_ K : Int} {f : Int → Option CntS} {cs : List CntS} {C0 J : CntS} (hK : at_ / (W / B) = K) (hC : (f K).getD .zero = C0) (hJ : joinC C0 cs = J) (hz : zeroB J = false) : addW (W / B) B at_ cs f = fun g => if g ≤ K - B then none else putW f K (some J) g := by
  funext g
  unfold addW putW
  rw [hK]
  by_cases h1 : g ≤ K - B
  · rw [if_pos h1, if_pos h1]
  · rw [if_neg h1, if_neg h1]
    by_cases h2 : g = K
    · subst h2
      rw [if_pos rfl, if_pos rfl, hC, hJ, hz, if_neg (by simp)]
    · rw [if_neg h2, if_neg h2]
set_option maxHeartbeats 6400000 in
set_option maxRecDepth 100000 in
theorem wadd_any {w : World} {p m : Nat} {W B last : Int} {f : Int → Option CntS} (h : WinAt w p m W B last f) (at_ : Int) (hE : lookW last at_ = 0) (a : Option Addr) (len cap : Nat) (cs : List CntS) (hl : cs.length = len) (hm : len ≤ 1099511627776) (hnil : a = none → len = 0 ∧ cap = 0)
    (hc : CtsAt w a cs) (hr : ∀ c, c ∈ cs → RightC c) (hap : ∀ g off, a = some ⟨g, off, none⟩ → g ≠ p ∧ g ≠ m) :
    Calls Tryz.prog 42 #[.pointer (some ⟨p, 0, none⟩), .int .i64 at_, .slice a len cap] w fun e w' => e = .returned (.int .i64 0) ∧ AddW w p m W B at_ f cs w' := by
  obtain ⟨a0, a1, a2⟩ := lookW_ok hE
  obtain ⟨c0, c1, c2, c3⟩ := h.cells
  have HWR := Lib.hid (wwrong_any p last at_ w c2)
  rw [hE] at HWR
  have HH := Lib.hid h
  have HC := Lib.hid hc
  have HR := Lib.hid hr
  have HL := Lib.hid hl
  have HNIL := Lib.hid hnil
  have HAP := Lib.hid hap
  have hlt := h.lt
  obtain ⟨hpl, hml⟩ := hlt
  have HMW := Lib.hid hm
  have hm2 : len ≤ 9223372036854775807 := by omega
  clear h hc hr hl hnil hap hE
  go_enter Tryz.func42, Tryz.ntmps42
  go_wp2_with (fail)
  refine HWR.out.mono ?_
  rintro e wq ⟨rfl, hq⟩
  subst hq
  go_wp2_with (fail)
  go_loopw [9, 21] (fun _ i wr => ∃ (k : Nat), k ≤ len ∧ i = .int .i64 k ∧ Hid (Below wq.heap.size wq wr)) (fun _ i _ => len - (intOf i).toNat)
  case atStart => exact ⟨0, Nat.zero_le _, rfl, Lib.hid (Below.refl _ _)⟩
  case round =>
    rename World => wy
    obtain ⟨k, hk, rfl, HB⟩ := hrel
    by_cases hlt : k < len
    · have hkl : k < cs.length := by rw [HL.out]; exact hlt
      have k0 : (0 : Int) ≤ k := by omega
      have k1 : (k : Int) < len := by omega
      obtain ⟨c, hcx⟩ : ∃ c, cs[k]? = some c := ⟨_, List.getElem?_eq_getElem hkl⟩
      have hcm : c ∈ cs := List.mem_of_getElem? hcx
      have hrc := HR.out c hcm
      obtain ⟨bk, off, ha, hbl, hcc⟩ : ∃ b off, a = some ⟨b, off, none⟩ ∧ b < wq.heap.size ∧ ∀ j c, cs[j]? = some c → wq.cell? ⟨b, off + j * 6, none⟩ = some (.int .i64 c.p) ∧ wq.cell? ⟨b, off + j * 6 + 1, none⟩ = some (.int .i64 c.b) ∧ wq.cell? ⟨b, off + j * 6 + 2, none⟩ = some (.int .i64 c.d) ∧
          wq.cell? ⟨b, off + j * 6 + 3, none⟩ = some (.int .i64 c.e) ∧ wq.cell? ⟨b, off + j * 6 + 4, none⟩ = some (.int .i64 c.r) ∧ wq.cell? ⟨b, off + j * 6 + 5, none⟩ = some (.int .i64 c.m) := by
        rcases HC.out with h | h
        · rw [h] at hkl; simp at hkl
        · exact h
      subst ha
      obtain ⟨d0, d1, d2, d3, d4, d5⟩ := hcc k c hcx
      have d0 := (HB.out.cell (p := ⟨bk, off + k * 6, none⟩) hbl).trans d0
      have d1 := (HB.out.cell (p := ⟨bk, off + k * 6 + 1, none⟩) hbl).trans d1
      have d2 := (HB.out.cell (p := ⟨bk, off + k * 6 + 2, none⟩) hbl).trans d2
      have d3 := (HB.out.cell (p := ⟨bk, off + k * 6 + 3, none⟩) hbl).trans d3
      have d4 := (HB.out.cell (p := ⟨bk, off + k * 6 + 4, none⟩) hbl).trans d4
      have d5 := (HB.out.cell (p := ⟨bk, off + k * 6 + 5, none⟩) hbl).trans d5
      have HRT := Lib.hid (fun wx => wright_any c hrc wx)
      have hba : Below wy.heap.size wy (wy.alloc (ctO c 92)) := (Below.refl _ _).alloc (Nat.le_refl _) _
      have HBA := Lib.hid hba
      clear hcx hcc hcm hrc hba
      obtain ⟨cp, cb, cd, ce, cr, cm⟩ := c
      unfold ctV at HRT
      unfold ctO at HBA
      dsimp only at *
      go_wp2_with (fail)
      refine (HRT.out _).mono ?_
      rintro e w1 ⟨rfl, h1⟩
      have HB1 := Lib.hid (HB.out.trans ((HBA.out.trans (h1.mono HBA.out.size)).mono HB.out.size))
      clear h1 d0 d1 d2 d3 d4 d5
      go_wp2_with (fail)
      exact ⟨⟨k + 1, by omega, by go_num, HB1⟩, by first | (simp [intOf]; done) | (simp [intOf]; omega)⟩
    · have k1 : ¬ (k : Int) < len := by omega
      have hy := HH.out.below HB.out
      obtain ⟨c0, c1, c2, c3⟩ := hy.cells
      have hpf : wy.frozen? ⟨p, 2, none⟩ = false := frozen_of_row wy p 2 _ _ hy.head
      have hh2 := heap_setCell_same wy p 2 _ _ (.int .i64 at_) hy.head
      have HH2 := Lib.hid (show (wy.setCell ⟨p, 2, none⟩ (.int .i64 at_)).heap[p]? = some (.cells #[.int .i64 W, .int .i64 B, .int .i64 at_, .map (some m)] 144) from hh2)
      have HM2 := Lib.hid (hy.map.kept (heap_setCell_other wy ⟨p, 2, none⟩ m (.int .i64 at_) hy.ne.symm))
      have HO2 := Lib.hid ((Off.ofBelow (S := fun i => i = p ∨ i = m) HB.out).setCell (p := ⟨p, 2, none⟩) (fun _ => Or.inl rfl) (.int .i64 at_))
      have HC2 := Lib.hid (show CtsAt (wy.setCell ⟨p, 2, none⟩ (.int .i64 at_)) a cs from (HC.out.below HB.out).kept (by simp [World.setCell]) (fun g off e => heap_setCell_other wy ⟨p, 2, none⟩ g _ (HAP.out g off e).1))
      have HBK := Lib.hid (wbucket_any p W B at_ HH.out.shape a0 (by omega) (wy.setCell ⟨p, 2, none⟩ (.int .i64 at_)) (by simp only [World.cell?, hh2]; rfl) (by simp only [World.cell?, hh2]; rfl))
      clear hy hh2 HWR
      go_wp2_with (fail)
      refine HBK.out.mono ?_
      rintro e wb ⟨rfl, nq, hq⟩
      have HH2 : Hid (wb.heap[p]? = some (.cells #[.int .i64 W, .int .i64 B, .int .i64 at_, .map (some m)] 144)) := by rw [hq]; exact HH2
      have HM2 : Hid (CtmAt wb m f) := by rw [hq]; exact (HM2.out.kept rfl : CtmAt _ m f)
      have HO2 : Hid (Off (fun i => i = p ∨ i = m) wq wb) := by rw [hq]; exact Lib.hid ⟨HO2.out.os, HO2.out.tape, HO2.out.output, HO2.out.size, HO2.out.block⟩
      have HC2 : Hid (CtsAt wb a cs) := by rw [hq]; exact (HC2.out.kept (Nat.le_refl _) (fun _ _ _ => rfl) : CtsAt _ a cs)
      clear hq HBK c0 c1 c2 c3
      obtain ⟨K, hK⟩ : ∃ K, at_ / (W / B) = K := ⟨_, rfl⟩
      have hK0 : 0 ≤ K := by rw [← hK]; exact Int.ediv_nonneg a0 (by have := HH.out.shape.slot; omega)
      have hK1 : K ≤ at_ := by rw [← hK]; exact Int.ediv_le_self _ a0
      have HK := Lib.hid hK
      rw [hK]
      clear hK
      have c3 : wb.cell? ⟨p, 3, none⟩ = some (.map (some m)) := by simp only [World.cell?, HH2.out]; rfl
      have hlk := HM2.out.look (k := K) (okW_of (by omega))
      have hR0 := HM2.out.getD_right K
      obtain ⟨C0, hC0⟩ : ∃ C0, (f K).getD .zero = C0 := ⟨_, rfl⟩
      rw [hC0] at hlk hR0
      have HC0 := Lib.hid hC0
      have HR0 := Lib.hid hR0
      obtain ⟨g, capg, w8, happ, hc8, hb8⟩ := run_append_cts wb C0 a len cap cs HL.out HMW.out HNIL.out HC2.out 98
      have HJN := Lib.hid (wjoin_any w8 (some ⟨g, 0, none⟩) (1 + len) capg (C0 :: cs) (by simp [HL.out]; omega) (by omega) (fun x hx => by
        rcases List.mem_cons.1 hx with rfl | hx
        · exact HR0.out
        · exact HR.out x hx) hc8)
      rw [joinC_zero HR0.out] at HJN
      have HRJ := Lib.hid (joinC_right HR0.out HR.out)
      have HB8 := Lib.hid hb8
      clear hc8 hb8 hR0 hC0
      unfold ctV at hlk
      unfold ctO at happ
      have HAPP := Lib.hid happ
      clear HC2 happ
      go_wp2_with (at_builtin; refine wpList_append_run (by rfl) (.tmp 42) (.tmp 43) 98 98 (by rfl) (by rfl) (by rfl) (by rfl) HAPP.out ?_)
      refine HJN.out.mono ?_
      rintro e w9 ⟨rfl, h9⟩
      have hb9 := HB8.out.trans (h9.mono HB8.out.size)
      have HH9 := Lib.hid ((hb9.block p (Array.getElem?_eq_some_iff.1 HH2.out).1).trans HH2.out)
      have HM9 := Lib.hid (HM2.out.kept (hb9.block m HM2.out.lt))
      have HO9 := Lib.hid (HO2.out.trans (Off.ofBelow (S := fun i => i = p ∨ i = m) hb9) (fun _ _ h => h))
      have c0 : w9.cell? ⟨p, 0, none⟩ = some (.int .i64 W) := by simp only [World.cell?, HH9.out]; rfl
      have c1 : w9.cell? ⟨p, 1, none⟩ = some (.int .i64 B) := by simp only [World.cell?, HH9.out]; rfl
      have c3 : w9.cell? ⟨p, 3, none⟩ = some (.map (some m)) := by simp only [World.cell?, HH9.out]; rfl
      have hz9 : p < w9.heap.size := (Array.getElem?_eq_some_iff.1 HH9.out).1
      clear hb9 h9 HB8 HAPP hlk HJN HH2 HM2 HO2
      obtain ⟨J, hJ⟩ : ∃ J, joinC C0 cs = J := ⟨_, rfl⟩
      rw [hJ] at HRJ ⊢
      have HJ := Lib.hid hJ
      clear hJ
      obtain ⟨jp, jb, jd, je, jr, jm⟩ := J
      unfold ctV
      dsimp only
      have hJA : ∀ o, (w9.alloc o).cell? ⟨p, 3, none⟩ = some (.map (some m)) := fun o => (World.cell?_alloc_lt w9 o _ hz9).trans c3
      by_cases q0 : jp = 0
      case neg =>
        obtain ⟨f1, hf1⟩ : ∃ f1, f1 = putW f K (some ⟨jp, jb, jd, je, jr, jm⟩) := ⟨_, rfl⟩
        have hzb : zeroB ⟨jp, jb, jd, je, jr, jm⟩ = false := by simp [zeroB, q0]
        have HA := Lib.hid (add_someW (W := W) (B := B) (at_ := at_) (f := f) (cs := cs) HK.out HC0.out HJ.out hzb)
        have hm10 : CtmAt (w9.alloc (.cells #[.int .i64 jp, .int .i64 jb, .int .i64 jd, .int .i64 je, .int .i64 jr, .int .i64 jm] 92)).drew m f := HM9.out.kept (Below.heap_alloc w9 (.cells #[.int .i64 jp, .int .i64 jb, .int .i64 jd, .int .i64 je, .int .i64 jr, .int .i64 jm] 92) m HM9.out.lt)
        obtain ⟨w11, hup, hm11, hg11, hs11⟩ := hm10.update hK0 (show K ≤ 1152921504606846976 by omega) HRJ.out
        have HM11 := Lib.hid hm11
        have HH11 := Lib.hid ((hg11.block p (show p < (w9.alloc (.cells #[.int .i64 jp, .int .i64 jb, .int .i64 jd, .int .i64 je, .int .i64 jr, .int .i64 jm] 92)).heap.size by simp; omega) (by have := HH.out.ne; simp; exact this)).trans ((Below.heap_alloc w9 (.cells #[.int .i64 jp, .int .i64 jb, .int .i64 jd, .int .i64 je, .int .i64 jr, .int .i64 jm] 92) p hz9).trans HH9.out))
        have HO11 := Lib.hid (show Off (fun i => i = p ∨ i = m) wq w11 from ((⟨(HO9.out.alloc (.cells #[.int .i64 jp, .int .i64 jb, .int .i64 jd, .int .i64 je, .int .i64 jr, .int .i64 jm] 92)).os, (HO9.out.alloc (.cells #[.int .i64 jp, .int .i64 jb, .int .i64 jd, .int .i64 je, .int .i64 jr, .int .i64 jm] 92)).tape, (HO9.out.alloc (.cells #[.int .i64 jp, .int .i64 jb, .int .i64 jd, .int .i64 je, .int .i64 jr, .int .i64 jm] 92)).output, (HO9.out.alloc (.cells #[.int .i64 jp, .int .i64 jb, .int .i64 jd, .int .i64 je, .int .i64 jr, .int .i64 jm] 92)).size, (HO9.out.alloc (.cells #[.int .i64 jp, .int .i64 jb, .int .i64 jd, .int .i64 je, .int .i64 jr, .int .i64 jm] 92)).block⟩ : Off (fun i => i = p ∨ i = m) wq (w9.alloc (.cells #[.int .i64 jp, .int .i64 jb, .int .i64 jd, .int .i64 je, .int .i64 jr, .int .i64 jm] 92)).drew)).grown hg11 (fun _ => Or.inr rfl))
        have HNW := Lib.hid (fun i => World.cell?_of_block (a := ⟨w9.heap.size, i, none⟩) (hg11.block w9.heap.size (by simp) (by have := HM9.out.lt; simp; omega)))
        rw [← hf1] at HM11
        rw [show (fun g => if g ≤ K - B then none else putW f K (some ⟨jp, jb, jd, je, jr, jm⟩) g) = (fun g => if g ≤ K - B then none else f1 g) by rw [hf1]] at HA
        obtain ⟨z0, z1, z2, z3, z4, z5⟩ := (ct_cells (w := w9.alloc (.cells #[.int .i64 jp, .int .i64 jb, .int .i64 jd, .int .i64 je, .int .i64 jr, .int .i64 jm] 92)) (g := w9.heap.size) (c := ⟨jp, jb, jd, je, jr, jm⟩) (t := 92) (by rw [get_allocW, if_pos rfl]; rfl)).1
        have Z := Lib.hid (And.intro (hJA (.cells #[.int .i64 jp, .int .i64 jb, .int .i64 jd, .int .i64 je, .int .i64 jr, .int .i64 jm] 92)) (And.intro z0 (And.intro z1 (And.intro z2 (And.intro z3 (And.intro z4 z5))))))
        unfold ctV at hup
        dsimp only at hup
        clear hf1 hm10 hm11 hg11 hs11 hzb z0 z1 z2 z3 z4 z5
        go_wp2_with (fail)
        refine wp_region_noPanic ?_
        refine wp_region_held_drew (S := fun wx => wx.cell? ⟨p, 3, none⟩ = some (.map (some m)) ∧ wx.cell? ⟨w9.heap.size, 0, none⟩ = some (.int .i64 jp) ∧ wx.cell? ⟨w9.heap.size, 1, none⟩ = some (.int .i64 jb) ∧ wx.cell? ⟨w9.heap.size, 2, none⟩ = some (.int .i64 jd) ∧ wx.cell? ⟨w9.heap.size, 3, none⟩ = some (.int .i64 je) ∧ wx.cell? ⟨w9.heap.size, 4, none⟩ = some (.int .i64 jr) ∧ wx.cell? ⟨w9.heap.size, 5, none⟩ = some (.int .i64 jm)) (by kernel_rfl) ?_ (fun hHeld => ?_)
        · exact Z.out
        refine wpAnyH_take (i := 0) (v := ?_) rfl (by kernel_rfl) (by kernel_rfl) (by kernel_rfl) (fun _ _ _ h => h) (Or.inl ⟨by rfl, ?hy⟩) (by assumption) ?_
        case hy => intro w hSw; (try dsimp only at hSw); go_simp; try with_reducible rfl
        try simp only [Act.put, szA, szB, szC, szD, szE, szF]
        refine wpAnyH_take (i := 1) (v := ?_) rfl (by kernel_rfl) (by kernel_rfl) (by kernel_rfl) (fun _ _ _ h => h) (Or.inl ⟨by rfl, ?hy⟩) (by assumption) ?_
        case hy => intro w hSw; (try dsimp only at hSw); go_simp; try with_reducible rfl
        try simp only [Act.put, szA, szB, szC, szD, szE, szF]
        refine wpAnyH_take (i := 2) (v := ?_) rfl (by kernel_rfl) (by kernel_rfl) (by kernel_rfl) (fun _ _ _ h => h) (Or.inl ⟨by rfl, ?hy⟩) (by assumption) ?_
        case hy => intro w hSw; (try dsimp only at hSw); go_simp; try with_reducible rfl
        try simp only [Act.put, szA, szB, szC, szD, szE, szF]
        refine wpAnyH_take (i := 3) (v := ?_) rfl (by kernel_rfl) (by kernel_rfl) (by kernel_rfl) (fun _ _ _ h => h) (Or.inl ⟨by rfl, ?hy⟩) (by assumption) ?_
        case hy => intro w hSw; (try dsimp only at hSw); go_simp; try with_reducible rfl
        try simp only [Act.put, szA, szB, szC, szD, szE, szF]
        refine wpAnyH_take (i := 4) (v := ?_) rfl (by kernel_rfl) (by kernel_rfl) (by kernel_rfl) (fun _ _ _ h => h) (Or.inl ⟨by rfl, ?hy⟩) (by assumption) ?_
        case hy => intro w hSw; (try dsimp only at hSw); go_simp; try with_reducible rfl
        try simp only [Act.put, szA, szB, szC, szD, szE, szF]
        refine wpAnyH_take (i := 5) (v := ?_) rfl (by kernel_rfl) (by kernel_rfl) (by kernel_rfl) (fun _ _ _ h => h) (Or.inl ⟨by rfl, ?hy⟩) (by assumption) ?_
        case hy => intro w hSw; (try dsimp only at hSw); go_simp; try with_reducible rfl
        try simp only [Act.put, szA, szB, szC, szD, szE, szF]
        refine wpAnyH_ready (rs := [6]) (by kernel_rfl) (by simp) (AllReadyH.cons rfl (fun K hK => ?_) AllReadyH.nil)
        go_simp
        skip
        try (go_wp2_with fail)
        refine hK.out _ _ ?_ (fun hHeld => ?_)
        · exact ⟨by have hp11 := HH11.out; simp only [World.cell?, hp11]; rfl, (HNW.out 0).trans Z.out.2.1, (HNW.out 1).trans Z.out.2.2.1, (HNW.out 2).trans Z.out.2.2.2.1, (HNW.out 3).trans Z.out.2.2.2.2.1, (HNW.out 4).trans Z.out.2.2.2.2.2.1, (HNW.out 5).trans Z.out.2.2.2.2.2.2⟩
        clear hK K
        try simp only [Act.put, szA, szB, szC, szD, szE, szF]
        refine wpAnyH_done (by kernel_rfl) ?_ _
        refine NoPanic.normal ?_
        clear Z hup hJA c0 c1 c3
        have hp11 := HH11.out
        have c0 : w11.cell? ⟨p, 0, none⟩ = some (.int .i64 W) := by simp only [World.cell?, hp11]; rfl
        have c1 : w11.cell? ⟨p, 1, none⟩ = some (.int .i64 B) := by simp only [World.cell?, hp11]; rfl
        have c3 : w11.cell? ⟨p, 3, none⟩ = some (.map (some m)) := by simp only [World.cell?, hp11]; rfl
        obtain ⟨w12, cnt0, hrng, hctr, hg12, hs12⟩ := HM11.out.range
        have HH12 := Lib.hid ((hg12.block p (Array.getElem?_eq_some_iff.1 hp11).1 (by simp)).trans hp11)
        have HO12 := Lib.hid (HO11.out.trans (Off.ofBelow (S := fun i => i = p ∨ i = m) ⟨hg12.os, hg12.tape, hg12.output, hg12.size, fun k hk => hg12.block k hk (by simp)⟩) (fun _ _ h => h))
        have HRM := Lib.hid hctr.lt
        have HRW := Lib.hid (show wq.heap.size ≤ w11.heap.size from HO11.out.size)
        have HPR := Lib.hid (show p < w11.heap.size from (Array.getElem?_eq_some_iff.1 hp11).1)
        have HCTR := Lib.hid hctr
        clear hctr hg12 hs12 hp11
        go_wp2_with (fail)
        obtain ⟨R, hR⟩ : ∃ R, w11.heap.size = R := ⟨_, rfl⟩
        rw [hR] at HCTR HRM HPR HRW ⊢
        clear hrng c0 c1 c3 HM9 HO9 HH9 HM11 HH11 HO11 hR hz9
        go_loopw [12] (fun _ wr => ∃ (f' : Int → Option CntS) (todo : Int → Bool) (cnt : Nat), Hid (CtrAt wr m R f' todo cnt) ∧ Hid (∀ g, K - B < g → f' g = f1 g) ∧ Hid (∀ g, okW g = true → g ≤ K - B → f' g = none ∨ todo g = true) ∧ Hid (wr.heap[p]? = some (.cells #[.int .i64 W, .int .i64 B, .int .i64 at_, .map (some m)] 144)) ∧ Hid (Off (fun i => i = p ∨ i = m) wq wr)) (fun _ wr => wr.rangeLeft m R)
        case atStart => exact ⟨f1, _, cnt0, HCTR, Lib.hid (fun _ _ => rfl), Lib.hid (fun g _ _ => by cases f1 g <;> simp), HH12, HO12⟩
        case round =>
          rename World => wz
          obtain ⟨f', todo, cnt, HCT, HF1, HF2, HHZ, HOZ⟩ := hrel
          have hpz := HHZ.out
          have hplt : p < wz.heap.size := (Array.getElem?_eq_some_iff.1 hpz).1
          rcases HCT.out.next 0 with ⟨hc0, hall, hnx⟩ | ⟨k, c, wn, cnt', hok, htd, hfk, hnx, hctn, hltn, hgn, hsn, hen⟩
          · have HALL := Lib.hid hall
            clear hall hc0
            go_wp2_with (fail)
            go_ret
            refine ⟨rfl, ⟨?_, HOZ.out⟩⟩
            rw [HA.out]
            exact ⟨HHZ.out, add_endW HCT.out.map HF1.out HF2.out HALL.out, HH.out.ne, HH.out.shape, a0, a1⟩
          · have hpn := (hgn.block p hplt (by have := HRM.out; have := HPR.out; simp; omega)).trans hpz
            have c1n : wn.cell? ⟨p, 1, none⟩ = some (.int .i64 B) := by simp only [World.cell?, hpn]; rfl
            have c3n : wn.cell? ⟨p, 3, none⟩ = some (.map (some m)) := by simp only [World.cell?, hpn]; rfl
            have HPN := Lib.hid hpn
            have HON := Lib.hid (HOZ.out.grown hgn (fun h => absurd h (by have := HO12.out.size; have := HRM.out; have := HRW.out; omega)))
            have HCTN := Lib.hid hctn
            have hkk := okW_iff.1 hok
            have HOK := Lib.hid hok
            have hB0 := HH.out.shape.b0
            have hB1 := HH.out.shape.b1
            have HLT := Lib.hid hltn
            unfold ctV at hnx hen
            clear hpn hgn hctn hfk htd hok hpz hltn hsn
            by_cases hkK : k ≤ K - B
            · obtain ⟨wd, cntd, hdel, hctd, hled, hgd⟩ := HCTN.out.delete HOK.out
              have HPD := Lib.hid ((hgd.block p (Array.getElem?_eq_some_iff.1 HPN.out).1 (by have := HH.out.ne; simp; exact this)).trans HPN.out)
              have HOD := Lib.hid (HON.out.grown hgd (fun _ => Or.inr rfl))
              have HCTD := Lib.hid hctd
              clear hgd hctd
              go_wp2_with (fail)
              refine ⟨⟨_, _, cntd, HCTD, Lib.hid (fun g hg => ?_), Lib.hid (fun g hg hgk => ?_), HPD, HOD⟩, ?_⟩
              · unfold putW
                rw [if_neg (by omega)]
                exact HF1.out g hg
              · unfold putW strW
                by_cases e : g = k
                · left; rw [if_pos e]
                · rw [if_neg e, if_neg e, if_neg e]
                  exact HF2.out g hg hgk
              · have q1 := HCTD.out.left_eq
                have q2 := HCT.out.left_eq
                have q3 := HLT.out
                omega
            · go_wp2_with (fail)
              refine ⟨⟨_, _, cnt', HCTN, HF1, Lib.hid (fun g hg hgk => ?_), HPN, HON⟩, ?_⟩
              · unfold strW
                rw [if_neg (by omega)]
                exact HF2.out g hg hgk
              · have q1 := HCTN.out.left_eq
                have q2 := HCT.out.left_eq
                have q3 := HLT.out
                omega
      subst q0
      by_cases q1 : jb = 0
      case neg =>
        obtain ⟨f1, hf1⟩ : ∃ f1, f1 = putW f K (some ⟨0, jb, jd, je, jr, jm⟩) := ⟨_, rfl⟩
        have hzb : zeroB ⟨0, jb, jd, je, jr, jm⟩ = false := by simp [zeroB, q1]
        have HA := Lib.hid (add_someW (W := W) (B := B) (at_ := at_) (f := f) (cs := cs) HK.out HC0.out HJ.out hzb)
        have hm10 : CtmAt (w9.alloc (.cells #[.int .i64 0, .int .i64 jb, .int .i64 jd, .int .i64 je, .int .i64 jr, .int .i64 jm] 92)).drew m f := HM9.out.kept (Below.heap_alloc w9 (.cells #[.int .i64 0, .int .i64 jb, .int .i64 jd, .int .i64 je, .int .i64 jr, .int .i64 jm] 92) m HM9.out.lt)
        obtain ⟨w11, hup, hm11, hg11, hs11⟩ := hm10.update hK0 (show K ≤ 1152921504606846976 by omega) HRJ.out
        have HM11 := Lib.hid hm11
        have HH11 := Lib.hid ((hg11.block p (show p < (w9.alloc (.cells #[.int .i64 0, .int .i64 jb, .int .i64 jd, .int .i64 je, .int .i64 jr, .int .i64 jm] 92)).heap.size by simp; omega) (by have := HH.out.ne; simp; exact this)).trans ((Below.heap_alloc w9 (.cells #[.int .i64 0, .int .i64 jb, .int .i64 jd, .int .i64 je, .int .i64 jr, .int .i64 jm] 92) p hz9).trans HH9.out))
        have HO11 := Lib.hid (show Off (fun i => i = p ∨ i = m) wq w11 from ((⟨(HO9.out.alloc (.cells #[.int .i64 0, .int .i64 jb, .int .i64 jd, .int .i64 je, .int .i64 jr, .int .i64 jm] 92)).os, (HO9.out.alloc (.cells #[.int .i64 0, .int .i64 jb, .int .i64 jd, .int .i64 je, .int .i64 jr, .int .i64 jm] 92)).tape, (HO9.out.alloc (.cells #[.int .i64 0, .int .i64 jb, .int .i64 jd, .int .i64 je, .int .i64 jr, .int .i64 jm] 92)).output, (HO9.out.alloc (.cells #[.int .i64 0, .int .i64 jb, .int .i64 jd, .int .i64 je, .int .i64 jr, .int .i64 jm] 92)).size, (HO9.out.alloc (.cells #[.int .i64 0, .int .i64 jb, .int .i64 jd, .int .i64 je, .int .i64 jr, .int .i64 jm] 92)).block⟩ : Off (fun i => i = p ∨ i = m) wq (w9.alloc (.cells #[.int .i64 0, .int .i64 jb, .int .i64 jd, .int .i64 je, .int .i64 jr, .int .i64 jm] 92)).drew)).grown hg11 (fun _ => Or.inr rfl))
        have HNW := Lib.hid (fun i => World.cell?_of_block (a := ⟨w9.heap.size, i, none⟩) (hg11.block w9.heap.size (by simp) (by have := HM9.out.lt; simp; omega)))
        rw [← hf1] at HM11
        rw [show (fun g => if g ≤ K - B then none else putW f K (some ⟨0, jb, jd, je, jr, jm⟩) g) = (fun g => if g ≤ K - B then none else f1 g) by rw [hf1]] at HA
        obtain ⟨z0, z1, z2, z3, z4, z5⟩ := (ct_cells (w := w9.alloc (.cells #[.int .i64 0, .int .i64 jb, .int .i64 jd, .int .i64 je, .int .i64 jr, .int .i64 jm] 92)) (g := w9.heap.size) (c := ⟨0, jb, jd, je, jr, jm⟩) (t := 92) (by rw [get_allocW, if_pos rfl]; rfl)).1
        have Z := Lib.hid (And.intro (hJA (.cells #[.int .i64 0, .int .i64 jb, .int .i64 jd, .int .i64 je, .int .i64 jr, .int .i64 jm] 92)) (And.intro z0 (And.intro z1 (And.intro z2 (And.intro z3 (And.intro z4 z5))))))
        unfold ctV at hup
        dsimp only at hup
        clear hf1 hm10 hm11 hg11 hs11 hzb z0 z1 z2 z3 z4 z5
        go_wp2_with (fail)
        refine wp_region_noPanic ?_
        refine wp_region_held_drew (S := fun wx => wx.cell? ⟨p, 3, none⟩ = some (.map (some m)) ∧ wx.cell? ⟨w9.heap.size, 0, none⟩ = some (.int .i64 0) ∧ wx.cell? ⟨w9.heap.size, 1, none⟩ = some (.int .i64 jb) ∧ wx.cell? ⟨w9.heap.size, 2, none⟩ = some (.int .i64 jd) ∧ wx.cell? ⟨w9.heap.size, 3, none⟩ = some (.int .i64 je) ∧ wx.cell? ⟨w9.heap.size, 4, none⟩ = some (.int .i64 jr) ∧ wx.cell? ⟨w9.heap.size, 5, none⟩ = some (.int .i64 jm)) (by kernel_rfl) ?_ (fun hHeld => ?_)
        · exact Z.out
        refine wpAnyH_take (i := 0) (v := ?_) rfl (by kernel_rfl) (by kernel_rfl) (by kernel_rfl) (fun _ _ _ h => h) (Or.inl ⟨by rfl, ?hy⟩) (by assumption) ?_
        case hy => intro w hSw; (try dsimp only at hSw); go_simp; try with_reducible rfl
        try simp only [Act.put, szA, szB, szC, szD, szE, szF]
        refine wpAnyH_take (i := 1) (v := ?_) rfl (by kernel_rfl) (by kernel_rfl) (by kernel_rfl) (fun _ _ _ h => h) (Or.inl ⟨by rfl, ?hy⟩) (by assumption) ?_
        case hy => intro w hSw; (try dsimp only at hSw); go_simp; try with_reducible rfl
        try simp only [Act.put, szA, szB, szC, szD, szE, szF]
        refine wpAnyH_take (i := 2) (v := ?_) rfl (by kernel_rfl) (by kernel_rfl) (by kernel_rfl) (fun _ _ _ h => h) (Or.inl ⟨by rfl, ?hy⟩) (by assumption) ?_
        case hy => intro w hSw; (try dsimp only at hSw); go_simp; try with_reducible rfl
        try simp only [Act.put, szA, szB, szC, szD, szE, szF]
        refine wpAnyH_take (i := 3) (v := ?_) rfl (by kernel_rfl) (by kernel_rfl) (by kernel_rfl) (fun _ _ _ h => h) (Or.inl ⟨by rfl, ?hy⟩) (by assumption) ?_
        case hy => intro w hSw; (try dsimp only at hSw); go_simp; try with_reducible rfl
        try simp only [Act.put, szA, szB, szC, szD, szE, szF]
        refine wpAnyH_take (i := 4) (v := ?_) rfl (by kernel_rfl) (by kernel_rfl) (by kernel_rfl) (fun _ _ _ h => h) (Or.inl ⟨by rfl, ?hy⟩) (by assumption) ?_
        case hy => intro w hSw; (try dsimp only at hSw); go_simp; try with_reducible rfl
        try simp only [Act.put, szA, szB, szC, szD, szE, szF]
        refine wpAnyH_take (i := 5) (v := ?_) rfl (by kernel_rfl) (by kernel_rfl) (by kernel_rfl) (fun _ _ _ h => h) (Or.inl ⟨by rfl, ?hy⟩) (by assumption) ?_
        case hy => intro w hSw; (try dsimp only at hSw); go_simp; try with_reducible rfl
        try simp only [Act.put, szA, szB, szC, szD, szE, szF]
        refine wpAnyH_ready (rs := [6]) (by kernel_rfl) (by simp) (AllReadyH.cons rfl (fun K hK => ?_) AllReadyH.nil)
        go_simp
        skip
        try (go_wp2_with fail)
        refine hK.out _ _ ?_ (fun hHeld => ?_)
        · exact ⟨by have hp11 := HH11.out; simp only [World.cell?, hp11]; rfl, (HNW.out 0).trans Z.out.2.1, (HNW.out 1).trans Z.out.2.2.1, (HNW.out 2).trans Z.out.2.2.2.1, (HNW.out 3).trans Z.out.2.2.2.2.1, (HNW.out 4).trans Z.out.2.2.2.2.2.1, (HNW.out 5).trans Z.out.2.2.2.2.2.2⟩
        clear hK K
        try simp only [Act.put, szA, szB, szC, szD, szE, szF]
        refine wpAnyH_done (by kernel_rfl) ?_ _
        refine NoPanic.normal ?_
        clear Z hup hJA c0 c1 c3
        have hp11 := HH11.out
        have c0 : w11.cell? ⟨p, 0, none⟩ = some (.int .i64 W) := by simp only [World.cell?, hp11]; rfl
        have c1 : w11.cell? ⟨p, 1, none⟩ = some (.int .i64 B) := by simp only [World.cell?, hp11]; rfl
        have c3 : w11.cell? ⟨p, 3, none⟩ = some (.map (some m)) := by simp only [World.cell?, hp11]; rfl
        obtain ⟨w12, cnt0, hrng, hctr, hg12, hs12⟩ := HM11.out.range
        have HH12 := Lib.hid ((hg12.block p (Array.getElem?_eq_some_iff.1 hp11).1 (by simp)).trans hp11)
        have HO12 := Lib.hid (HO11.out.trans (Off.ofBelow (S := fun i => i = p ∨ i = m) ⟨hg12.os, hg12.tape, hg12.output, hg12.size, fun k hk => hg12.block k hk (by simp)⟩) (fun _ _ h => h))
        have HRM := Lib.hid hctr.lt
        have HRW := Lib.hid (show wq.heap.size ≤ w11.heap.size from HO11.out.size)
        have HPR := Lib.hid (show p < w11.heap.size from (Array.getElem?_eq_some_iff.1 hp11).1)
        have HCTR := Lib.hid hctr
        clear hctr hg12 hs12 hp11
        go_wp2_with (fail)
        obtain ⟨R, hR⟩ : ∃ R, w11.heap.size = R := ⟨_, rfl⟩
        rw [hR] at HCTR HRM HPR HRW ⊢
        clear hrng c0 c1 c3 HM9 HO9 HH9 HM11 HH11 HO11 hR hz9
        go_loopw [12] (fun _ wr => ∃ (f' : Int → Option CntS) (todo : Int → Bool) (cnt : Nat), Hid (CtrAt wr m R f' todo cnt) ∧ Hid (∀ g, K - B < g → f' g = f1 g) ∧ Hid (∀ g, okW g = true → g ≤ K - B → f' g = none ∨ todo g = true) ∧ Hid (wr.heap[p]? = some (.cells #[.int .i64 W, .int .i64 B, .int .i64 at_, .map (some m)] 144)) ∧ Hid (Off (fun i => i = p ∨ i = m) wq wr)) (fun _ wr => wr.rangeLeft m R)
        case atStart => exact ⟨f1, _, cnt0, HCTR, Lib.hid (fun _ _ => rfl), Lib.hid (fun g _ _ => by cases f1 g <;> simp), HH12, HO12⟩
        case round =>
          rename World => wz
          obtain ⟨f', todo, cnt, HCT, HF1, HF2, HHZ, HOZ⟩ := hrel
          have hpz := HHZ.out
          have hplt : p < wz.heap.size := (Array.getElem?_eq_some_iff.1 hpz).1
          rcases HCT.out.next 0 with ⟨hc0, hall, hnx⟩ | ⟨k, c, wn, cnt', hok, htd, hfk, hnx, hctn, hltn, hgn, hsn, hen⟩
          · have HALL := Lib.hid hall
            clear hall hc0
            go_wp2_with (fail)
            go_ret
            refine ⟨rfl, ⟨?_, HOZ.out⟩⟩
            rw [HA.out]
            exact ⟨HHZ.out, add_endW HCT.out.map HF1.out HF2.out HALL.out, HH.out.ne, HH.out.shape, a0, a1⟩
          · have hpn := (hgn.block p hplt (by have := HRM.out; have := HPR.out; simp; omega)).trans hpz
            have c1n : wn.cell? ⟨p, 1, none⟩ = some (.int .i64 B) := by simp only [World.cell?, hpn]; rfl
            have c3n : wn.cell? ⟨p, 3, none⟩ = some (.map (some m)) := by simp only [World.cell?, hpn]; rfl
            have HPN := Lib.hid hpn
            have HON := Lib.hid (HOZ.out.grown hgn (fun h => absurd h (by have := HO12.out.size; have := HRM.out; have := HRW.out; omega)))
            have HCTN := Lib.hid hctn
            have hkk := okW_iff.1 hok
            have HOK := Lib.hid hok
            have hB0 := HH.out.shape.b0
            have hB1 := HH.out.shape.b1
            have HLT := Lib.hid hltn
            unfold ctV at hnx hen
            clear hpn hgn hctn hfk htd hok hpz hltn hsn
            by_cases hkK : k ≤ K - B
            · obtain ⟨wd, cntd, hdel, hctd, hled, hgd⟩ := HCTN.out.delete HOK.out
              have HPD := Lib.hid ((hgd.block p (Array.getElem?_eq_some_iff.1 HPN.out).1 (by have := HH.out.ne; simp; exact this)).trans HPN.out)
              have HOD := Lib.hid (HON.out.grown hgd (fun _ => Or.inr rfl))
              have HCTD := Lib.hid hctd
              clear hgd hctd
              go_wp2_with (fail)
              refine ⟨⟨_, _, cntd, HCTD, Lib.hid (fun g hg => ?_), Lib.hid (fun g hg hgk => ?_), HPD, HOD⟩, ?_⟩
              · unfold putW
                rw [if_neg (by omega)]
                exact HF1.out g hg
              · unfold putW strW
                by_cases e : g = k
                · left; rw [if_pos e]
                · rw [if_neg e, if_neg e, if_neg e]
                  exact HF2.out g hg hgk
              · have q1 := HCTD.out.left_eq
                have q2 := HCT.out.left_eq
                have q3 := HLT.out
                omega
            · go_wp2_with (fail)
              refine ⟨⟨_, _, cnt', HCTN, HF1, Lib.hid (fun g hg hgk => ?_), HPN, HON⟩, ?_⟩
              · unfold strW
                rw [if_neg (by omega)]
                exact HF2.out g hg hgk
              · have q1 := HCTN.out.left_eq
                have q2 := HCT.out.left_eq
                have q3 := HLT.out
                omega
      subst q1
      by_cases q2 : jd = 0
      case neg =>
        obtain ⟨f1, hf1⟩ : ∃ f1, f1 = putW f K (some ⟨0, 0, jd, je, jr, jm⟩) := ⟨_, rfl⟩
        have hzb : zeroB ⟨0, 0, jd, je, jr, jm⟩ = false := by simp [zeroB, q2]
        have HA := Lib.hid (add_someW (W := W) (B := B) (at_ := at_) (f := f) (cs := cs) HK.out HC0.out HJ.out hzb)
        have hm10 : CtmAt (w9.alloc (.cells #[.int .i64 0, .int .i64 0, .int .i64 jd, .int .i64 je, .int .i64 jr, .int .i64 jm] 92)).drew m f := HM9.out.kept (Below.heap_alloc w9 (.cells #[.int .i64 0, .int .i64 0, .int .i64 jd, .int .i64 je, .int .i64 jr, .int .i64 jm] 92) m HM9.out.lt)
        obtain ⟨w11, hup, hm11, hg11, hs11⟩ := hm10.update hK0 (show K ≤ 1152921504606846976 by omega) HRJ.out
        have HM11 := Lib.hid hm11
        have HH11 := Lib.hid ((hg11.block p (show p < (w9.alloc (.cells #[.int .i64 0, .int .i64 0, .int .i64 jd, .int .i64 je, .int .i64 jr, .int .i64 jm] 92)).heap.size by simp; omega) (by have := HH.out.ne; simp; exact this)).trans ((Below.heap_alloc w9 (.cells #[.int .i64 0, .int .i64 0, .int .i64 jd, .int .i64 je, .int .i64 jr, .int .i64 jm] 92) p hz9).trans HH9.out))
        have HO11 := Lib.hid (show Off (fun i => i = p ∨ i = m) wq w11 from ((⟨(HO9.out.alloc (.cells #[.int .i64 0, .int .i64 0, .int .i64 jd, .int .i64 je, .int .i64 jr, .int .i64 jm] 92)).os, (HO9.out.alloc (.cells #[.int .i64 0, .int .i64 0, .int .i64 jd, .int .i64 je, .int .i64 jr, .int .i64 jm] 92)).tape, (HO9.out.alloc (.cells #[.int .i64 0, .int .i64 0, .int .i64 jd, .int .i64 je, .int .i64 jr, .int .i64 jm] 92)).output, (HO9.out.alloc (.cells #[.int .i64 0, .int .i64 0, .int .i64 jd, .int .i64 je, .int .i64 jr, .int .i64 jm] 92)).size, (HO9.out.alloc (.cells #[.int .i64 0, .int .i64 0, .int .i64 jd, .int .i64 je, .int .i64 jr, .int .i64 jm] 92)).block⟩ : Off (fun i => i = p ∨ i = m) wq (w9.alloc (.cells #[.int .i64 0, .int .i64 0, .int .i64 jd, .int .i64 je, .int .i64 jr, .int .i64 jm] 92)).drew)).grown hg11 (fun _ => Or.inr rfl))
        have HNW := Lib.hid (fun i => World.cell?_of_block (a := ⟨w9.heap.size, i, none⟩) (hg11.block w9.heap.size (by simp) (by have := HM9.out.lt; simp; omega)))
        rw [← hf1] at HM11
        rw [show (fun g => if g ≤ K - B then none else putW f K (some ⟨0, 0, jd, je, jr, jm⟩) g) = (fun g => if g ≤ K - B then none else f1 g) by rw [hf1]] at HA
        obtain ⟨z0, z1, z2, z3, z4, z5⟩ := (ct_cells (w := w9.alloc (.cells #[.int .i64 0, .int .i64 0, .int .i64 jd, .int .i64 je, .int .i64 jr, .int .i64 jm] 92)) (g := w9.heap.size) (c := ⟨0, 0, jd, je, jr, jm⟩) (t := 92) (by rw [get_allocW, if_pos rfl]; rfl)).1
        have Z := Lib.hid (And.intro (hJA (.cells #[.int .i64 0, .int .i64 0, .int .i64 jd, .int .i64 je, .int .i64 jr, .int .i64 jm] 92)) (And.intro z0 (And.intro z1 (And.intro z2 (And.intro z3 (And.intro z4 z5))))))
        unfold ctV at hup
        dsimp only at hup
        clear hf1 hm10 hm11 hg11 hs11 hzb z0 z1 z2 z3 z4 z5
        go_wp2_with (fail)
        refine wp_region_noPanic ?_
        refine wp_region_held_drew (S := fun wx => wx.cell? ⟨p, 3, none⟩ = some (.map (some m)) ∧ wx.cell? ⟨w9.heap.size, 0, none⟩ = some (.int .i64 0) ∧ wx.cell? ⟨w9.heap.size, 1, none⟩ = some (.int .i64 0) ∧ wx.cell? ⟨w9.heap.size, 2, none⟩ = some (.int .i64 jd) ∧ wx.cell? ⟨w9.heap.size, 3, none⟩ = some (.int .i64 je) ∧ wx.cell? ⟨w9.heap.size, 4, none⟩ = some (.int .i64 jr) ∧ wx.cell? ⟨w9.heap.size, 5, none⟩ = some (.int .i64 jm)) (by kernel_rfl) ?_ (fun hHeld => ?_)
        · exact Z.out
        refine wpAnyH_take (i := 0) (v := ?_) rfl (by kernel_rfl) (by kernel_rfl) (by kernel_rfl) (fun _ _ _ h => h) (Or.inl ⟨by rfl, ?hy⟩) (by assumption) ?_
        case hy => intro w hSw; (try dsimp only at hSw); go_simp; try with_reducible rfl
        try simp only [Act.put, szA, szB, szC, szD, szE, szF]
        refine wpAnyH_take (i := 1) (v := ?_) rfl (by kernel_rfl) (by kernel_rfl) (by kernel_rfl) (fun _ _ _ h => h) (Or.inl ⟨by rfl, ?hy⟩) (by assumption) ?_
        case hy => intro w hSw; (try dsimp only at hSw); go_simp; try with_reducible rfl
        try simp only [Act.put, szA, szB, szC, szD, szE, szF]
        refine wpAnyH_take (i := 2) (v := ?_) rfl (by kernel_rfl) (by kernel_rfl) (by kernel_rfl) (fun _ _ _ h => h) (Or.inl ⟨by rfl, ?hy⟩) (by assumption) ?_
        case hy => intro w hSw; (try dsimp only at hSw); go_simp; try with_reducible rfl
        try simp only [Act.put, szA, szB, szC, szD, szE, szF]
        refine wpAnyH_take (i := 3) (v := ?_) rfl (by kernel_rfl) (by kernel_rfl) (by kernel_rfl) (fun _ _ _ h => h) (Or.inl ⟨by rfl, ?hy⟩) (by assumption) ?_
        case hy => intro w hSw; (try dsimp only at hSw); go_simp; try with_reducible rfl
        try simp only [Act.put, szA, szB, szC, szD, szE, szF]
        refine wpAnyH_take (i := 4) (v := ?_) rfl (by kernel_rfl) (by kernel_rfl) (by kernel_rfl) (fun _ _ _ h => h) (Or.inl ⟨by rfl, ?hy⟩) (by assumption) ?_
        case hy => intro w hSw; (try dsimp only at hSw); go_simp; try with_reducible rfl
        try simp only [Act.put, szA, szB, szC, szD, szE, szF]
        refine wpAnyH_take (i := 5) (v := ?_) rfl (by kernel_rfl) (by kernel_rfl) (by kernel_rfl) (fun _ _ _ h => h) (Or.inl ⟨by rfl, ?hy⟩) (by assumption) ?_
        case hy => intro w hSw; (try dsimp only at hSw); go_simp; try with_reducible rfl
        try simp only [Act.put, szA, szB, szC, szD, szE, szF]
        refine wpAnyH_ready (rs := [6]) (by kernel_rfl) (by simp) (AllReadyH.cons rfl (fun K hK => ?_) AllReadyH.nil)
        go_simp
        skip
        try (go_wp2_with fail)
        refine hK.out _ _ ?_ (fun hHeld => ?_)
        · exact ⟨by have hp11 := HH11.out; simp only [World.cell?, hp11]; rfl, (HNW.out 0).trans Z.out.2.1, (HNW.out 1).trans Z.out.2.2.1, (HNW.out 2).trans Z.out.2.2.2.1, (HNW.out 3).trans Z.out.2.2.2.2.1, (HNW.out 4).trans Z.out.2.2.2.2.2.1, (HNW.out 5).trans Z.out.2.2.2.2.2.2⟩
        clear hK K
        try simp only [Act.put, szA, szB, szC, szD, szE, szF]
        refine wpAnyH_done (by kernel_rfl) ?_ _
        refine NoPanic.normal ?_
        clear Z hup hJA c0 c1 c3
        have hp11 := HH11.out
        have c0 : w11.cell? ⟨p, 0, none⟩ = some (.int .i64 W) := by simp only [World.cell?, hp11]; rfl
        have c1 : w11.cell? ⟨p, 1, none⟩ = some (.int .i64 B) := by simp only [World.cell?, hp11]; rfl
        have c3 : w11.cell? ⟨p, 3, none⟩ = some (.map (some m)) := by simp only [World.cell?, hp11]; rfl
        obtain ⟨w12, cnt0, hrng, hctr, hg12, hs12⟩ := HM11.out.range
        have HH12 := Lib.hid ((hg12.block p (Array.getElem?_eq_some_iff.1 hp11).1 (by simp)).trans hp11)
        have HO12 := Lib.hid (HO11.out.trans (Off.ofBelow (S := fun i => i = p ∨ i = m) ⟨hg12.os, hg12.tape, hg12.output, hg12.size, fun k hk => hg12.block k hk (by simp)⟩) (fun _ _ h => h))
        have HRM := Lib.hid hctr.lt
        have HRW := Lib.hid (show wq.heap.size ≤ w11.heap.size from HO11.out.size)
        have HPR := Lib.hid (show p < w11.heap.size from (Array.getElem?_eq_some_iff.1 hp11).1)
        have HCTR := Lib.hid hctr
        clear hctr hg12 hs12 hp11
        go_wp2_with (fail)
        obtain ⟨R, hR⟩ : ∃ R, w11.heap.size = R := ⟨_, rfl⟩
        rw [hR] at HCTR HRM HPR HRW ⊢
        clear hrng c0 c1 c3 HM9 HO9 HH9 HM11 HH11 HO11 hR hz9
        go_loopw [12] (fun _ wr => ∃ (f' : Int → Option CntS) (todo : Int → Bool) (cnt : Nat), Hid (CtrAt wr m R f' todo cnt) ∧ Hid (∀ g, K - B < g → f' g = f1 g) ∧ Hid (∀ g, okW g = true → g ≤ K - B → f' g = none ∨ todo g = true) ∧ Hid (wr.heap[p]? = some (.cells #[.int .i64 W, .int .i64 B, .int .i64 at_, .map (some m)] 144)) ∧ Hid (Off (fun i => i = p ∨ i = m) wq wr)) (fun _ wr => wr.rangeLeft m R)
        case atStart => exact ⟨f1, _, cnt0, HCTR, Lib.hid (fun _ _ => rfl), Lib.hid (fun g _ _ => by cases f1 g <;> simp), HH12, HO12⟩
        case round =>
          rename World => wz
          obtain ⟨f', todo, cnt, HCT, HF1, HF2, HHZ, HOZ⟩ := hrel
          have hpz := HHZ.out
          have hplt : p < wz.heap.size := (Array.getElem?_eq_some_iff.1 hpz).1
          rcases HCT.out.next 0 with ⟨hc0, hall, hnx⟩ | ⟨k, c, wn, cnt', hok, htd, hfk, hnx, hctn, hltn, hgn, hsn, hen⟩
          · have HALL := Lib.hid hall
            clear hall hc0
            go_wp2_with (fail)
            go_ret
            refine ⟨rfl, ⟨?_, HOZ.out⟩⟩
            rw [HA.out]
            exact ⟨HHZ.out, add_endW HCT.out.map HF1.out HF2.out HALL.out, HH.out.ne, HH.out.shape, a0, a1⟩
          · have hpn := (hgn.block p hplt (by have := HRM.out; have := HPR.out; simp; omega)).trans hpz
            have c1n : wn.cell? ⟨p, 1, none⟩ = some (.int .i64 B) := by simp only [World.cell?, hpn]; rfl
            have c3n : wn.cell? ⟨p, 3, none⟩ = some (.map (some m)) := by simp only [World.cell?, hpn]; rfl
            have HPN := Lib.hid hpn
            have HON := Lib.hid (HOZ.out.grown hgn (fun h => absurd h (by have := HO12.out.size; have := HRM.out; have := HRW.out; omega)))
            have HCTN := Lib.hid hctn
            have hkk := okW_iff.1 hok
            have HOK := Lib.hid hok
            have hB0 := HH.out.shape.b0
            have hB1 := HH.out.shape.b1
            have HLT := Lib.hid hltn
            unfold ctV at hnx hen
            clear hpn hgn hctn hfk htd hok hpz hltn hsn
            by_cases hkK : k ≤ K - B
            · obtain ⟨wd, cntd, hdel, hctd, hled, hgd⟩ := HCTN.out.delete HOK.out
              have HPD := Lib.hid ((hgd.block p (Array.getElem?_eq_some_iff.1 HPN.out).1 (by have := HH.out.ne; simp; exact this)).trans HPN.out)
              have HOD := Lib.hid (HON.out.grown hgd (fun _ => Or.inr rfl))
              have HCTD := Lib.hid hctd
              clear hgd hctd
              go_wp2_with (fail)
              refine ⟨⟨_, _, cntd, HCTD, Lib.hid (fun g hg => ?_), Lib.hid (fun g hg hgk => ?_), HPD, HOD⟩, ?_⟩
              · unfold putW
                rw [if_neg (by omega)]
                exact HF1.out g hg
              · unfold putW strW
                by_cases e : g = k
                · left; rw [if_pos e]
                · rw [if_neg e, if_neg e, if_neg e]
                  exact HF2.out g hg hgk
              · have q1 := HCTD.out.left_eq
                have q2 := HCT.out.left_eq
                have q3 := HLT.out
                omega
            · go_wp2_with (fail)
              refine ⟨⟨_, _, cnt', HCTN, HF1, Lib.hid (fun g hg hgk => ?_), HPN, HON⟩, ?_⟩
              · unfold strW
                rw [if_neg (by omega)]
                exact HF2.out g hg hgk
              · have q1 := HCTN.out.left_eq
                have q2 := HCT.out.left_eq
                have q3 := HLT.out
                omega
      subst q2
      by_cases q3 : je = 0
      case neg =>
        obtain ⟨f1, hf1⟩ : ∃ f1, f1 = putW f K (some ⟨0, 0, 0, je, jr, jm⟩) := ⟨_, rfl⟩
        have hzb : zeroB ⟨0, 0, 0, je, jr, jm⟩ = false := by simp [zeroB, q3]
        have HA := Lib.hid (add_someW (W := W) (B := B) (at_ := at_) (f := f) (cs := cs) HK.out HC0.out HJ.out hzb)
        have hm10 : CtmAt (w9.alloc (.cells #[.int .i64 0, .int .i64 0, .int .i64 0, .int .i64 je, .int .i64 jr, .int .i64 jm] 92)).drew m f := HM9.out.kept (Below.heap_alloc w9 (.cells #[.int .i64 0, .int .i64 0, .int .i64 0, .int .i64 je, .int .i64 jr, .int .i64 jm] 92) m HM9.out.lt)
        obtain ⟨w11, hup, hm11, hg11, hs11⟩ := hm10.update hK0 (show K ≤ 1152921504606846976 by omega) HRJ.out
        have HM11 := Lib.hid hm11
        have HH11 := Lib.hid ((hg11.block p (show p < (w9.alloc (.cells #[.int .i64 0, .int .i64 0, .int .i64 0, .int .i64 je, .int .i64 jr, .int .i64 jm] 92)).heap.size by simp; omega) (by have := HH.out.ne; simp; exact this)).trans ((Below.heap_alloc w9 (.cells #[.int .i64 0, .int .i64 0, .int .i64 0, .int .i64 je, .int .i64 jr, .int .i64 jm] 92) p hz9).trans HH9.out))
        have HO11 := Lib.hid (show Off (fun i => i = p ∨ i = m) wq w11 from ((⟨(HO9.out.alloc (.cells #[.int .i64 0, .int .i64 0, .int .i64 0, .int .i64 je, .int .i64 jr, .int .i64 jm] 92)).os, (HO9.out.alloc (.cells #[.int .i64 0, .int .i64 0, .int .i64 0, .int .i64 je, .int .i64 jr, .int .i64 jm] 92)).tape, (HO9.out.alloc (.cells #[.int .i64 0, .int .i64 0, .int .i64 0, .int .i64 je, .int .i64 jr, .int .i64 jm] 92)).output, (HO9.out.alloc (.cells #[.int .i64 0, .int .i64 0, .int .i64 0, .int .i64 je, .int .i64 jr, .int .i64 jm] 92)).size, (HO9.out.alloc (.cells #[.int .i64 0, .int .i64 0, .int .i64 0, .int .i64 je, .int .i64 jr, .int .i64 jm] 92)).block⟩ : Off (fun i => i = p ∨ i = m) wq (w9.alloc (.cells #[.int .i64 0, .int .i64 0, .int .i64 0, .int .i64 je, .int .i64 jr, .int .i64 jm] 92)).drew)).grown hg11 (fun _ => Or.inr rfl))
        have HNW := Lib.hid (fun i => World.cell?_of_block (a := ⟨w9.heap.size, i, none⟩) (hg11.block w9.heap.size (by simp) (by have := HM9.out.lt; simp; omega)))
        rw [← hf1] at HM11
        rw [show (fun g => if g ≤ K - B then none else putW f K (some ⟨0, 0, 0, je, jr, jm⟩) g) = (fun g => if g ≤ K - B then none else f1 g) by rw [hf1]] at HA
        obtain ⟨z0, z1, z2, z3, z4, z5⟩ := (ct_cells (w := w9.alloc (.cells #[.int .i64 0, .int .i64 0, .int .i64 0, .int .i64 je, .int .i64 jr, .int .i64 jm] 92)) (g := w9.heap.size) (c := ⟨0, 0, 0, je, jr, jm⟩) (t := 92) (by rw [get_allocW, if_pos rfl]; rfl)).1
        have Z := Lib.hid (And.intro (hJA (.cells #[.int .i64 0, .int .i64 0, .int .i64 0, .int .i64 je, .int .i64 jr, .int .i64 jm] 92)) (And.intro z0 (And.intro z1 (And.intro z2 (And.intro z3 (And.intro z4 z5))))))
        unfold ctV at hup
        dsimp only at hup
        clear hf1 hm10 hm11 hg11 hs11 hzb z0 z1 z2 z3 z4 z5
        go_wp2_with (fail)
        refine wp_region_noPanic ?_
        refine wp_region_held_drew (S := fun wx => wx.cell? ⟨p, 3, none⟩ = some (.map (some m)) ∧ wx.cell? ⟨w9.heap.size, 0, none⟩ = some (.int .i64 0) ∧ wx.cell? ⟨w9.heap.size, 1, none⟩ = some (.int .i64 0) ∧ wx.cell? ⟨w9.heap.size, 2, none⟩ = some (.int .i64 0) ∧ wx.cell? ⟨w9.heap.size, 3, none⟩ = some (.int .i64 je) ∧ wx.cell? ⟨w9.heap.size, 4, none⟩ = some (.int .i64 jr) ∧ wx.cell? ⟨w9.heap.size, 5, none⟩ = some (.int .i64 jm)) (by kernel_rfl) ?_ (fun hHeld => ?_)
        · exact Z.out
        refine wpAnyH_take (i := 0) (v := ?_) rfl (by kernel_rfl) (by kernel_rfl) (by kernel_rfl) (fun _ _ _ h => h) (Or.inl ⟨by rfl, ?hy⟩) (by assumption) ?_
        case hy => intro w hSw; (try dsimp only at hSw); go_simp; try with_reducible rfl
        try simp only [Act.put, szA, szB, szC, szD, szE, szF]
        refine wpAnyH_take (i := 1) (v := ?_) rfl (by kernel_rfl) (by kernel_rfl) (by kernel_rfl) (fun _ _ _ h => h) (Or.inl ⟨by rfl, ?hy⟩) (by assumption) ?_
        case hy => intro w hSw; (try dsimp only at hSw); go_simp; try with_reducible rfl
        try simp only [Act.put, szA, szB, szC, szD, szE, szF]
        refine wpAnyH_take (i := 2) (v := ?_) rfl (by kernel_rfl) (by kernel_rfl) (by kernel_rfl) (fun _ _ _ h => h) (Or.inl ⟨by rfl, ?hy⟩) (by assumption) ?_
        case hy => intro w hSw; (try dsimp only at hSw); go_simp; try with_reducible rfl
        try simp only [Act.put, szA, szB, szC, szD, szE, szF]
        refine wpAnyH_take (i := 3) (v := ?_) rfl (by kernel_rfl) (by kernel_rfl) (by kernel_rfl) (fun _ _ _ h => h) (Or.inl ⟨by rfl, ?hy⟩) (by assumption) ?_
        case hy => intro w hSw; (try dsimp only at hSw); go_simp; try with_reducible rfl
        try simp only [Act.put, szA, szB, szC, szD, szE, szF]
        refine wpAnyH_take (i := 4) (v := ?_) rfl (by kernel_rfl) (by kernel_rfl) (by kernel_rfl) (fun _ _ _ h => h) (Or.inl ⟨by rfl, ?hy⟩) (by assumption) ?_
        case hy => intro w hSw; (try dsimp only at hSw); go_simp; try with_reducible rfl
        try simp only [Act.put, szA, szB, szC, szD, szE, szF]
        refine wpAnyH_take (i := 5) (v := ?_) rfl (by kernel_rfl) (by kernel_rfl) (by kernel_rfl) (fun _ _ _ h => h) (Or.inl ⟨by rfl, ?hy⟩) (by assumption) ?_
        case hy => intro w hSw; (try dsimp only at hSw); go_simp; try with_reducible rfl
        try simp only [Act.put, szA, szB, szC, szD, szE, szF]
        refine wpAnyH_ready (rs := [6]) (by kernel_rfl) (by simp) (AllReadyH.cons rfl (fun K hK => ?_) AllReadyH.nil)
        go_simp
        skip
        try (go_wp2_with fail)
        refine hK.out _ _ ?_ (fun hHeld => ?_)
        · exact ⟨by have hp11 := HH11.out; simp only [World.cell?, hp11]; rfl, (HNW.out 0).trans Z.out.2.1, (HNW.out 1).trans Z.out.2.2.1, (HNW.out 2).trans Z.out.2.2.2.1, (HNW.out 3).trans Z.out.2.2.2.2.1, (HNW.out 4).trans Z.out.2.2.2.2.2.1, (HNW.out 5).trans Z.out.2.2.2.2.2.2⟩
        clear hK K
        try simp only [Act.put, szA, szB, szC, szD, szE, szF]
        refine wpAnyH_done (by kernel_rfl) ?_ _
        refine NoPanic.normal ?_
        clear Z hup hJA c0 c1 c3
        have hp11 := HH11.out
        have c0 : w11.cell? ⟨p, 0, none⟩ = some (.int .i64 W) := by simp only [World.cell?, hp11]; rfl
        have c1 : w11.cell? ⟨p, 1, none⟩ = some (.int .i64 B) := by simp only [World.cell?, hp11]; rfl
        have c3 : w11.cell? ⟨p, 3, none⟩ = some (.map (some m)) := by simp only [World.cell?, hp11]; rfl
        obtain ⟨w12, cnt0, hrng, hctr, hg12, hs12⟩ := HM11.out.range
        have HH12 := Lib.hid ((hg12.block p (Array.getElem?_eq_some_iff.1 hp11).1 (by simp)).trans hp11)
        have HO12 := Lib.hid (HO11.out.trans (Off.ofBelow (S := fun i => i = p ∨ i = m) ⟨hg12.os, hg12.tape, hg12.output, hg12.size, fun k hk => hg12.block k hk (by simp)⟩) (fun _ _ h => h))
        have HRM := Lib.hid hctr.lt
        have HRW := Lib.hid (show wq.heap.size ≤ w11.heap.size from HO11.out.size)
        have HPR := Lib.hid (show p < w11.heap.size from (Array.getElem?_eq_some_iff.1 hp11).1)
        have HCTR := Lib.hid hctr
        clear hctr hg12 hs12 hp11
        go_wp2_with (fail)
        obtain ⟨R, hR⟩ : ∃ R, w11.heap.size = R := ⟨_, rfl⟩
        rw [hR] at HCTR HRM HPR HRW ⊢
        clear hrng c0 c1 c3 HM9 HO9 HH9 HM11 HH11 HO11 hR hz9
        go_loopw [12] (fun _ wr => ∃ (f' : Int → Option CntS) (todo : Int → Bool) (cnt : Nat), Hid (CtrAt wr m R f' todo cnt) ∧ Hid (∀ g, K - B < g → f' g = f1 g) ∧ Hid (∀ g, okW g = true → g ≤ K - B → f' g = none ∨ todo g = true) ∧ Hid (wr.heap[p]? = some (.cells #[.int .i64 W, .int .i64 B, .int .i64 at_, .map (some m)] 144)) ∧ Hid (Off (fun i => i = p ∨ i = m) wq wr)) (fun _ wr => wr.rangeLeft m R)
        case atStart => exact ⟨f1, _, cnt0, HCTR, Lib.hid (fun _ _ => rfl), Lib.hid (fun g _ _ => by cases f1 g <;> simp), HH12, HO12⟩
        case round =>
          rename World => wz
          obtain ⟨f', todo, cnt, HCT, HF1, HF2, HHZ, HOZ⟩ := hrel
          have hpz := HHZ.out
          have hplt : p < wz.heap.size := (Array.getElem?_eq_some_iff.1 hpz).1
          rcases HCT.out.next 0 with ⟨hc0, hall, hnx⟩ | ⟨k, c, wn, cnt', hok, htd, hfk, hnx, hctn, hltn, hgn, hsn, hen⟩
          · have HALL := Lib.hid hall
            clear hall hc0
            go_wp2_with (fail)
            go_ret
            refine ⟨rfl, ⟨?_, HOZ.out⟩⟩
            rw [HA.out]
            exact ⟨HHZ.out, add_endW HCT.out.map HF1.out HF2.out HALL.out, HH.out.ne, HH.out.shape, a0, a1⟩
          · have hpn := (hgn.block p hplt (by have := HRM.out; have := HPR.out; simp; omega)).trans hpz
            have c1n : wn.cell? ⟨p, 1, none⟩ = some (.int .i64 B) := by simp only [World.cell?, hpn]; rfl
            have c3n : wn.cell? ⟨p, 3, none⟩ = some (.map (some m)) := by simp only [World.cell?, hpn]; rfl
            have HPN := Lib.hid hpn
            have HON := Lib.hid (HOZ.out.grown hgn (fun h => absurd h (by have := HO12.out.size; have := HRM.out; have := HRW.out; omega)))
            have HCTN := Lib.hid hctn
            have hkk := okW_iff.1 hok
            have HOK := Lib.hid hok
            have hB0 := HH.out.shape.b0
            have hB1 := HH.out.shape.b1
            have HLT := Lib.hid hltn
            unfold ctV at hnx hen
            clear hpn hgn hctn hfk htd hok hpz hltn hsn
            by_cases hkK : k ≤ K - B
            · obtain ⟨wd, cntd, hdel, hctd, hled, hgd⟩ := HCTN.out.delete HOK.out
              have HPD := Lib.hid ((hgd.block p (Array.getElem?_eq_some_iff.1 HPN.out).1 (by have := HH.out.ne; simp; exact this)).trans HPN.out)
              have HOD := Lib.hid (HON.out.grown hgd (fun _ => Or.inr rfl))
              have HCTD := Lib.hid hctd
              clear hgd hctd
              go_wp2_with (fail)
              refine ⟨⟨_, _, cntd, HCTD, Lib.hid (fun g hg => ?_), Lib.hid (fun g hg hgk => ?_), HPD, HOD⟩, ?_⟩
              · unfold putW
                rw [if_neg (by omega)]
                exact HF1.out g hg
              · unfold putW strW
                by_cases e : g = k
                · left; rw [if_pos e]
                · rw [if_neg e, if_neg e, if_neg e]
                  exact HF2.out g hg hgk
              · have q1 := HCTD.out.left_eq
                have q2 := HCT.out.left_eq
                have q3 := HLT.out
                omega
            · go_wp2_with (fail)
              refine ⟨⟨_, _, cnt', HCTN, HF1, Lib.hid (fun g hg hgk => ?_), HPN, HON⟩, ?_⟩
              · unfold strW
                rw [if_neg (by omega)]
                exact HF2.out g hg hgk
              · have q1 := HCTN.out.left_eq
                have q2 := HCT.out.left_eq
                have q3 := HLT.out
                omega
      subst q3
      by_cases q4 : jr = 0
      case neg =>
        obtain ⟨f1, hf1⟩ : ∃ f1, f1 = putW f K (some ⟨0, 0, 0, 0, jr, jm⟩) := ⟨_, rfl⟩
        have hzb : zeroB ⟨0, 0, 0, 0, jr, jm⟩ = false := by simp [zeroB, q4]
        have HA := Lib.hid (add_someW (W := W) (B := B) (at_ := at_) (f := f) (cs := cs) HK.out HC0.out HJ.out hzb)
        have hm10 : CtmAt (w9.alloc (.cells #[.int .i64 0, .int .i64 0, .int .i64 0, .int .i64 0, .int .i64 jr, .int .i64 jm] 92)).drew m f := HM9.out.kept (Below.heap_alloc w9 (.cells #[.int .i64 0, .int .i64 0, .int .i64 0, .int .i64 0, .int .i64 jr, .int .i64 jm] 92) m HM9.out.lt)
        obtain ⟨w11, hup, hm11, hg11, hs11⟩ := hm10.update hK0 (show K ≤ 1152921504606846976 by omega) HRJ.out
        have HM11 := Lib.hid hm11
        have HH11 := Lib.hid ((hg11.block p (show p < (w9.alloc (.cells #[.int .i64 0, .int .i64 0, .int .i64 0, .int .i64 0, .int .i64 jr, .int .i64 jm] 92)).heap.size by simp; omega) (by have := HH.out.ne; simp; exact this)).trans ((Below.heap_alloc w9 (.cells #[.int .i64 0, .int .i64 0, .int .i64 0, .int .i64 0, .int .i64 jr, .int .i64 jm] 92) p hz9).trans HH9.out))
        have HO11 := Lib.hid (show Off (fun i => i = p ∨ i = m) wq w11 from ((⟨(HO9.out.alloc (.cells #[.int .i64 0, .int .i64 0, .int .i64 0, .int .i64 0, .int .i64 jr, .int .i64 jm] 92)).os, (HO9.out.alloc (.cells #[.int .i64 0, .int .i64 0, .int .i64 0, .int .i64 0, .int .i64 jr, .int .i64 jm] 92)).tape, (HO9.out.alloc (.cells #[.int .i64 0, .int .i64 0, .int .i64 0, .int .i64 0, .int .i64 jr, .int .i64 jm] 92)).output, (HO9.out.alloc (.cells #[.int .i64 0, .int .i64 0, .int .i64 0, .int .i64 0, .int .i64 jr, .int .i64 jm] 92)).size, (HO9.out.alloc (.cells #[.int .i64 0, .int .i64 0, .int .i64 0, .int .i64 0, .int .i64 jr, .int .i64 jm] 92)).block⟩ : Off (fun i => i = p ∨ i = m) wq (w9.alloc (.cells #[.int .i64 0, .int .i64 0, .int .i64 0, .int .i64 0, .int .i64 jr, .int .i64 jm] 92)).drew)).grown hg11 (fun _ => Or.inr rfl))
        have HNW := Lib.hid (fun i => World.cell?_of_block (a := ⟨w9.heap.size, i, none⟩) (hg11.block w9.heap.size (by simp) (by have := HM9.out.lt; simp; omega)))
        rw [← hf1] at HM11
        rw [show (fun g => if g ≤ K - B then none else putW f K (some ⟨0, 0, 0, 0, jr, jm⟩) g) = (fun g => if g ≤ K - B then none else f1 g) by rw [hf1]] at HA
        obtain ⟨z0, z1, z2, z3, z4, z5⟩ := (ct_cells (w := w9.alloc (.cells #[.int .i64 0, .int .i64 0, .int .i64 0, .int .i64 0, .int .i64 jr, .int .i64 jm] 92)) (g := w9.heap.size) (c := ⟨0, 0, 0, 0, jr, jm⟩) (t := 92) (by rw [get_allocW, if_pos rfl]; rfl)).1
        have Z := Lib.hid (And.intro (hJA (.cells #[.int .i64 0, .int .i64 0, .int .i64 0, .int .i64 0, .int .i64 jr, .int .i64 jm] 92)) (And.intro z0 (And.intro z1 (And.intro z2 (And.intro z3 (And.intro z4 z5))))))
        unfold ctV at hup
        dsimp only at hup
        clear hf1 hm10 hm11 hg11 hs11 hzb z0 z1 z2 z3 z4 z5
        go_wp2_with (fail)
        refine wp_region_noPanic ?_
        refine wp_region_held_drew (S := fun wx => wx.cell? ⟨p, 3, none⟩ = some (.map (some m)) ∧ wx.cell? ⟨w9.heap.size, 0, none⟩ = some (.int .i64 0) ∧ wx.cell? ⟨w9.heap.size, 1, none⟩ = some (.int .i64 0) ∧ wx.cell? ⟨w9.heap.size, 2, none⟩ = some (.int .i64 0) ∧ wx.cell? ⟨w9.heap.size, 3, none⟩ = some (.int .i64 0) ∧ wx.cell? ⟨w9.heap.size, 4, none⟩ = some (.int .i64 jr) ∧ wx.cell? ⟨w9.heap.size, 5, none⟩ = some (.int .i64 jm)) (by kernel_rfl) ?_ (fun hHeld => ?_)
        · exact Z.out
        refine wpAnyH_take (i := 0) (v := ?_) rfl (by kernel_rfl) (by kernel_rfl) (by kernel_rfl) (fun _ _ _ h => h) (Or.inl ⟨by rfl, ?hy⟩) (by assumption) ?_
        case hy => intro w hSw; (try dsimp only at hSw); go_simp; try with_reducible rfl
        try simp only [Act.put, szA, szB, szC, szD, szE, szF]
        refine wpAnyH_take (i := 1) (v := ?_) rfl (by kernel_rfl) (by kernel_rfl) (by kernel_rfl) (fun _ _ _ h => h) (Or.inl ⟨by rfl, ?hy⟩) (by assumption) ?_
        case hy => intro w hSw; (try dsimp only at hSw); go_simp; try with_reducible rfl
        try simp only [Act.put, szA, szB, szC, szD, szE, szF]
        refine wpAnyH_take (i := 2) (v := ?_) rfl (by kernel_rfl) (by kernel_rfl) (by kernel_rfl) (fun _ _ _ h => h) (Or.inl ⟨by rfl, ?hy⟩) (by assumption) ?_
        case hy => intro w hSw; (try dsimp only at hSw); go_simp; try with_reducible rfl
        try simp only [Act.put, szA, szB, szC, szD, szE, szF]
        refine wpAnyH_take (i := 3) (v := ?_) rfl (by kernel_rfl) (by kernel_rfl) (by kernel_rfl) (fun _ _ _ h => h) (Or.inl ⟨by rfl, ?hy⟩) (by assumption) ?_
        case hy => intro w hSw; (try dsimp only at hSw); go_simp; try with_reducible rfl
        try simp only [Act.put, szA, szB, szC, szD, szE, szF]
        refine wpAnyH_take (i := 4) (v := ?_) rfl (by kernel_rfl) (by kernel_rfl) (by kernel_rfl) (fun _ _ _ h => h) (Or.inl ⟨by rfl, ?hy⟩) (by assumption) ?_
        case hy => intro w hSw; (try dsimp only at hSw); go_simp; try with_reducible rfl
        try simp only [Act.put, szA, szB, szC, szD, szE, szF]
        refine wpAnyH_take (i := 5) (v := ?_) rfl (by kernel_rfl) (by kernel_rfl) (by kernel_rfl) (fun _ _ _ h => h) (Or.inl ⟨by rfl, ?hy⟩) (by assumption) ?_
        case hy => intro w hSw; (try dsimp only at hSw); go_simp; try with_reducible rfl
        try simp only [Act.put, szA, szB, szC, szD, szE, szF]
        refine wpAnyH_ready (rs := [6]) (by kernel_rfl) (by simp) (AllReadyH.cons rfl (fun K hK => ?_) AllReadyH.nil)
        go_simp
        skip
        try (go_wp2_with fail)
        refine hK.out _ _ ?_ (fun hHeld => ?_)
        · exact ⟨by have hp11 := HH11.out; simp only [World.cell?, hp11]; rfl, (HNW.out 0).trans Z.out.2.1, (HNW.out 1).trans Z.out.2.2.1, (HNW.out 2).trans Z.out.2.2.2.1, (HNW.out 3).trans Z.out.2.2.2.2.1, (HNW.out 4).trans Z.out.2.2.2.2.2.1, (HNW.out 5).trans Z.out.2.2.2.2.2.2⟩
        clear hK K
        try simp only [Act.put, szA, szB, szC, szD, szE, szF]
        refine wpAnyH_done (by kernel_rfl) ?_ _
        refine NoPanic.normal ?_
        clear Z hup hJA c0 c1 c3
        have hp11 := HH11.out
        have c0 : w11.cell? ⟨p, 0, none⟩ = some (.int .i64 W) := by simp only [World.cell?, hp11]; rfl
        have c1 : w11.cell? ⟨p, 1, none⟩ = some (.int .i64 B) := by simp only [World.cell?, hp11]; rfl
        have c3 : w11.cell? ⟨p, 3, none⟩ = some (.map (some m)) := by simp only [World.cell?, hp11]; rfl
        obtain ⟨w12, cnt0, hrng, hctr, hg12, hs12⟩ := HM11.out.range
        have HH12 := Lib.hid ((hg12.block p (Array.getElem?_eq_some_iff.1 hp11).1 (by simp)).trans hp11)
        have HO12 := Lib.hid (HO11.out.trans (Off.ofBelow (S := fun i => i = p ∨ i = m) ⟨hg12.os, hg12.tape, hg12.output, hg12.size, fun k hk => hg12.block k hk (by simp)⟩) (fun _ _ h => h))
        have HRM := Lib.hid hctr.lt
        have HRW := Lib.hid (show wq.heap.size ≤ w11.heap.size from HO11.out.size)
        have HPR := Lib.hid (show p < w11.heap.size from (Array.getElem?_eq_some_iff.1 hp11).1)
        have HCTR := Lib.hid hctr
        clear hctr hg12 hs12 hp11
        go_wp2_with (fail)
        obtain ⟨R, hR⟩ : ∃ R, w11.heap.size = R := ⟨_, rfl⟩
        rw [hR] at HCTR HRM HPR HRW ⊢
        clear hrng c0 c1 c3 HM9 HO9 HH9 HM11 HH11 HO11 hR hz9
        go_loopw [12] (fun _ wr => ∃ (f' : Int → Option CntS) (todo : Int → Bool) (cnt : Nat), Hid (CtrAt wr m R f' todo cnt) ∧ Hid (∀ g, K - B < g → f' g = f1 g) ∧ Hid (∀ g, okW g = true → g ≤ K - B → f' g = none ∨ todo g = true) ∧ Hid (wr.heap[p]? = some (.cells #[.int .i64 W, .int .i64 B, .int .i64 at_, .map (some m)] 144)) ∧ Hid (Off (fun i => i = p ∨ i = m) wq wr)) (fun _ wr => wr.rangeLeft m R)
        case atStart => exact ⟨f1, _, cnt0, HCTR, Lib.hid (fun _ _ => rfl), Lib.hid (fun g _ _ => by cases f1 g <;> simp), HH12, HO12⟩
        case round =>
          rename World => wz
          obtain ⟨f', todo, cnt, HCT, HF1, HF2, HHZ, HOZ⟩ := hrel
          have hpz := HHZ.out
          have hplt : p < wz.heap.size := (Array.getElem?_eq_some_iff.1 hpz).1
          rcases HCT.out.next 0 with ⟨hc0, hall, hnx⟩ | ⟨k, c, wn, cnt', hok, htd, hfk, hnx, hctn, hltn, hgn, hsn, hen⟩
          · have HALL := Lib.hid hall
            clear hall hc0
            go_wp2_with (fail)
            go_ret
            refine ⟨rfl, ⟨?_, HOZ.out⟩⟩
            rw [HA.out]
            exact ⟨HHZ.out, add_endW HCT.out.map HF1.out HF2.out HALL.out, HH.out.ne, HH.out.shape, a0, a1⟩
          · have hpn := (hgn.block p hplt (by have := HRM.out; have := HPR.out; simp; omega)).trans hpz
            have c1n : wn.cell? ⟨p, 1, none⟩ = some (.int .i64 B) := by simp only [World.cell?, hpn]; rfl
            have c3n : wn.cell? ⟨p, 3, none⟩ = some (.map (some m)) := by simp only [World.cell?, hpn]; rfl
            have HPN := Lib.hid hpn
            have HON := Lib.hid (HOZ.out.grown hgn (fun h => absurd h (by have := HO12.out.size; have := HRM.out; have := HRW.out; omega)))
            have HCTN := Lib.hid hctn
            have hkk := okW_iff.1 hok
            have HOK := Lib.hid hok
            have hB0 := HH.out.shape.b0
            have hB1 := HH.out.shape.b1
            have HLT := Lib.hid hltn
            unfold ctV at hnx hen
            clear hpn hgn hctn hfk htd hok hpz hltn hsn
            by_cases hkK : k ≤ K - B
            · obtain ⟨wd, cntd, hdel, hctd, hled, hgd⟩ := HCTN.out.delete HOK.out
              have HPD := Lib.hid ((hgd.block p (Array.getElem?_eq_some_iff.1 HPN.out).1 (by have := HH.out.ne; simp; exact this)).trans HPN.out)
              have HOD := Lib.hid (HON.out.grown hgd (fun _ => Or.inr rfl))
              have HCTD := Lib.hid hctd
              clear hgd hctd
              go_wp2_with (fail)
              refine ⟨⟨_, _, cntd, HCTD, Lib.hid (fun g hg => ?_), Lib.hid (fun g hg hgk => ?_), HPD, HOD⟩, ?_⟩
              · unfold putW
                rw [if_neg (by omega)]
                exact HF1.out g hg
              · unfold putW strW
                by_cases e : g = k
                · left; rw [if_pos e]
                · rw [if_neg e, if_neg e, if_neg e]
                  exact HF2.out g hg hgk
              · have q1 := HCTD.out.left_eq
                have q2 := HCT.out.left_eq
                have q3 := HLT.out
                omega
            · go_wp2_with (fail)
              refine ⟨⟨_, _, cnt', HCTN, HF1, Lib.hid (fun g hg hgk => ?_), HPN, HON⟩, ?_⟩
              · unfold strW
                rw [if_neg (by omega)]
                exact HF2.out g hg hgk
              · have q1 := HCTN.out.left_eq
                have q2 := HCT.out.left_eq
                have q3 := HLT.out
                omega
      subst q4
      by_cases q5 : jm = 0
      case neg =>
        obtain ⟨f1, hf1⟩ : ∃ f1, f1 = putW f K (some ⟨0, 0, 0, 0, 0, jm⟩) := ⟨_, rfl⟩
        have hzb : zeroB ⟨0, 0, 0, 0, 0, jm⟩ = false := by simp [zeroB, q5]
        have HA := Lib.hid (add_someW (W := W) (B := B) (at_ := at_) (f := f) (cs := cs) HK.out HC0.out HJ.out hzb)
        have hm10 : CtmAt (w9.alloc (.cells #[.int .i64 0, .int .i64 0, .int .i64 0, .int .i64 0, .int .i64 0, .int .i64 jm] 92)).drew m f := HM9.out.kept (Below.heap_alloc w9 (.cells #[.int .i64 0, .int .i64 0, .int .i64 0, .int .i64 0, .int .i64 0, .int .i64 jm] 92) m HM9.out.lt)
        obtain ⟨w11, hup, hm11, hg11, hs11⟩ := hm10.update hK0 (show K ≤ 1152921504606846976 by omega) HRJ.out
        have HM11 := Lib.hid hm11
        have HH11 := Lib.hid ((hg11.block p (show p < (w9.alloc (.cells #[.int .i64 0, .int .i64 0, .int .i64 0, .int .i64 0, .int .i64 0, .int .i64 jm] 92)).heap.size by simp; omega) (by have := HH.out.ne; simp; exact this)).trans ((Below.heap_alloc w9 (.cells #[.int .i64 0, .int .i64 0, .int .i64 0, .int .i64 0, .int .i64 0, .int .i64 jm] 92) p hz9).trans HH9.out))
        have HO11 := Lib.hid (show Off (fun i => i = p ∨ i = m) wq w11 from ((⟨(HO9.out.alloc (.cells #[.int .i64 0, .int .i64 0, .int .i64 0, .int .i64 0, .int .i64 0, .int .i64 jm] 92)).os, (HO9.out.alloc (.cells #[.int .i64 0, .int .i64 0, .int .i64 0, .int .i64 0, .int .i64 0, .int .i64 jm] 92)).tape, (HO9.out.alloc (.cells #[.int .i64 0, .int .i64 0, .int .i64 0, .int .i64 0, .int .i64 0, .int .i64 jm] 92)).output, (HO9.out.alloc (.cells #[.int .i64 0, .int .i64 0, .int .i64 0, .int .i64 0, .int .i64 0, .int .i64 jm] 92)).size, (HO9.out.alloc (.cells #[.int .i64 0, .int .i64 0, .int .i64 0, .int .i64 0, .int .i64 0, .int .i64 jm] 92)).block⟩ : Off (fun i => i = p ∨ i = m) wq (w9.alloc (.cells #[.int .i64 0, .int .i64 0, .int .i64 0, .int .i64 0, .int .i64 0, .int .i64 jm] 92)).drew)).grown hg11 (fun _ => Or.inr rfl))
        have HNW := Lib.hid (fun i => World.cell?_of_block (a := ⟨w9.heap.size, i, none⟩) (hg11.block w9.heap.size (by simp) (by have := HM9.out.lt; simp; omega)))
        rw [← hf1] at HM11
        rw [show (fun g => if g ≤ K - B then none else putW f K (some ⟨0, 0, 0, 0, 0, jm⟩) g) = (fun g => if g ≤ K - B then none else f1 g) by rw [hf1]] at HA
        obtain ⟨z0, z1, z2, z3, z4, z5⟩ := (ct_cells (w := w9.alloc (.cells #[.int .i64 0, .int .i64 0, .int .i64 0, .int .i64 0, .int .i64 0, .int .i64 jm] 92)) (g := w9.heap.size) (c := ⟨0, 0, 0, 0, 0, jm⟩) (t := 92) (by rw [get_allocW, if_pos rfl]; rfl)).1
        have Z := Lib.hid (And.intro (hJA (.cells #[.int .i64 0, .int .i64 0, .int .i64 0, .int .i64 0, .int .i64 0, .int .i64 jm] 92)) (And.intro z0 (And.intro z1 (And.intro z2 (And.intro z3 (And.intro z4 z5))))))
        unfold ctV at hup
        dsimp only at hup
        clear hf1 hm10 hm11 hg11 hs11 hzb z0 z1 z2 z3 z4 z5
        go_wp2_with (fail)
        refine wp_region_noPanic ?_
        refine wp_region_held_drew (S := fun wx => wx.cell? ⟨p, 3, none⟩ = some (.map (some m)) ∧ wx.cell? ⟨w9.heap.size, 0, none⟩ = some (.int .i64 0) ∧ wx.cell? ⟨w9.heap.size, 1, none⟩ = some (.int .i64 0) ∧ wx.cell? ⟨w9.heap.size, 2, none⟩ = some (.int .i64 0) ∧ wx.cell? ⟨w9.heap.size, 3, none⟩ = some (.int .i64 0) ∧ wx.cell? ⟨w9.heap.size, 4, none⟩ = some (.int .i64 0) ∧ wx.cell? ⟨w9.heap.size, 5, none⟩ = some (.int .i64 jm)) (by kernel_rfl) ?_ (fun hHeld => ?_)
        · exact Z.out
        refine wpAnyH_take (i := 0) (v := ?_) rfl (by kernel_rfl) (by kernel_rfl) (by kernel_rfl) (fun _ _ _ h => h) (Or.inl ⟨by rfl, ?hy⟩) (by assumption) ?_
        case hy => intro w hSw; (try dsimp only at hSw); go_simp; try with_reducible rfl
        try simp only [Act.put, szA, szB, szC, szD, szE, szF]
        refine wpAnyH_take (i := 1) (v := ?_) rfl (by kernel_rfl) (by kernel_rfl) (by kernel_rfl) (fun _ _ _ h => h) (Or.inl ⟨by rfl, ?hy⟩) (by assumption) ?_
        case hy => intro w hSw; (try dsimp only at hSw); go_simp; try with_reducible rfl
        try simp only [Act.put, szA, szB, szC, szD, szE, szF]
        refine wpAnyH_take (i := 2) (v := ?_) rfl (by kernel_rfl) (by kernel_rfl) (by kernel_rfl) (fun _ _ _ h => h) (Or.inl ⟨by rfl, ?hy⟩) (by assumption) ?_
        case hy => intro w hSw; (try dsimp only at hSw); go_simp; try with_reducible rfl
        try simp only [Act.put, szA, szB, szC, szD, szE, szF]
        refine wpAnyH_take (i := 3) (v := ?_) rfl (by kernel_rfl) (by kernel_rfl) (by kernel_rfl) (fun _ _ _ h => h) (Or.inl ⟨by rfl, ?hy⟩) (by assumption) ?_
        case hy => intro w hSw; (try dsimp only at hSw); go_simp; try with_reducible rfl
        try simp only [Act.put, szA, szB, szC, szD, szE, szF]
        refine wpAnyH_take (i := 4) (v := ?_) rfl (by kernel_rfl) (by kernel_rfl) (by kernel_rfl) (fun _ _ _ h => h) (Or.inl ⟨by rfl, ?hy⟩) (by assumption) ?_
        case hy => intro w hSw; (try dsimp only at hSw); go_simp; try with_reducible rfl
        try simp only [Act.put, szA, szB, szC, szD, szE, szF]
        refine wpAnyH_take (i := 5) (v := ?_) rfl (by kernel_rfl) (by kernel_rfl) (by kernel_rfl) (fun _ _ _ h => h) (Or.inl ⟨by rfl, ?hy⟩) (by assumption) ?_
        case hy => intro w hSw; (try dsimp only at hSw); go_simp; try with_reducible rfl
        try simp only [Act.put, szA, szB, szC, szD, szE, szF]
        refine wpAnyH_ready (rs := [6]) (by kernel_rfl) (by simp) (AllReadyH.cons rfl (fun K hK => ?_) AllReadyH.nil)
        go_simp
        skip
        try (go_wp2_with fail)
        refine hK.out _ _ ?_ (fun hHeld => ?_)
        · exact ⟨by have hp11 := HH11.out; simp only [World.cell?, hp11]; rfl, (HNW.out 0).trans Z.out.2.1, (HNW.out 1).trans Z.out.2.2.1, (HNW.out 2).trans Z.out.2.2.2.1, (HNW.out 3).trans Z.out.2.2.2.2.1, (HNW.out 4).trans Z.out.2.2.2.2.2.1, (HNW.out 5).trans Z.out.2.2.2.2.2.2⟩
        clear hK K
        try simp only [Act.put, szA, szB, szC, szD, szE, szF]
        refine wpAnyH_done (by kernel_rfl) ?_ _
        refine NoPanic.normal ?_
        clear Z hup hJA c0 c1 c3
        have hp11 := HH11.out
        have c0 : w11.cell? ⟨p, 0, none⟩ = some (.int .i64 W) := by simp only [World.cell?, hp11]; rfl
        have c1 : w11.cell? ⟨p, 1, none⟩ = some (.int .i64 B) := by simp only [World.cell?, hp11]; rfl
        have c3 : w11.cell? ⟨p, 3, none⟩ = some (.map (some m)) := by simp only [World.cell?, hp11]; rfl
        obtain ⟨w12, cnt0, hrng, hctr, hg12, hs12⟩ := HM11.out.range
        have HH12 := Lib.hid ((hg12.block p (Array.getElem?_eq_some_iff.1 hp11).1 (by simp)).trans hp11)
        have HO12 := Lib.hid (HO11.out.trans (Off.ofBelow (S := fun i => i = p ∨ i = m) ⟨hg12.os, hg12.tape, hg12.output, hg12.size, fun k hk => hg12.block k hk (by simp)⟩) (fun _ _ h => h))
        have HRM := Lib.hid hctr.lt
        have HRW := Lib.hid (show wq.heap.size ≤ w11.heap.size from HO11.out.size)
        have HPR := Lib.hid (show p < w11.heap.size from (Array.getElem?_eq_some_iff.1 hp11).1)
        have HCTR := Lib.hid hctr
        clear hctr hg12 hs12 hp11
        go_wp2_with (fail)
        obtain ⟨R, hR⟩ : ∃ R, w11.heap.size = R := ⟨_, rfl⟩
        rw [hR] at HCTR HRM HPR HRW ⊢
        clear hrng c0 c1 c3 HM9 HO9 HH9 HM11 HH11 HO11 hR hz9
        go_loopw [12] (fun _ wr => ∃ (f' : Int → Option CntS) (todo : Int → Bool) (cnt : Nat), Hid (CtrAt wr m R f' todo cnt) ∧ Hid (∀ g, K - B < g → f' g = f1 g) ∧ Hid (∀ g, okW g = true → g ≤ K - B → f' g = none ∨ todo g = true) ∧ Hid (wr.heap[p]? = some (.cells #[.int .i64 W, .int .i64 B, .int .i64 at_, .map (some m)] 144)) ∧ Hid (Off (fun i => i = p ∨ i = m) wq wr)) (fun _ wr => wr.rangeLeft m R)
        case atStart => exact ⟨f1, _, cnt0, HCTR, Lib.hid (fun _ _ => rfl), Lib.hid (fun g _ _ => by cases f1 g <;> simp), HH12, HO12⟩
        case round =>
          rename World => wz
          obtain ⟨f', todo, cnt, HCT, HF1, HF2, HHZ, HOZ⟩ := hrel
          have hpz := HHZ.out
          have hplt : p < wz.heap.size := (Array.getElem?_eq_some_iff.1 hpz).1
          rcases HCT.out.next 0 with ⟨hc0, hall, hnx⟩ | ⟨k, c, wn, cnt', hok, htd, hfk, hnx, hctn, hltn, hgn, hsn, hen⟩
          · have HALL := Lib.hid hall
            clear hall hc0
            go_wp2_with (fail)
            go_ret
            refine ⟨rfl, ⟨?_, HOZ.out⟩⟩
            rw [HA.out]
            exact ⟨HHZ.out, add_endW HCT.out.map HF1.out HF2.out HALL.out, HH.out.ne, HH.out.shape, a0, a1⟩
          · have hpn := (hgn.block p hplt (by have := HRM.out; have := HPR.out; simp; omega)).trans hpz
            have c1n : wn.cell? ⟨p, 1, none⟩ = some (.int .i64 B) := by simp only [World.cell?, hpn]; rfl
            have c3n : wn.cell? ⟨p, 3, none⟩ = some (.map (some m)) := by simp only [World.cell?, hpn]; rfl
            have HPN := Lib.hid hpn
            have HON := Lib.hid (HOZ.out.grown hgn (fun h => absurd h (by have := HO12.out.size; have := HRM.out; have := HRW.out; omega)))
            have HCTN := Lib.hid hctn
            have hkk := okW_iff.1 hok
            have HOK := Lib.hid hok
            have hB0 := HH.out.shape.b0
            have hB1 := HH.out.shape.b1
            have HLT := Lib.hid hltn
            unfold ctV at hnx hen
            clear hpn hgn hctn hfk htd hok hpz hltn hsn
            by_cases hkK : k ≤ K - B
            · obtain ⟨wd, cntd, hdel, hctd, hled, hgd⟩ := HCTN.out.delete HOK.out
              have HPD := Lib.hid ((hgd.block p (Array.getElem?_eq_some_iff.1 HPN.out).1 (by have := HH.out.ne; simp; exact this)).trans HPN.out)
              have HOD := Lib.hid (HON.out.grown hgd (fun _ => Or.inr rfl))
              have HCTD := Lib.hid hctd
              clear hgd hctd
              go_wp2_with (fail)
              refine ⟨⟨_, _, cntd, HCTD, Lib.hid (fun g hg => ?_), Lib.hid (fun g hg hgk => ?_), HPD, HOD⟩, ?_⟩
              · unfold putW
                rw [if_neg (by omega)]
                exact HF1.out g hg
              · unfold putW strW
                by_cases e : g = k
                · left; rw [if_pos e]
                · rw [if_neg e, if_neg e, if_neg e]
                  exact HF2.out g hg hgk
              · have q1 := HCTD.out.left_eq
                have q2 := HCT.out.left_eq
                have q3 := HLT.out
                omega
            · go_wp2_with (fail)
              refine ⟨⟨_, _, cnt', HCTN, HF1, Lib.hid (fun g hg hgk => ?_), HPN, HON⟩, ?_⟩
              · unfold strW
                rw [if_neg (by omega)]
                exact HF2.out g hg hgk
              · have q1 := HCTN.out.left_eq
                have q2 := HCT.out.left_eq
                have q3 := HLT.out
                omega
      subst q5
      obtain ⟨f1, hf1⟩ : ∃ f1, f1 = f := ⟨_, rfl⟩
      have HH11 := Lib.hid ((Below.heap_alloc w9 (.cells #[.int .i64 0, .int .i64 0, .int .i64 0, .int .i64 0, .int .i64 0, .int .i64 0] 92) p hz9).trans HH9.out)
      have HM11 := Lib.hid (HM9.out.kept (Below.heap_alloc w9 (.cells #[.int .i64 0, .int .i64 0, .int .i64 0, .int .i64 0, .int .i64 0, .int .i64 0] 92) m HM9.out.lt))
      have HO11 := Lib.hid (HO9.out.alloc (.cells #[.int .i64 0, .int .i64 0, .int .i64 0, .int .i64 0, .int .i64 0, .int .i64 0] 92))
      have HA := Lib.hid (add_zeroW (W := W) (B := B) (at_ := at_) (f := f) (cs := cs) HK.out HC0.out HJ.out)
      rw [← hf1] at HM11
      rw [show (fun g => if g ≤ K - B then none else f g) = (fun g => if g ≤ K - B then none else f1 g) by rw [hf1]] at HA
      clear hf1
      have hp11 := HH11.out
      have c0 : (w9.alloc (.cells #[.int .i64 0, .int .i64 0, .int .i64 0, .int .i64 0, .int .i64 0, .int .i64 0] 92)).cell? ⟨p, 0, none⟩ = some (.int .i64 W) := by simp only [World.cell?, hp11]; rfl
      have c1 : (w9.alloc (.cells #[.int .i64 0, .int .i64 0, .int .i64 0, .int .i64 0, .int .i64 0, .int .i64 0] 92)).cell? ⟨p, 1, none⟩ = some (.int .i64 B) := by simp only [World.cell?, hp11]; rfl
      have c3 : (w9.alloc (.cells #[.int .i64 0, .int .i64 0, .int .i64 0, .int .i64 0, .int .i64 0, .int .i64 0] 92)).cell? ⟨p, 3, none⟩ = some (.map (some m)) := by simp only [World.cell?, hp11]; rfl
      obtain ⟨w12, cnt0, hrng, hctr, hg12, hs12⟩ := HM11.out.range
      have HH12 := Lib.hid ((hg12.block p (Array.getElem?_eq_some_iff.1 hp11).1 (by simp)).trans hp11)
      have HO12 := Lib.hid (HO11.out.trans (Off.ofBelow (S := fun i => i = p ∨ i = m) ⟨hg12.os, hg12.tape, hg12.output, hg12.size, fun k hk => hg12.block k hk (by simp)⟩) (fun _ _ h => h))
      have HRM := Lib.hid hctr.lt
      have HRW := Lib.hid (show wq.heap.size ≤ (w9.alloc (.cells #[.int .i64 0, .int .i64 0, .int .i64 0, .int .i64 0, .int .i64 0, .int .i64 0] 92)).heap.size from HO11.out.size)
      have HPR := Lib.hid (show p < (w9.alloc (.cells #[.int .i64 0, .int .i64 0, .int .i64 0, .int .i64 0, .int .i64 0, .int .i64 0] 92)).heap.size from (Array.getElem?_eq_some_iff.1 hp11).1)
      rw [World.size_alloc] at hrng hctr HRM HPR HRW
      have HCTR := Lib.hid hctr
      clear hctr hg12 hs12 hp11
      go_wp2_with (fail)
      obtain ⟨R, hR⟩ : ∃ R, w9.heap.size + 1 = R := ⟨_, rfl⟩
      rw [hR] at HCTR HRM HPR HRW ⊢
      clear hrng c0 c1 c3 hJA HM9 HO9 HH9 HM11 HH11 HO11 hR hz9
      go_loopw [12] (fun _ wr => ∃ (f' : Int → Option CntS) (todo : Int → Bool) (cnt : Nat), Hid (CtrAt wr m R f' todo cnt) ∧ Hid (∀ g, K - B < g → f' g = f1 g) ∧ Hid (∀ g, okW g = true → g ≤ K - B → f' g = none ∨ todo g = true) ∧ Hid (wr.heap[p]? = some (.cells #[.int .i64 W, .int .i64 B, .int .i64 at_, .map (some m)] 144)) ∧ Hid (Off (fun i => i = p ∨ i = m) wq wr)) (fun _ wr => wr.rangeLeft m R)
      case atStart => exact ⟨f1, _, cnt0, HCTR, Lib.hid (fun _ _ => rfl), Lib.hid (fun g _ _ => by cases f1 g <;> simp), HH12, HO12⟩
      case round =>
        rename World => wz
        obtain ⟨f', todo, cnt, HCT, HF1, HF2, HHZ, HOZ⟩ := hrel
        have hpz := HHZ.out
        have hplt : p < wz.heap.size := (Array.getElem?_eq_some_iff.1 hpz).1
        rcases HCT.out.next 0 with ⟨hc0, hall, hnx⟩ | ⟨k, c, wn, cnt', hok, htd, hfk, hnx, hctn, hltn, hgn, hsn, hen⟩
        · have HALL := Lib.hid hall
          clear hall hc0
          go_wp2_with (fail)
          go_ret
          refine ⟨rfl, ⟨?_, HOZ.out⟩⟩
          rw [HA.out]
          exact ⟨HHZ.out, add_endW HCT.out.map HF1.out HF2.out HALL.out, HH.out.ne, HH.out.shape, a0, a1⟩
        · have hpn := (hgn.block p hplt (by have := HRM.out; have := HPR.out; simp; omega)).trans hpz
          have c1n : wn.cell? ⟨p, 1, none⟩ = some (.int .i64 B) := by simp only [World.cell?, hpn]; rfl
          have c3n : wn.cell? ⟨p, 3, none⟩ = some (.map (some m)) := by simp only [World.cell?, hpn]; rfl
          have HPN := Lib.hid hpn
          have HON := Lib.hid (HOZ.out.grown hgn (fun h => absurd h (by have := HO12.out.size; have := HRM.out; have := HRW.out; omega)))
          have HCTN := Lib.hid hctn
          have hkk := okW_iff.1 hok
          have HOK := Lib.hid hok
          have hB0 := HH.out.shape.b0
          have hB1 := HH.out.shape.b1
          have HLT := Lib.hid hltn
          unfold ctV at hnx hen
          clear hpn hgn hctn hfk htd hok hpz hltn hsn
          by_cases hkK : k ≤ K - B
          · obtain ⟨wd, cntd, hdel, hctd, hled, hgd⟩ := HCTN.out.delete HOK.out
            have HPD := Lib.hid ((hgd.block p (Array.getElem?_eq_some_iff.1 HPN.out).1 (by have := HH.out.ne; simp; exact this)).trans HPN.out)
            have HOD := Lib.hid (HON.out.grown hgd (fun _ => Or.inr rfl))
            have HCTD := Lib.hid hctd
            clear hgd hctd
            go_wp2_with (fail)
            refine ⟨⟨_, _, cntd, HCTD, Lib.hid (fun g hg => ?_), Lib.hid (fun g hg hgk => ?_), HPD, HOD⟩, ?_⟩
            · unfold putW
              rw [if_neg (by omega)]
              exact HF1.out g hg
            · unfold putW strW
              by_cases e : g = k
              · left; rw [if_pos e]
              · rw [if_neg e, if_neg e, if_neg e]
                exact HF2.out g hg hgk
            · have q1 := HCTD.out.left_eq
              have q2 := HCT.out.left_eq
              have q3 := HLT.out
              omega
          · go_wp2_with (fail)
            refine ⟨⟨_, _, cnt', HCTN, HF1, Lib.hid (fun g hg hgk => ?_), HPN, HON⟩, ?_⟩
            · unfold strW
              rw [if_neg (by omega)]
              exact HF2.out g hg hgk
            · have q1 := HCTN.out.left_eq
              have q2 := HCT.out.left_eq
              have q3 := HLT.out
              omega
end Go.Proofs.YtemlafbkkaloiaaGreat
