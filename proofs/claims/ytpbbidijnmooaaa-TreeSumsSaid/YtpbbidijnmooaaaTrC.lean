/- tree: a tree of nodes in memory. -/
import Derived.Test.YtpbbidijnmooaaaTrM
import Derived.Test.YtpbbidijnmooaaaStD
import Derived.DeepKeys4
namespace Go.Proofs.Ytpbbidijnmooaaa
open Go.RowKit
set_option linter.unusedVariables false
set_option linter.unusedSimpArgs false

/-! ### the map's keys -/
theorem laidOutT : laidOutB Try.prog = true := by kernel_rfl
theorem rowKeyT : (30 : TypeId) < Try.prog.types.size := of_decide_eq_true (by kernel_rfl)
theorem wideKeyT : (match Try.prog.underlying 30 with | some (.array _ _) | some (.struct _) => true | _ => false) = true := by rw [Try.underlying30]
set_option maxRecDepth 100000 in
theorem keyKeyed : Maps.Keyed Try.prog 30 := Maps.Keyed.of_law (deep_law_laid laidOutT (m := 3) (by omega) rowKeyT (by kernel_rfl) wideKeyT)
def KeyS.v (k : KeyS) : Value := .agg #[.int .u8 k.kind, .string k.ctx, .string k.res, .string k.org]
theorem KeyS.v_inj {k q : KeyS} (h : k.v = q.v) : k = q := by
  cases k; cases q
  simp [KeyS.v] at h
  obtain ⟨rfl, rfl, rfl, rfl⟩ := h
  rfl
structure KeyOk (k : KeyS) : Prop where
  k0 : 0 ≤ k.kind
  k1 : k.kind ≤ 255
  c : k.ctx.size ≤ maxLen
  r : k.res.size ≤ maxLen
  o : k.org.size ≤ maxLen
theorem cellsOfKeyT : Try.prog.cellsOf 30 = 4 := by kernel_rfl
theorem cellsOfKindT : Try.prog.cellsOf 28 = 1 := by kernel_rfl
theorem cellsOfStrT : Try.prog.cellsOf 9 = 1 := by kernel_rfl
theorem keyTypeKeyT : Try.prog.keyType 30 = true := by kernel_rfl
theorem typesT : ∃ m, Try.prog.types.size + 1 = m + 2 := by
  have h : 0 < Try.prog.types.size := Nat.lt_of_le_of_lt (Nat.zero_le _) rowKeyT
  exact ⟨Try.prog.types.size - 1, by omega⟩
theorem keyOf_key {k : KeyS} (hk : KeyOk k) : ∃ kl, keyOf Try.prog 30 k.v = some kl := by
  have hu := Try.underlying30
  have hi := Try.underlying28
  have hs := Try.underlying9
  obtain ⟨kind, ctx, res, org⟩ := k
  obtain ⟨k0, k1, c, r, o⟩ := hk
  have hf : Value.formed Try.prog 30 (KeyS.v ⟨kind, ctx, res, org⟩) = true := by simp [KeyS.v, Value.formed, hu, cellsOfKeyT]
  have wk : (Lit.int .u8 kind).wf = true := by
    simp only [Lit.wf, IntKind.min, IntKind.max, IntKind.signed, IntKind.bits, Bool.and_eq_true, decide_eq_true_eq]
    simp at k0 k1 ⊢
    omega
  obtain ⟨m, hm⟩ := typesT
  unfold keyOf
  rw [hu]
  simp only [keyTypeKeyT, hf, Bool.and_self, if_true]
  rw [hm]
  simp at c r o
  simp [KeyS.v, Value.cells, Program.keyLits, hu, hi, hs, cellsOfKeyT, cellsOfKindT, cellsOfStrT, wk, c, r, o]

/-! ### a tree -/
structure TN where
  key : KeyS
  k : NBk
  n : NodeM
structure TreeV where
  tb : Nat
  mb : Nat
  vr : Value
  T : List TN
  last : Int
  top : Int
def TreeV.M (t : TreeV) : TreeM := t.T.map (fun x => (x.key, x.n))
def findT (T : List TN) (q : KeyS) : Option TN := T.find? (fun x => decide (x.key = q))
def flatT (T : List TN) : List Value := (T.map (fun x => x.key.cs)).flatten
def ptrT (o : Option TN) : Option Value := o.map (fun x => .pointer (some ⟨x.k.q, 0, none⟩))
def TOwn (t : TreeV) (i : Nat) : Prop := i = t.tb ∨ i = t.mb ∨ t.vr.ownBlock = some i ∨ ∃ x, x ∈ t.T ∧ NOwn x.k i
structure TreeCol (t : TreeV) (col : Nat → Nat) : Prop where
  head : col t.tb = 1
  map : col t.mb = 2
  row : ∀ g, t.vr.ownBlock = some g → col g = 3
  node : ∀ x, x ∈ t.T → ∀ i, NOwn x.k i → col i = 4 + x.k.q
def MapT (w : World) (mb : Nat) (T : List TN) : Prop := ∃ F n, MapV w 30 mb F n ∧ n ≤ T.length ∧ ∀ q, KeyOk q → F q.v = ptrT (findT T q)
structure TreeAt (w : World) (t : TreeV) : Prop where
  head : w.heap[t.tb]? = some (.cells #[.map (some t.mb), t.vr, .int .i64 t.last] 59)
  row : w.ownsRow 0 30 4 t.vr t.T.length (flatT t.T)
  map : MapT w t.mb t.T
  nodes : ∀ x, x ∈ t.T → NodeAt w x.k x.n.last x.n.flight x.n.notes ∧ x.n.last ≤ t.top
  keys : (t.T.map (·.key)).Nodup
  kok : ∀ x, x ∈ t.T → KeyOk x.key
  ps : (t.T.map (·.k.q)).Nodup
  col : ∃ col, TreeCol t col
  few : t.T.length ≤ 512
  l0 : 0 ≤ t.last
  l1 : t.last ≤ 1152921504606846976
  lt_ : t.last ≤ t.top

theorem nodup_map_injT {α β : Type} (f : α → β) : ∀ {l : List α}, (l.map f).Nodup → ∀ {x y : α}, x ∈ l → y ∈ l → f x = f y → x = y
  | [], _, x, _, hx, _, _ => by simp at hx
  | a :: l, hn, x, y, hx, hy, e => by
    obtain ⟨h1, h2⟩ := List.nodup_cons.1 hn
    rcases List.mem_cons.1 hx with e1 | hx'
    · rcases List.mem_cons.1 hy with e2 | hy'
      · exact e1.trans e2.symm
      · exact absurd (List.mem_map.2 ⟨y, hy', by rw [← e, e1]⟩) h1
    · rcases List.mem_cons.1 hy with e2 | hy'
      · exact absurd (List.mem_map.2 ⟨x, hx', by rw [e, e2]⟩) h1
      · exact nodup_map_injT f h2 hx' hy' e
theorem findT_mem {T : List TN} {q : KeyS} {x : TN} (h : findT T q = some x) : x ∈ T ∧ x.key = q := by
  unfold findT at h
  have h1 := List.find?_some h
  simp only [decide_eq_true_eq] at h1
  exact ⟨List.mem_of_find?_eq_some h, h1⟩
theorem findT_none {T : List TN} {q : KeyS} : findT T q = none ↔ q ∉ T.map (·.key) := by
  unfold findT
  rw [List.find?_eq_none]
  constructor
  · intro h hm
    obtain ⟨x, hx, rfl⟩ := List.mem_map.1 hm
    have := h x hx
    simp at this
  · intro h x hx
    simp only [decide_eq_true_eq]
    intro e
    exact h (List.mem_map.2 ⟨x, hx, e⟩)
theorem findT_some {T : List TN} (hn : (T.map (·.key)).Nodup) {x : TN} (hx : x ∈ T) : findT T x.key = some x := by
  cases hf : findT T x.key with
  | none => exact absurd (List.mem_map.2 ⟨x, hx, rfl⟩) (findT_none.1 hf)
  | some y =>
    obtain ⟨h1, h2⟩ := findT_mem hf
    rw [nodup_map_injT _ hn h1 hx h2]
theorem findT_snoc (T : List TN) (x : TN) (q : KeyS) : findT (T ++ [x]) q = (findT T q).or (if x.key = q then some x else none) := by
  unfold findT
  rw [List.find?_append]
  by_cases e : x.key = q
  · simp [e]
  · simp [e]
theorem getM_findT (t : TreeV) (q : KeyS) : getM t.M q = (findT t.T q).map (·.n) := by
  unfold getM findT TreeV.M
  rw [List.find?_map]
  cases h : t.T.find? ((fun p => decide (p.1 = q)) ∘ fun x => (x.key, x.n)) with
  | none => rw [show t.T.find? (fun x => decide (x.key = q)) = none from h]; rfl
  | some x => rw [show t.T.find? (fun x => decide (x.key = q)) = some x from h]; rfl
theorem keysM_T (t : TreeV) : keysM t.M = t.T.map (·.key) := by unfold keysM TreeV.M; rw [List.map_map]; rfl
theorem flatT_keys (t : TreeV) : flatT t.T = ((keysM t.M).map KeyS.cs).flatten := by rw [keysM_T, List.map_map]; rfl
theorem M_len (t : TreeV) : t.M.length = t.T.length := by simp [TreeV.M]
def updT (T : List TN) (k : KeyS) (n : NodeM) : List TN := T.map (fun x => if x.key = k then ⟨x.key, x.k, n⟩ else x)
theorem updT_len (T : List TN) (k : KeyS) (n : NodeM) : (updT T k n).length = T.length := by simp [updT]
theorem updT_keys (T : List TN) (k : KeyS) (n : NodeM) : (updT T k n).map (·.key) = T.map (·.key) := by
  unfold updT
  rw [List.map_map]
  apply List.map_congr_left
  intro x _
  show (if x.key = k then (⟨x.key, x.k, n⟩ : TN) else x).key = x.key
  split <;> rfl
theorem updT_ps (T : List TN) (k : KeyS) (n : NodeM) : (updT T k n).map (·.k.q) = T.map (·.k.q) := by
  unfold updT
  rw [List.map_map]
  apply List.map_congr_left
  intro x _
  show (if x.key = k then (⟨x.key, x.k, n⟩ : TN) else x).k.q = x.k.q
  split <;> rfl
theorem updT_flat (T : List TN) (k : KeyS) (n : NodeM) : flatT (updT T k n) = flatT T := by
  unfold flatT
  rw [show (updT T k n).map (fun x => x.key.cs) = ((updT T k n).map (·.key)).map KeyS.cs by rw [List.map_map]; rfl, updT_keys, List.map_map]; rfl
theorem updT_mem {T : List TN} {k : KeyS} {n : NodeM} {y : TN} (h : y ∈ updT T k n) : ∃ x, x ∈ T ∧ y.k = x.k ∧ y.key = x.key ∧ ((x.key = k ∧ y.n = n) ∨ (x.key ≠ k ∧ y = x)) := by
  obtain ⟨x, hx, rfl⟩ := List.mem_map.1 h
  refine ⟨x, hx, ?_⟩
  by_cases e : x.key = k
  · rw [if_pos e]; exact ⟨rfl, rfl, Or.inl ⟨e, rfl⟩⟩
  · rw [if_neg e]; exact ⟨rfl, rfl, Or.inr ⟨e, rfl⟩⟩
theorem updT_memOf {T : List TN} {k : KeyS} {n : NodeM} {x : TN} (h : x ∈ T) : ∃ y, y ∈ updT T k n ∧ y.k = x.k ∧ y.key = x.key := by
  refine ⟨_, List.mem_map.2 ⟨x, h, rfl⟩, ?_⟩
  split <;> exact ⟨rfl, rfl⟩
theorem updT_find (T : List TN) (k q : KeyS) (n : NodeM) : ptrT (findT (updT T k n) q) = ptrT (findT T q) := by
  unfold findT updT
  induction T with
  | nil => rfl
  | cons x T ih =>
    rw [List.map_cons, List.find?_cons, List.find?_cons]
    have h1 : (if x.key = k then (⟨x.key, x.k, n⟩ : TN) else x).key = x.key := by split <;> rfl
    have h2 : (if x.key = k then (⟨x.key, x.k, n⟩ : TN) else x).k = x.k := by split <;> rfl
    rw [h1]
    cases decide (x.key = q) with
    | true => simp only [ptrT, Option.map_some, h2]
    | false => exact ih
theorem updT_M (t : TreeV) (hn : (t.T.map (·.key)).Nodup) {x : TN} (hx : x ∈ t.T) (f : NodeM → NodeM) : ({ t with T := updT t.T x.key (f x.n) } : TreeV).M = updM t.M x.key f := by
  unfold TreeV.M updM updT
  rw [List.map_map, List.map_map]
  apply List.map_congr_left
  intro y hy
  show ((if y.key = x.key then (⟨y.key, y.k, f x.n⟩ : TN) else y).key, (if y.key = x.key then (⟨y.key, y.k, f x.n⟩ : TN) else y).n) = if y.key = x.key then (y.key, f y.n) else (y.key, y.n)
  by_cases e : y.key = x.key
  · have := nodup_map_injT _ hn hy hx e
    subst this
    simp
  · rw [if_neg e, if_neg e]

section
variable {w w' : World} {t : TreeV}
theorem TreeAt.nodeLt (k : TreeAt w t) {x : TN} (hx : x ∈ t.T) {i : Nat} (hi : NOwn x.k i) : i < w.heap.size := (k.nodes x hx).1.lt hi
theorem TreeAt.tbLt (k : TreeAt w t) : t.tb < w.heap.size := (Array.getElem?_eq_some_iff.1 k.head).1
theorem TreeAt.mbLt (k : TreeAt w t) : t.mb < w.heap.size := by obtain ⟨F, n, h, _⟩ := k.map; exact h.lt
theorem TreeAt.rowLt (k : TreeAt w t) {g : Nat} (e : t.vr.ownBlock = some g) : g < w.heap.size := (k.row.lt g e).2
theorem TreeAt.lt (k : TreeAt w t) {i : Nat} (hi : TOwn t i) : i < w.heap.size := by
  rcases hi with rfl | rfl | e | ⟨x, hx, hi⟩
  · exact k.tbLt
  · exact k.mbLt
  · exact k.rowLt e
  · exact k.nodeLt hx hi
theorem MapT.kept {mb : Nat} {T : List TN} (h : MapT w mb T) (hk : w'.heap[mb]? = w.heap[mb]?) : MapT w' mb T := by
  obtain ⟨F, n, h1, h2⟩ := h
  exact ⟨F, n, h1.kept hk, h2⟩
theorem rowKept {base : Nat} {e : TypeId} {size n : Nat} {v : Value} {xs : List Value} (h : w.ownsRow base e size v n xs) (hk : ∀ g, v.ownBlock = some g → w'.heap[g]? = w.heap[g]?) : w'.ownsRow base e size v n xs := by
  refine ⟨h.1, ?_⟩
  rcases h.2 with h1 | ⟨g, cap, cur, h1, h2, h3, h4⟩
  · exact Or.inl h1
  · exact Or.inr ⟨g, cap, cur, h1, h2, (hk g (by rw [h1]; rfl)).trans h3, h4⟩
theorem TreeAt.kept (k : TreeAt w t) (hk : ∀ i, TOwn t i → w'.heap[i]? = w.heap[i]?) : TreeAt w' t :=
  ⟨(hk _ (Or.inl rfl)).trans k.head, rowKept k.row (fun g e => hk g (Or.inr (Or.inr (Or.inl e)))), k.map.kept (hk _ (Or.inr (Or.inl rfl))), fun x hx => ⟨(k.nodes x hx).1.kept (fun i hi => hk i (Or.inr (Or.inr (Or.inr ⟨x, hx, hi⟩)))), (k.nodes x hx).2⟩, k.keys, k.kok, k.ps, k.col, k.few, k.l0, k.l1, k.lt_⟩
theorem TreeAt.below (k : TreeAt w t) (hb : Below w.heap.size w w') : TreeAt w' t := k.kept (fun i hi => hb.block i (k.lt hi))
/-- The bound of the nodes' times is raised. -/
theorem TreeAt.raise (k : TreeAt w t) {a : Int} (h : t.top ≤ a) : TreeAt w { t with top := a } :=
  ⟨k.head, k.row, k.map, fun x hx => ⟨(k.nodes x hx).1, Int.le_trans (k.nodes x hx).2 h⟩, k.keys, k.kok, k.ps, by obtain ⟨col, hc⟩ := k.col; exact ⟨col, hc.head, hc.map, hc.row, hc.node⟩, k.few, k.l0, k.l1, Int.le_trans k.lt_ h⟩
/-- Its last time turns. -/
theorem TreeAt.headStep (k : TreeAt w t) {at_ : Int} (h0 : 0 ≤ at_) (h1 : at_ ≤ 1152921504606846976) (h2 : at_ ≤ t.top) : TreeAt (w.setCell ⟨t.tb, 2, none⟩ (.int .i64 at_)) { t with last := at_ } ∧ Off (fun i => i = t.tb) w (w.setCell ⟨t.tb, 2, none⟩ (.int .i64 at_)) := by
  obtain ⟨col, hc⟩ := k.col
  have ho : Off (fun i => i = t.tb) w (w.setCell ⟨t.tb, 2, none⟩ (.int .i64 at_)) := Off.setCell (S := fun i => i = t.tb) (Off.refl _ w) (p := ⟨t.tb, 2, none⟩) (fun _ => rfl) _
  have hk : ∀ {i : Nat}, i < w.heap.size → col i ≠ 1 → (w.setCell ⟨t.tb, 2, none⟩ (.int .i64 at_)).heap[i]? = w.heap[i]? := fun {i} hi hne => ho.block i hi (fun e => hne (by rw [e]; exact hc.head))
  refine ⟨⟨heap_setCell_same _ _ 2 _ _ _ k.head, rowKept k.row (fun g e => hk (k.rowLt e) (by rw [hc.row g e]; omega)), k.map.kept (hk k.mbLt (by rw [hc.map]; omega)), fun x hx => ⟨(k.nodes x hx).1.kept (fun i hi => hk (k.nodeLt hx hi) (by rw [hc.node x hx i hi]; omega)), (k.nodes x hx).2⟩, k.keys, k.kok, k.ps, ⟨col, hc.head, hc.map, hc.row, hc.node⟩, k.few, h0, h1, h2⟩, ho⟩
/-- One node turns. -/
theorem TreeAt.nodeStep (k : TreeAt w t) {x : TN} (hx : x ∈ t.T) {n : NodeM} (h1 : NodeAt w' x.k n.last n.flight n.notes) (hl : n.last ≤ t.top) (ho : Off (NOwn x.k) w w') : TreeAt w' { t with T := updT t.T x.key n } := by
  obtain ⟨col, hc⟩ := k.col
  have hk : ∀ {i : Nat}, i < w.heap.size → col i ≠ 4 + x.k.q → w'.heap[i]? = w.heap[i]? := fun {i} hi hne => ho.block i hi (fun e => hne (hc.node x hx i e))
  refine ⟨(hk k.tbLt (by rw [hc.head]; omega)).trans k.head, ?_, ?_, fun y hy => ?_, by rw [updT_keys]; exact k.keys, fun y hy => ?_, by rw [updT_ps]; exact k.ps, ⟨col, hc.head, hc.map, hc.row, fun y hy i hi => ?_⟩, by show (updT _ _ _).length ≤ _; rw [updT_len]; exact k.few, k.l0, k.l1, k.lt_⟩
  · show w'.ownsRow 0 _ 4 t.vr (updT t.T x.key n).length (flatT (updT t.T x.key n))
    rw [updT_len, updT_flat]
    exact rowKept k.row (fun g e => hk (k.rowLt e) (by rw [hc.row g e]; omega))
  · obtain ⟨F, m, g1, g2, g3⟩ := k.map.kept (hk k.mbLt (by rw [hc.map]; omega))
    exact ⟨F, m, g1, by rw [updT_len]; exact g2, fun q hq => by rw [updT_find]; exact g3 q hq⟩
  · obtain ⟨z, hz, e1, e2, h⟩ := updT_mem hy
    rcases h with ⟨hk1, hk2⟩ | ⟨hne, rfl⟩
    · have : z = x := nodup_map_injT _ k.keys hz hx hk1
      subst this
      rw [e1, hk2]
      exact ⟨h1, hl⟩
    · obtain ⟨g1, g2⟩ := k.nodes y hz
      have hpp : y.k.q ≠ x.k.q := fun e => hne (by rw [nodup_map_injT (fun z : TN => z.k.q) k.ps hz hx e])
      exact ⟨g1.kept (fun i hi => hk (g1.lt hi) (by rw [hc.node y hz i hi]; omega)), g2⟩
  · obtain ⟨z, hz, e1, e2, _⟩ := updT_mem hy
    rw [e2]; exact k.kok z hz
  · obtain ⟨z, hz, e1, e2, _⟩ := updT_mem hy
    rw [e1] at hi ⊢
    exact hc.node z hz i hi
/-- A new node. -/
theorem TreeAt.added (k : TreeAt w t) {key : KeyS} {kb : NBk} {v' : Value} (hkey : KeyOk key) (hno : findT t.T key = none) (hz : w.heap.size ≤ w'.heap.size)
    (keep : ∀ i, i < w.heap.size → i ≠ t.tb → i ≠ t.mb → t.vr.ownBlock ≠ some i → w'.heap[i]? = w.heap[i]?)
    (head : w'.heap[t.tb]? = some (.cells #[.map (some t.mb), v', .int .i64 t.last] 59))
    (row : w'.ownsRow 0 30 4 v' (t.T.length + 1) (flatT t.T ++ key.cs))
    (rowOwn : ∀ g, v'.ownBlock = some g → t.vr.ownBlock = some g ∨ (w.heap.size ≤ g ∧ ¬ NOwn kb g))
    (map : MapT w' t.mb (t.T ++ [⟨key, kb, .zero⟩]))
    (node : NodeAt w' kb 0 0 []) (own : ∀ i, NOwn kb i → w.heap.size ≤ i) (hfew : t.T.length < 512) : TreeAt w' { t with vr := v', T := t.T ++ [⟨key, kb, .zero⟩] } := by
  obtain ⟨col, hc⟩ := k.col
  have hk : ∀ {i : Nat}, i < w.heap.size → col i ≠ 1 → col i ≠ 2 → col i ≠ 3 → w'.heap[i]? = w.heap[i]? := fun {i} hi h1 h2 h3 => keep i hi (fun e => h1 (by rw [e]; exact hc.head)) (fun e => h2 (by rw [e]; exact hc.map)) (fun e => h3 (hc.row i e))
  have hq := own _ (nown kb).1
  refine ⟨head, ?_, map, fun y hy => ?_, ?_, fun y hy => ?_, ?_, ⟨fun i => if i < w.heap.size then col i else if i ∈ kb.l then 4 + kb.q else 3, ?_, ?_, ?_, ?_⟩, by simp; omega, k.l0, k.l1, k.lt_⟩
  · show w'.ownsRow 0 _ 4 v' (t.T ++ [_]).length (flatT (t.T ++ [_]))
    rw [List.length_append, List.length_singleton, show flatT (t.T ++ [⟨key, kb, .zero⟩]) = flatT t.T ++ key.cs by simp [flatT]]
    exact row
  · rcases List.mem_append.1 hy with h | h
    · obtain ⟨g1, g2⟩ := k.nodes y h
      refine ⟨g1.kept (fun i hi => ?_), g2⟩
      have := hc.node y h i hi
      exact hk (g1.lt hi) (by omega) (by omega) (by omega)
    · obtain rfl := List.mem_singleton.1 h
      exact ⟨node, Int.le_trans k.l0 k.lt_⟩
  · show ((t.T ++ [_]).map _).Nodup
    rw [List.map_append]
    exact List.nodup_append.2 ⟨k.keys, by simp, by intro a ha b hb; simp at hb; subst hb; exact fun e => findT_none.1 hno (e ▸ ha)⟩
  · rcases List.mem_append.1 hy with h | h
    · exact k.kok y h
    · obtain rfl := List.mem_singleton.1 h; exact hkey
  · show ((t.T ++ [_]).map _).Nodup
    rw [List.map_append]
    refine List.nodup_append.2 ⟨k.ps, by simp, ?_⟩
    intro a ha b hb
    simp at hb
    subst hb
    obtain ⟨y, hy, rfl⟩ := List.mem_map.1 ha
    have := k.nodeLt hy (nown y.k).1
    show y.k.q ≠ kb.q
    omega
  · show (if t.tb < w.heap.size then col t.tb else _) = 1
    rw [if_pos k.tbLt]; exact hc.head
  · show (if t.mb < w.heap.size then col t.mb else _) = 2
    rw [if_pos k.mbLt]; exact hc.map
  · intro g e
    show (if g < w.heap.size then col g else _) = 3
    rcases rowOwn g e with h | h
    · rw [if_pos (k.rowLt h)]; exact hc.row g h
    · rw [if_neg (by omega), if_neg (show ¬ g ∈ kb.l from h.2)]
  · intro y hy i hi
    show (if i < w.heap.size then col i else _) = _
    rcases List.mem_append.1 hy with h | h
    · rw [if_pos (k.nodeLt h hi)]; exact hc.node y h i hi
    · obtain rfl := List.mem_singleton.1 h
      rw [if_neg (by have := own i hi; omega), if_pos (show i ∈ kb.l from hi)]
theorem under_mapT : Try.prog.underlying 55 = some (.map 30 45) := by kernel_rfl
theorem zero_nodeT (w : World) : (zeroValue 45).run Try.prog w = .ok (.pointer none) w := by kernel_rfl
def nodeP (o : Option TN) : Value := (ptrT o).getD (.pointer none)
theorem MapT.look {mb : Nat} {T : List TN} (h : MapT w mb T) {q : KeyS} (hq : KeyOk q) : (Instr.lookup 55 (.map (some mb)) q.v false).run Try.prog w = .ok (nodeP (findT T q)) w := by
  obtain ⟨F, n, h1, h2, h3⟩ := h
  obtain ⟨kl, hkl⟩ := keyOf_key hq
  have := h1.look false keyKeyed under_mapT (zero_nodeT w) hkl
  rw [if_neg (by simp), h3 q hq] at this
  exact this
theorem MapT.put {mb : Nat} {T : List TN} (h : MapT w mb T) (hfew : T.length ≤ 1048576) {x : TN} (hq : KeyOk x.key) (hno : findT T x.key = none) :
    ∃ w', (Instr.mapUpdate 55 (.map (some mb)) x.key.v (.pointer (some ⟨x.k.q, 0, none⟩))).run Try.prog w = .ok () w' ∧ MapT w' mb (T ++ [x]) ∧ Off (fun i => i = mb) w w' ∧ w'.heap.size = w.heap.size := by
  obtain ⟨F, n, h1, h2, h3⟩ := h
  obtain ⟨kl, hkl⟩ := keyOf_key hq
  obtain ⟨w', hrun, m4, hgr, hsz⟩ := h1.update keyKeyed under_mapT (by unfold maxLen; omega) hkl (.pointer (some ⟨x.k.q, 0, none⟩))
  refine ⟨w', hrun, ⟨_, _, m4, ?_, fun q hq2 => ?_⟩, ⟨hgr.os, hgr.tape, hgr.output, hgr.size, fun i hi hn => hgr.block i hi (fun e => hn (by injection e))⟩, hsz⟩
  · rw [List.length_append, List.length_singleton]
    split <;> omega
  · rw [findT_snoc]
    by_cases e : x.key = q
    · subst e; rw [updV_same, hno, if_pos rfl]; rfl
    · rw [updV_other _ _ (fun h => e (KeyS.v_inj h).symm), if_neg e, h3 q hq2]
      cases findT T q <;> rfl
/-- Keys of a call. -/
theorem noT_ok : noT.size ≤ maxLen := show (0 : Nat) ≤ maxLen from Nat.zero_le _
theorem keysL_ok {c : CallS} (z1 : c.res.size ≤ maxLen) (z2 : c.ctx.size ≤ maxLen) (z3 : c.org.size ≤ maxLen) : ∀ k, k ∈ keysL c → KeyOk k := by
  intro k hk
  have hn := noT_ok
  unfold keysL at hk
  rcases List.mem_cons.1 hk with rfl | hk
  · exact ⟨by simp, by simp, z2, z1, hn⟩
  rcases List.mem_cons.1 hk with rfl | hk
  · exact ⟨by simp, by simp, hn, z1, hn⟩
  rcases List.mem_append.1 hk with hk | hk
  · split at hk
    · simp at hk
    · obtain rfl := List.mem_singleton.1 hk
      exact ⟨by simp, by simp, hn, z1, z3⟩
  rcases List.mem_cons.1 hk with rfl | hk
  · exact ⟨by simp, by simp, z2, hn, hn⟩
  split at hk
  · obtain rfl := List.mem_singleton.1 hk
    exact ⟨by simp, by simp, hn, hn, hn⟩
  · simp at hk
theorem keysL_few (c : CallS) : (keysL c).length ≤ 5 := by
  unfold keysL
  cases c.org.toList == [] <;> cases c.inb <;> simp
end
end Go.Proofs.Ytpbbidijnmooaaa
