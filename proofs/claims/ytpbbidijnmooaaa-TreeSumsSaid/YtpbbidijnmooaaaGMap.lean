/- A map, read as a function of its keys' values: whatever its keys, whatever its elements. -/
import Derived.Test.YtpbbidijnmooaaaProg
import Derived.ProofKit
import Derived.Maps.OwnOps
import Derived.Maps.OwnSet
import Derived.Maps.Keyed
import Derived.Maps.Views
import Derived.Maps.RangeWalk
import Derived.Below
namespace Go.Proofs.Ytpbbidijnmooaaa
open Go.RowKit Go.ChangeMaps Go.MapKept
open Go.WideElems (Fit rd rg pl rd_key rd_val rg_of other_key)
open Go.Maps (Keyed)
set_option linter.unusedVariables false
set_option linter.unusedSimpArgs false

theorem get_allocS (w : World) (o : Obj) (i : Nat) : (w.alloc o).heap[i]? = if i = w.heap.size then some o else w.heap[i]? := by
  show (Array.push w.heap o)[i]? = _
  rw [Array.getElem?_push]
theorem new_blockS (w : World) (o : Obj) : (w.alloc o).heap[w.heap.size]? = some o := by rw [get_allocS, if_pos rfl]

/-- Every element reads as itself. -/
def selfR (v : Value) : Option (DataW Value × List MemPlace) := some (.held v, [])
def heldO : Option Value → DataW Value | none => .nil | some v => .held v
theorem heldO_some {o : Option Value} {v : Value} (h : heldO o = .held v) : o = some v := by cases o <;> simp [heldO] at h; rw [h]
theorem heldO_nil {o : Option Value} (h : heldO o = .nil) : o = none := by cases o <;> simp [heldO] at h; rfl

/-- What the keys read as, of block b's map. -/
def ReadsAs (k : TypeId) (D : DataW Value) (f : Value → Option Value) : Prop :=
  ∀ key kl, keyOf Try.prog k key = some kl → D.atKey kl .nil = heldO (f key) ∧ Maps.has D kl = (f key).isSome
/-- Block b is a map, f, of n entries. -/
def MapV (w : World) (k : TypeId) (b : Nat) (f : Value → Option Value) (n : Nat) : Prop :=
  ∃ D : DataW Value, w.ownsMap Try.prog k selfR b n D ∧ Maps.size D = n ∧ ReadsAs k D f

open Classical in
noncomputable def updV (f : Value → Option Value) (key : Value) (o : Option Value) : Value → Option Value := fun x => if x = key then o else f x
theorem updV_same (f : Value → Option Value) (key : Value) (o : Option Value) : updV f key o key = o := by simp [updV]
theorem updV_other (f : Value → Option Value) {key x : Value} (o : Option Value) (h : x ≠ key) : updV f key o x = f x := by simp [updV, h]

section
variable {w : World} {k e t : TypeId} {b n : Nat} {f : Value → Option Value}

theorem MapV.lt (h : MapV w k b f n) : b < w.heap.size := by
  obtain ⟨D, h, _⟩ := h
  exact h.lt
theorem mapV_made (w : World) (k : TypeId) : MapV (w.alloc (.map #[] 0)) k w.heap.size (fun _ => none) 0 :=
  ⟨.map [], World.ownsMap_made w _ _ _, rfl, fun _ _ _ => ⟨rfl, rfl⟩⟩
theorem MapV.kept {w' : World} (h : MapV w k b f n) (hk : w'.heap[b]? = w.heap[b]?) : MapV w' k b f n := by
  obtain ⟨D, ⟨es, clock, hb, F, hs, hD⟩, h2, h3⟩ := h
  exact ⟨D, ⟨es, clock, hk.trans hb, F, hs, hD⟩, h2, h3⟩
theorem MapV.below {w' : World} (h : MapV w k b f n) (hb : Below w.heap.size w w') : MapV w' k b f n := h.kept (hb.block b h.lt)
theorem MapV.grown {w' : World} {row : Option Nat} (h : MapV w k b f n) (hg : w.grownBy w' row) (hne : some b ≠ row) : MapV w' k b f n := h.kept (hg.block b h.lt hne)
theorem MapV.alloc (h : MapV w k b f n) (o : Obj) : MapV (w.alloc o) k b f n := h.below ((Below.refl _ _).alloc (Nat.le_refl _) o)
theorem MapV.congr {g : Value → Option Value} (h : MapV w k b f n) (e : ∀ key kl, keyOf Try.prog k key = some kl → f key = g key) : MapV w k b g n := by
  obtain ⟨D, h1, h2, h3⟩ := h
  exact ⟨D, h1, h2, fun key kl hk => by rw [← e key kl hk]; exact h3 key kl hk⟩
theorem mapV_rebase {m : Nat} {D : DataW Value} (h : w.ownsMap Try.prog k selfR b m D) (hn : Maps.size D = n) : w.ownsMap Try.prog k selfR b n D := by
  obtain ⟨es, clock, hb, F, hs, rfl⟩ := h
  refine ⟨es, clock, hb, F, ?_, rfl⟩
  have : Maps.size (.map ((es.toList.map (WideElems.rg Try.prog k selfR)).foldr DataW.insert [])) = es.size := by
    rw [Maps.size_eq, length_read]
  omega

/-- 'm[k]' and 'v, ok := m[k]'. -/
theorem MapV.look (c : Bool) (h : MapV w k b f n) (K : Keyed Try.prog k) (ht : Try.prog.underlying t = some (.map k e)) {z : Value} (hz : (zeroValue e).run Try.prog w = .ok z w) {key : Value} {kl : Lit} (hkey : keyOf Try.prog k key = some kl) :
    (Instr.lookup t (.map (some b)) key c).run Try.prog w = .ok (if c then .tuple #[(f key).getD z, .bool (f key).isSome] else (f key).getD z) w := by
  obtain ⟨D, ⟨es, clock, hb, F, hs, rfl⟩, h2, h3⟩ := h
  obtain ⟨r1, r2⟩ := h3 key kl hkey
  rcases Maps.fit_look c K ht hz hb F hkey with ⟨hrun, _, hat⟩ | ⟨e0, y, _, _, hrun, hRv, hat, _⟩
  · rw [hat .nil] at r1
    rw [heldO_nil r1.symm]
    exact hrun
  · simp only [selfR, Option.some.injEq] at hRv
    rw [hat .nil, ← hRv] at r1
    rw [heldO_some r1.symm]
    exact hrun

theorem MapV.len (h : MapV w k b f n) (ht : Try.prog.underlying t = some (.map k e)) (ty : TypeId) :
    (Builtin.len_ #[t] ty #[.map (some b)]).run Try.prog w = .ok (.int .i64 n) w := by
  obtain ⟨D, h1, h2, h3⟩ := h
  rw [h1.len ht ty, h2]

theorem readsAs_put {D : DataW Value} (K : Keyed Try.prog k) (hD : Maps.IsMap D) (h3 : ReadsAs k D f) {key : Value} {kl : Lit} (hkey : keyOf Try.prog k key = some kl) (v : Value) : ReadsAs k (D.put kl (.held v)) (updV f key (some v)) := by
  intro x xl hx
  by_cases e : x = key
  · subst e
    obtain rfl : xl = kl := by rw [hkey] at hx; exact (Option.some.inj hx).symm
    rw [updV_same, Maps.atKey_put_same hD (K.key hkey), Maps.has_put_same hD (K.key hkey)]
    exact ⟨rfl, rfl⟩
  · have e' : xl ≠ kl := fun h => e (K.inj (h ▸ hx) hkey)
    rw [updV_other _ _ e, Maps.atKey_put_other e', Maps.has_put_other e']
    exact h3 x xl hx
theorem readsAs_del {D : DataW Value} (K : Keyed Try.prog k) (h3 : ReadsAs k D f) {key : Value} {kl : Lit} (hkey : keyOf Try.prog k key = some kl) : ReadsAs k (D.del kl) (updV f key none) := by
  intro x xl hx
  by_cases e : x = key
  · subst e
    obtain rfl : xl = kl := by rw [hkey] at hx; exact (Option.some.inj hx).symm
    rw [updV_same, Maps.atKey_del_same, Maps.has_del_same]
    exact ⟨rfl, rfl⟩
  · have e' : xl ≠ kl := fun h => e (K.inj (h ▸ hx) hkey)
    rw [updV_other _ _ e, Maps.atKey_del_other e', Maps.has_del_other e']
    exact h3 x xl hx

/-- 'm[k] = v'. -/
theorem MapV.update (h : MapV w k b f n) (K : Keyed Try.prog k) (ht : Try.prog.underlying t = some (.map k e)) (hn : n < maxLen) {key : Value} {kl : Lit} (hkey : keyOf Try.prog k key = some kl) (v : Value) :
    ∃ w', (Instr.mapUpdate t (.map (some b)) key v).run Try.prog w = .ok () w' ∧ MapV w' k b (updV f key (some v)) (if (f key).isSome then n else n + 1) ∧ w.grownBy w' (some b) ∧ w'.heap.size = w.heap.size := by
  obtain ⟨D, h1, h2, h3⟩ := h
  have hT := h1.tidy K
  obtain ⟨es, clock, hb, F, hs, rfl⟩ := h1
  obtain ⟨es', clock', hrun, F', hput, _⟩ := Maps.fit_store (R' := selfR) K ht hb F (Nat.lt_of_le_of_lt hs hn) (fun _ _ _ _ hz => hz) hkey (show selfR v = some (.held v, []) from rfl)
  have hsz : Maps.size (DataW.put (.map ((es.toList.map (rg Try.prog k selfR)).foldr DataW.insert [])) kl (.held v)) = if (f key).isSome then n else n + 1 := by rw [Maps.size_put hT, (h3 key kl hkey).2, h2]
  have hD' : DataW.put (.map ((es.toList.map (rg Try.prog k selfR)).foldr DataW.insert [])) kl (.held v) = .map ((es'.toList.map (rg Try.prog k selfR)).foldr DataW.insert []) := by rw [DataW.put_eq, hput]
  refine ⟨_, hrun, ⟨_, ⟨es', clock', heap_setBlock_same hb _, F', ?_, hD'⟩, hsz, readsAs_put K hT.isMap h3 hkey v⟩, ⟨rfl, rfl, rfl, by simp [setBlock], fun i _ hi => heap_setBlock_other hb _ (fun e => hi (by rw [e]))⟩, by simp [setBlock]⟩
  rw [hD', Maps.size_eq, length_read] at hsz
  omega

/-- 'delete(m, k)'. -/
theorem MapV.delete (h : MapV w k b f n) (K : Keyed Try.prog k) (ht : Try.prog.underlying t = some (.map k e)) {key : Value} {kl : Lit} (hkey : keyOf Try.prog k key = some kl) :
    ∃ w', (∀ ty, (Builtin.delete_ #[t, k] ty #[.map (some b), key]).run Try.prog w = .ok (.tuple #[]) w') ∧ MapV w' k b (updV f key none) (if (f key).isSome then n - 1 else n) ∧ w.grownBy w' (some b) := by
  obtain ⟨D, h1, h2, h3⟩ := h
  obtain ⟨w', hrun, h4, hg⟩ := h1.drop K ht hkey 0
  have hz := Maps.size_del (k := kl) (h1.tidy K)
  rw [(h3 key kl hkey).2, h2] at hz
  have hsz : Maps.size (D.del kl) = if (f key).isSome then n - 1 else n := by
    cases hf : (f key).isSome <;> simp [hf] at hz ⊢ <;> omega
  exact ⟨w', fun _ => hrun, ⟨_, mapV_rebase h4 hsz, hsz, readsAs_del K h3 hkey⟩, hg.grown⟩

theorem nodup_le {α : Type} : ∀ (l L : List α), l.Nodup → (∀ x, x ∈ l → x ∈ L) → l.length ≤ L.length
  | [], _, _, _ => by simp
  | a :: l, L, hn, hs => by
    obtain ⟨h1, h2⟩ := List.nodup_cons.1 hn
    obtain ⟨L1, L2, rfl⟩ := List.append_of_mem (hs a (by simp))
    have := nodup_le l (L1 ++ L2) h2 (fun x hx => by
      have hxa : x ≠ a := fun e => h1 (e ▸ hx)
      have := hs x (by simp [hx])
      simp only [List.mem_append, List.mem_cons] at this ⊢
      rcases this with h | h | h
      · exact Or.inl h
      · exact absurd h hxa
      · exact Or.inr h)
    simp only [List.length_append, List.length_cons] at *
    omega

set_option maxRecDepth 100000 in
/-- As many entries at most as there may be keys. -/
theorem MapV.size_le (h : MapV w k b f n) (K : Keyed Try.prog k) (L : List Value) (hL : ∀ key kl, keyOf Try.prog k key = some kl → (f key).isSome = true → key ∈ L) : n ≤ L.length := by
  obtain ⟨D, ⟨es, clock, hb, F, hs, rfl⟩, h2, h3⟩ := h
  rw [Maps.size_eq, length_read] at h2
  have hst := (stamped_iff es clock).1 F.stamped
  have hnd : (es.toList.map MapEntry.key).Nodup := by
    rw [List.Nodup, List.pairwise_map]
    exact hst.2.2
  have := nodup_le (es.toList.map MapEntry.key) L hnd (fun x hx => by
    obtain ⟨y, hy, rfl⟩ := List.mem_map.1 hx
    obtain ⟨z, hz⟩ := F.reads y hy
    have hk := rd_key hz
    refine hL y.key z.1 hk ?_
    rw [← (h3 y.key z.1 hk).2]
    exact List.any_eq_true.2 ⟨rg Try.prog k selfR y, mem_sorted.2 (List.mem_map.2 ⟨y, hy, rfl⟩), (congrArg (fun l => Lit.sameKey l z.1) (show (rg Try.prog k selfR y).1 = z.1 by rw [rg_of hz])).trans (WideAt.sameKey_self (K.key hk))⟩)
  simp only [List.length_map] at this
  have e : es.toList.length = es.size := by simp
  omega

/-- 'for k, v := range m' under way: which keys are still to come. -/
def RangeV (w : World) (k : TypeId) (b r : Nat) (f : Value → Option Value) (n : Nat) (todo : Value → Bool) (cnt : Nat) : Prop :=
  ∃ (D : DataW Value) (left : Lit → Bool), w.ranges Try.prog k selfR b r n D left cnt ∧ Maps.size D = n ∧ ReadsAs k D f ∧ ∀ key kl, keyOf Try.prog k key = some kl → left kl = todo key
theorem RangeV.map {r cnt : Nat} {todo : Value → Bool} (h : RangeV w k b r f n todo cnt) : MapV w k b f n := by
  obtain ⟨D, left, h1, h2, h3, _⟩ := h
  exact ⟨D, h1.owns, h2, h3⟩
theorem RangeV.left_eq {r cnt : Nat} {todo : Value → Bool} (h : RangeV w k b r f n todo cnt) : w.rangeLeft b r = cnt := by
  obtain ⟨D, left, h1, _⟩ := h
  exact h1.left_eq
theorem RangeV.ne {r cnt : Nat} {todo : Value → Bool} (h : RangeV w k b r f n todo cnt) : r ≠ b := by
  obtain ⟨D, left, h1, _⟩ := h
  exact h1.ne
theorem RangeV.lt {r cnt : Nat} {todo : Value → Bool} (h : RangeV w k b r f n todo cnt) : r < w.heap.size := by
  obtain ⟨D, left, h1, _⟩ := h
  exact h1.lt
theorem RangeV.kept {w' : World} {r cnt : Nat} {row : Option Nat} {todo : Value → Bool} (h : RangeV w k b r f n todo cnt) (hg : w.grownBy w' row) (hb : some b ≠ row) (hr : some r ≠ row) : RangeV w' k b r f n todo cnt := by
  obtain ⟨D, left, h1, h2, h3, h4⟩ := h
  exact ⟨D, left, h1.kept hg hb hr, h2, h3, h4⟩
theorem RangeV.congr {r cnt : Nat} {todo todo' : Value → Bool} (h : RangeV w k b r f n todo cnt) (e : ∀ x, todo x = todo' x) : RangeV w k b r f n todo' cnt := by
  have : todo = todo' := funext e
  exact this ▸ h
/-- 'range m'. -/
theorem MapV.range (h : MapV w k b f n) (K : Keyed Try.prog k) (ht : Try.prog.underlying t = some (.map k e)) :
    ∃ w', (Instr.range t (.map (some b))).run Try.prog w = .ok (.pointer (some ⟨w.heap.size, 0, none⟩)) w' ∧ RangeV w' k b w.heap.size f n (fun x => (f x).isSome) n ∧ w.grownBy w' none ∧ w'.heap.size = w.heap.size + 1 := by
  obtain ⟨D, h1, h2, h3⟩ := h
  obtain ⟨w', hrun, hr, hg, hs⟩ := h1.range K ht
  exact ⟨w', hrun, ⟨D, _, h2 ▸ hr, h2, h3, fun key kl hk => (h3 key kl hk).2⟩, hg, hs⟩

open Classical in
noncomputable def strikeV (todo : Value → Bool) (key : Value) : Value → Bool := fun x => if x = key then false else todo x
theorem strikeV_same (todo : Value → Bool) (key : Value) : strikeV todo key key = false := by simp [strikeV]
theorem strikeV_other (todo : Value → Bool) {key x : Value} (h : x ≠ key) : strikeV todo key x = todo x := by simp [strikeV, h]

theorem strike_left {K : Keyed Try.prog k} {left : Lit → Bool} {todo : Value → Bool} (h4 : ∀ key kl, keyOf Try.prog k key = some kl → left kl = todo key) {key : Value} {kl : Lit} (hkey : keyOf Try.prog k key = some kl) :
    ∀ x xl, keyOf Try.prog k x = some xl → (left xl && !xl.sameKey kl) = strikeV todo key x := by
  intro x xl hx
  by_cases e : x = key
  · subst e
    obtain rfl : xl = kl := by rw [hkey] at hx; exact (Option.some.inj hx).symm
    rw [strikeV_same, WideAt.sameKey_self (K.key hkey)]; simp
  · have e' : xl ≠ kl := fun h => e (K.inj (h ▸ hx) hkey)
    rw [strikeV_other _ e, Maps.sameKey_ne e', h4 x xl hx]; simp

/-- The step. -/
theorem RangeV.next {r cnt : Nat} {todo : Value → Bool} (h : RangeV w k b r f n todo cnt) (K : Keyed Try.prog k) (ty : TypeId) :
    (cnt = 0 ∧ (∀ key kl, keyOf Try.prog k key = some kl → todo key = false) ∧ (Instr.next (.pointer (some ⟨r, 0, none⟩)) false ty).run Try.prog w = .ok (.tuple #[.bool false]) w) ∨
    ∃ key v kl w' cnt', keyOf Try.prog k key = some kl ∧ todo key = true ∧ f key = some v ∧ (Instr.next (.pointer (some ⟨r, 0, none⟩)) false ty).run Try.prog w = .ok (.tuple #[.bool true, key, v]) w' ∧
      RangeV w' k b r f n (strikeV todo key) cnt' ∧ cnt' < cnt ∧ w.grownBy w' (some r) ∧ w'.heap.size = w.heap.size ∧ (Instr.entry (.pointer (some ⟨r, 0, none⟩))).run Try.prog w' = .ok (.tuple #[key, v]) w' := by
  obtain ⟨D, left, h1, h2, h3, h4⟩ := h
  rcases h1.next K ty with ⟨h0, hl, hrun⟩ | ⟨key, v, kl, y, w', cnt', hkey, hlk, hv, hat, hrun, hrg, hlt, hgr, hsz, hen⟩
  · exact Or.inl ⟨h0, fun key kl hk => by rw [← h4 key kl hk]; exact hl kl, hrun⟩
  · refine Or.inr ⟨key, v, kl, w', cnt', hkey, by rw [← h4 key kl hkey]; exact hlk, ?_, hrun, ⟨D, _, hrg, h2, h3, strike_left (K := K) h4 hkey⟩, hlt, hgr, hsz, hen⟩
    simp only [selfR, Option.some.injEq] at hv
    have := (h3 key kl hkey).1
    rw [hat .nil, ← hv] at this
    exact heldO_some this.symm
/-- 'delete(m, k)' in the round. -/
theorem RangeV.delete {r cnt : Nat} {todo : Value → Bool} (h : RangeV w k b r f n todo cnt) (K : Keyed Try.prog k) (ht : Try.prog.underlying t = some (.map k e)) {key : Value} {kl : Lit} (hkey : keyOf Try.prog k key = some kl) (ty : TypeId) :
    ∃ w' cnt' n', (Builtin.delete_ #[t, k] ty #[.map (some b), key]).run Try.prog w = .ok (.tuple #[]) w' ∧ RangeV w' k b r (updV f key none) n' (strikeV todo key) cnt' ∧ cnt' ≤ cnt ∧ n' ≤ n ∧ w.grownBy w' (some b) := by
  obtain ⟨D, left, h1, h2, h3, h4⟩ := h
  obtain ⟨w', cnt', hrun, hrg, hle, hg⟩ := h1.drop K ht hkey ty
  have hz := Maps.size_del (k := kl) (h1.owns.tidy K)
  refine ⟨w', cnt', Maps.size (D.del kl), hrun, ⟨_, _, ?_, rfl, readsAs_del K h3 hkey, strike_left (K := K) h4 hkey⟩, hle, by split at hz <;> omega, hg.grown⟩
  obtain ⟨es, clock, since, seen, c0, hb, F, hs, hD, hrest⟩ := hrg
  refine ⟨es, clock, since, seen, c0, hb, F, ?_, hD, hrest⟩
  rw [hD, Maps.size_eq, length_read]
  exact Nat.le_refl _
end
end Go.Proofs.Ytpbbidijnmooaaa
