/- Texts of one chain, one behind the other: GMap, SkMath. -/
import Derived.ProofKit
import Derived.Maps.OwnOps
import Derived.Maps.OwnSet
import Derived.Maps.Keyed
import Derived.Maps.Views
import Derived.Maps.RangeWalk
import Derived.Below
import Derived.Test.YtockmgcgifhepaaProg

/- A map, read as a function of its keys' values: whatever its keys, whatever its elements. -/
namespace Go.Proofs.Ytockmgcgifhepaa
open Go.RowKit Go.ChangeMaps Go.MapKept
open Go.WideElems (Fit rd rg pl rd_key rd_val rg_of other_key)
open Go.Maps (Keyed)
set_option linter.unusedVariables false
set_option linter.unusedSimpArgs false

theorem get_allocS (w : World) (o : Obj) (i : Nat) : (w.alloc o).heap[i]? = if i = w.heap.size then some o else w.heap[i]? := by
  show (Array.push w.heap o)[i]? = _
  rw [Array.getElem?_push]
theorem new_blockS (w : World) (o : Obj) : (w.alloc o).heap[w.heap.size]? = some o := by rw [get_allocS, if_pos rfl]

/-- Every element reads as itself. -/
def selfR (v : Value) : Option (DataW Value × List MemPlace) := some (.held v, [])
def heldO : Option Value → DataW Value | none => .nil | some v => .held v
theorem heldO_some {o : Option Value} {v : Value} (h : heldO o = .held v) : o = some v := by cases o <;> simp [heldO] at h; rw [h]
theorem heldO_nil {o : Option Value} (h : heldO o = .nil) : o = none := by cases o <;> simp [heldO] at h; rfl

/-- What the keys read as, of block b's map. -/
def ReadsAs (k : TypeId) (D : DataW Value) (f : Value → Option Value) : Prop :=
  ∀ key kl, keyOf Try.prog k key = some kl → D.atKey kl .nil = heldO (f key) ∧ Maps.has D kl = (f key).isSome
/-- Block b is a map, f, of n entries. -/
def MapV (w : World) (k : TypeId) (b : Nat) (f : Value → Option Value) (n : Nat) : Prop :=
  ∃ D : DataW Value, w.ownsMap Try.prog k selfR b n D ∧ Maps.size D = n ∧ ReadsAs k D f

open Classical in
noncomputable def updV (f : Value → Option Value) (key : Value) (o : Option Value) : Value → Option Value := fun x => if x = key then o else f x
theorem updV_same (f : Value → Option Value) (key : Value) (o : Option Value) : updV f key o key = o := by simp [updV]
theorem updV_other (f : Value → Option Value) {key x : Value} (o : Option Value) (h : x ≠ key) : updV f key o x = f x := by simp [updV, h]

section
variable {w : World} {k e t : TypeId} {b n : Nat} {f : Value → Option Value}

theorem MapV.lt (h : MapV w k b f n) : b < w.heap.size := by
  obtain ⟨D, h, _⟩ := h
  exact h.lt
theorem mapV_made (w : World) (k : TypeId) : MapV (w.alloc (.map #[] 0)) k w.heap.size (fun _ => none) 0 :=
  ⟨.map [], World.ownsMap_made w _ _ _, rfl, fun _ _ _ => ⟨rfl, rfl⟩⟩
theorem MapV.kept {w' : World} (h : MapV w k b f n) (hk : w'.heap[b]? = w.heap[b]?) : MapV w' k b f n := by
  obtain ⟨D, ⟨es, clock, hb, F, hs, hD⟩, h2, h3⟩ := h
  exact ⟨D, ⟨es, clock, hk.trans hb, F, hs, hD⟩, h2, h3⟩
theorem MapV.below {w' : World} (h : MapV w k b f n) (hb : Below w.heap.size w w') : MapV w' k b f n := h.kept (hb.block b h.lt)
theorem MapV.grown {w' : World} {row : Option Nat} (h : MapV w k b f n) (hg : w.grownBy w' row) (hne : some b ≠ row) : MapV w' k b f n := h.kept (hg.block b h.lt hne)
theorem MapV.alloc (h : MapV w k b f n) (o : Obj) : MapV (w.alloc o) k b f n := h.below ((Below.refl _ _).alloc (Nat.le_refl _) o)
theorem MapV.congr {g : Value → Option Value} (h : MapV w k b f n) (e : ∀ key kl, keyOf Try.prog k key = some kl → f key = g key) : MapV w k b g n := by
  obtain ⟨D, h1, h2, h3⟩ := h
  exact ⟨D, h1, h2, fun key kl hk => by rw [← e key kl hk]; exact h3 key kl hk⟩
theorem mapV_rebase {m : Nat} {D : DataW Value} (h : w.ownsMap Try.prog k selfR b m D) (hn : Maps.size D = n) : w.ownsMap Try.prog k selfR b n D := by
  obtain ⟨es, clock, hb, F, hs, rfl⟩ := h
  refine ⟨es, clock, hb, F, ?_, rfl⟩
  have : Maps.size (.map ((es.toList.map (WideElems.rg Try.prog k selfR)).foldr DataW.insert [])) = es.size := by
    rw [Maps.size_eq, length_read]
  omega

/-- 'm[k]' and 'v, ok := m[k]'. -/
theorem MapV.look (c : Bool) (h : MapV w k b f n) (K : Keyed Try.prog k) (ht : Try.prog.underlying t = some (.map k e)) {z : Value} (hz : (zeroValue e).run Try.prog w = .ok z w) {key : Value} {kl : Lit} (hkey : keyOf Try.prog k key = some kl) :
    (Instr.lookup t (.map (some b)) key c).run Try.prog w = .ok (if c then .tuple #[(f key).getD z, .bool (f key).isSome] else (f key).getD z) w := by
  obtain ⟨D, ⟨es, clock, hb, F, hs, rfl⟩, h2, h3⟩ := h
  obtain ⟨r1, r2⟩ := h3 key kl hkey
  rcases Maps.fit_look c K ht hz hb F hkey with ⟨hrun, _, hat⟩ | ⟨e0, y, _, _, hrun, hRv, hat, _⟩
  · rw [hat .nil] at r1
    rw [heldO_nil r1.symm]
    exact hrun
  · simp only [selfR, Option.some.injEq] at hRv
    rw [hat .nil, ← hRv] at r1
    rw [heldO_some r1.symm]
    exact hrun

theorem MapV.len (h : MapV w k b f n) (ht : Try.prog.underlying t = some (.map k e)) (ty : TypeId) :
    (Builtin.len_ #[t] ty #[.map (some b)]).run Try.prog w = .ok (.int .i64 n) w := by
  obtain ⟨D, h1, h2, h3⟩ := h
  rw [h1.len ht ty, h2]

theorem readsAs_put {D : DataW Value} (K : Keyed Try.prog k) (hD : Maps.IsMap D) (h3 : ReadsAs k D f) {key : Value} {kl : Lit} (hkey : keyOf Try.prog k key = some kl) (v : Value) : ReadsAs k (D.put kl (.held v)) (updV f key (some v)) := by
  intro x xl hx
  by_cases e : x = key
  · subst e
    obtain rfl : xl = kl := by rw [hkey] at hx; exact (Option.some.inj hx).symm
    rw [updV_same, Maps.atKey_put_same hD (K.key hkey), Maps.has_put_same hD (K.key hkey)]
    exact ⟨rfl, rfl⟩
  · have e' : xl ≠ kl := fun h => e (K.inj (h ▸ hx) hkey)
    rw [updV_other _ _ e, Maps.atKey_put_other e', Maps.has_put_other e']
    exact h3 x xl hx
theorem readsAs_del {D : DataW Value} (K : Keyed Try.prog k) (h3 : ReadsAs k D f) {key : Value} {kl : Lit} (hkey : keyOf Try.prog k key = some kl) : ReadsAs k (D.del kl) (updV f key none) := by
  intro x xl hx
  by_cases e : x = key
  · subst e
    obtain rfl : xl = kl := by rw [hkey] at hx; exact (Option.some.inj hx).symm
    rw [updV_same, Maps.atKey_del_same, Maps.has_del_same]
    exact ⟨rfl, rfl⟩
  · have e' : xl ≠ kl := fun h => e (K.inj (h ▸ hx) hkey)
    rw [updV_other _ _ e, Maps.atKey_del_other e', Maps.has_del_other e']
    exact h3 x xl hx

/-- 'm[k] = v'. -/
theorem MapV.update (h : MapV w k b f n) (K : Keyed Try.prog k) (ht : Try.prog.underlying t = some (.map k e)) (hn : n < maxLen) {key : Value} {kl : Lit} (hkey : keyOf Try.prog k key = some kl) (v : Value) :
    ∃ w', (Instr.mapUpdate t (.map (some b)) key v).run Try.prog w = .ok () w' ∧ MapV w' k b (updV f key (some v)) (if (f key).isSome then n else n + 1) ∧ w.grownBy w' (some b) ∧ w'.heap.size = w.heap.size := by
  obtain ⟨D, h1, h2, h3⟩ := h
  have hT := h1.tidy K
  obtain ⟨es, clock, hb, F, hs, rfl⟩ := h1
  obtain ⟨es', clock', hrun, F', hput, _⟩ := Maps.fit_store (R' := selfR) K ht hb F (Nat.lt_of_le_of_lt hs hn) (fun _ _ _ _ hz => hz) hkey (show selfR v = some (.held v, []) from rfl)
  have hsz : Maps.size (DataW.put (.map ((es.toList.map (rg Try.prog k selfR)).foldr DataW.insert [])) kl (.held v)) = if (f key).isSome then n else n + 1 := by rw [Maps.size_put hT, (h3 key kl hkey).2, h2]
  have hD' : DataW.put (.map ((es.toList.map (rg Try.prog k selfR)).foldr DataW.insert [])) kl (.held v) = .map ((es'.toList.map (rg Try.prog k selfR)).foldr DataW.insert []) := by rw [DataW.put_eq, hput]
  refine ⟨_, hrun, ⟨_, ⟨es', clock', heap_setBlock_same hb _, F', ?_, hD'⟩, hsz, readsAs_put K hT.isMap h3 hkey v⟩, ⟨rfl, rfl, rfl, by simp [setBlock], fun i _ hi => heap_setBlock_other hb _ (fun e => hi (by rw [e]))⟩, by simp [setBlock]⟩
  rw [hD', Maps.size_eq, length_read] at hsz
  omega

/-- 'delete(m, k)'. -/
theorem MapV.delete (h : MapV w k b f n) (K : Keyed Try.prog k) (ht : Try.prog.underlying t = some (.map k e)) {key : Value} {kl : Lit} (hkey : keyOf Try.prog k key = some kl) :
    ∃ w', (∀ ty, (Builtin.delete_ #[t, k] ty #[.map (some b), key]).run Try.prog w = .ok (.tuple #[]) w') ∧ MapV w' k b (updV f key none) (if (f key).isSome then n - 1 else n) ∧ w.grownBy w' (some b) := by
  obtain ⟨D, h1, h2, h3⟩ := h
  obtain ⟨w', hrun, h4, hg⟩ := h1.drop K ht hkey 0
  have hz := Maps.size_del (k := kl) (h1.tidy K)
  rw [(h3 key kl hkey).2, h2] at hz
  have hsz : Maps.size (D.del kl) = if (f key).isSome then n - 1 else n := by
    cases hf : (f key).isSome <;> simp [hf] at hz ⊢ <;> omega
  exact ⟨w', fun _ => hrun, ⟨_, mapV_rebase h4 hsz, hsz, readsAs_del K h3 hkey⟩, hg.grown⟩

theorem nodup_le {α : Type} : ∀ (l L : List α), l.Nodup → (∀ x, x ∈ l → x ∈ L) → l.length ≤ L.length
  | [], _, _, _ => by simp
  | a :: l, L, hn, hs => by
    obtain ⟨h1, h2⟩ := List.nodup_cons.1 hn
    obtain ⟨L1, L2, rfl⟩ := List.append_of_mem (hs a (by simp))
    have := nodup_le l (L1 ++ L2) h2 (fun x hx => by
      have hxa : x ≠ a := fun e => h1 (e ▸ hx)
      have := hs x (by simp [hx])
      simp only [List.mem_append, List.mem_cons] at this ⊢
      rcases this with h | h | h
      · exact Or.inl h
      · exact absurd h hxa
      · exact Or.inr h)
    simp only [List.length_append, List.length_cons] at *
    omega

set_option maxRecDepth 100000 in
/-- As many entries at most as there may be keys. -/
theorem MapV.size_le (h : MapV w k b f n) (K : Keyed Try.prog k) (L : List Value) (hL : ∀ key kl, keyOf Try.prog k key = some kl → (f key).isSome = true → key ∈ L) : n ≤ L.length := by
  obtain ⟨D, ⟨es, clock, hb, F, hs, rfl⟩, h2, h3⟩ := h
  rw [Maps.size_eq, length_read] at h2
  have hst := (stamped_iff es clock).1 F.stamped
  have hnd : (es.toList.map MapEntry.key).Nodup := by
    rw [List.Nodup, List.pairwise_map]
    exact hst.2.2
  have := nodup_le (es.toList.map MapEntry.key) L hnd (fun x hx => by
    obtain ⟨y, hy, rfl⟩ := List.mem_map.1 hx
    obtain ⟨z, hz⟩ := F.reads y hy
    have hk := rd_key hz
    refine hL y.key z.1 hk ?_
    rw [← (h3 y.key z.1 hk).2]
    exact List.any_eq_true.2 ⟨rg Try.prog k selfR y, mem_sorted.2 (List.mem_map.2 ⟨y, hy, rfl⟩), (congrArg (fun l => Lit.sameKey l z.1) (show (rg Try.prog k selfR y).1 = z.1 by rw [rg_of hz])).trans (WideAt.sameKey_self (K.key hk))⟩)
  simp only [List.length_map] at this
  have e : es.toList.length = es.size := by simp
  omega

/-- 'for k, v := range m' under way: which keys are still to come. -/
def RangeV (w : World) (k : TypeId) (b r : Nat) (f : Value → Option Value) (n : Nat) (todo : Value → Bool) (cnt : Nat) : Prop :=
  ∃ (D : DataW Value) (left : Lit → Bool), w.ranges Try.prog k selfR b r n D left cnt ∧ Maps.size D = n ∧ ReadsAs k D f ∧ ∀ key kl, keyOf Try.prog k key = some kl → left kl = todo key
theorem RangeV.map {r cnt : Nat} {todo : Value → Bool} (h : RangeV w k b r f n todo cnt) : MapV w k b f n := by
  obtain ⟨D, left, h1, h2, h3, _⟩ := h
  exact ⟨D, h1.owns, h2, h3⟩
theorem RangeV.left_eq {r cnt : Nat} {todo : Value → Bool} (h : RangeV w k b r f n todo cnt) : w.rangeLeft b r = cnt := by
  obtain ⟨D, left, h1, _⟩ := h
  exact h1.left_eq
theorem RangeV.ne {r cnt : Nat} {todo : Value → Bool} (h : RangeV w k b r f n todo cnt) : r ≠ b := by
  obtain ⟨D, left, h1, _⟩ := h
  exact h1.ne
theorem RangeV.lt {r cnt : Nat} {todo : Value → Bool} (h : RangeV w k b r f n todo cnt) : r < w.heap.size := by
  obtain ⟨D, left, h1, _⟩ := h
  exact h1.lt
theorem RangeV.kept {w' : World} {r cnt : Nat} {row : Option Nat} {todo : Value → Bool} (h : RangeV w k b r f n todo cnt) (hg : w.grownBy w' row) (hb : some b ≠ row) (hr : some r ≠ row) : RangeV w' k b r f n todo cnt := by
  obtain ⟨D, left, h1, h2, h3, h4⟩ := h
  exact ⟨D, left, h1.kept hg hb hr, h2, h3, h4⟩
theorem RangeV.congr {r cnt : Nat} {todo todo' : Value → Bool} (h : RangeV w k b r f n todo cnt) (e : ∀ x, todo x = todo' x) : RangeV w k b r f n todo' cnt := by
  have : todo = todo' := funext e
  exact this ▸ h
/-- 'range m'. -/
theorem MapV.range (h : MapV w k b f n) (K : Keyed Try.prog k) (ht : Try.prog.underlying t = some (.map k e)) :
    ∃ w', (Instr.range t (.map (some b))).run Try.prog w = .ok (.pointer (some ⟨w.heap.size, 0, none⟩)) w' ∧ RangeV w' k b w.heap.size f n (fun x => (f x).isSome) n ∧ w.grownBy w' none ∧ w'.heap.size = w.heap.size + 1 := by
  obtain ⟨D, h1, h2, h3⟩ := h
  obtain ⟨w', hrun, hr, hg, hs⟩ := h1.range K ht
  exact ⟨w', hrun, ⟨D, _, h2 ▸ hr, h2, h3, fun key kl hk => (h3 key kl hk).2⟩, hg, hs⟩

open Classical in
noncomputable def strikeV (todo : Value → Bool) (key : Value) : Value → Bool := fun x => if x = key then false else todo x
theorem strikeV_same (todo : Value → Bool) (key : Value) : strikeV todo key key = false := by simp [strikeV]
theorem strikeV_other (todo : Value → Bool) {key x : Value} (h : x ≠ key) : strikeV todo key x = todo x := by simp [strikeV, h]

theorem strike_left {K : Keyed Try.prog k} {left : Lit → Bool} {todo : Value → Bool} (h4 : ∀ key kl, keyOf Try.prog k key = some kl → left kl = todo key) {key : Value} {kl : Lit} (hkey : keyOf Try.prog k key = some kl) :
    ∀ x xl, keyOf Try.prog k x = some xl → (left xl && !xl.sameKey kl) = strikeV todo key x := by
  intro x xl hx
  by_cases e : x = key
  · subst e
    obtain rfl : xl = kl := by rw [hkey] at hx; exact (Option.some.inj hx).symm
    rw [strikeV_same, WideAt.sameKey_self (K.key hkey)]; simp
  · have e' : xl ≠ kl := fun h => e (K.inj (h ▸ hx) hkey)
    rw [strikeV_other _ e, Maps.sameKey_ne e', h4 x xl hx]; simp

/-- The step. -/
theorem RangeV.next {r cnt : Nat} {todo : Value → Bool} (h : RangeV w k b r f n todo cnt) (K : Keyed Try.prog k) (ty : TypeId) :
    (cnt = 0 ∧ (∀ key kl, keyOf Try.prog k key = some kl → todo key = false) ∧ (Instr.next (.pointer (some ⟨r, 0, none⟩)) false ty).run Try.prog w = .ok (.tuple #[.bool false]) w) ∨
    ∃ key v kl w' cnt', keyOf Try.prog k key = some kl ∧ todo key = true ∧ f key = some v ∧ (Instr.next (.pointer (some ⟨r, 0, none⟩)) false ty).run Try.prog w = .ok (.tuple #[.bool true, key, v]) w' ∧
      RangeV w' k b r f n (strikeV todo key) cnt' ∧ cnt' < cnt ∧ w.grownBy w' (some r) ∧ w'.heap.size = w.heap.size ∧ (Instr.entry (.pointer (some ⟨r, 0, none⟩))).run Try.prog w' = .ok (.tuple #[key, v]) w' := by
  obtain ⟨D, left, h1, h2, h3, h4⟩ := h
  rcases h1.next K ty with ⟨h0, hl, hrun⟩ | ⟨key, v, kl, y, w', cnt', hkey, hlk, hv, hat, hrun, hrg, hlt, hgr, hsz, hen⟩
  · exact Or.inl ⟨h0, fun key kl hk => by rw [← h4 key kl hk]; exact hl kl, hrun⟩
  · refine Or.inr ⟨key, v, kl, w', cnt', hkey, by rw [← h4 key kl hkey]; exact hlk, ?_, hrun, ⟨D, _, hrg, h2, h3, strike_left (K := K) h4 hkey⟩, hlt, hgr, hsz, hen⟩
    simp only [selfR, Option.some.injEq] at hv
    have := (h3 key kl hkey).1
    rw [hat .nil, ← hv] at this
    exact heldO_some this.symm
/-- 'delete(m, k)' in the round. -/
theorem RangeV.delete {r cnt : Nat} {todo : Value → Bool} (h : RangeV w k b r f n todo cnt) (K : Keyed Try.prog k) (ht : Try.prog.underlying t = some (.map k e)) {key : Value} {kl : Lit} (hkey : keyOf Try.prog k key = some kl) (ty : TypeId) :
    ∃ w' cnt' n', (Builtin.delete_ #[t, k] ty #[.map (some b), key]).run Try.prog w = .ok (.tuple #[]) w' ∧ RangeV w' k b r (updV f key none) n' (strikeV todo key) cnt' ∧ cnt' ≤ cnt ∧ n' ≤ n ∧ w.grownBy w' (some b) := by
  obtain ⟨D, left, h1, h2, h3, h4⟩ := h
  obtain ⟨w', cnt', hrun, hrg, hle, hg⟩ := h1.drop K ht hkey ty
  have hz := Maps.size_del (k := kl) (h1.owns.tidy K)
  refine ⟨w', cnt', Maps.size (D.del kl), hrun, ⟨_, _, ?_, rfl, readsAs_del K h3 hkey, strike_left (K := K) h4 hkey⟩, hle, by split at hz <;> omega, hg.grown⟩
  obtain ⟨es, clock, since, seen, c0, hb, F, hs, hD, hrest⟩ := hrg
  refine ⟨es, clock, since, seen, c0, hb, F, ?_, hD, hrest⟩
  rw [hD, Maps.size_eq, length_read]
  exact Nat.le_refl _
end
end Go.Proofs.Ytockmgcgifhepaa

/- Plain integers for the layer sketch: sums that are kept at most 2^62, of notes in a window. No program here. -/
namespace Go.Proofs.Ytockmgcgifhepaa
set_option linter.unusedVariables false

/-- Kept at most the greatest. -/
def capS (x : Int) : Int := if 4611686018427387904 < x then 4611686018427387904 else x
def plusS (a b : Int) : Int := if 4611686018427387904 - b < a then 4611686018427387904 else a + b
theorem capS_le (x : Int) : capS x ≤ 4611686018427387904 := by unfold capS; split <;> omega
theorem capS_nonneg {x : Int} (h : 0 ≤ x) : 0 ≤ capS x := by unfold capS; split <;> omega
theorem capS_mono {x y : Int} (h : x ≤ y) : capS x ≤ capS y := by unfold capS; split <;> split <;> omega
theorem capS_zero : capS 0 = 0 := by unfold capS; rw [if_neg (by omega)]
theorem capS_small {x : Int} (h : x ≤ 4611686018427387904) : capS x = x := by unfold capS; rw [if_neg (by omega)]
theorem plusS_cap {a b : Int} (ha : 0 ≤ a) (hb : 0 ≤ b) : plusS (capS a) (capS b) = capS (a + b) := by
  unfold plusS capS; split <;> split <;> split <;> (try split) <;> omega
theorem plusS_cap1 {a b : Int} (ha : 0 ≤ a) (hb : 0 ≤ b) : plusS (capS a) b = capS (a + b) := by
  unfold plusS capS; split <;> split <;> (try split) <;> omega
theorem plusS_bd {a b : Int} (ha : 0 ≤ a) (hb : 0 ≤ b) : 0 ≤ plusS a b ∧ plusS a b ≤ 4611686018427387904 := by
  unfold plusS; split <;> omega
theorem plusS_comm (a b : Int) : plusS a b = plusS b a := by unfold plusS; split <;> split <;> omega

/-- What was added of a key, at a time. -/
structure NoteS where
  at_ : Int
  n : Int
  key : ByteArray

def sumP (p : NoteS → Bool) : List NoteS → Int
  | [] => 0
  | x :: l => (if p x then x.n else 0) + sumP p l
def NonNeg (l : List NoteS) : Prop := ∀ x, x ∈ l → 0 ≤ x.n
theorem NonNeg.tail {x : NoteS} {l : List NoteS} (h : NonNeg (x :: l)) : NonNeg l := fun y hy => h y (by simp [hy])
theorem sumP_nonneg {p : NoteS → Bool} : ∀ {l : List NoteS}, NonNeg l → 0 ≤ sumP p l
  | [], _ => Int.le_refl _
  | x :: l, h => by
    have h1 := h x (by simp)
    have h2 := sumP_nonneg (p := p) h.tail
    rw [sumP]; split <;> omega
theorem sumP_append (p : NoteS → Bool) : ∀ l l' : List NoteS, sumP p (l ++ l') = sumP p l + sumP p l'
  | [], l' => by simp [sumP]
  | x :: l, l' => by rw [List.cons_append, sumP, sumP, sumP_append p l l']; omega
theorem sumP_mono {p q : NoteS → Bool} : ∀ {l : List NoteS}, NonNeg l → (∀ x, x ∈ l → p x = true → q x = true) → sumP p l ≤ sumP q l
  | [], _, _ => Int.le_refl _
  | x :: l, h, hpq => by
    have h1 := h x (by simp)
    have h2 := sumP_mono (p := p) (q := q) h.tail (fun y hy => hpq y (by simp [hy]))
    have h3 := hpq x (by simp)
    rw [sumP, sumP]
    cases hp : p x
    · rw [if_neg (by simp)]; split <;> omega
    · rw [h3 hp]; simp; omega
theorem sumP_congr {p q : NoteS → Bool} : ∀ {l : List NoteS}, (∀ x, x ∈ l → p x = q x) → sumP p l = sumP q l
  | [], _ => rfl
  | x :: l, h => by rw [sumP, sumP, h x (by simp), sumP_congr (fun y hy => h y (by simp [hy]))]
theorem sumP_none {p : NoteS → Bool} {l : List NoteS} (h : ∀ x, x ∈ l → p x = false) : sumP p l = 0 := by
  rw [sumP_congr h]
  induction l with
  | nil => rfl
  | cons x l ih => rw [sumP, ih (fun y hy => h y (by simp [hy]))]; simp
theorem sumP_split {p q r : NoteS → Bool} : ∀ {l : List NoteS}, (∀ x, x ∈ l → r x = (p x || q x) ∧ (p x && q x) = false) → sumP r l = sumP p l + sumP q l
  | [], _ => rfl
  | x :: l, h => by
    rw [sumP, sumP, sumP, sumP_split (fun y hy => h y (by simp [hy]))]
    obtain ⟨h1, h2⟩ := h x (by simp)
    rw [h1]
    cases hp : p x <;> cases hq : q x <;> simp [hp, hq] at h2 ⊢ <;> omega

def beginS (b t : Int) : Int := t - t % b
theorem beginS_mono {b s t : Int} (hb : 0 < b) (h : s ≤ t) : beginS b s ≤ beginS b t := by
  unfold beginS
  have h1 : s / b ≤ t / b := Int.ediv_le_ediv hb h
  have e1 : s - s % b = b * (s / b) := by have := Int.mul_ediv_add_emod s b; omega
  have e2 : t - t % b = b * (t / b) := by have := Int.mul_ediv_add_emod t b; omega
  rw [e1, e2]
  exact Int.mul_le_mul_of_nonneg_left h1 (by omega)
theorem beginS_le {b t : Int} (hb : 0 < b) : beginS b t ≤ t := by
  unfold beginS
  have := Int.emod_nonneg t (show b ≠ 0 by omega)
  omega
theorem beginS_nonneg {b t : Int} (hb : 0 < b) (h : 0 ≤ t) : 0 ≤ beginS b t := by
  have h1 := beginS_mono hb h
  have : beginS b 0 = 0 := by unfold beginS; simp
  omega

/-- A bucket: what was added in it, and of each column of each row. -/
structure BkA where
  at_ : Int
  tot : Int
  cnt : Int → Int → Int

def sumG (b : Int) (p : NoteS → Bool) (l : List NoteS) : List Int → Int
  | [] => 0
  | g :: L => sumP (fun x => decide (beginS b x.at_ = g) && p x) l + sumG b p l L
theorem sumG_all {b : Int} {p : NoteS → Bool} {l : List NoteS} : ∀ {L : List Int}, L.Nodup → sumG b p l L = sumP (fun x => decide (beginS b x.at_ ∈ L) && p x) l
  | [], _ => by rw [sumG]; exact (sumP_none (fun x _ => by simp)).symm
  | g :: L, h => by
    obtain ⟨h1, h2⟩ := List.nodup_cons.1 h
    rw [sumG, sumG_all h2]
    refine (sumP_split (fun x hx => ?_)).symm
    by_cases e : beginS b x.at_ = g
    · have : beginS b x.at_ ∉ L := by rw [e]; exact h1
      simp [e, h1]
    · simp [e]

/-- The sum over the buckets behind a time. -/
def sumB (lim : Int) (sel : BkA → Int) (s : Int) : List BkA → Int
  | [] => s
  | x :: l => sumB lim sel (if lim < x.at_ then plusS s (sel x) else s) l
theorem sumB_cap {b lim : Int} {p : NoteS → Bool} {notes : List NoteS} (hn : NonNeg notes) {sel : BkA → Int} : ∀ {bs : List BkA} {A : Int}, 0 ≤ A → (∀ x, x ∈ bs → sel x = capS (sumP (fun y => decide (beginS b y.at_ = x.at_) && p y) notes)) →
    sumB lim sel (capS A) bs = capS (A + sumG b p notes ((bs.map (·.at_)).filter (fun g => decide (lim < g))))
  | [], A, _, _ => by rw [sumB]; simp [sumG]
  | x :: bs, A, hA, h => by
    have h0 : 0 ≤ sumP (fun y => decide (beginS b y.at_ = x.at_) && p y) notes := sumP_nonneg hn
    rw [sumB]
    by_cases hx : lim < x.at_
    · rw [if_pos hx, h x (by simp), plusS_cap hA h0, sumB_cap hn (by omega) (fun y hy => h y (by simp [hy]))]
      rw [List.map_cons, List.filter_cons, decide_eq_true hx, if_pos rfl, sumG]
      congr 1; omega
    · rw [if_neg hx, sumB_cap hn hA (fun y hy => h y (by simp [hy]))]
      rw [List.map_cons, List.filter_cons, decide_eq_false hx, if_neg (by simp)]

/-- What is so of a sketch: its buckets against all that was added. -/
structure InvS (b W R : Int) (col : Int → ByteArray → Int) (last : Int) (notes : List NoteS) (bs : List BkA) : Prop where
  b1 : 0 < b
  bW : b ≤ W
  l0 : 0 ≤ last
  nn : ∀ x, x ∈ notes → 0 ≤ x.n ∧ 0 ≤ x.at_ ∧ x.at_ ≤ last
  sorted : bs.Pairwise (fun x y => x.at_ < y.at_)
  upto : ∀ x, x ∈ bs → x.at_ ≤ beginS b last
  tot : ∀ x, x ∈ bs → x.tot = capS (sumP (fun y => decide (beginS b y.at_ = x.at_) && true) notes)
  cnt : ∀ x, x ∈ bs → ∀ r, 0 ≤ r → r < R → ∀ c, x.cnt r c = capS (sumP (fun y => decide (beginS b y.at_ = x.at_) && decide (col r y.key = c)) notes)
  all : ∀ y, y ∈ notes → beginS b last - W < beginS b y.at_ → ∃ x, x ∈ bs ∧ x.at_ = beginS b y.at_

variable {b W R last : Int} {col : Int → ByteArray → Int} {notes : List NoteS} {bs : List BkA}
theorem InvS.nonneg (h : InvS b W R col last notes bs) : NonNeg notes := fun x hx => (h.nn x hx).1
theorem InvS.nodup (h : InvS b W R col last notes bs) : (bs.map (·.at_)).Nodup := by
  rw [List.Nodup, List.pairwise_map]
  exact h.sorted.imp (fun h => by omega)

theorem InvS.sum (h : InvS b W R col last notes bs) {at_ : Int} (hat : last ≤ at_) {sel : BkA → Int} {p : NoteS → Bool} (hs : ∀ x, x ∈ bs → sel x = capS (sumP (fun y => decide (beginS b y.at_ = x.at_) && p y) notes)) :
    sumB (beginS b at_ - W) sel 0 bs = capS (sumP (fun y => decide (beginS b at_ - W < beginS b y.at_) && p y) notes) := by
  have hm := beginS_mono h.b1 hat
  rw [← capS_zero, sumB_cap h.nonneg (Int.le_refl 0) hs, Int.zero_add, sumG_all (List.Pairwise.filter _ h.nodup)]
  congr 1
  refine sumP_congr (fun y hy => ?_)
  congr 1
  rw [decide_eq_decide, List.mem_filter, List.mem_map, decide_eq_true_eq]
  refine ⟨fun hh => hh.2, fun hh => ⟨?_, hh⟩⟩
  obtain ⟨x, hx, e⟩ := h.all y hy (by omega)
  exact ⟨x, hx, e⟩
theorem InvS.total (h : InvS b W R col last notes bs) {at_ : Int} (hat : last ≤ at_) : sumB (beginS b at_ - W) (·.tot) 0 bs = capS (sumP (fun y => decide (beginS b at_ - W < beginS b y.at_) && true) notes) := h.sum hat h.tot
theorem InvS.row (h : InvS b W R col last notes bs) {at_ : Int} (hat : last ≤ at_) {r : Int} (h0 : 0 ≤ r) (h1 : r < R) (key : ByteArray) : sumB (beginS b at_ - W) (fun x => x.cnt r (col r key)) 0 bs = capS (sumP (fun y => decide (beginS b at_ - W < beginS b y.at_) && decide (col r y.key = col r key)) notes) :=
  h.sum hat (fun x hx => h.cnt x hx r h0 h1 _)

theorem InvS.empty {b W R : Int} {col : Int → ByteArray → Int} (h1 : 0 < b) (h2 : b ≤ W) : InvS b W R col 0 [] [] :=
  ⟨h1, h2, Int.le_refl _, by simp, List.Pairwise.nil, by simp, by simp, by simp, by simp⟩

def foldS (s : Int) (ns : List Int) : Int := ns.foldl plusS s
def sumN (ns : List Int) : Int := ns.foldr (· + ·) 0
theorem sumN_nonneg : ∀ {ns : List Int}, (∀ x, x ∈ ns → 0 ≤ x) → 0 ≤ sumN ns
  | [], _ => Int.le_refl _
  | x :: l, h => by
    have h1 := h x (by simp)
    have h2 := sumN_nonneg (ns := l) (fun y hy => h y (by simp [hy]))
    show 0 ≤ x + sumN l
    omega
theorem foldS_cap : ∀ {ns : List Int} {A : Int}, 0 ≤ A → (∀ x, x ∈ ns → 0 ≤ x) → foldS (capS A) ns = capS (A + sumN ns)
  | [], A, _, _ => by simp [foldS, sumN]
  | x :: l, A, hA, h => by
    have h1 := h x (by simp)
    show foldS (plusS (capS A) x) l = _
    rw [plusS_cap1 hA h1, foldS_cap (by omega) (fun y hy => h y (by simp [hy]))]
    show capS (A + x + sumN l) = capS (A + (x + sumN l))
    rw [Int.add_assoc]
theorem foldS_bd : ∀ {ns : List Int} {A : Int}, 0 ≤ A → A ≤ 4611686018427387904 → (∀ x, x ∈ ns → 0 ≤ x) → 0 ≤ foldS A ns ∧ foldS A ns ≤ 4611686018427387904
  | [], A, h0, h1, _ => ⟨h0, h1⟩
  | x :: l, A, h0, h1, h => by
    have h2 := plusS_bd h0 (h x (by simp))
    show 0 ≤ foldS (plusS A x) l ∧ foldS (plusS A x) l ≤ 4611686018427387904
    exact foldS_bd h2.1 h2.2 (fun y hy => h y (by simp [hy]))

def newNotes (at_ : Int) (key : ByteArray) (ns : List Int) : List NoteS := ns.map (fun n => ⟨at_, n, key⟩)
theorem sumP_new (p : NoteS → Bool) (at_ : Int) (key : ByteArray) (q : Bool) (hq : ∀ n, p ⟨at_, n, key⟩ = q) : ∀ ns : List Int, sumP p (newNotes at_ key ns) = if q then sumN ns else 0
  | [] => by simp [newNotes, sumP, sumN]
  | n :: ns => by
    show (if p ⟨at_, n, key⟩ then n else 0) + sumP p (newNotes at_ key ns) = _
    rw [sumP_new p at_ key q hq ns, hq n]
    cases q
    · simp
    · simp [sumN]

/-- The bucket of a time, behind what was added of a key. -/
def addBk (R : Int) (col : Int → ByteArray → Int) (key : ByteArray) (ns : List Int) (x : BkA) : BkA :=
  ⟨x.at_, foldS x.tot ns, fun r c => if (0 ≤ r ∧ r < R) ∧ c = col r key then foldS (x.cnt r c) ns else x.cnt r c⟩
def keepBk (g W : Int) (bs : List BkA) : List BkA := bs.filter (fun x => decide (g - W < x.at_))
/-- The buckets with one for the time g at the end. -/
def withBk (g : Int) (bs : List BkA) : List BkA := if (bs.getLast?.map (·.at_)) = some g then bs else bs ++ [⟨g, 0, fun _ _ => 0⟩]

theorem withBk_split (g : Int) (bs : List BkA) : ∃ pre x, withBk g bs = pre ++ [x] ∧ x.at_ = g ∧ (bs = pre ++ [x] ∨ bs = pre ∧ x = ⟨g, 0, fun _ _ => 0⟩ ∧ (bs.getLast?.map (·.at_)) ≠ some g) := by
  unfold withBk
  by_cases h : (bs.getLast?.map (·.at_)) = some g
  · rw [if_pos h]
    rw [Option.map_eq_some_iff] at h
    obtain ⟨x, hx, e⟩ := h
    obtain ⟨pre, rfl⟩ := List.getLast?_eq_some_iff.1 hx
    exact ⟨pre, x, rfl, e, Or.inl rfl⟩
  · rw [if_neg h]
    exact ⟨bs, _, rfl, rfl, Or.inr ⟨rfl, rfl, h⟩⟩

theorem InvS.add (h : InvS b W R col last notes bs) {at_ : Int} (hat : last ≤ at_) (key : ByteArray) {ns : List Int} (hns : ∀ x, x ∈ ns → 0 ≤ x) {pre : List BkA} {x : BkA} (hx : withBk (beginS b at_) (keepBk (beginS b at_) W bs) = pre ++ [x]) :
    InvS b W R col at_ (notes ++ newNotes at_ key ns) (pre ++ [addBk R col key ns x]) := by
  have hm := beginS_mono h.b1 hat
  have hW := h.bW
  have hb := h.b1
  have hl0 := h.l0
  obtain ⟨pre', x', e1, e2, e3⟩ := withBk_split (beginS b at_) (keepBk (beginS b at_) W bs)
  rw [hx] at e1
  obtain ⟨rfl, e4⟩ := List.append_inj' e1 rfl
  obtain rfl : x = x' := by simpa using e4
  -- what stands in pre
  have hpre : ∀ y, y ∈ pre → y ∈ bs := fun y hy => by
    have : y ∈ keepBk (beginS b at_) W bs := by
      rcases e3 with e3 | ⟨e3, _⟩
      · rw [e3]; simp [hy]
      · rw [e3]; exact hy
    exact (List.mem_filter.1 this).1
  have hks : (keepBk (beginS b at_) W bs).Pairwise (fun x y => x.at_ < y.at_) := h.sorted.filter _
  have hlt : ∀ y, y ∈ pre → y.at_ < beginS b at_ := fun y hy => by
    rcases e3 with e3 | ⟨e3, _, e5⟩
    · rw [e3] at hks
      have := (List.pairwise_append.1 hks).2.2 y hy x (by simp)
      omega
    · rcases Int.lt_or_le y.at_ (beginS b at_) with hc | hc
      · exact hc
      · exfalso
        have hyb := h.upto y (hpre y hy)
        have hyg : y.at_ = beginS b at_ := by omega
        obtain ⟨z, hz⟩ : ∃ z, pre.getLast? = some z := ⟨pre.getLast (by intro e; subst e; simp at hy), List.getLast?_eq_some_getLast _⟩
        have hzm : z ∈ pre := List.mem_of_getLast? hz
        obtain ⟨q, hq⟩ := List.getLast?_eq_some_iff.1 hz
        have hzy : y.at_ ≤ z.at_ := by
          rw [e3, hq] at hks
          rw [hq] at hy
          rcases List.mem_append.1 hy with hy | hy
          · have := (List.pairwise_append.1 hks).2.2 y hy z (by simp)
            omega
          · obtain rfl : y = z := by simpa using hy
            omega
        have hzb := h.upto z (hpre z hzm)
        refine e5 ?_
        rw [e3, hz]
        show some z.at_ = _
        congr 1; omega
  have hone : beginS b at_ = x.at_ := e2.symm
  -- sums at the time g of the old notes
  have hold : x.tot = capS (sumP (fun y => decide (beginS b y.at_ = x.at_) && true) notes) ∧ ∀ r, 0 ≤ r → r < R → ∀ c, x.cnt r c = capS (sumP (fun y => decide (beginS b y.at_ = x.at_) && decide (col r y.key = c)) notes) := by
    rcases e3 with e3 | ⟨e3, e6, e5⟩
    · have hxb : x ∈ bs := (List.mem_filter.1 (show x ∈ keepBk (beginS b at_) W bs by rw [e3]; simp)).1
      exact ⟨h.tot x hxb, h.cnt x hxb⟩
    · have hno : ∀ y, y ∈ notes → beginS b y.at_ ≠ x.at_ := fun y hy e => by
        obtain ⟨z, hz, ez⟩ := h.all y hy (by omega)
        have hzk : z ∈ pre := by
          rw [← e3]
          exact List.mem_filter.2 ⟨hz, by rw [decide_eq_true_eq]; omega⟩
        have := hlt z hzk
        omega
      have z1 : ∀ p : NoteS → Bool, sumP (fun y => decide (beginS b y.at_ = x.at_) && p y) notes = 0 := fun p => sumP_none (fun y hy => by simp [hno y hy])
      refine ⟨?_, fun r _ _ c => ?_⟩
      · rw [z1 (fun _ => true), capS_zero, e6]
      · rw [z1 (fun y => decide (col r y.key = c)), capS_zero, e6]
  have hnn := h.nonneg
  refine ⟨hb, hW, by omega, ?_, ?_, ?_, ?_, ?_, ?_⟩
  · intro y hy
    rcases List.mem_append.1 hy with hy | hy
    · have := h.nn y hy; omega
    · obtain ⟨n, hn, rfl⟩ := List.mem_map.1 hy
      exact ⟨hns n hn, by show 0 ≤ at_; omega, Int.le_refl _⟩
  · refine List.pairwise_append.2 ⟨?_, by simp, ?_⟩
    · rcases e3 with e3 | ⟨e3, _⟩
      · rw [e3] at hks; exact (List.pairwise_append.1 hks).1
      · rw [e3] at hks; exact hks
    · intro y hy z hz
      obtain rfl : z = addBk R col key ns x := by simpa using hz
      show y.at_ < x.at_
      have := hlt y hy
      omega
  · intro y hy
    rcases List.mem_append.1 hy with hy | hy
    · have := hlt y hy; omega
    · obtain rfl : y = addBk R col key ns x := by simpa using hy
      show x.at_ ≤ _
      omega
  · intro y hy
    rcases List.mem_append.1 hy with hy | hy
    · have := hlt y hy
      rw [sumP_append, sumP_new _ at_ key false (fun n => by simp; omega), if_neg (by simp), Int.add_zero]
      exact h.tot y (hpre y hy)
    · obtain rfl : y = addBk R col key ns x := by simpa using hy
      show foldS x.tot ns = capS (sumP (fun z => decide (beginS b z.at_ = x.at_) && true) _)
      rw [sumP_append, sumP_new _ at_ key true (fun n => by simp; omega), if_pos rfl, hold.1, foldS_cap (sumP_nonneg hnn) hns]
  · intro y hy r r0 r1 c
    rcases List.mem_append.1 hy with hy | hy
    · have := hlt y hy
      rw [sumP_append, sumP_new _ at_ key false (fun n => by simp; omega), if_neg (by simp), Int.add_zero]
      exact h.cnt y (hpre y hy) r r0 r1 c
    · obtain rfl : y = addBk R col key ns x := by simpa using hy
      show (if (0 ≤ r ∧ r < R) ∧ c = col r key then foldS (x.cnt r c) ns else x.cnt r c) = capS (sumP (fun z => decide (beginS b z.at_ = x.at_) && decide (col r z.key = c)) _)
      rw [sumP_append]
      by_cases hc : c = col r key
      · rw [if_pos ⟨⟨r0, r1⟩, hc⟩, sumP_new _ at_ key true (fun n => by simp [hc]; omega), if_pos rfl, hold.2 r r0 r1, foldS_cap (sumP_nonneg hnn) hns]
      · rw [if_neg (fun hh => hc hh.2), sumP_new _ at_ key false (fun n => by simp; intro _ e; exact hc e.symm), if_neg (by simp), Int.add_zero]
        exact hold.2 r r0 r1 c
  · intro y hy hh
    rcases List.mem_append.1 hy with hy | hy
    · obtain ⟨z, hz, ez⟩ := h.all y hy (by omega)
      have hzk : z ∈ keepBk (beginS b at_) W bs := List.mem_filter.2 ⟨hz, by rw [decide_eq_true_eq]; omega⟩
      rcases e3 with e3 | ⟨e3, _⟩
      · rw [e3] at hzk
        rcases List.mem_append.1 hzk with hzk | hzk
        · exact ⟨z, by simp [hzk], ez⟩
        · obtain rfl : z = x := by simpa using hzk
          exact ⟨addBk R col key ns z, by simp, ez⟩
      · rw [e3] at hzk
        exact ⟨z, by simp [hzk], ez⟩
    · obtain ⟨n, hn, rfl⟩ := List.mem_map.1 hy
      exact ⟨addBk R col key ns x, by simp, e2⟩

/-- The least of the rows' sums. -/
def leastS (f : Int → Int) : Nat → Int
  | 0 => 4611686018427387904
  | r + 1 => min (leastS f r) (f r)
theorem leastS_le {f : Int → Int} : ∀ {n : Nat} {r : Nat}, r < n → leastS f n ≤ f r
  | n + 1, r, h => by
    rw [leastS]
    by_cases e : r = n
    · subst e; omega
    · have := leastS_le (f := f) (n := n) (r := r) (by omega); omega
theorem le_leastS {f : Int → Int} {x : Int} (hx : x ≤ 4611686018427387904) : ∀ {n : Nat}, (∀ r : Nat, r < n → x ≤ f r) → x ≤ leastS f n
  | 0, _ => hx
  | n + 1, h => by
    have h1 := le_leastS hx (n := n) (fun r hr => h r (by omega))
    have h2 := h n (by omega)
    rw [leastS]; omega
theorem leastS_congr {f g : Int → Int} : ∀ {n : Nat}, (∀ r : Nat, r < n → f r = g r) → leastS f n = leastS g n
  | 0, _ => rfl
  | n + 1, h => by rw [leastS, leastS, leastS_congr (fun r hr => h r (by omega)), h n (by omega)]
end Go.Proofs.Ytockmgcgifhepaa
