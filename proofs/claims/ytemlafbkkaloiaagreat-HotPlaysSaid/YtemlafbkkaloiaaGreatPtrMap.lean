/- A map from texts to blocks of memory, read as a function. -/
import Derived.ProofKit
import Derived.Maps.OwnOps
import Derived.Maps.OwnSet
import Derived.Maps.Keyed
import Derived.Maps.Views
import Derived.Test.YtemlafbkkaloiaaGreatProg
namespace Go.Proofs.YtemlafbkkaloiaaGreat
open Go.RowKit Go.ChangeMaps Go.MapKept
set_option linter.unusedVariables false

/-- How a pointer to a block's first cell reads. -/
def ptrElem : Value → Option (DataW Unit × List MemPlace)
  | .pointer none => some (.nil, [])
  | .pointer (some ⟨b, 0, none⟩) => some (.lit (.int .u64 b), [])
  | _ => none

/-- The pointer at a block, or nil. -/
def ptrV : Option Nat → Value
  | none => .pointer none
  | some b => .pointer (some ⟨b, 0, none⟩)
/-- What it reads as. -/
def ptrD : Option Nat → DataW Unit
  | none => .nil
  | some b => .lit (.int .u64 b)

theorem ptrElem_V (o : Option Nat) : ptrElem (ptrV o) = some (ptrD o, []) := by cases o <;> rfl
theorem ptrElem_inv {v : Value} {o : Option Nat} {ps : List MemPlace} (h : ptrElem v = some (ptrD o, ps)) : v = ptrV o := by
  unfold ptrElem at h
  split at h
  · cases o <;> simp_all [ptrD, ptrV]
  · cases o <;> simp_all [ptrD, ptrV]
    omega
  · cases h

def skey (s : ByteArray) : Lit := .string s.data.toList
theorem skey_inj {s t : ByteArray} (h : skey s = skey t) : s = t := by
  simp only [skey, Lit.string.injEq] at h
  rcases s with ⟨⟨l⟩⟩; rcases t with ⟨⟨l'⟩⟩; simp at h; rw [h]
theorem skey_isKey (s : ByteArray) : WideAt.IsKeyLit (skey s) := trivial

/-- Block b is a map from texts to blocks: f, of n entries. -/
def MapOf (w : World) (b : Nat) (f : ByteArray → Option Nat) (n : Nat) : Prop :=
  ∃ D : DataW Unit, w.ownsMap Tryz.prog 9 ptrElem b n D ∧ Maps.size D = n ∧ ∀ s, D.atKey (skey s) .nil = ptrD (f s) ∧ Maps.has D (skey s) = (f s).isSome

theorem under_map : Tryz.prog.underlying 114 = some (.map 9 117) := by kernel_rfl
theorem under_str : Tryz.prog.underlying 9 = some .string := by kernel_rfl
theorem zero_link (w : World) : (zeroValue 117).run Tryz.prog w = .ok (.pointer none) w := by
  kernel_rfl

theorem strKeyed : Maps.Keyed Tryz.prog 9 := Maps.string_keyed under_str
theorem skeyOf {s : ByteArray} (hs : s.size ≤ maxLen) : keyOf Tryz.prog 9 (.string s) = some (skey s) := WideMaps.keyOf_string_mk under_str hs

theorem MapOf.rebase {w : World} {b m n : Nat} {D : DataW Unit} (h : w.ownsMap Tryz.prog 9 ptrElem b m D) (hn : Maps.size D = n) : w.ownsMap Tryz.prog 9 ptrElem b n D := by
  obtain ⟨es, clock, hb, F, hs, rfl⟩ := h
  refine ⟨es, clock, hb, F, ?_, rfl⟩
  have : Maps.size (.map ((es.toList.map (WideElems.rg Tryz.prog 9 ptrElem)).foldr DataW.insert [])) = es.size := by
    rw [Maps.size_eq, length_read]
  omega

theorem MapOf.lt {w : World} {b n : Nat} {f : ByteArray → Option Nat} (h : MapOf w b f n) : b < w.heap.size := by
  obtain ⟨D, h, _⟩ := h
  exact h.lt

theorem mapOf_made (w : World) : MapOf (w.alloc (.map #[] 0)) w.heap.size (fun _ => none) 0 :=
  ⟨.map [], World.ownsMap_made w _ _ _, rfl, fun s => ⟨rfl, rfl⟩⟩

theorem MapOf.kept {w w' : World} {b n : Nat} {f : ByteArray → Option Nat} (h : MapOf w b f n) (hk : w'.heap[b]? = w.heap[b]?) : MapOf w' b f n := by
  obtain ⟨D, ⟨es, clock, hb, F, hs, hD⟩, h2, h3⟩ := h
  exact ⟨D, ⟨es, clock, hk.trans hb, F, hs, hD⟩, h2, h3⟩

theorem MapOf.congr {w : World} {b n : Nat} {f g : ByteArray → Option Nat} (h : MapOf w b f n) (e : ∀ s, f s = g s) : MapOf w b g n := by
  have : f = g := funext e
  exact this ▸ h

theorem MapOf.lookup {w : World} {b n : Nat} {f : ByteArray → Option Nat} (h : MapOf w b f n) {s : ByteArray} (hs : s.size ≤ maxLen) :
    (Instr.lookup 114 (.map (some b)) (.string s) false).run Tryz.prog w = .ok (ptrV (f s)) w := by
  obtain ⟨D, h1, h2, h3⟩ := h
  obtain ⟨v, ps, hrun, hv⟩ := h1.lookup strKeyed under_map (zero_link w) (ptrElem_V none) (skeyOf hs)
  rw [show ptrD none = .nil from rfl, (h3 s).1] at hv
  rw [hrun, ptrElem_inv hv]

theorem MapOf.len {w : World} {b n : Nat} {f : ByteArray → Option Nat} (h : MapOf w b f n) (ty : TypeId) :
    (Builtin.len_ #[114] ty #[.map (some b)]).run Tryz.prog w = .ok (.int .i64 n) w := by
  obtain ⟨D, h1, h2, h3⟩ := h
  rw [h1.len under_map ty, h2]

theorem MapOf.update {w : World} {b n : Nat} {f : ByteArray → Option Nat} (h : MapOf w b f n) (hn : n < maxLen) {s : ByteArray} (hs : s.size ≤ maxLen) (c : Nat) :
    ∃ w', (Instr.mapUpdate 114 (.map (some b)) (.string s) (.pointer (some ⟨c, 0, none⟩))).run Tryz.prog w = .ok () w' ∧
      MapOf w' b (fun t => if t = s then some c else f t) (if (f s).isSome then n else n + 1) ∧ w.grownBy w' (some b) := by
  obtain ⟨D, h1, h2, h3⟩ := h
  obtain ⟨w', hrun, h4, hg⟩ := h1.update strKeyed under_map hn (skeyOf hs) (ptrElem_V (some c))
  have hsz : Maps.size (D.put (skey s) (ptrD (some c))) = if (f s).isSome then n else n + 1 := by rw [Maps.size_put (h1.tidy strKeyed), (h3 s).2, h2]
  refine ⟨w', hrun, ⟨_, MapOf.rebase h4 hsz, hsz, fun t => ?_⟩, hg⟩
  · dsimp only
    by_cases e : t = s
    · subst e
      rw [if_pos rfl, Maps.atKey_put_same h1.isMap (skey_isKey _), Maps.has_put_same h1.isMap (skey_isKey _)]
      exact ⟨rfl, rfl⟩
    · have e' : skey t ≠ skey s := fun h => e (skey_inj h)
      rw [if_neg e, Maps.atKey_put_other e', Maps.has_put_other e']
      exact h3 t

theorem MapOf.delete {w : World} {b n : Nat} {f : ByteArray → Option Nat} (h : MapOf w b f n) {s : ByteArray} (hs : s.size ≤ maxLen) :
    ∃ w', (∀ ty, (Builtin.delete_ #[114, 9] ty #[.map (some b), .string s]).run Tryz.prog w = .ok (.tuple #[]) w') ∧
      MapOf w' b (fun t => if t = s then none else f t) (if (f s).isSome then n - 1 else n) ∧ w.grownBy w' (some b) := by
  obtain ⟨D, h1, h2, h3⟩ := h
  obtain ⟨w', hrun, h4, hg⟩ := h1.drop strKeyed under_map (skeyOf hs) 0
  have hz := Maps.size_del (k := skey s) (h1.tidy strKeyed)
  rw [(h3 s).2, h2] at hz
  have hsz : Maps.size (D.del (skey s)) = if (f s).isSome then n - 1 else n := by
    cases hf : (f s).isSome <;> simp [hf] at hz ⊢ <;> omega
  refine ⟨w', fun _ => hrun, ⟨_, MapOf.rebase h4 hsz, hsz, fun t => ?_⟩, hg.grown⟩
  · dsimp only
    by_cases e : t = s
    · subst e
      rw [if_pos rfl, Maps.atKey_del_same, Maps.has_del_same]
      exact ⟨rfl, rfl⟩
    · have e' : skey t ≠ skey s := fun h => e (skey_inj h)
      rw [if_neg e, Maps.atKey_del_other e', Maps.has_del_other e']
      exact h3 t
end Go.Proofs.YtemlafbkkaloiaaGreat
