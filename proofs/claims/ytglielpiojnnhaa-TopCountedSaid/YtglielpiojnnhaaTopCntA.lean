/- What stands between two rounds of TopCounted. -/
import Derived.Test.YtglielpiojnnhaaTopCnt
namespace Go.Proofs.Ytglielpiojnnhaa
open Go.RowKit
set_option linter.unusedVariables false
set_option linter.unusedSimpArgs false

structure TcI (w wr : World) (B M N : Nat) (L : List LNode) (kl : List ByteArray) (sb : Nat) (h : ShapeS) (ks : List ByteArray) (v : Value) (bs : List BkS) (mb : Nat) (F : Value → Option Value) (n : Nat) (km : List ByteArray) : Prop where
  lru : Lru wr B M N L
  le : LeT (pr L) kl
  sk : SkInv wr sb h 100 0 (notesT ks) v bs
  map : MapV wr 9 mb F n
  cnt : ∀ s : ByteArray, s.size ≤ maxLen → (F (.string s)).getD (.int .i64 0) = .int .i64 (cntT km s)
  few : n ≤ km.length
  ap1 : ∀ b, Lown B M L b → ¬ SkOwn sb v bs b ∧ b ≠ mb
  ap2 : ¬ SkOwn sb v bs mb
  o1 : ∀ b, Lown B M L b → w.heap.size ≤ b
  o2 : ∀ b, SkOwn sb v bs b → w.heap.size ≤ b
  o3 : w.heap.size ≤ mb
  bel : Below w.heap.size w wr

variable {w wr w' : World} {B M N : Nat} {L L' : List LNode} {kl kl' ks ks' km km' : List ByteArray} {sb : Nat} {h : ShapeS} {v v' : Value} {bs bs' : List BkS} {mb : Nat} {F F' : Value → Option Value} {n n' : Nat}

theorem TcI.below (k : TcI w wr B M N L kl sb h ks v bs mb F n km) (hb : Below wr.heap.size wr w') : TcI w w' B M N L kl sb h ks v bs mb F n km :=
  ⟨k.lru.below hb, k.le, k.sk.below hb, k.map.below hb, k.cnt, k.few, k.ap1, k.ap2, k.o1, k.o2, k.o3, k.bel.trans (hb.mono k.bel.size)⟩
theorem TcI.lruStep (k : TcI w wr B M N L kl sb h ks v bs mb F n km) (h1 : Lru w' B M N L') (h2 : LeT (pr L') kl') (ho : Off (Lown B M L) wr w') (hs : ∀ b, Lown B M L' b → Lown B M L b ∨ wr.heap.size ≤ b) : TcI w w' B M N L' kl' sb h ks v bs mb F n km := by
  have hz := k.bel.size
  refine ⟨h1, h2, ⟨k.sk.at_.kept (fun i hi => ho.block i (k.sk.at_.lt hi) (fun hL => (k.ap1 i hL).1 hi)), k.sk.inv⟩, k.map.kept (ho.block mb k.map.lt (fun hL => (k.ap1 mb hL).2 rfl)), k.cnt, k.few, fun b hb => ?_, k.ap2, fun b hb => ?_, k.o2, k.o3, below_off k.bel hz ho k.o1⟩
  · rcases hs b hb with h3 | h3
    · exact k.ap1 b h3
    · exact ⟨fun h4 => by have := k.sk.at_.lt h4; omega, fun e => by have := k.map.lt; omega⟩
  · rcases hs b hb with h3 | h3
    · exact k.o1 b h3
    · omega
theorem TcI.mapStep (k : TcI w wr B M N L kl sb h ks v bs mb F n km) (h1 : MapV w' 9 mb F' n') (h2 : ∀ s : ByteArray, s.size ≤ maxLen → (F' (.string s)).getD (.int .i64 0) = .int .i64 (cntT km' s)) (h3 : n' ≤ km'.length) (hg : wr.grownBy w' (some mb)) : TcI w w' B M N L kl sb h ks v bs mb F' n' km' := by
  have hb : ∀ i, i < wr.heap.size → i ≠ mb → w'.heap[i]? = wr.heap[i]? := fun i hi hne => hg.block i hi (fun e => hne (by injection e))
  refine ⟨k.lru.kept (fun b hL => hb b (k.lru.lt hL) (k.ap1 b hL).2), k.le, ⟨k.sk.at_.kept (fun i hi => hb i (k.sk.at_.lt hi) (fun e => k.ap2 (e ▸ hi))), k.sk.inv⟩, h1, h2, h3, k.ap1, k.ap2, k.o1, k.o2, k.o3, ?_⟩
  exact ⟨hg.os.trans k.bel.os, hg.tape.trans k.bel.tape, hg.output.trans k.bel.output, Nat.le_trans k.bel.size hg.size, fun i hi => (hb i (by have := k.bel.size; omega) (fun e => by have := k.o3; omega)).trans (k.bel.block i hi)⟩
theorem TcI.skStep (k : TcI w wr B M N L kl sb h ks v bs mb F n km) (h1 : SkInv w' sb h 100 0 (notesT ks') v' bs') (ho : Off (SkOwn sb v bs) wr w') (hs : ∀ i, SkOwn sb v' bs' i → SkOwn sb v bs i ∨ wr.heap.size ≤ i) : TcI w w' B M N L kl sb h ks' v' bs' mb F n km := by
  have hz := k.bel.size
  refine ⟨k.lru.off ho (fun b hL => (k.ap1 b hL).1), k.le, h1, k.map.kept (ho.block mb k.map.lt k.ap2), k.cnt, k.few, fun b hb => ⟨fun h2 => ?_, (k.ap1 b hb).2⟩, fun h2 => ?_, k.o1, fun b hb => ?_, k.o3, below_off k.bel hz ho k.o2⟩
  · rcases hs b h2 with h3 | h3
    · exact (k.ap1 b hb).1 h3
    · have := k.lru.lt hb; omega
  · rcases hs mb h2 with h3 | h3
    · exact k.ap2 h3
    · have := k.map.lt; omega
  · rcases hs b hb with h3 | h3
    · exact k.o2 b h3
    · omega
theorem under_mapI : Try.prog.underlying 31 = some (.map 9 3) := by kernel_rfl
/-- One more of a key. -/
theorem TcI.count (k : TcI w wr B M N L kl sb h ks v bs mb F n km) {s : ByteArray} (hs : s.size ≤ maxLen) (hn : km.length < 200) :
    (Instr.lookup 31 (.map (some mb)) (.string s) false).run Try.prog wr = .ok (.int .i64 (cntT km s)) wr ∧
    ∃ w' F' n', (Instr.mapUpdate 31 (.map (some mb)) (.string s) (.int .i64 ((cntT km s : Int) + 1))).run Try.prog wr = .ok () w' ∧ TcI w w' B M N L kl sb h ks v bs mb F' n' (km ++ [s]) ∧ wr.grownBy w' (some mb) ∧ w'.heap.size = wr.heap.size := by
  constructor
  · have h1 := k.map.look false strKeyed under_mapI (zero_intS wr) (skeyOf hs)
    rw [if_neg (by simp), k.cnt s hs] at h1
    exact h1
  · obtain ⟨w', hrun, hm, hg, hz⟩ := k.map.update strKeyed under_mapI (by have := k.few; unfold maxLen; omega) (skeyOf hs) (.int .i64 ((cntT km s : Int) + 1))
    refine ⟨w', _, _, hrun, k.mapStep hm (fun t ht => ?_) ?_ hg, hg, hz⟩
    · rw [cntT_snoc]
      by_cases e : s = t
      · subst e
        rw [updV_same, if_pos rfl]
        simp
      · rw [updV_other _ _ (fun h => e (by injection h with h; exact h.symm)), if_neg e]
        exact k.cnt t ht
    · have := k.few
      rw [List.length_append, List.length_singleton]
      split <;> omega
end Go.Proofs.Ytglielpiojnnhaa
