/- Two blocks alone were written, of those that were there. -/
import Derived.Test.YtfcmacibblkdkaaProg
import Derived.ProofKit
import Derived.Below
namespace Go.Proofs.Ytfcmacibblkdkaa
open Go.RowKit
/-- Two blocks alone were written, of those that were there. -/
structure Grown2 (w w' : World) (b c : Nat) : Prop where
  os : w'.os = w.os
  tape : w'.tape = w.tape
  output : w'.output = w.output
  size : w.heap.size ≤ w'.heap.size
  block : ∀ k, k < w.heap.size → k ≠ b → k ≠ c → w'.heap[k]? = w.heap[k]?
theorem Grown2.refl (w : World) (b c : Nat) : Grown2 w w b c := ⟨rfl, rfl, rfl, Nat.le_refl _, fun _ _ _ _ => rfl⟩
theorem Grown2.trans {w w1 w2 : World} {b c : Nat} (h : Grown2 w w1 b c) (k : Grown2 w1 w2 b c) : Grown2 w w2 b c :=
  ⟨k.os.trans h.os, k.tape.trans h.tape, k.output.trans h.output, Nat.le_trans h.size k.size, fun i hi h1 h2 => (k.block i (Nat.lt_of_lt_of_le hi h.size) h1 h2).trans (h.block i hi h1 h2)⟩
theorem Grown2.below {w w1 w2 : World} {b c : Nat} (h : Grown2 w w1 b c) (k : Below w1.heap.size w1 w2) : Grown2 w w2 b c :=
  h.trans ⟨k.os, k.tape, k.output, k.size, fun i hi _ _ => k.block i hi⟩
theorem Grown2.left {w w1 w2 : World} {b c : Nat} (h : Grown2 w w1 b c) (k : w1.grownBy w2 (some b)) : Grown2 w w2 b c :=
  h.trans ⟨k.os, k.tape, k.output, k.size, fun i hi h1 _ => k.block i hi (fun e => h1 (by injection e))⟩
theorem Grown2.right {w w1 w2 : World} {b c : Nat} (h : Grown2 w w1 b c) (k : w1.grownBy w2 (some c)) : Grown2 w w2 b c :=
  h.trans ⟨k.os, k.tape, k.output, k.size, fun i hi _ h2 => k.block i hi (fun e => h2 (by injection e))⟩
theorem below_two {w w1 w2 : World} {b c : Nat} (h : Below w.heap.size w w1) (hb : w.heap.size ≤ b) (hc : w.heap.size ≤ c) (g : Grown2 w1 w2 b c) : Below w.heap.size w w2 :=
  ⟨g.os.trans h.os, g.tape.trans h.tape, g.output.trans h.output, Nat.le_trans h.size g.size, fun k hk => (g.block k (Nat.lt_of_lt_of_le hk h.size) (by omega) (by omega)).trans (h.block k hk)⟩
end Go.Proofs.Ytfcmacibblkdkaa
