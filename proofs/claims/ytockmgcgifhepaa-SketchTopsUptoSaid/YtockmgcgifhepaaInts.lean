/- Where a slice of int64 reads as a list. -/
import Derived.ProofKit
import Derived.Below
import Derived.Test.YtockmgcgifhepaaProg
namespace Go.Proofs.Ytockmgcgifhepaa
open Go.RowKit

/-- All numbers are int64. -/
def I64s (xs : List Int) : Prop := ∀ x ∈ xs, -9223372036854775808 ≤ x ∧ x ≤ 9223372036854775807
/-- Where a slice of int64 reads as a list. -/
def IntsAt (w : World) (a : Option Addr) (xs : List Int) : Prop :=
  xs = [] ∨ ∃ b off, a = some ⟨b, off, none⟩ ∧ b < w.heap.size ∧ ∀ j, j < xs.length → w.cell? ⟨b, off + j, none⟩ = some (.int .i64 (xs.getD j 0))
end Go.Proofs.Ytockmgcgifhepaa
