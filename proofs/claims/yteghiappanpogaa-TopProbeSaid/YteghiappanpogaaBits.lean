/- math/bits.Add64 and Sub64 over Int, at this program's numbers. -/
import Derived.Test.YteghiappanpogaaShelf
import Derived.ProofKit
namespace Go.Proofs.Yteghiappanpogaa
open Go.RowKit Go.Shelf
theorem add64 (x y c : Int) (hx : 0 ≤ x) (hy : 0 ≤ y) (hc0 : 0 ≤ c) (hc : c ≤ 1) (w : World) : (callFunc 59 #[.int .u64 x, .int .u64 y, .int .u64 c]).run Try.prog w = .ok (.value (.tuple #[.int .u64 ((x + y + c) % 18446744073709551616), .int .u64 ((x + y + c) / 18446744073709551616)])) w := by
  obtain ⟨x, rfl⟩ := Int.eq_ofNat_of_zero_le hx
  obtain ⟨y, rfl⟩ := Int.eq_ofNat_of_zero_le hy
  obtain ⟨c, rfl⟩ := Int.eq_ofNat_of_zero_le hc0
  refine (Any7.bits_Add64 Try.lays25 x y c (by omega) w).trans ?_
  congr 5 <;> omega
end Go.Proofs.Yteghiappanpogaa
