/- The layer num: MulDiv, Mul, Div, Share, Times: what each call returns; nothing that was there turns. -/
import Derived.Test.YtfednlooepicaaaNumBy
namespace Go.Proofs.Ytfednlooepicaaa
open Go.RowKit
set_option linter.unusedVariables false
set_option linter.unusedSimpArgs false

/-- What MulDiv answers. -/
def mdN (a b c : Int) (up : Bool) : Int := if c = 0 then 0 else fitN (rnd (a * b) c up)
def mdE (a b c : Int) (up : Bool) : Int := if c = 0 then 9 else fitE (rnd (a * b) c up)
theorem fitN_of (v : Int) : (if fitB v then fitN v else 0) = fitN v := by unfold fitN; split <;> rfl
theorem fitE_of (v : Int) : (if fitB v then 0 else 8) = fitE v := rfl

set_option maxHeartbeats 400000 in
theorem muldiv_any (a b c : Int) (up : Bool) (w : World) (a0 : -9223372036854775808 ≤ a) (a1 : a ≤ 9223372036854775807) (b0 : -9223372036854775808 ≤ b) (b1 : b ≤ 9223372036854775807) (c0 : -9223372036854775808 ≤ c) (c1 : c ≤ 9223372036854775807) :
    Calls Try.prog 22 #[.int .i64 a, .int .i64 b, .int .i64 c, .bool up] w fun e w' => e = .returned (.tuple #[.int .i64 (mdN a b c up), .int .i64 (mdE a b c up)]) ∧ Below w.heap.size w w' := by
  by_cases cz : c = 0
  · have e1 := Lib.hid (show mdN a b c up = 0 by simp [mdN, cz])
    have e2 := Lib.hid (show mdE a b c up = 9 by simp [mdE, cz])
    rw [e1.out, e2.out]
    have cb : (c == 0) = true := by simpa using cz
    clear cz
    go_enter Try.func22, Try.ntmps22
    go_wp2_with (fail)
    go_ret2
    exact ⟨rfl, Below.refl _ _⟩
  · have e1 := Lib.hid (show mdN a b c up = fitN (rnd (a * b) c up) by simp [mdN, cz])
    have e2 := Lib.hid (show mdE a b c up = fitE (rnd (a * b) c up) by simp [mdE, cz])
    rw [e1.out, e2.out]
    have cb : (c == 0) = false := by simpa using cz
    go_enter Try.func22, Try.ntmps22
    go_wp2_with (fail)
    refine (product_any a b _ a0 a1 b0 b1).mono ?_
    rintro e w1 ⟨hi, lo, bb, rfl, h0, h1, l0, l1, hv, hs, hb1⟩
    have Hv := Lib.hid hv
    have Hs := Lib.hid hs
    clear hv hs
    go_wp2_with (fail)
    refine (by_any hi lo c bb up _ h0 h1 l0 l1 c0 c1 cz).mono ?_
    rintro e w2 ⟨rfl, hb2⟩
    rw [Hv.out]
    go_wp2_with (fail)
    refine (told_any _ _ _).mono ?_
    rintro e w3 ⟨rfl, rfl⟩
    rw [fitN_of, fitE_of]
    go_wp2_with (fail)
    go_ret2
    exact ⟨rfl, hb1.trans (hb2.mono hb1.size)⟩

/-- What Share answers. -/
def shN (a b : Int) : Int := if a < 0 ∨ b < a then 0 else if b = 0 then 0 else mdN 1000 a b false
def shE (a b : Int) : Int := if a < 0 ∨ b < a then 2 else if b = 0 then 0 else mdE 1000 a b false

end Go.Proofs.Ytfednlooepicaaa
