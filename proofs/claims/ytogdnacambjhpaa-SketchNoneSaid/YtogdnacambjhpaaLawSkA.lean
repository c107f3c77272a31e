/- The laws of the layer sketch: SketchNone. -/
import Derived.Test.YtogdnacambjhpaaSkJ
namespace Go.Proofs.Ytogdnacambjhpaa
open Go.RowKit
set_option linter.unusedVariables false
set_option linter.unusedSimpArgs false

set_option maxHeartbeats 3200000 in
set_option maxRecDepth 100000 in
theorem sknone_law {w : World} (at_ : Int) (wa : (Lit.int .i64 at_).wf = true) (key : ByteArray) (wk : key.size ≤ maxLen) :
    Calls Try.prog 8 #[.int .i64 at_, .string key] w fun e w' => e = .returned (.bool true) ∧ Below w.heap.size w w' := by
  have HLV := Lib.hid (fun (w : World) => sklive_any w)
  go_enter Try.func8, Try.ntmps8
  go_wp2_with (fail)
  refine (skEstimate_nil _ _ _).mono ?_
  rintro e wq ⟨rfl, hq⟩
  subst hq
  go_wp2_with (fail)
  refine (skTotal_nil _ _).mono ?_
  rintro e wq1 ⟨rfl, hq⟩
  subst hq
  go_wp2_with (fail)
  refine (skTop_nil _ _ _ _).mono ?_
  rintro e wq2 ⟨rfl, hq⟩
  subst hq
  go_wp2_with (fail)
  refine (skColumn_nil _ _ _).mono ?_
  rintro e wq3 ⟨rfl, hq⟩
  subst hq
  go_wp2_with (fail)
  have HB1 : Hid (Below wq1.heap.size wq1 (wq1.alloc (.cells #[.string key] 9))) := (Below.refl _ _).alloc (Nat.le_refl _) _
  refine (HLV.out _).mono ?_
  rintro e wb ⟨rfl, hb⟩
  have HB2 := Lib.hid (HB1.out.trans (hb.mono HB1.out.size))
  have HZ := Lib.hid HB2.out.size
  clear hb
  go_wp2_with (fail)
  have HB3 := Lib.hid (HB2.out.alloc HZ.out (.cells #[.int .i64 1] 3))
  refine (skAdd_nil _ _ _ _).mono ?_
  rintro e wc ⟨rfl, hc⟩
  have HB4 := Lib.hid (HB3.out.trans (hc.mono HB3.out.size))
  clear hc
  go_wp2_with (fail)
  refine (skLast_nil _).mono ?_
  rintro e wd ⟨rfl, hq⟩
  subst hq
  go_wp2_with (fail)
  refine (skFork_nil _).mono ?_
  rintro e we ⟨rfl, hq⟩
  subst hq
  go_wp2_with (fail)
  go_ret
  exact ⟨rfl, HB4.out⟩
end Go.Proofs.Ytogdnacambjhpaa
