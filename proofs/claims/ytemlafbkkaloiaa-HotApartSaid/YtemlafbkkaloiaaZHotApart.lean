/- HotApart: for every input the law returns true, and each argument reads behind the call as it read before. Conditions: none. -/
import Derived.WalkKit
import Derived.ProofKit
import Derived.OpenShut
import Derived.ShutString
import Derived.ChangeOld
import Derived.Below
import Derived.SizedLaws
import Derived.Test.YtemlafbkkaloiaaRows
import Derived.Test.YtemlafbkkaloiaaGHtOp
import Derived.Test.YtemlafbkkaloiaaGOpenI
import Derived.Test.YtemlafbkkaloiaaGRecs
namespace Go.Proofs.Ytemlafbkkaloiaa.hotApart
open Go.ChangeShapes Go.WideShapes Go.ChangeAt Go.RowKit
open Go.ChangeMaps (open_string shut_string)
set_option linter.unusedVariables false

theorem own : ownKnob Try.prog.godebug = none := by kernel_rfl
theorem laidOut : laidOutB Try.prog = true := by kernel_rfl

set_option maxHeartbeats 3200000 in
set_option maxRecDepth 100000 in
theorem lifted (os : Os) (started : os.Started) (H : Type) (enc : TypeId × Value → H) :
    ReturnsInHanded {} Try.checked os 5 .any (Rows.hotApartSpec.pre6 enc Try.prog Try.f5 Rows.hotApartRow.domain false) (Rows.hotApartSpec.post enc Try.prog Try.f5 false true false false) := by
  refine returnsInHanded_of_change_sized (C := Try.checked) own started (by kernel_rfl) Try.func5
    (ChangeSpec.witness6 (enc := enc) (C := Try.checked) false ⟨#[], #[.agg #[.string ⟨#[]⟩, .int .i64 0, .int .i64 0, .int .i64 0, .slice none 0 0, .int .i64 0, .int .u64 0], .slice none 0 0], []⟩ 8 (by kernel_rfl) (by kernel_rfl) (by kernel_rfl) (by kernel_rfl)) ?_
  intro W base args ds gs before hval0 hW hcnd hsz0 _
  have hsz : (DataW.weightsEach Try.prog (Try.f5.params.toList ++ Rows.hotApartSpec.plain.varTypes Try.prog) (ds ++ gs)).all (· ≤ reachBytes) = true := hsz0
  have hval : ∀ (j : Nat) t v, Try.f5.params[j]? = some t → args[j]? = some v → Value.okWide Try.prog W .any base t v := hval0
  have hW' := hW
  obtain ⟨p, q, hA0, hV, rfl, hfz, hnd⟩ := hW
  have hA : DataW.TrodAll enc Try.prog W 0 (fun _ => true) true Try.f5.params.toList args.toList ds p := hA0
  rw [Try.params5] at hA hval hsz
  obtain ⟨v0, vs0, d0, ds0, p0, q0, hargs, rfl, rfl, h0, r0⟩ := trodAll_cons hA
  obtain ⟨v1, vs1, d1, ds1, p1, q1, rfl, rfl, rfl, h1, r1⟩ := trodAll_cons r0
  obtain ⟨rfl, rfl, rfl⟩ := trodAll_nil r1
  obtain rfl : args = #[v0, v1] := by cases args; simp_all
  obtain ⟨rfl, rfl⟩ := trodVars_none hV
  have k0 := h0
  have lt0 : ∀ x ∈ p0, x.block < W.heap.size := by obtain ⟨m, hm⟩ := k0; exact DataW.trod_lt m _ _ _ hm
  obtain ⟨rr0, hv0, hr0⟩ := open_setting (hval 0 27 v0 rfl rfl) h0 (sz_top (j := 0) hsz rfl rfl)
  subst hv0
  have k1 := h1
  have lt1 : ∀ x ∈ p1, x.block < W.heap.size := by obtain ⟨m, hm⟩ := k1; exact DataW.trod_lt m _ _ _ hm
  obtain ⟨a1, len1, cap1, V1, rfl, hr1, hn1, hB1, hm1, hF1⟩ := open_recs (i0 := 1) Try.underlying28 Try.underlying35 (by kernel_rfl) (by kernel_rfl) (by decide) (hval 1 28 v1 rfl rfl) h1 rfl rfl hsz (by rw [show Try.prog.bytesOf 35 = 40 from by kernel_rfl]; decide)
  have hf1x0 : ∀ j, j < len1 → V1 j 0 = .int .i64 (intOf (V1 j 0)) ∧ (Lit.int .i64 (intOf (V1 j 0))).wf = true := fun j hj => by obtain ⟨y, m, hy⟩ := hF1 j hj 0 _ rfl; exact recs_int Try.underlying3 hy
  have hf1x1 : ∀ j, j < len1 → V1 j 1 = .int .i64 (intOf (V1 j 1)) ∧ (Lit.int .i64 (intOf (V1 j 1))).wf = true := fun j hj => by obtain ⟨y, m, hy⟩ := hF1 j hj 1 _ rfl; exact recs_int Try.underlying3 hy
  have hf1x2 : ∀ j, j < len1 → V1 j 2 = .string (strOf (V1 j 2)) ∧ (strOf (V1 j 2)).size ≤ maxLen := fun j hj => by obtain ⟨y, m, hy⟩ := hF1 j hj 2 _ rfl; exact recs_strz Try.underlying9 hy
  have hf1x3 : ∀ j, j < len1 → V1 j 3 = .int .i64 (intOf (V1 j 3)) ∧ (Lit.int .i64 (intOf (V1 j 3))).wf = true := fun j hj => by obtain ⟨y, m, hy⟩ := hF1 j hj 3 _ rfl; exact recs_int Try.underlying3 hy
  rw [show Try.prog.bytesOf 35 = 40 from by kernel_rfl] at hB1
  clear hA0 hval0 hsz0
  refine (hotapart_law (w := W) rr0 hr0 a1 len1 cap1 V1 hm1 hr1 hB1 hf1x0 hf1x1 hf1x2 hf1x3).mono fun e W' ⟨he, bel⟩ => ?_
  subst he
  exact ⟨_, rfl, _, _, _, [], _, [], hW', trodAll_mk1 (shut_bool Try.underlying4 _), (trodAll_cons_mk (Below.trod laidOut (by kernel_rfl) (of_decide_eq_true (by kernel_rfl)) k0 bel lt0) (trodAll_cons_mk (Below.trod laidOut (by kernel_rfl) (of_decide_eq_true (by kernel_rfl)) k1 bel lt1) trodAll_mk0)), rfl, bel.frame _, fun h => by cases h⟩

theorem over : Rows.hotApartRow.holds Try.pinned (OpenSpec.ofChange Rows.hotApartSpec) :=
  OpenClaim.holds_of_wide 5 Try.f5 rfl rfl rfl rfl rfl rfl rfl ⟨rfl, rfl, rfl, rfl, rfl⟩ rfl rfl rfl rfl rfl (by kernel_rfl) Try.func5 (by kernel_rfl)
    (of_decide_eq_true (by kernel_rfl)) (by unfold Func.isWrapper; first | (rw [if_pos (by decide +kernel)]; kernel_rfl) | (rw [if_neg (by decide +kernel)]; exact ⟨rfl, rfl⟩))
    (fun os started H enc _ => lifted os started H enc)

/-- For every input the law returns true. -/
theorem proved : Rows.HotApartSaid := over
#print axioms proved
end Go.Proofs.Ytemlafbkkaloiaa.hotApart
