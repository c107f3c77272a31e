/- HotPlays: for every input the law returns true, and each argument reads behind the call as it read before. Conditions: none. -/
import Derived.WalkKit
import Derived.ProofKit
import Derived.OpenShut
import Derived.ShutString
import Derived.ChangeOld
import Derived.Below
import Derived.SizedLaws
import Derived.Test.YtemlafbkkaloiaaGreatRows
import Derived.Test.YtemlafbkkaloiaaGreatGGGWFork
import Derived.Test.YtemlafbkkaloiaaGreatGOpenI
import Derived.Test.YtemlafbkkaloiaaGreatGRecs
namespace Go.Proofs.YtemlafbkkaloiaaGreat.hotPlays
open Go.ChangeShapes Go.WideShapes Go.ChangeAt Go.RowKit
open Go.ChangeMaps (open_string shut_string)
set_option linter.unusedVariables false

theorem own : ownKnob Tryz.prog.godebug = none := by kernel_rfl
theorem laidOut : laidOutB Tryz.prog = true := by kernel_rfl

set_option maxHeartbeats 3200000 in
set_option maxRecDepth 100000 in
theorem lifted (os : Os) (started : os.Started) (H : Type) (enc : TypeId × Value → H) :
    ReturnsInHanded {} Tryz.checked os 3 .any (Rows.hotPlaysSpec.pre6 enc Tryz.prog Tryz.f3 Rows.hotPlaysRow.domain false) (Rows.hotPlaysSpec.post enc Tryz.prog Tryz.f3 false true false false) := by
  refine returnsInHanded_of_change_sized (C := Tryz.checked) own started (by kernel_rfl) Tryz.func3
    (ChangeSpec.witness6 (enc := enc) (C := Tryz.checked) false ⟨#[], #[.agg #[.string ⟨#[]⟩, .int .i64 0, .int .i64 0, .int .i64 0, .slice none 0 0, .int .i64 0, .int .u64 0], .slice none 0 0], []⟩ 8 (by kernel_rfl) (by kernel_rfl) (by kernel_rfl) (by kernel_rfl)) ?_
  intro W base args ds gs before hval0 hW hcnd hsz0 _
  have hsz : (DataW.weightsEach Tryz.prog (Tryz.f3.params.toList ++ Rows.hotPlaysSpec.plain.varTypes Tryz.prog) (ds ++ gs)).all (· ≤ reachBytes) = true := hsz0
  have hval : ∀ (j : Nat) t v, Tryz.f3.params[j]? = some t → args[j]? = some v → Value.okWide Tryz.prog W .any base t v := hval0
  have hW' := hW
  obtain ⟨p, q, hA0, hV, rfl, hfz, hnd⟩ := hW
  have hA : DataW.TrodAll enc Tryz.prog W 0 (fun _ => true) true Tryz.f3.params.toList args.toList ds p := hA0
  rw [Tryz.params3] at hA hval hsz
  obtain ⟨v0, vs0, d0, ds0, p0, q0, hargs, rfl, rfl, h0, r0⟩ := trodAll_cons hA
  obtain ⟨v1, vs1, d1, ds1, p1, q1, rfl, rfl, rfl, h1, r1⟩ := trodAll_cons r0
  obtain ⟨rfl, rfl, rfl⟩ := trodAll_nil r1
  obtain rfl : args = #[v0, v1] := by cases args; simp_all
  obtain ⟨rfl, rfl⟩ := trodVars_none hV
  have k0 := h0
  have lt0 : ∀ x ∈ p0, x.block < W.heap.size := by obtain ⟨m, hm⟩ := k0; exact DataW.trod_lt m _ _ _ hm
  obtain ⟨rr0, hv0, hr0⟩ := open_setting (hval 0 27 v0 rfl rfl) h0 (sz_top (j := 0) hsz rfl rfl)
  subst hv0
  have k1 := h1
  have lt1 : ∀ x ∈ p1, x.block < W.heap.size := by obtain ⟨m, hm⟩ := k1; exact DataW.trod_lt m _ _ _ hm
  obtain ⟨a1, len1, cap1, V1, rfl, hr1, hn1, hB1, hm1, hF1⟩ := open_recs (i0 := 1) Tryz.underlying28 Tryz.underlying41 (by kernel_rfl) (by kernel_rfl) (by decide) (hval 1 28 v1 rfl rfl) h1 rfl rfl hsz (by rw [show Tryz.prog.bytesOf 41 = 40 from by kernel_rfl]; decide)
  have hf1x0 : ∀ j, j < len1 → V1 j 0 = .int .i64 (intOf (V1 j 0)) ∧ (Lit.int .i64 (intOf (V1 j 0))).wf = true := fun j hj => by obtain ⟨y, m, hy⟩ := hF1 j hj 0 _ rfl; exact recs_int Tryz.underlying3 hy
  have hf1x1 : ∀ j, j < len1 → V1 j 1 = .int .i64 (intOf (V1 j 1)) ∧ (Lit.int .i64 (intOf (V1 j 1))).wf = true := fun j hj => by obtain ⟨y, m, hy⟩ := hF1 j hj 1 _ rfl; exact recs_int Tryz.underlying3 hy
  have hf1x2 : ∀ j, j < len1 → V1 j 2 = .string (strOf (V1 j 2)) ∧ (strOf (V1 j 2)).size ≤ maxLen := fun j hj => by obtain ⟨y, m, hy⟩ := hF1 j hj 2 _ rfl; exact recs_strz Tryz.underlying9 hy
  have hf1x3 : ∀ j, j < len1 → V1 j 3 = .int .i64 (intOf (V1 j 3)) ∧ (Lit.int .i64 (intOf (V1 j 3))).wf = true := fun j hj => by obtain ⟨y, m, hy⟩ := hF1 j hj 3 _ rfl; exact recs_int Tryz.underlying3 hy
  rw [show Tryz.prog.bytesOf 41 = 40 from by kernel_rfl] at hB1
  clear hA0 hval0 hsz0
  refine (hotplays_law (w := W) rr0 hr0 a1 len1 cap1 V1 hm1 hr1 hB1 hf1x0 hf1x1 hf1x2 hf1x3).mono fun e W' ⟨he, bel⟩ => ?_
  subst he
  exact ⟨_, rfl, _, _, _, [], _, [], hW', trodAll_mk1 (shut_bool Tryz.underlying4 _), (trodAll_cons_mk (Below.trod laidOut (by kernel_rfl) (of_decide_eq_true (by kernel_rfl)) k0 bel lt0) (trodAll_cons_mk (Below.trod laidOut (by kernel_rfl) (of_decide_eq_true (by kernel_rfl)) k1 bel lt1) trodAll_mk0)), rfl, bel.frame _, fun h => by cases h⟩

theorem over : Rows.hotPlaysRow.holds Tryz.pinned (OpenSpec.ofChange Rows.hotPlaysSpec) :=
  OpenClaim.holds_of_wide 3 Tryz.f3 rfl rfl rfl rfl rfl rfl rfl ⟨rfl, rfl, rfl, rfl, rfl⟩ rfl rfl rfl rfl rfl (by kernel_rfl) Tryz.func3 (by kernel_rfl)
    (of_decide_eq_true (by kernel_rfl)) (by unfold Func.isWrapper; first | (rw [if_pos (by decide +kernel)]; kernel_rfl) | (rw [if_neg (by decide +kernel)]; exact ⟨rfl, rfl⟩))
    (fun os started H enc _ => lifted os started H enc)

/-- For every input the law returns true. -/
theorem proved : Rows.HotPlaysSaid := over
#print axioms proved
end Go.Proofs.YtemlafbkkaloiaaGreat.hotPlays
