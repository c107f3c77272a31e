/- HotNone: for every input the law returns true, and each argument reads behind the call as it read before. Conditions: none. -/
import Derived.WalkKit
import Derived.ProofKit
import Derived.OpenShut
import Derived.ShutString
import Derived.ChangeOld
import Derived.Below
import Derived.SizedLaws
import Derived.Test.YtemlafbkkaloiaaGreatRows
import Derived.Test.YtemlafbkkaloiaaGreatGHtL
import Derived.Test.YtemlafbkkaloiaaGreatGOpenI
import Derived.Test.YtemlafbkkaloiaaGreatGRecs
namespace Go.Proofs.YtemlafbkkaloiaaGreat.hotNone
open Go.ChangeShapes Go.WideShapes Go.ChangeAt Go.RowKit
open Go.ChangeMaps (open_string shut_string)
set_option linter.unusedVariables false

theorem own : ownKnob Tryz.prog.godebug = none := by kernel_rfl
theorem laidOut : laidOutB Tryz.prog = true := by kernel_rfl

set_option maxHeartbeats 3200000 in
set_option maxRecDepth 100000 in
theorem lifted (os : Os) (started : os.Started) (H : Type) (enc : TypeId × Value → H) :
    ReturnsInHanded {} Tryz.checked os 4 .any (Rows.hotNoneSpec.pre6 enc Tryz.prog Tryz.f4 Rows.hotNoneRow.domain false) (Rows.hotNoneSpec.post enc Tryz.prog Tryz.f4 false true false false) := by
  refine returnsInHanded_of_change_sized (C := Tryz.checked) own started (by kernel_rfl) Tryz.func4
    (ChangeSpec.witness6 (enc := enc) (C := Tryz.checked) false ⟨#[], #[.agg #[.string ⟨#[]⟩, .int .i64 0, .int .i64 0, .int .i64 0, .slice none 0 0, .int .i64 0, .int .u64 0], .agg #[.int .i64 0, .int .i64 0, .string ByteArray.empty, .int .i64 0]], []⟩ 8 (by kernel_rfl) (by kernel_rfl) (by kernel_rfl) (by kernel_rfl)) ?_
  intro W base args ds gs before hval0 hW hcnd hsz0 _
  have hsz : (DataW.weightsEach Tryz.prog (Tryz.f4.params.toList ++ Rows.hotNoneSpec.plain.varTypes Tryz.prog) (ds ++ gs)).all (· ≤ reachBytes) = true := hsz0
  have hval : ∀ (j : Nat) t v, Tryz.f4.params[j]? = some t → args[j]? = some v → Value.okWide Tryz.prog W .any base t v := hval0
  have hW' := hW
  obtain ⟨p, q, hA0, hV, rfl, hfz, hnd⟩ := hW
  have hA : DataW.TrodAll enc Tryz.prog W 0 (fun _ => true) true Tryz.f4.params.toList args.toList ds p := hA0
  rw [Tryz.params4] at hA hval hsz
  obtain ⟨v0, vs0, d0, ds0, p0, q0, hargs, rfl, rfl, h0, r0⟩ := trodAll_cons hA
  obtain ⟨v1, vs1, d1, ds1, p1, q1, rfl, rfl, rfl, h1, r1⟩ := trodAll_cons r0
  obtain ⟨rfl, rfl, rfl⟩ := trodAll_nil r1
  obtain rfl : args = #[v0, v1] := by cases args; simp_all
  obtain ⟨rfl, rfl⟩ := trodVars_none hV
  have k0 := h0
  have lt0 : ∀ x ∈ p0, x.block < W.heap.size := by obtain ⟨m, hm⟩ := k0; exact DataW.trod_lt m _ _ _ hm
  obtain ⟨rr0, hv0, hr0⟩ := open_setting (hval 0 27 v0 rfl rfl) h0 (sz_top (j := 0) hsz rfl rfl)
  subst hv0
  have k1 := h1
  have lt1 : ∀ x ∈ p1, x.block < W.heap.size := by obtain ⟨m, hm⟩ := k1; exact DataW.trod_lt m _ _ _ hm
  obtain ⟨cs1, rfl, hcz1, hF1⟩ := open_structv Tryz.underlying41 (by kernel_rfl) (by kernel_rfl) (hval 1 41 v1 rfl rfl) h1
  obtain ⟨u1x0, g1x0, y1x0, m1x0, t1x0⟩ := hF1 0 _ rfl
  obtain ⟨u1x1, g1x1, y1x1, m1x1, t1x1⟩ := hF1 1 _ rfl
  obtain ⟨u1x2, g1x2, y1x2, m1x2, t1x2⟩ := hF1 2 _ rfl
  obtain ⟨u1x3, g1x3, y1x3, m1x3, t1x3⟩ := hF1 3 _ rfl
  have hcz1' : cs1.size = 4 := hcz1
  obtain rfl : cs1 = #[u1x0, u1x1, u1x2, u1x3] := by
    apply Array.ext_getElem?
    intro j
    match j with
    | 0 => exact g1x0
    | 1 => exact g1x1
    | 2 => exact g1x2
    | 3 => exact g1x3
    | j + 4 => rw [Array.getElem?_eq_none (by omega), Array.getElem?_eq_none (by simp)]
  obtain ⟨a1x0, rfl, w1x0⟩ : ∃ n, u1x0 = .int .i64 n ∧ (Lit.int .i64 n).wf = true := ⟨_, recs_int Tryz.underlying3 t1x0⟩
  obtain ⟨a1x1, rfl, w1x1⟩ : ∃ n, u1x1 = .int .i64 n ∧ (Lit.int .i64 n).wf = true := ⟨_, recs_int Tryz.underlying3 t1x1⟩
  obtain ⟨a1x2, rfl, z1x2⟩ : ∃ s, u1x2 = .string s ∧ s.size ≤ maxLen := ⟨_, recs_strz Tryz.underlying9 t1x2⟩
  obtain ⟨a1x3, rfl, w1x3⟩ : ∃ n, u1x3 = .int .i64 n ∧ (Lit.int .i64 n).wf = true := ⟨_, recs_int Tryz.underlying3 t1x3⟩
  clear hA0 hval0 hsz0
  refine (hotnone_law (w := W) rr0 hr0 a1x0 w1x0 a1x1 w1x1 a1x2 z1x2 a1x3 w1x3).mono fun e W' ⟨he, bel⟩ => ?_
  subst he
  exact ⟨_, rfl, _, _, _, [], _, [], hW', trodAll_mk1 (shut_bool Tryz.underlying4 _), (trodAll_cons_mk (Below.trod laidOut (by kernel_rfl) (of_decide_eq_true (by kernel_rfl)) k0 bel lt0) (trodAll_cons_mk (Below.trod laidOut (by kernel_rfl) (of_decide_eq_true (by kernel_rfl)) k1 bel lt1) trodAll_mk0)), rfl, bel.frame _, fun h => by cases h⟩

theorem over : Rows.hotNoneRow.holds Tryz.pinned (OpenSpec.ofChange Rows.hotNoneSpec) :=
  OpenClaim.holds_of_wide 4 Tryz.f4 rfl rfl rfl rfl rfl rfl rfl ⟨rfl, rfl, rfl, rfl, rfl⟩ rfl rfl rfl rfl rfl (by kernel_rfl) Tryz.func4 (by kernel_rfl)
    (of_decide_eq_true (by kernel_rfl)) (by unfold Func.isWrapper; first | (rw [if_pos (by decide +kernel)]; kernel_rfl) | (rw [if_neg (by decide +kernel)]; exact ⟨rfl, rfl⟩))
    (fun os started H enc _ => lifted os started H enc)

/-- For every input the law returns true. -/
theorem proved : Rows.HotNoneSaid := over
#print axioms proved
end Go.Proofs.YtemlafbkkaloiaaGreat.hotNone
