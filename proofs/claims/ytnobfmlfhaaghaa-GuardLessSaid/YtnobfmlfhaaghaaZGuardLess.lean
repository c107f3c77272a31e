/- GuardLess: for every input the law returns true, and each argument reads behind the call as it read before. Conditions: none. -/
import Derived.Test.YtnobfmlfhaaghaaRows
import Derived.Test.YtnobfmlfhaaghaaLawGuA
import Derived.WalkKit
import Derived.ProofKit
import Derived.OpenShut
import Derived.ShutString
import Derived.ChangeOld
import Derived.Below
import Derived.SizedLaws
import Derived.Test.YtnobfmlfhaaghaaRecsA
import Derived.Test.YtnobfmlfhaaghaaRecs
namespace Go.Proofs.Ytnobfmlfhaaghaa.guardLess
open Go.ChangeShapes Go.WideShapes Go.ChangeAt Go.RowKit
open Go.ChangeMaps (open_string shut_string)
set_option linter.unusedVariables false

theorem own : ownKnob Try.prog.godebug = none := by kernel_rfl
theorem laidOut : laidOutB Try.prog = true := by kernel_rfl

set_option maxRecDepth 100000 in
theorem lifted (os : Os) (started : os.Started) (H : Type) (enc : TypeId × Value → H) :
    ReturnsInHanded {} Try.checked os 3 .any (Rows.guardLessSpec.pre6 enc Try.prog Try.f3 Rows.guardLessRow.domain false) (Rows.guardLessSpec.post enc Try.prog Try.f3 false true false false) := by
  refine returnsInHanded_of_change_sized (C := Try.checked) own started (by kernel_rfl) Try.func3
    (ChangeSpec.witness6 (enc := enc) (C := Try.checked) false ⟨#[], #[.agg #[.int .i64 0, .int .i64 0, .int .i64 0, .int .i64 0, .int .i64 0], .agg #[.int .i64 0, .int .i64 0, .int .i64 0, .int .i64 0, .int .i64 0, .int .i64 0, .int .i64 0, .int .i64 0, .int .i64 0, .int .i64 0, .int .i64 0, .int .i64 0, .int .i64 0, .int .i64 0], .agg #[.int .i64 0, .int .i64 0]], []⟩ 8 (by kernel_rfl) (by kernel_rfl) (by kernel_rfl) (by kernel_rfl)) ?_
  intro W base args ds gs before hval0 hW hcnd hsz0 _
  have hsz : (DataW.weightsEach Try.prog (Try.f3.params.toList ++ Rows.guardLessSpec.plain.varTypes Try.prog) (ds ++ gs)).all (· ≤ reachBytes) = true := hsz0
  have hval : ∀ (j : Nat) t v, Try.f3.params[j]? = some t → args[j]? = some v → Value.okWide Try.prog W .any base t v := hval0
  have hW' := hW
  obtain ⟨p, q, hA0, hV, rfl, hfz, hnd⟩ := hW
  have hA : DataW.TrodAll enc Try.prog W 0 (fun _ => true) true Try.f3.params.toList args.toList ds p := hA0
  rw [Try.params3] at hA hval hsz
  obtain ⟨v0, vs0, d0, ds0, p0, q0, hargs, rfl, rfl, h0, r0⟩ := trodAll_cons hA
  obtain ⟨v1, vs1, d1, ds1, p1, q1, rfl, rfl, rfl, h1, r1⟩ := trodAll_cons r0
  obtain ⟨v2, vs2, d2, ds2, p2, q2, rfl, rfl, rfl, h2, r2⟩ := trodAll_cons r1
  obtain ⟨rfl, rfl, rfl⟩ := trodAll_nil r2
  obtain rfl : args = #[v0, v1, v2] := by cases args; simp_all
  obtain ⟨rfl, rfl⟩ := trodVars_none hV
  have k0 := h0
  have lt0 : ∀ x ∈ p0, x.block < W.heap.size := by obtain ⟨m, hm⟩ := k0; exact DataW.trod_lt m _ _ _ hm
  obtain ⟨cs0, rfl, hcz0, hF0⟩ := open_structv Try.underlying23 (by kernel_rfl) (by kernel_rfl) (hval 0 23 v0 rfl rfl) h0
  obtain ⟨u0x0, g0x0, y0x0, m0x0, t0x0⟩ := hF0 0 _ rfl
  obtain ⟨u0x1, g0x1, y0x1, m0x1, t0x1⟩ := hF0 1 _ rfl
  obtain ⟨u0x2, g0x2, y0x2, m0x2, t0x2⟩ := hF0 2 _ rfl
  obtain ⟨u0x3, g0x3, y0x3, m0x3, t0x3⟩ := hF0 3 _ rfl
  obtain ⟨u0x4, g0x4, y0x4, m0x4, t0x4⟩ := hF0 4 _ rfl
  have hcz0' : cs0.size = 5 := hcz0
  obtain rfl : cs0 = #[u0x0, u0x1, u0x2, u0x3, u0x4] := by
    apply Array.ext_getElem?
    intro j
    match j with
    | 0 => exact g0x0
    | 1 => exact g0x1
    | 2 => exact g0x2
    | 3 => exact g0x3
    | 4 => exact g0x4
    | j + 5 => rw [Array.getElem?_eq_none (by omega), Array.getElem?_eq_none (by simp)]
  obtain ⟨a0x0, rfl, w0x0⟩ : ∃ n, u0x0 = .int .i64 n ∧ (Lit.int .i64 n).wf = true := ⟨_, recs_int Try.underlying3 t0x0⟩
  obtain ⟨a0x1, rfl, w0x1⟩ : ∃ n, u0x1 = .int .i64 n ∧ (Lit.int .i64 n).wf = true := ⟨_, recs_int Try.underlying3 t0x1⟩
  obtain ⟨a0x2, rfl, w0x2⟩ : ∃ n, u0x2 = .int .i64 n ∧ (Lit.int .i64 n).wf = true := ⟨_, recs_int Try.underlying3 t0x2⟩
  obtain ⟨a0x3, rfl, w0x3⟩ : ∃ n, u0x3 = .int .i64 n ∧ (Lit.int .i64 n).wf = true := ⟨_, recs_int Try.underlying3 t0x3⟩
  obtain ⟨a0x4, rfl, w0x4⟩ : ∃ n, u0x4 = .int .i64 n ∧ (Lit.int .i64 n).wf = true := ⟨_, recs_int Try.underlying3 t0x4⟩
  have k1 := h1
  have lt1 : ∀ x ∈ p1, x.block < W.heap.size := by obtain ⟨m, hm⟩ := k1; exact DataW.trod_lt m _ _ _ hm
  obtain ⟨cs1, rfl, hcz1, hF1⟩ := open_arrays Try.underlying26 Try.underlying25 (by kernel_rfl) (by kernel_rfl) (by kernel_rfl) (hval 1 26 v1 rfl rfl) h1
  obtain ⟨u1x0, g1x0, y1x0, m1x0, t1x0⟩ := hF1 0 (by decide) 0 _ rfl
  obtain ⟨u1x1, g1x1, y1x1, m1x1, t1x1⟩ := hF1 0 (by decide) 1 _ rfl
  obtain ⟨u1x2, g1x2, y1x2, m1x2, t1x2⟩ := hF1 0 (by decide) 2 _ rfl
  obtain ⟨u1x3, g1x3, y1x3, m1x3, t1x3⟩ := hF1 0 (by decide) 3 _ rfl
  obtain ⟨u1x4, g1x4, y1x4, m1x4, t1x4⟩ := hF1 0 (by decide) 4 _ rfl
  obtain ⟨u1x5, g1x5, y1x5, m1x5, t1x5⟩ := hF1 0 (by decide) 5 _ rfl
  obtain ⟨u1x6, g1x6, y1x6, m1x6, t1x6⟩ := hF1 0 (by decide) 6 _ rfl
  obtain ⟨u1x7, g1x7, y1x7, m1x7, t1x7⟩ := hF1 1 (by decide) 0 _ rfl
  obtain ⟨u1x8, g1x8, y1x8, m1x8, t1x8⟩ := hF1 1 (by decide) 1 _ rfl
  obtain ⟨u1x9, g1x9, y1x9, m1x9, t1x9⟩ := hF1 1 (by decide) 2 _ rfl
  obtain ⟨u1x10, g1x10, y1x10, m1x10, t1x10⟩ := hF1 1 (by decide) 3 _ rfl
  obtain ⟨u1x11, g1x11, y1x11, m1x11, t1x11⟩ := hF1 1 (by decide) 4 _ rfl
  obtain ⟨u1x12, g1x12, y1x12, m1x12, t1x12⟩ := hF1 1 (by decide) 5 _ rfl
  obtain ⟨u1x13, g1x13, y1x13, m1x13, t1x13⟩ := hF1 1 (by decide) 6 _ rfl
  have hcz1' : cs1.size = 14 := hcz1
  obtain rfl : cs1 = #[u1x0, u1x1, u1x2, u1x3, u1x4, u1x5, u1x6, u1x7, u1x8, u1x9, u1x10, u1x11, u1x12, u1x13] := by
    apply Array.ext_getElem?
    intro j
    match j with
    | 0 => exact g1x0
    | 1 => exact g1x1
    | 2 => exact g1x2
    | 3 => exact g1x3
    | 4 => exact g1x4
    | 5 => exact g1x5
    | 6 => exact g1x6
    | 7 => exact g1x7
    | 8 => exact g1x8
    | 9 => exact g1x9
    | 10 => exact g1x10
    | 11 => exact g1x11
    | 12 => exact g1x12
    | 13 => exact g1x13
    | j + 14 => rw [Array.getElem?_eq_none (by omega), Array.getElem?_eq_none (by simp)]
  obtain ⟨a1x0, rfl, w1x0⟩ : ∃ n, u1x0 = .int .i64 n ∧ (Lit.int .i64 n).wf = true := ⟨_, recs_int Try.underlying3 t1x0⟩
  obtain ⟨a1x1, rfl, w1x1⟩ : ∃ n, u1x1 = .int .i64 n ∧ (Lit.int .i64 n).wf = true := ⟨_, recs_int Try.underlying3 t1x1⟩
  obtain ⟨a1x2, rfl, w1x2⟩ : ∃ n, u1x2 = .int .i64 n ∧ (Lit.int .i64 n).wf = true := ⟨_, recs_int Try.underlying3 t1x2⟩
  obtain ⟨a1x3, rfl, w1x3⟩ : ∃ n, u1x3 = .int .i64 n ∧ (Lit.int .i64 n).wf = true := ⟨_, recs_int Try.underlying3 t1x3⟩
  obtain ⟨a1x4, rfl, w1x4⟩ : ∃ n, u1x4 = .int .i64 n ∧ (Lit.int .i64 n).wf = true := ⟨_, recs_int Try.underlying3 t1x4⟩
  obtain ⟨a1x5, rfl, w1x5⟩ : ∃ n, u1x5 = .int .i64 n ∧ (Lit.int .i64 n).wf = true := ⟨_, recs_int Try.underlying3 t1x5⟩
  obtain ⟨a1x6, rfl, w1x6⟩ : ∃ n, u1x6 = .int .i64 n ∧ (Lit.int .i64 n).wf = true := ⟨_, recs_int Try.underlying3 t1x6⟩
  obtain ⟨a1x7, rfl, w1x7⟩ : ∃ n, u1x7 = .int .i64 n ∧ (Lit.int .i64 n).wf = true := ⟨_, recs_int Try.underlying3 t1x7⟩
  obtain ⟨a1x8, rfl, w1x8⟩ : ∃ n, u1x8 = .int .i64 n ∧ (Lit.int .i64 n).wf = true := ⟨_, recs_int Try.underlying3 t1x8⟩
  obtain ⟨a1x9, rfl, w1x9⟩ : ∃ n, u1x9 = .int .i64 n ∧ (Lit.int .i64 n).wf = true := ⟨_, recs_int Try.underlying3 t1x9⟩
  obtain ⟨a1x10, rfl, w1x10⟩ : ∃ n, u1x10 = .int .i64 n ∧ (Lit.int .i64 n).wf = true := ⟨_, recs_int Try.underlying3 t1x10⟩
  obtain ⟨a1x11, rfl, w1x11⟩ : ∃ n, u1x11 = .int .i64 n ∧ (Lit.int .i64 n).wf = true := ⟨_, recs_int Try.underlying3 t1x11⟩
  obtain ⟨a1x12, rfl, w1x12⟩ : ∃ n, u1x12 = .int .i64 n ∧ (Lit.int .i64 n).wf = true := ⟨_, recs_int Try.underlying3 t1x12⟩
  obtain ⟨a1x13, rfl, w1x13⟩ : ∃ n, u1x13 = .int .i64 n ∧ (Lit.int .i64 n).wf = true := ⟨_, recs_int Try.underlying3 t1x13⟩
  have k2 := h2
  have lt2 : ∀ x ∈ p2, x.block < W.heap.size := by obtain ⟨m, hm⟩ := k2; exact DataW.trod_lt m _ _ _ hm
  obtain ⟨cs2, rfl, hcz2, hF2⟩ := open_arrayv Try.underlying27 (by kernel_rfl) (by kernel_rfl) (hval 2 27 v2 rfl rfl) h2
  obtain ⟨u2x0, g2x0, y2x0, m2x0, t2x0⟩ := hF2 0 (by decide)
  obtain ⟨u2x1, g2x1, y2x1, m2x1, t2x1⟩ := hF2 1 (by decide)
  have hcz2' : cs2.size = 2 := hcz2
  obtain rfl : cs2 = #[u2x0, u2x1] := by
    apply Array.ext_getElem?
    intro j
    match j with
    | 0 => exact g2x0
    | 1 => exact g2x1
    | j + 2 => rw [Array.getElem?_eq_none (by omega), Array.getElem?_eq_none (by simp)]
  obtain ⟨a2x0, rfl, w2x0⟩ : ∃ n, u2x0 = .int .i64 n ∧ (Lit.int .i64 n).wf = true := ⟨_, recs_int Try.underlying3 t2x0⟩
  obtain ⟨a2x1, rfl, w2x1⟩ : ∃ n, u2x1 = .int .i64 n ∧ (Lit.int .i64 n).wf = true := ⟨_, recs_int Try.underlying3 t2x1⟩
  clear hA0 hval0 hsz0
  refine (gless_walk2 (w := W) a0x0 w0x0 a0x1 w0x1 a0x2 w0x2 a0x3 w0x3 a0x4 w0x4 a1x0 w1x0 a1x1 w1x1 a1x2 w1x2 a1x3 w1x3 a1x4 w1x4 a1x5 w1x5 a1x6 w1x6 a1x7 w1x7 a1x8 w1x8 a1x9 w1x9 a1x10 w1x10 a1x11 w1x11 a1x12 w1x12 a1x13 w1x13 a2x0 w2x0 a2x1 w2x1).mono fun e W' ⟨he, bel⟩ => ?_
  subst he
  exact ⟨_, rfl, _, _, _, [], _, [], hW', trodAll_mk1 (shut_bool Try.underlying4 _), (trodAll_cons_mk (Below.trod laidOut (by kernel_rfl) (of_decide_eq_true (by kernel_rfl)) k0 bel lt0) (trodAll_cons_mk (Below.trod laidOut (by kernel_rfl) (of_decide_eq_true (by kernel_rfl)) k1 bel lt1) (trodAll_cons_mk (Below.trod laidOut (by kernel_rfl) (of_decide_eq_true (by kernel_rfl)) k2 bel lt2) trodAll_mk0))), rfl, bel.frame _, fun h => by cases h⟩

theorem over : Rows.guardLessRow.holds Try.pinned (OpenSpec.ofChange Rows.guardLessSpec) :=
  OpenClaim.holds_of_wide 3 Try.f3 rfl rfl rfl rfl rfl rfl rfl ⟨rfl, rfl, rfl, rfl, rfl⟩ rfl rfl rfl rfl rfl (by kernel_rfl) Try.func3 (by kernel_rfl)
    (of_decide_eq_true (by kernel_rfl)) (by unfold Func.isWrapper; first | (rw [if_pos (by decide +kernel)]; kernel_rfl) | (rw [if_neg (by decide +kernel)]; exact ⟨rfl, rfl⟩))
    (fun os started H enc _ => lifted os started H enc)

/-- For every input the law returns true. -/
theorem proved : Rows.GuardLessSaid := over
#print axioms proved
end Go.Proofs.Ytnobfmlfhaaghaa.guardLess
