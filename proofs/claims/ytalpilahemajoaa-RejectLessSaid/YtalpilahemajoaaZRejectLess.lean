/- RejectLess: for every input the law returns true, and each argument reads behind the call as it read before. Conditions: none. -/
import Derived.Test.YtalpilahemajoaaRows
import Derived.Test.YtalpilahemajoaaLawRejC
import Derived.WalkKit
import Derived.ProofKit
import Derived.OpenShut
import Derived.ShutString
import Derived.ChangeOld
import Derived.Below
import Derived.SizedLaws
import Derived.Test.YtalpilahemajoaaRecs
namespace Go.Proofs.Ytalpilahemajoaa.rejectLess
open Go.ChangeShapes Go.WideShapes Go.ChangeAt Go.RowKit
open Go.ChangeMaps (open_string shut_string)
set_option linter.unusedVariables false

theorem own : ownKnob Try.prog.godebug = none := by kernel_rfl
theorem laidOut : laidOutB Try.prog = true := by kernel_rfl

set_option maxRecDepth 100000 in
theorem lifted (os : Os) (started : os.Started) (H : Type) (enc : TypeId × Value → H) :
    ReturnsInHanded {} Try.checked os 3 .any (Rows.rejectLessSpec.pre6 enc Try.prog Try.f3 Rows.rejectLessRow.domain false) (Rows.rejectLessSpec.post enc Try.prog Try.f3 false true false false) := by
  refine returnsInHanded_of_change_sized (C := Try.checked) own started (by kernel_rfl) Try.func3
    (ChangeSpec.witness6 (enc := enc) (C := Try.checked) false ⟨#[], #[.agg #[.string ByteArray.empty, .string ByteArray.empty, .bool false, .int .i64 0, .int .u8 0, .string ByteArray.empty, .int .u8 0, .int .i64 0, .int .i64 0, .bool false, .int .i64 0, .bool false], .agg #[.int .i64 0, .int .i64 0, .int .i64 0], .agg #[.int .i64 0, .int .i64 0, .int .i64 0]], []⟩ 8 (by kernel_rfl) (by kernel_rfl) (by kernel_rfl) (by kernel_rfl)) ?_
  intro W base args ds gs before hval0 hW hcnd hsz0 _
  have hsz : (DataW.weightsEach Try.prog (Try.f3.params.toList ++ Rows.rejectLessSpec.plain.varTypes Try.prog) (ds ++ gs)).all (· ≤ reachBytes) = true := hsz0
  have hval : ∀ (j : Nat) t v, Try.f3.params[j]? = some t → args[j]? = some v → Value.okWide Try.prog W .any base t v := hval0
  have hW' := hW
  obtain ⟨p, q, hA0, hV, rfl, hfz, hnd⟩ := hW
  have hA : DataW.TrodAll enc Try.prog W 0 (fun _ => true) true Try.f3.params.toList args.toList ds p := hA0
  rw [Try.params3] at hA hval hsz
  obtain ⟨v0, vs0, d0, ds0, p0, q0, hargs, rfl, rfl, h0, r0⟩ := trodAll_cons hA
  obtain ⟨v1, vs1, d1, ds1, p1, q1, rfl, rfl, rfl, h1, r1⟩ := trodAll_cons r0
  obtain ⟨v2, vs2, d2, ds2, p2, q2, rfl, rfl, rfl, h2, r2⟩ := trodAll_cons r1
  obtain ⟨rfl, rfl, rfl⟩ := trodAll_nil r2
  obtain rfl : args = #[v0, v1, v2] := by cases args; simp_all
  obtain ⟨rfl, rfl⟩ := trodVars_none hV
  have k0 := h0
  have lt0 : ∀ x ∈ p0, x.block < W.heap.size := by obtain ⟨m, hm⟩ := k0; exact DataW.trod_lt m _ _ _ hm
  obtain ⟨cs0, rfl, hcz0, hF0⟩ := open_structv Try.underlying25 (by kernel_rfl) (by kernel_rfl) (hval 0 25 v0 rfl rfl) h0
  obtain ⟨u0x0, g0x0, y0x0, m0x0, t0x0⟩ := hF0 0 _ rfl
  obtain ⟨u0x1, g0x1, y0x1, m0x1, t0x1⟩ := hF0 1 _ rfl
  obtain ⟨u0x2, g0x2, y0x2, m0x2, t0x2⟩ := hF0 2 _ rfl
  obtain ⟨u0x3, g0x3, y0x3, m0x3, t0x3⟩ := hF0 3 _ rfl
  obtain ⟨u0x4, g0x4, y0x4, m0x4, t0x4⟩ := hF0 4 _ rfl
  obtain ⟨u0x5, g0x5, y0x5, m0x5, t0x5⟩ := hF0 5 _ rfl
  obtain ⟨u0x6, g0x6, y0x6, m0x6, t0x6⟩ := hF0 6 _ rfl
  obtain ⟨u0x7, g0x7, y0x7, m0x7, t0x7⟩ := hF0 7 _ rfl
  obtain ⟨u0x8, g0x8, y0x8, m0x8, t0x8⟩ := hF0 8 _ rfl
  obtain ⟨u0x9, g0x9, y0x9, m0x9, t0x9⟩ := hF0 9 _ rfl
  obtain ⟨u0x10, g0x10, y0x10, m0x10, t0x10⟩ := hF0 10 _ rfl
  obtain ⟨u0x11, g0x11, y0x11, m0x11, t0x11⟩ := hF0 11 _ rfl
  have hcz0' : cs0.size = 12 := hcz0
  obtain rfl : cs0 = #[u0x0, u0x1, u0x2, u0x3, u0x4, u0x5, u0x6, u0x7, u0x8, u0x9, u0x10, u0x11] := by
    apply Array.ext_getElem?
    intro j
    match j with
    | 0 => exact g0x0
    | 1 => exact g0x1
    | 2 => exact g0x2
    | 3 => exact g0x3
    | 4 => exact g0x4
    | 5 => exact g0x5
    | 6 => exact g0x6
    | 7 => exact g0x7
    | 8 => exact g0x8
    | 9 => exact g0x9
    | 10 => exact g0x10
    | 11 => exact g0x11
    | j + 12 => rw [Array.getElem?_eq_none (by omega), Array.getElem?_eq_none (by simp)]
  obtain ⟨a0x0, rfl⟩ := recs_string Try.underlying9 t0x0
  obtain ⟨a0x1, rfl⟩ := recs_string Try.underlying9 t0x1
  obtain ⟨a0x2, rfl⟩ : ∃ n, u0x2 = .bool n := ⟨_, recs_bool Try.underlying4 t0x2⟩
  obtain ⟨a0x3, rfl, w0x3⟩ : ∃ n, u0x3 = .int .i64 n ∧ (Lit.int .i64 n).wf = true := ⟨_, recs_int Try.underlying3 t0x3⟩
  obtain ⟨a0x4, rfl, w0x4⟩ : ∃ n, u0x4 = .int .u8 n ∧ (Lit.int .u8 n).wf = true := ⟨_, recs_int Try.underlying22 t0x4⟩
  obtain ⟨a0x5, rfl⟩ := recs_string Try.underlying9 t0x5
  obtain ⟨a0x6, rfl, w0x6⟩ : ∃ n, u0x6 = .int .u8 n ∧ (Lit.int .u8 n).wf = true := ⟨_, recs_int Try.underlying23 t0x6⟩
  obtain ⟨a0x7, rfl, w0x7⟩ : ∃ n, u0x7 = .int .i64 n ∧ (Lit.int .i64 n).wf = true := ⟨_, recs_int Try.underlying3 t0x7⟩
  obtain ⟨a0x8, rfl, w0x8⟩ : ∃ n, u0x8 = .int .i64 n ∧ (Lit.int .i64 n).wf = true := ⟨_, recs_int Try.underlying3 t0x8⟩
  obtain ⟨a0x9, rfl⟩ : ∃ n, u0x9 = .bool n := ⟨_, recs_bool Try.underlying4 t0x9⟩
  obtain ⟨a0x10, rfl, w0x10⟩ : ∃ n, u0x10 = .int .i64 n ∧ (Lit.int .i64 n).wf = true := ⟨_, recs_int Try.underlying3 t0x10⟩
  obtain ⟨a0x11, rfl⟩ : ∃ n, u0x11 = .bool n := ⟨_, recs_bool Try.underlying4 t0x11⟩
  have k1 := h1
  have lt1 : ∀ x ∈ p1, x.block < W.heap.size := by obtain ⟨m, hm⟩ := k1; exact DataW.trod_lt m _ _ _ hm
  obtain ⟨cs1, rfl, hcz1, hF1⟩ := open_structv Try.underlying27 (by kernel_rfl) (by kernel_rfl) (hval 1 27 v1 rfl rfl) h1
  obtain ⟨u1x0, g1x0, y1x0, m1x0, t1x0⟩ := hF1 0 _ rfl
  obtain ⟨u1x1, g1x1, y1x1, m1x1, t1x1⟩ := hF1 1 _ rfl
  obtain ⟨u1x2, g1x2, y1x2, m1x2, t1x2⟩ := hF1 2 _ rfl
  have hcz1' : cs1.size = 3 := hcz1
  obtain rfl : cs1 = #[u1x0, u1x1, u1x2] := by
    apply Array.ext_getElem?
    intro j
    match j with
    | 0 => exact g1x0
    | 1 => exact g1x1
    | 2 => exact g1x2
    | j + 3 => rw [Array.getElem?_eq_none (by omega), Array.getElem?_eq_none (by simp)]
  obtain ⟨a1x0, rfl, w1x0⟩ : ∃ n, u1x0 = .int .i64 n ∧ (Lit.int .i64 n).wf = true := ⟨_, recs_int Try.underlying3 t1x0⟩
  obtain ⟨a1x1, rfl, w1x1⟩ : ∃ n, u1x1 = .int .i64 n ∧ (Lit.int .i64 n).wf = true := ⟨_, recs_int Try.underlying3 t1x1⟩
  obtain ⟨a1x2, rfl, w1x2⟩ : ∃ n, u1x2 = .int .i64 n ∧ (Lit.int .i64 n).wf = true := ⟨_, recs_int Try.underlying3 t1x2⟩
  have k2 := h2
  have lt2 : ∀ x ∈ p2, x.block < W.heap.size := by obtain ⟨m, hm⟩ := k2; exact DataW.trod_lt m _ _ _ hm
  obtain ⟨cs2, rfl, hcz2, hF2⟩ := open_structv Try.underlying27 (by kernel_rfl) (by kernel_rfl) (hval 2 27 v2 rfl rfl) h2
  obtain ⟨u2x0, g2x0, y2x0, m2x0, t2x0⟩ := hF2 0 _ rfl
  obtain ⟨u2x1, g2x1, y2x1, m2x1, t2x1⟩ := hF2 1 _ rfl
  obtain ⟨u2x2, g2x2, y2x2, m2x2, t2x2⟩ := hF2 2 _ rfl
  have hcz2' : cs2.size = 3 := hcz2
  obtain rfl : cs2 = #[u2x0, u2x1, u2x2] := by
    apply Array.ext_getElem?
    intro j
    match j with
    | 0 => exact g2x0
    | 1 => exact g2x1
    | 2 => exact g2x2
    | j + 3 => rw [Array.getElem?_eq_none (by omega), Array.getElem?_eq_none (by simp)]
  obtain ⟨a2x0, rfl, w2x0⟩ : ∃ n, u2x0 = .int .i64 n ∧ (Lit.int .i64 n).wf = true := ⟨_, recs_int Try.underlying3 t2x0⟩
  obtain ⟨a2x1, rfl, w2x1⟩ : ∃ n, u2x1 = .int .i64 n ∧ (Lit.int .i64 n).wf = true := ⟨_, recs_int Try.underlying3 t2x1⟩
  obtain ⟨a2x2, rfl, w2x2⟩ : ∃ n, u2x2 = .int .i64 n ∧ (Lit.int .i64 n).wf = true := ⟨_, recs_int Try.underlying3 t2x2⟩
  clear hA0 hval0 hsz0
  refine (rejless_walk (w := W) a0x0 a0x1 a0x2 a0x3 w0x3 a0x4 w0x4 a0x5 a0x6 w0x6 a0x7 w0x7 a0x8 w0x8 a0x9 a0x10 w0x10 a0x11 a1x0 w1x0 a1x1 w1x1 a1x2 w1x2 a2x0 w2x0 a2x1 w2x1 a2x2 w2x2).mono fun e W' ⟨he, bel⟩ => ?_
  subst he
  exact ⟨_, rfl, _, _, _, [], _, [], hW', trodAll_mk1 (shut_bool Try.underlying4 _), (trodAll_cons_mk (Below.trod laidOut (by kernel_rfl) (of_decide_eq_true (by kernel_rfl)) k0 bel lt0) (trodAll_cons_mk (Below.trod laidOut (by kernel_rfl) (of_decide_eq_true (by kernel_rfl)) k1 bel lt1) (trodAll_cons_mk (Below.trod laidOut (by kernel_rfl) (of_decide_eq_true (by kernel_rfl)) k2 bel lt2) trodAll_mk0))), rfl, bel.frame _, fun h => by cases h⟩

theorem over : Rows.rejectLessRow.holds Try.pinned (OpenSpec.ofChange Rows.rejectLessSpec) :=
  OpenClaim.holds_of_wide 3 Try.f3 rfl rfl rfl rfl rfl rfl rfl ⟨rfl, rfl, rfl, rfl, rfl⟩ rfl rfl rfl rfl rfl (by kernel_rfl) Try.func3 (by kernel_rfl)
    (of_decide_eq_true (by kernel_rfl)) (by unfold Func.isWrapper; first | (rw [if_pos (by decide +kernel)]; kernel_rfl) | (rw [if_neg (by decide +kernel)]; exact ⟨rfl, rfl⟩))
    (fun os started H enc _ => lifted os started H enc)

/-- For every input the law returns true. -/
theorem proved : Rows.RejectLessSaid := over
#print axioms proved
end Go.Proofs.Ytalpilahemajoaa.rejectLess
