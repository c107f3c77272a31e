/- TreeNone: for every input the law returns true, and each argument reads behind the call as it read before. Conditions: none. -/
import Derived.Test.YtpbbidijnmooaaaRows
import Derived.Test.YtpbbidijnmooaaaTrT
import Derived.WalkKit
import Derived.ProofKit
import Derived.OpenShut
import Derived.ShutString
import Derived.ChangeOld
import Derived.Below
import Derived.SizedLaws
import Derived.Test.YtpbbidijnmooaaaRecs2
import Derived.Test.YtpbbidijnmooaaaRecs
namespace Go.Proofs.Ytpbbidijnmooaaa.treeNone
open Go.ChangeShapes Go.WideShapes Go.ChangeAt Go.RowKit
open Go.ChangeMaps (open_string shut_string)
set_option linter.unusedVariables false

theorem own : ownKnob Try.prog.godebug = none := by kernel_rfl
theorem laidOut : laidOutB Try.prog = true := by kernel_rfl

set_option maxHeartbeats 3200000 in
set_option maxRecDepth 100000 in
theorem lifted (os : Os) (started : os.Started) (H : Type) (enc : TypeId × Value → H) :
    ReturnsInHanded {} Try.checked os 6 .any (Rows.treeNoneSpec.pre6 enc Try.prog Try.f6 Rows.treeNoneRow.domain false) (Rows.treeNoneSpec.post enc Try.prog Try.f6 false true false false) := by
  refine returnsInHanded_of_change_sized (C := Try.checked) own started (by kernel_rfl) Try.func6
    (ChangeSpec.witness6 (enc := enc) (C := Try.checked) false ⟨#[], #[.agg #[.int .i64 0, .string ByteArray.empty, .string ByteArray.empty, .string ByteArray.empty, .bool false, .int .i64 0, .slice none 0 0], .int .i64 0], []⟩ 8 (by kernel_rfl) (by kernel_rfl) (by kernel_rfl) (by kernel_rfl)) ?_
  intro W base args ds gs before hval0 hW hcnd hsz0 _
  have hsz : (DataW.weightsEach Try.prog (Try.f6.params.toList ++ Rows.treeNoneSpec.plain.varTypes Try.prog) (ds ++ gs)).all (· ≤ reachBytes) = true := hsz0
  have hval : ∀ (j : Nat) t v, Try.f6.params[j]? = some t → args[j]? = some v → Value.okWide Try.prog W .any base t v := hval0
  have hW' := hW
  obtain ⟨p, q, hA0, hV, rfl, hfz, hnd⟩ := hW
  have hA : DataW.TrodAll enc Try.prog W 0 (fun _ => true) true Try.f6.params.toList args.toList ds p := hA0
  rw [Try.params6] at hA hval hsz
  obtain ⟨v0, vs0, d0, ds0, p0, q0, hargs, rfl, rfl, h0, r0⟩ := trodAll_cons hA
  obtain ⟨v1, vs1, d1, ds1, p1, q1, rfl, rfl, rfl, h1, r1⟩ := trodAll_cons r0
  obtain ⟨rfl, rfl, rfl⟩ := trodAll_nil r1
  obtain rfl : args = #[v0, v1] := by cases args; simp_all
  obtain ⟨rfl, rfl⟩ := trodVars_none hV
  have k0 := h0
  have lt0 : ∀ x ∈ p0, x.block < W.heap.size := by obtain ⟨m, hm⟩ := k0; exact DataW.trod_lt m _ _ _ hm
  obtain ⟨cs0, rfl, hcz0, hF0⟩ := open_structv Try.underlying40 (by kernel_rfl) (by kernel_rfl) (hval 0 40 v0 rfl rfl) h0
  obtain ⟨u0x0, g0x0, y0x0, m0x0, t0x0⟩ := hF0 0 _ rfl
  obtain ⟨u0x1, g0x1, y0x1, m0x1, t0x1⟩ := hF0 1 _ rfl
  obtain ⟨u0x2, g0x2, y0x2, m0x2, t0x2⟩ := hF0 2 _ rfl
  obtain ⟨u0x3, g0x3, y0x3, m0x3, t0x3⟩ := hF0 3 _ rfl
  obtain ⟨u0x4, g0x4, y0x4, m0x4, t0x4⟩ := hF0 4 _ rfl
  obtain ⟨u0x5, g0x5, y0x5, m0x5, t0x5⟩ := hF0 5 _ rfl
  obtain ⟨u0x6, g0x6, y0x6, m0x6, t0x6⟩ := hF0 6 _ rfl
  have hcz0' : cs0.size = 7 := hcz0
  obtain rfl : cs0 = #[u0x0, u0x1, u0x2, u0x3, u0x4, u0x5, u0x6] := by
    apply Array.ext_getElem?
    intro j
    match j with
    | 0 => exact g0x0
    | 1 => exact g0x1
    | 2 => exact g0x2
    | 3 => exact g0x3
    | 4 => exact g0x4
    | 5 => exact g0x5
    | 6 => exact g0x6
    | j + 7 => rw [Array.getElem?_eq_none (by omega), Array.getElem?_eq_none (by simp)]
  obtain ⟨a0x0, rfl, w0x0⟩ : ∃ n, u0x0 = .int .i64 n ∧ (Lit.int .i64 n).wf = true := ⟨_, recs_int Try.underlying3 t0x0⟩
  obtain ⟨a0x1, rfl⟩ := recs_string Try.underlying9 t0x1
  obtain ⟨a0x2, rfl⟩ := recs_string Try.underlying9 t0x2
  obtain ⟨a0x3, rfl⟩ := recs_string Try.underlying9 t0x3
  obtain ⟨a0x4, rfl⟩ : ∃ n, u0x4 = .bool n := ⟨_, recs_bool Try.underlying4 t0x4⟩
  obtain ⟨a0x5, rfl, w0x5⟩ : ∃ n, u0x5 = .int .i64 n ∧ (Lit.int .i64 n).wf = true := ⟨_, recs_int Try.underlying3 t0x5⟩
  obtain ⟨b0x6, l0x6, c0x6, rfl⟩ := recs_slice Try.underlying38 t0x6
  have k1 := h1
  have lt1 : ∀ x ∈ p1, x.block < W.heap.size := by obtain ⟨m, hm⟩ := k1; exact DataW.trod_lt m _ _ _ hm
  obtain ⟨a1, rfl, rfl, rfl, w1⟩ := open_int Try.underlying3 (hval 1 3 v1 rfl rfl) h1
  clear hA0 hval0 hsz0
  refine (trnone_law (w := W) a0x0 w0x0 a0x1 a0x2 a0x3 a0x4 a0x5 w0x5 b0x6 l0x6 c0x6 a1 w1).mono fun e W' ⟨he, bel⟩ => ?_
  subst he
  exact ⟨_, rfl, _, _, _, [], _, [], hW', trodAll_mk1 (shut_bool Try.underlying4 _), (trodAll_cons_mk (Below.trod laidOut (by kernel_rfl) (of_decide_eq_true (by kernel_rfl)) k0 bel lt0) (trodAll_cons_mk (Below.trod laidOut (by kernel_rfl) (of_decide_eq_true (by kernel_rfl)) k1 bel lt1) trodAll_mk0)), rfl, bel.frame _, fun h => by cases h⟩

theorem over : Rows.treeNoneRow.holds Try.pinned (OpenSpec.ofChange Rows.treeNoneSpec) :=
  OpenClaim.holds_of_wide 6 Try.f6 rfl rfl rfl rfl rfl rfl rfl ⟨rfl, rfl, rfl, rfl, rfl⟩ rfl rfl rfl rfl rfl (by kernel_rfl) Try.func6 (by kernel_rfl)
    (of_decide_eq_true (by kernel_rfl)) (by unfold Func.isWrapper; first | (rw [if_pos (by decide +kernel)]; kernel_rfl) | (rw [if_neg (by decide +kernel)]; exact ⟨rfl, rfl⟩))
    (fun os started H enc _ => lifted os started H enc)

/-- For every input the law returns true. -/
theorem proved : Rows.TreeNoneSaid := over
#print axioms proved
end Go.Proofs.Ytpbbidijnmooaaa.treeNone
