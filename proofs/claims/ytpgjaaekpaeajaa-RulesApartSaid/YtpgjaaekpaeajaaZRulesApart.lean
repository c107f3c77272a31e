/- RulesApart: for every input the law returns true, and each argument reads behind the call as it read before. Conditions: none. -/
import Derived.Test.YtpgjaaekpaeajaaRows
import Derived.Test.YtpgjaaekpaeajaaLawRuB
import Derived.WalkKit
import Derived.ProofKit
import Derived.OpenShut
import Derived.ShutString
import Derived.ChangeOld
import Derived.Below
import Derived.SizedLaws
import Derived.Test.YtpgjaaekpaeajaaRecs2
import Derived.Test.YtpgjaaekpaeajaaRecs
namespace Go.Proofs.Ytpgjaaekpaeajaa.rulesApart
open Go.ChangeShapes Go.WideShapes Go.ChangeAt Go.RowKit
open Go.ChangeMaps (open_string shut_string)
set_option linter.unusedVariables false

theorem own : ownKnob Try.prog.godebug = none := by kernel_rfl
theorem laidOut : laidOutB Try.prog = true := by kernel_rfl

set_option maxRecDepth 100000 in
theorem lifted (os : Os) (started : os.Started) (H : Type) (enc : TypeId × Value → H) :
    ReturnsInHanded {} Try.checked os 5 .any (Rows.rulesApartSpec.pre6 enc Try.prog Try.f5 Rows.rulesApartRow.domain false) (Rows.rulesApartSpec.post enc Try.prog Try.f5 false true false false) := by
  refine returnsInHanded_of_change_sized (C := Try.checked) own started (by kernel_rfl) Try.func5
    (ChangeSpec.witness6 (enc := enc) (C := Try.checked) false ⟨#[], #[.slice none 0 0, .agg #[.string ByteArray.empty, .string ByteArray.empty, .bool false, .int .i64 0, .int .u8 0, .string ByteArray.empty, .int .u8 0, .int .i64 0, .int .i64 0, .bool false, .int .i64 0, .bool false], .string ByteArray.empty], []⟩ 8 (by kernel_rfl) (by kernel_rfl) (by kernel_rfl) (by kernel_rfl)) ?_
  intro W base args ds gs before hval0 hW hcnd hsz0 _
  have hsz : (DataW.weightsEach Try.prog (Try.f5.params.toList ++ Rows.rulesApartSpec.plain.varTypes Try.prog) (ds ++ gs)).all (· ≤ reachBytes) = true := hsz0
  have hval : ∀ (j : Nat) t v, Try.f5.params[j]? = some t → args[j]? = some v → Value.okWide Try.prog W .any base t v := hval0
  have hW' := hW
  obtain ⟨p, q, hA0, hV, rfl, hfz, hnd⟩ := hW
  have hA : DataW.TrodAll enc Try.prog W 0 (fun _ => true) true Try.f5.params.toList args.toList ds p := hA0
  rw [Try.params5] at hA hval hsz
  obtain ⟨v0, vs0, d0, ds0, p0, q0, hargs, rfl, rfl, h0, r0⟩ := trodAll_cons hA
  obtain ⟨v1, vs1, d1, ds1, p1, q1, rfl, rfl, rfl, h1, r1⟩ := trodAll_cons r0
  obtain ⟨v2, vs2, d2, ds2, p2, q2, rfl, rfl, rfl, h2, r2⟩ := trodAll_cons r1
  obtain ⟨rfl, rfl, rfl⟩ := trodAll_nil r2
  obtain rfl : args = #[v0, v1, v2] := by cases args; simp_all
  obtain ⟨rfl, rfl⟩ := trodVars_none hV
  have k0 := h0
  have lt0 : ∀ x ∈ p0, x.block < W.heap.size := by obtain ⟨m, hm⟩ := k0; exact DataW.trod_lt m _ _ _ hm
  obtain ⟨a0, len0, cap0, V0, rfl, hr0, hn0, hB0, hm0, hF0⟩ := open_recs (i0 := 0) Try.underlying22 Try.underlying41 (by kernel_rfl) (by kernel_rfl) (by decide) (hval 0 22 v0 rfl rfl) h0 rfl rfl hsz (by rw [show Try.prog.bytesOf 41 = 120 from by kernel_rfl]; decide)
  have hf0x0 : ∀ j, j < len0 → V0 j 0 = .string (strOf (V0 j 0)) := fun j hj => by obtain ⟨y, m, hy⟩ := hF0 j hj 0 _ rfl; exact recs_strv Try.underlying9 hy
  have hf0x1 : ∀ j, j < len0 → V0 j 1 = .string (strOf (V0 j 1)) := fun j hj => by obtain ⟨y, m, hy⟩ := hF0 j hj 1 _ rfl; exact recs_strv Try.underlying9 hy
  have hf0x2 : ∀ j, j < len0 → V0 j 2 = .bool (boolOf (V0 j 2)) := fun j hj => by obtain ⟨y, m, hy⟩ := hF0 j hj 2 _ rfl; exact recs_bool Try.underlying4 hy
  have hf0x3 : ∀ j, j < len0 → V0 j 3 = .int .i64 (intOf (V0 j 3)) ∧ (Lit.int .i64 (intOf (V0 j 3))).wf = true := fun j hj => by obtain ⟨y, m, hy⟩ := hF0 j hj 3 _ rfl; exact recs_int Try.underlying3 hy
  have hf0x4 : ∀ j, j < len0 → V0 j 4 = .int .u8 (intOf (V0 j 4)) ∧ (Lit.int .u8 (intOf (V0 j 4))).wf = true := fun j hj => by obtain ⟨y, m, hy⟩ := hF0 j hj 4 _ rfl; exact recs_int Try.underlying38 hy
  have hf0x5 : ∀ j, j < len0 → V0 j 5 = .string (strOf (V0 j 5)) := fun j hj => by obtain ⟨y, m, hy⟩ := hF0 j hj 5 _ rfl; exact recs_strv Try.underlying9 hy
  have hf0x6 : ∀ j, j < len0 → V0 j 6 = .int .u8 (intOf (V0 j 6)) ∧ (Lit.int .u8 (intOf (V0 j 6))).wf = true := fun j hj => by obtain ⟨y, m, hy⟩ := hF0 j hj 6 _ rfl; exact recs_int Try.underlying39 hy
  have hf0x7 : ∀ j, j < len0 → V0 j 7 = .int .i64 (intOf (V0 j 7)) ∧ (Lit.int .i64 (intOf (V0 j 7))).wf = true := fun j hj => by obtain ⟨y, m, hy⟩ := hF0 j hj 7 _ rfl; exact recs_int Try.underlying3 hy
  have hf0x8 : ∀ j, j < len0 → V0 j 8 = .int .i64 (intOf (V0 j 8)) ∧ (Lit.int .i64 (intOf (V0 j 8))).wf = true := fun j hj => by obtain ⟨y, m, hy⟩ := hF0 j hj 8 _ rfl; exact recs_int Try.underlying3 hy
  have hf0x9 : ∀ j, j < len0 → V0 j 9 = .bool (boolOf (V0 j 9)) := fun j hj => by obtain ⟨y, m, hy⟩ := hF0 j hj 9 _ rfl; exact recs_bool Try.underlying4 hy
  have hf0x10 : ∀ j, j < len0 → V0 j 10 = .int .i64 (intOf (V0 j 10)) ∧ (Lit.int .i64 (intOf (V0 j 10))).wf = true := fun j hj => by obtain ⟨y, m, hy⟩ := hF0 j hj 10 _ rfl; exact recs_int Try.underlying3 hy
  have hf0x11 : ∀ j, j < len0 → V0 j 11 = .bool (boolOf (V0 j 11)) := fun j hj => by obtain ⟨y, m, hy⟩ := hF0 j hj 11 _ rfl; exact recs_bool Try.underlying4 hy
  rw [show Try.prog.bytesOf 41 = 120 from by kernel_rfl] at hB0
  have k1 := h1
  have lt1 : ∀ x ∈ p1, x.block < W.heap.size := by obtain ⟨m, hm⟩ := k1; exact DataW.trod_lt m _ _ _ hm
  obtain ⟨cs1, rfl, hcz1, hF1⟩ := open_structv Try.underlying41 (by kernel_rfl) (by kernel_rfl) (hval 1 41 v1 rfl rfl) h1
  obtain ⟨u1x0, g1x0, y1x0, m1x0, t1x0⟩ := hF1 0 _ rfl
  obtain ⟨u1x1, g1x1, y1x1, m1x1, t1x1⟩ := hF1 1 _ rfl
  obtain ⟨u1x2, g1x2, y1x2, m1x2, t1x2⟩ := hF1 2 _ rfl
  obtain ⟨u1x3, g1x3, y1x3, m1x3, t1x3⟩ := hF1 3 _ rfl
  obtain ⟨u1x4, g1x4, y1x4, m1x4, t1x4⟩ := hF1 4 _ rfl
  obtain ⟨u1x5, g1x5, y1x5, m1x5, t1x5⟩ := hF1 5 _ rfl
  obtain ⟨u1x6, g1x6, y1x6, m1x6, t1x6⟩ := hF1 6 _ rfl
  obtain ⟨u1x7, g1x7, y1x7, m1x7, t1x7⟩ := hF1 7 _ rfl
  obtain ⟨u1x8, g1x8, y1x8, m1x8, t1x8⟩ := hF1 8 _ rfl
  obtain ⟨u1x9, g1x9, y1x9, m1x9, t1x9⟩ := hF1 9 _ rfl
  obtain ⟨u1x10, g1x10, y1x10, m1x10, t1x10⟩ := hF1 10 _ rfl
  obtain ⟨u1x11, g1x11, y1x11, m1x11, t1x11⟩ := hF1 11 _ rfl
  have hcz1' : cs1.size = 12 := hcz1
  obtain rfl : cs1 = #[u1x0, u1x1, u1x2, u1x3, u1x4, u1x5, u1x6, u1x7, u1x8, u1x9, u1x10, u1x11] := by
    apply Array.ext_getElem?
    intro j
    match j with
    | 0 => exact g1x0
    | 1 => exact g1x1
    | 2 => exact g1x2
    | 3 => exact g1x3
    | 4 => exact g1x4
    | 5 => exact g1x5
    | 6 => exact g1x6
    | 7 => exact g1x7
    | 8 => exact g1x8
    | 9 => exact g1x9
    | 10 => exact g1x10
    | 11 => exact g1x11
    | j + 12 => rw [Array.getElem?_eq_none (by omega), Array.getElem?_eq_none (by simp)]
  obtain ⟨a1x0, rfl⟩ := recs_string Try.underlying9 t1x0
  obtain ⟨a1x1, rfl⟩ := recs_string Try.underlying9 t1x1
  obtain ⟨a1x2, rfl⟩ : ∃ n, u1x2 = .bool n := ⟨_, recs_bool Try.underlying4 t1x2⟩
  obtain ⟨a1x3, rfl, w1x3⟩ : ∃ n, u1x3 = .int .i64 n ∧ (Lit.int .i64 n).wf = true := ⟨_, recs_int Try.underlying3 t1x3⟩
  obtain ⟨a1x4, rfl, w1x4⟩ : ∃ n, u1x4 = .int .u8 n ∧ (Lit.int .u8 n).wf = true := ⟨_, recs_int Try.underlying38 t1x4⟩
  obtain ⟨a1x5, rfl⟩ := recs_string Try.underlying9 t1x5
  obtain ⟨a1x6, rfl, w1x6⟩ : ∃ n, u1x6 = .int .u8 n ∧ (Lit.int .u8 n).wf = true := ⟨_, recs_int Try.underlying39 t1x6⟩
  obtain ⟨a1x7, rfl, w1x7⟩ : ∃ n, u1x7 = .int .i64 n ∧ (Lit.int .i64 n).wf = true := ⟨_, recs_int Try.underlying3 t1x7⟩
  obtain ⟨a1x8, rfl, w1x8⟩ : ∃ n, u1x8 = .int .i64 n ∧ (Lit.int .i64 n).wf = true := ⟨_, recs_int Try.underlying3 t1x8⟩
  obtain ⟨a1x9, rfl⟩ : ∃ n, u1x9 = .bool n := ⟨_, recs_bool Try.underlying4 t1x9⟩
  obtain ⟨a1x10, rfl, w1x10⟩ : ∃ n, u1x10 = .int .i64 n ∧ (Lit.int .i64 n).wf = true := ⟨_, recs_int Try.underlying3 t1x10⟩
  obtain ⟨a1x11, rfl⟩ : ∃ n, u1x11 = .bool n := ⟨_, recs_bool Try.underlying4 t1x11⟩
  have k2 := h2
  have lt2 : ∀ x ∈ p2, x.block < W.heap.size := by obtain ⟨m, hm⟩ := k2; exact DataW.trod_lt m _ _ _ hm
  obtain ⟨a2, rfl, rfl, rfl, w2⟩ := open_string Try.underlying9 (hval 2 9 v2 rfl rfl) h2
  clear hA0 hval0 hsz0
  refine (apart_walk (w := W) a0 len0 cap0 V0 hm0 hr0 hB0 hn0 hf0x0 hf0x1 hf0x2 hf0x3 hf0x4 hf0x5 hf0x6 hf0x7 hf0x8 hf0x9 hf0x10 hf0x11 a1x0 a1x1 a1x2 a1x3 w1x3 a1x4 w1x4 a1x5 a1x6 w1x6 a1x7 w1x7 a1x8 w1x8 a1x9 a1x10 w1x10 a1x11 a2 w2).mono fun e W' ⟨he, bel⟩ => ?_
  subst he
  exact ⟨_, rfl, _, _, _, [], _, [], hW', trodAll_mk1 (shut_bool Try.underlying4 _), (trodAll_cons_mk (Below.trod laidOut (by kernel_rfl) (of_decide_eq_true (by kernel_rfl)) k0 bel lt0) (trodAll_cons_mk (Below.trod laidOut (by kernel_rfl) (of_decide_eq_true (by kernel_rfl)) k1 bel lt1) (trodAll_cons_mk (Below.trod laidOut (by kernel_rfl) (of_decide_eq_true (by kernel_rfl)) k2 bel lt2) trodAll_mk0))), rfl, bel.frame _, fun h => by cases h⟩

theorem over : Rows.rulesApartRow.holds Try.pinned (OpenSpec.ofChange Rows.rulesApartSpec) :=
  OpenClaim.holds_of_wide 5 Try.f5 rfl rfl rfl rfl rfl rfl rfl ⟨rfl, rfl, rfl, rfl, rfl⟩ rfl rfl rfl rfl rfl (by kernel_rfl) Try.func5 (by kernel_rfl)
    (of_decide_eq_true (by kernel_rfl)) (by unfold Func.isWrapper; first | (rw [if_pos (by decide +kernel)]; kernel_rfl) | (rw [if_neg (by decide +kernel)]; exact ⟨rfl, rfl⟩))
    (fun os started H enc _ => lifted os started H enc)

/-- For every input the law returns true. -/
theorem proved : Rows.RulesApartSaid := over
#print axioms proved
end Go.Proofs.Ytpgjaaekpaeajaa.rulesApart
