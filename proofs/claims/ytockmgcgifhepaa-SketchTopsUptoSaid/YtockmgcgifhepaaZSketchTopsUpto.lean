/- SketchTops, where what comes in is of bulk at most 1048576: for every such input the law returns true, and each argument reads behind the call as it read before. Conditions: the bulk. -/
import Derived.WalkKit
import Derived.ProofKit
import Derived.OpenShut
import Derived.ShutString
import Derived.ChangeOld
import Derived.Below
import Derived.SizedLaws
import Derived.JoinedCond
import Derived.Deep.CondSized
import Derived.Test.YtockmgcgifhepaaRows
import Derived.Test.YtockmgcgifhepaaGMemIn
import Derived.Test.YtockmgcgifhepaaGOpenI
import Derived.Test.YtockmgcgifhepaaGRecs
namespace Go.Proofs.Ytockmgcgifhepaa.sketchTopsUpto
open Go.ChangeShapes Go.WideShapes Go.ChangeAt Go.RowKit
open Go.ChangeMaps (open_string shut_string)
set_option linter.unusedVariables false

theorem own : ownKnob Try.prog.godebug = none := by kernel_rfl
theorem laidOut : laidOutB Try.prog = true := by kernel_rfl

set_option maxHeartbeats 3200000 in
set_option maxRecDepth 100000 in
theorem lifted (os : Os) (started : os.Started) (H : Type) (enc : TypeId × Value → H) (F : Stop.Interp) :
    ReturnsInHanded {} Try.checked os 3 .any ((Rows.OpenSpec.upto Rows.sketchTopsSpec).pre6 enc Try.prog Try.f3 Rows.sketchTopsUptoRow.domain false) (((Rows.OpenSpec.upto Rows.sketchTopsSpec).at F).post enc Try.prog Try.f3 false true false false) := by
  refine returnsInHanded_of_cond_sized (C := Try.checked) (s := Rows.OpenSpec.upto Rows.sketchTopsSpec) (k := Rows.uptoSmall) rfl own started (by kernel_rfl) Try.func3
    (OpenSpec.witness (enc := enc) (C := Try.checked) (s := Rows.OpenSpec.upto Rows.sketchTopsSpec) (k := Rows.uptoSmall) rfl false ⟨#[], #[.agg #[.int .i64 0, .int .i64 0, .int .i64 0, .int .i64 0, .int .u64 0], .slice none 0 0, .agg #[.int .i64 0, .int .i64 0, .int .i64 0, .slice none 0 0]], []⟩ 8 (by kernel_rfl) (by kernel_rfl) (by kernel_rfl)
      (x := ([.agg [.lit (.int .i64 0), .lit (.int .i64 0), .lit (.int .i64 0), .lit (.int .i64 0), .lit (.int .u64 0)], .nil, .agg [.lit (.int .i64 0), .lit (.int .i64 0), .lit (.int .i64 0), .nil]], [], [])) (by kernel_rfl) rfl (by kernel_rfl)) ?_
  intro W base args ds gs before hval0 hW hcnd hk0 hsz0 _
  have hval : ∀ (j : Nat) t v, Try.f3.params[j]? = some t → args[j]? = some v → Value.okWide Try.prog W .any base t v := hval0
  have hW' := hW
  obtain ⟨p, q, hA0, hV, rfl, hfz, hnd⟩ := hW
  have hA : DataW.TrodAll enc Try.prog W 0 (fun _ => true) true Try.f3.params.toList args.toList ds p := hA0
  rw [Try.params3] at hA hval
  obtain ⟨v0, vs0, d0, ds0, p0, q0, hargs, rfl, rfl, h0, r0⟩ := trodAll_cons hA
  obtain ⟨v1, vs1, d1, ds1, p1, q1, rfl, rfl, rfl, h1, r1⟩ := trodAll_cons r0
  obtain ⟨v2, vs2, d2, ds2, p2, q2, rfl, rfl, rfl, h2, r2⟩ := trodAll_cons r1
  obtain ⟨rfl, rfl, rfl⟩ := trodAll_nil r2
  obtain rfl : args = #[v0, v1, v2] := by cases args; simp_all
  obtain ⟨rfl, rfl⟩ := trodVars_none hV
  have hbk : Rows.uptoBulkAll ([d0, d1, d2] ++ []) ≤ 1048576 := of_decide_eq_true hk0
  simp only [List.append_nil, Rows.uptoBulkAll] at hbk
  have hbk0 : Rows.uptoBulk d0 ≤ 1048576 := by omega
  have hbk1 : Rows.uptoBulk d1 ≤ 1048576 := by omega
  have hbk2 : Rows.uptoBulk d2 ≤ 1048576 := by omega
  clear hbk
  have k0 := h0
  have lt0 : ∀ x ∈ p0, x.block < W.heap.size := by obtain ⟨m, hm⟩ := k0; exact DataW.trod_lt m _ _ _ hm
  obtain ⟨cs0, rfl, hcz0, hF0⟩ := open_structv Try.underlying24 (by kernel_rfl) (by kernel_rfl) (hval 0 24 v0 rfl rfl) h0
  obtain ⟨u0x0, g0x0, y0x0, m0x0, t0x0⟩ := hF0 0 _ rfl
  obtain ⟨u0x1, g0x1, y0x1, m0x1, t0x1⟩ := hF0 1 _ rfl
  obtain ⟨u0x2, g0x2, y0x2, m0x2, t0x2⟩ := hF0 2 _ rfl
  obtain ⟨u0x3, g0x3, y0x3, m0x3, t0x3⟩ := hF0 3 _ rfl
  obtain ⟨u0x4, g0x4, y0x4, m0x4, t0x4⟩ := hF0 4 _ rfl
  have hcz0' : cs0.size = 5 := hcz0
  obtain rfl : cs0 = #[u0x0, u0x1, u0x2, u0x3, u0x4] := by
    apply Array.ext_getElem?
    intro j
    match j with
    | 0 => exact g0x0
    | 1 => exact g0x1
    | 2 => exact g0x2
    | 3 => exact g0x3
    | 4 => exact g0x4
    | j + 5 => rw [Array.getElem?_eq_none (by omega), Array.getElem?_eq_none (by simp)]
  obtain ⟨a0x0, rfl, w0x0⟩ : ∃ n, u0x0 = .int .i64 n ∧ (Lit.int .i64 n).wf = true := ⟨_, recs_int Try.underlying3 t0x0⟩
  obtain ⟨a0x1, rfl, w0x1⟩ : ∃ n, u0x1 = .int .i64 n ∧ (Lit.int .i64 n).wf = true := ⟨_, recs_int Try.underlying3 t0x1⟩
  obtain ⟨a0x2, rfl, w0x2⟩ : ∃ n, u0x2 = .int .i64 n ∧ (Lit.int .i64 n).wf = true := ⟨_, recs_int Try.underlying3 t0x2⟩
  obtain ⟨a0x3, rfl, w0x3⟩ : ∃ n, u0x3 = .int .i64 n ∧ (Lit.int .i64 n).wf = true := ⟨_, recs_int Try.underlying3 t0x3⟩
  obtain ⟨a0x4, rfl, w0x4⟩ : ∃ n, u0x4 = .int .u64 n ∧ (Lit.int .u64 n).wf = true := ⟨_, recs_int Try.underlying22 t0x4⟩
  have k1 := h1
  have lt1 : ∀ x ∈ p1, x.block < W.heap.size := by obtain ⟨m, hm⟩ := k1; exact DataW.trod_lt m _ _ _ hm
  obtain ⟨a1, len1, cap1, V1, rfl, hr1, hm1, hF1⟩ := open_recsB Try.underlying25 Try.underlying39 (by kernel_rfl) (by kernel_rfl) (by decide) (hval 1 _ v1 rfl rfl) h1 hbk1
  have hf1x0 : ∀ j, j < len1 → V1 j 0 = .int .i64 (intOf (V1 j 0)) ∧ (Lit.int .i64 (intOf (V1 j 0))).wf = true := fun j hj => by obtain ⟨y, m, hy, hyb⟩ := hF1 j hj 0 _ rfl; exact recs_int Try.underlying3 hy
  have hf1x1 : ∀ j, j < len1 → V1 j 1 = .int .i64 (intOf (V1 j 1)) ∧ (Lit.int .i64 (intOf (V1 j 1))).wf = true := fun j hj => by obtain ⟨y, m, hy, hyb⟩ := hF1 j hj 1 _ rfl; exact recs_int Try.underlying3 hy
  have hf1x2 : ∀ j, j < len1 → V1 j 2 = .string (strOf (V1 j 2)) ∧ (strOf (V1 j 2)).size ≤ maxLen := fun j hj => by obtain ⟨y, m, hy, hyb⟩ := hF1 j hj 2 _ rfl; exact recs_strz Try.underlying9 hy
  have hf1x3 : ∀ j, j < len1 → ∃ (a : Option Addr) (l c : Nat) (ns : List Int), V1 j 3 = .slice a l c ∧ ns.length = l ∧ l ≤ 1048576 ∧ IntsAt W a ns := fun j hj => by obtain ⟨y, m, hy, hyb⟩ := hF1 j hj 3 _ rfl; exact read_i64sB Try.underlying37 hy hyb
  have k2 := h2
  have lt2 : ∀ x ∈ p2, x.block < W.heap.size := by obtain ⟨m, hm⟩ := k2; exact DataW.trod_lt m _ _ _ hm
  obtain ⟨cs2, rfl, hcz2, hF2⟩ := open_structv Try.underlying28 (by kernel_rfl) (by kernel_rfl) (hval 2 28 v2 rfl rfl) h2
  have hG2 := open_structB Try.underlying28 (by kernel_rfl) hcz2 h2
  obtain ⟨u2x0, g2x0, y2x0, m2x0, t2x0⟩ := hF2 0 _ rfl
  obtain ⟨u2x1, g2x1, y2x1, m2x1, t2x1⟩ := hF2 1 _ rfl
  obtain ⟨u2x2, g2x2, y2x2, m2x2, t2x2⟩ := hF2 2 _ rfl
  obtain ⟨u2x3, g2x3, y2x3, m2x3, t2x3⟩ := hF2 3 _ rfl
  have hcz2' : cs2.size = 4 := hcz2
  obtain rfl : cs2 = #[u2x0, u2x1, u2x2, u2x3] := by
    apply Array.ext_getElem?
    intro j
    match j with
    | 0 => exact g2x0
    | 1 => exact g2x1
    | 2 => exact g2x2
    | 3 => exact g2x3
    | j + 4 => rw [Array.getElem?_eq_none (by omega), Array.getElem?_eq_none (by simp)]
  obtain ⟨a2x0, rfl, w2x0⟩ : ∃ n, u2x0 = .int .i64 n ∧ (Lit.int .i64 n).wf = true := ⟨_, recs_int Try.underlying3 t2x0⟩
  obtain ⟨a2x1, rfl, w2x1⟩ : ∃ n, u2x1 = .int .i64 n ∧ (Lit.int .i64 n).wf = true := ⟨_, recs_int Try.underlying3 t2x1⟩
  obtain ⟨a2x2, rfl, w2x2⟩ : ∃ n, u2x2 = .int .i64 n ∧ (Lit.int .i64 n).wf = true := ⟨_, recs_int Try.underlying3 t2x2⟩
  obtain ⟨yb2x3, mb2x3, tb2x3, qb2x3⟩ := hG2 3 _ _ rfl rfl
  obtain ⟨b2x3, l2x3, c2x3, s2x3, rfl, e2x31, e2x32, e2x33, e2x34⟩ := read_textsB Try.underlying26 tb2x3 (Nat.le_trans qb2x3 hbk2)
  clear hA0 hval0 hsz0 hk0
  refine (tops_open (w := W) a0x0 w0x0 a0x1 w0x1 a0x2 w0x2 a0x3 w0x3 a0x4 w0x4 a1 len1 cap1 V1 hm1 hr1 hf1x0 hf1x1 hf1x2 hf1x3 a2x0 w2x0 a2x1 w2x1 a2x2 w2x2 b2x3 l2x3 c2x3 s2x3 e2x31 e2x32 e2x33 e2x34).mono fun e W' ⟨he, bel⟩ => ?_
  subst he
  exact ⟨_, rfl, _, _, _, [], _, [], hW', trodAll_mk1 (shut_bool Try.underlying4 _), (trodAll_cons_mk (Below.trod laidOut (by kernel_rfl) (of_decide_eq_true (by kernel_rfl)) k0 bel lt0) (trodAll_cons_mk (Below.trod laidOut (by kernel_rfl) (of_decide_eq_true (by kernel_rfl)) k1 bel lt1) (trodAll_cons_mk (Below.trod laidOut (by kernel_rfl) (of_decide_eq_true (by kernel_rfl)) k2 bel lt2) trodAll_mk0))), rfl, bel.frame _, fun h => by cases h⟩

/-- For every input of bulk at most 1048576 the law returns true. -/
theorem proved : Rows.SketchTopsUptoSaid :=
  OpenClaim.holds_of_cond 3 Try.f3 rfl rfl rfl rfl rfl rfl rfl ⟨rfl, rfl, rfl, rfl, rfl⟩ rfl rfl rfl rfl rfl (by kernel_rfl) Try.func3 (by kernel_rfl)
    (of_decide_eq_true (by kernel_rfl)) (by unfold Func.isWrapper; first | (rw [if_pos (by decide +kernel)]; kernel_rfl) | (rw [if_neg (by decide +kernel)]; exact ⟨rfl, rfl⟩))
    (fun os started H enc _ F => lifted os started H enc F)
#print axioms proved
end Go.Proofs.Ytockmgcgifhepaa.sketchTopsUpto
