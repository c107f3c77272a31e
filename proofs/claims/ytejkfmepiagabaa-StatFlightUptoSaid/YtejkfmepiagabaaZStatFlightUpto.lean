/- StatFlight, where what comes in is of bulk at most 1048576: for every such input the law returns true, and each argument reads behind the call as it read before. Conditions: the bulk. -/
import Derived.Test.YtejkfmepiagabaaRows
import Derived.Test.YtejkfmepiagabaaStH
import Derived.WalkKit
import Derived.ProofKit
import Derived.OpenShut
import Derived.ShutString
import Derived.ChangeOld
import Derived.Below
import Derived.SizedLaws
import Derived.Test.YtejkfmepiagabaaOpenB
import Derived.JoinedCond
import Derived.Deep.CondSized
import Derived.Test.YtejkfmepiagabaaRecs
namespace Go.Proofs.Ytejkfmepiagabaa.statFlightUpto
open Go.ChangeShapes Go.WideShapes Go.ChangeAt Go.RowKit
open Go.ChangeMaps (open_string shut_string)
set_option linter.unusedVariables false

theorem own : ownKnob Try.prog.godebug = none := by kernel_rfl
theorem laidOut : laidOutB Try.prog = true := by kernel_rfl

set_option maxRecDepth 100000 in
theorem lifted (os : Os) (started : os.Started) (H : Type) (enc : TypeId × Value → H) (F : Stop.Interp) :
    ReturnsInHanded {} Try.checked os 5 .any ((Rows.OpenSpec.upto Rows.statFlightSpec).pre6 enc Try.prog Try.f5 Rows.statFlightUptoRow.domain false) (((Rows.OpenSpec.upto Rows.statFlightSpec).at F).post enc Try.prog Try.f5 false true false false) := by
  refine returnsInHanded_of_cond_sized (C := Try.checked) (s := Rows.OpenSpec.upto Rows.statFlightSpec) (k := Rows.uptoSmall) rfl own started (by kernel_rfl) Try.func5
    (OpenSpec.witness (enc := enc) (C := Try.checked) (s := Rows.OpenSpec.upto Rows.statFlightSpec) (k := Rows.uptoSmall) rfl false ⟨#[], #[.slice none 0 0], []⟩ 8 (by kernel_rfl) (by kernel_rfl) (by kernel_rfl)
      (x := ([.nil], [], [])) (by kernel_rfl) rfl (by kernel_rfl)) ?_
  intro W base args ds gs before hval0 hW hcnd hk0 hsz0 _
  have hval : ∀ (j : Nat) t v, Try.f5.params[j]? = some t → args[j]? = some v → Value.okWide Try.prog W .any base t v := hval0
  have hW' := hW
  obtain ⟨p, q, hA0, hV, rfl, hfz, hnd⟩ := hW
  have hA : DataW.TrodAll enc Try.prog W 0 (fun _ => true) true Try.f5.params.toList args.toList ds p := hA0
  rw [Try.params5] at hA hval
  obtain ⟨v0, vs0, d0, ds0, p0, q0, hargs, rfl, rfl, h0, r0⟩ := trodAll_cons hA
  obtain ⟨rfl, rfl, rfl⟩ := trodAll_nil r0
  obtain rfl : args = #[v0] := by cases args; simp_all
  obtain ⟨rfl, rfl⟩ := trodVars_none hV
  have hbk : Rows.uptoBulk d0 ≤ 1048576 := by
    have h : Rows.uptoBulkAll ([d0] ++ []) ≤ 1048576 := of_decide_eq_true hk0
    simp only [List.append_nil, Rows.uptoBulkAll] at h
    omega
  have k0 := h0
  have lt0 : ∀ x ∈ p0, x.block < W.heap.size := by obtain ⟨m, hm⟩ := k0; exact DataW.trod_lt m _ _ _ hm
  obtain ⟨a0, len0, cap0, V0, rfl, hr0, hm1, hF0⟩ := open_recsB Try.underlying39 Try.underlying43 (by kernel_rfl) (by kernel_rfl) (by decide) (hval 0 _ v0 rfl rfl) h0 hbk
  have hm0 : len0 ≤ 140737488351232 := by omega
  have hf0x0 : ∀ j, j < len0 → V0 j 0 = .int .i64 (intOf (V0 j 0)) ∧ (Lit.int .i64 (intOf (V0 j 0))).wf = true := fun j hj => by obtain ⟨y, m, hy, hyb⟩ := hF0 j hj 0 _ rfl; exact recs_int Try.underlying3 hy
  have hf0x1 : ∀ j, j < len0 → V0 j 1 = .int .i64 (intOf (V0 j 1)) ∧ (Lit.int .i64 (intOf (V0 j 1))).wf = true := fun j hj => by obtain ⟨y, m, hy, hyb⟩ := hF0 j hj 1 _ rfl; exact recs_int Try.underlying3 hy
  have hf0x2 : ∀ j, j < len0 → V0 j 2 = .int .i64 (intOf (V0 j 2)) ∧ (Lit.int .i64 (intOf (V0 j 2))).wf = true := fun j hj => by obtain ⟨y, m, hy, hyb⟩ := hF0 j hj 2 _ rfl; exact recs_int Try.underlying3 hy
  have hf0x3 : ∀ j, j < len0 → V0 j 3 = .bool (boolOf (V0 j 3)) := fun j hj => by obtain ⟨y, m, hy, hyb⟩ := hF0 j hj 3 _ rfl; exact recs_bool Try.underlying4 hy
  have hf0x4 : ∀ j, j < len0 → ∃ (a : Option Addr) (l c : Nat) (ns : List Int), V0 j 4 = .slice a l c ∧ ns.length = l ∧ l ≤ 1048576 ∧ IntsAt W a ns := fun j hj => by obtain ⟨y, m, hy, hyb⟩ := hF0 j hj 4 _ rfl; exact read_i64sB Try.underlying41 hy hyb
  clear hA0 hval0 hsz0 hk0
  refine (stfl_walk (w := W) a0 len0 cap0 V0 hm0 hr0 hf0x0 hf0x1 hf0x2 hf0x3 hf0x4).mono fun e W' ⟨he, bel⟩ => ?_
  subst he
  exact ⟨_, rfl, _, _, _, [], _, [], hW', trodAll_mk1 (shut_bool Try.underlying4 _), (trodAll_cons_mk (Below.trod laidOut (by kernel_rfl) (of_decide_eq_true (by kernel_rfl)) k0 bel lt0) trodAll_mk0), rfl, bel.frame _, fun h => by cases h⟩

/-- For every input of bulk at most 1048576 the law returns true. -/
theorem proved : Rows.StatFlightUptoSaid :=
  OpenClaim.holds_of_cond 5 Try.f5 rfl rfl rfl rfl rfl rfl rfl ⟨rfl, rfl, rfl, rfl, rfl⟩ rfl rfl rfl rfl rfl (by kernel_rfl) Try.func5 (by kernel_rfl)
    (of_decide_eq_true (by kernel_rfl)) (by unfold Func.isWrapper; first | (rw [if_pos (by decide +kernel)]; kernel_rfl) | (rw [if_neg (by decide +kernel)]; exact ⟨rfl, rfl⟩))
    (fun os started H enc _ F => lifted os started H enc F)
#print axioms proved
end Go.Proofs.Ytejkfmepiagabaa.statFlightUpto
