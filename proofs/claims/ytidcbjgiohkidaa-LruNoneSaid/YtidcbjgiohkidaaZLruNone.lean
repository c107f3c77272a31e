/- LruNone: for every input the law returns true, and each argument reads behind the call as it read before. Conditions: none. -/
import Derived.Test.YtidcbjgiohkidaaRows
import Derived.Test.YtidcbjgiohkidaaLruM
import Derived.WalkKit
import Derived.ProofKit
import Derived.OpenShut
import Derived.ShutString
import Derived.ChangeOld
import Derived.Below
import Derived.SizedLaws
import Derived.Test.YtidcbjgiohkidaaOpenS
import Derived.Test.YtidcbjgiohkidaaRecs
namespace Go.Proofs.Ytidcbjgiohkidaa.lruNone
open Go.ChangeShapes Go.WideShapes Go.ChangeAt Go.RowKit
open Go.ChangeMaps (open_string shut_string)
set_option linter.unusedVariables false

theorem own : ownKnob Try.prog.godebug = none := by kernel_rfl
theorem laidOut : laidOutB Try.prog = true := by kernel_rfl

set_option maxRecDepth 100000 in
theorem lifted (os : Os) (started : os.Started) (H : Type) (enc : TypeId × Value → H) :
    ReturnsInHanded {} Try.checked os 5 .any (Rows.lruNoneSpec.pre6 enc Try.prog Try.f5 Rows.lruNoneRow.domain false) (Rows.lruNoneSpec.post enc Try.prog Try.f5 false true false false) := by
  refine returnsInHanded_of_change_sized (C := Try.checked) own started (by kernel_rfl) Try.func5
    (ChangeSpec.witness6 (enc := enc) (C := Try.checked) false ⟨#[], #[.slice none 0 0], []⟩ 8 (by kernel_rfl) (by kernel_rfl) (by kernel_rfl) (by kernel_rfl)) ?_
  intro W base args ds gs before hval0 hW hcnd hsz0 _
  have hsz : (DataW.weightsEach Try.prog (Try.f5.params.toList ++ Rows.lruNoneSpec.plain.varTypes Try.prog) (ds ++ gs)).all (· ≤ reachBytes) = true := hsz0
  have hval : ∀ (j : Nat) t v, Try.f5.params[j]? = some t → args[j]? = some v → Value.okWide Try.prog W .any base t v := hval0
  have hW' := hW
  obtain ⟨p, q, hA0, hV, rfl, hfz, hnd⟩ := hW
  have hA : DataW.TrodAll enc Try.prog W 0 (fun _ => true) true Try.f5.params.toList args.toList ds p := hA0
  rw [Try.params5] at hA hval hsz
  obtain ⟨v0, vs0, d0, ds0, p0, q0, hargs, rfl, rfl, h0, r0⟩ := trodAll_cons hA
  obtain ⟨rfl, rfl, rfl⟩ := trodAll_nil r0
  obtain rfl : args = #[v0] := by cases args; simp_all
  obtain ⟨rfl, rfl⟩ := trodVars_none hV
  have k0 := h0
  have lt0 : ∀ x ∈ p0, x.block < W.heap.size := by obtain ⟨m, hm⟩ := k0; exact DataW.trod_lt m _ _ _ hm
  obtain ⟨a0, len0, cap0, V0, rfl, hr0, hn0, hB0, hm0, hF0⟩ := open_recs (i0 := 0) Try.underlying34 Try.underlying42 (by kernel_rfl) (by kernel_rfl) (by decide) (hval 0 34 v0 rfl rfl) h0 rfl rfl hsz (by rw [show Try.prog.bytesOf 42 = 56 from by kernel_rfl]; decide)
  have hf0x0 : ∀ j, j < len0 → V0 j 0 = .int .i64 (intOf (V0 j 0)) ∧ (Lit.int .i64 (intOf (V0 j 0))).wf = true := fun j hj => by obtain ⟨y, m, hy⟩ := hF0 j hj 0 _ rfl; exact recs_int Try.underlying3 hy
  have hf0x1 : ∀ j, j < len0 → V0 j 1 = .string (strOf (V0 j 1)) ∧ (strOf (V0 j 1)).size ≤ maxLen := fun j hj => by obtain ⟨y, m, hy⟩ := hF0 j hj 1 _ rfl; exact recs_strz Try.underlying9 hy
  have hf0x2 : ∀ j, j < len0 → V0 j 2 = .int .i64 (intOf (V0 j 2)) ∧ (Lit.int .i64 (intOf (V0 j 2))).wf = true := fun j hj => by obtain ⟨y, m, hy⟩ := hF0 j hj 2 _ rfl; exact recs_int Try.underlying3 hy
  have hf0x3 : ∀ j, j < len0 → ∃ (a : Option Addr) (l c : Nat) (ss : List ByteArray), V0 j 3 = .slice a l c ∧ ss.length = l ∧ l ≤ maxLen ∧ StrsAt W a ss ∧ (∀ s, s ∈ ss → s.size ≤ maxLen) := fun j hj => by obtain ⟨y, m, hy⟩ := hF0 j hj 3 _ rfl; obtain ⟨a, l, c, ss, e1, e2, e3, e4, e5, _⟩ := read_strs Try.underlying22 hy; exact ⟨a, l, c, ss, e1, e2, e3, e4, e5⟩
  rw [show Try.prog.bytesOf 42 = 56 from by kernel_rfl] at hB0
  clear hA0 hval0 hsz0
  refine (lnone_law (w := W) a0 len0 cap0 V0 hm0 hr0 hB0 hf0x0 hf0x1 hf0x2 hf0x3).mono fun e W' ⟨he, bel⟩ => ?_
  subst he
  exact ⟨_, rfl, _, _, _, [], _, [], hW', trodAll_mk1 (shut_bool Try.underlying4 _), (trodAll_cons_mk (Below.trod laidOut (by kernel_rfl) (of_decide_eq_true (by kernel_rfl)) k0 bel lt0) trodAll_mk0), rfl, bel.frame _, fun h => by cases h⟩

theorem over : Rows.lruNoneRow.holds Try.pinned (OpenSpec.ofChange Rows.lruNoneSpec) :=
  OpenClaim.holds_of_wide 5 Try.f5 rfl rfl rfl rfl rfl rfl rfl ⟨rfl, rfl, rfl, rfl, rfl⟩ rfl rfl rfl rfl rfl (by kernel_rfl) Try.func5 (by kernel_rfl)
    (of_decide_eq_true (by kernel_rfl)) (by unfold Func.isWrapper; first | (rw [if_pos (by decide +kernel)]; kernel_rfl) | (rw [if_neg (by decide +kernel)]; exact ⟨rfl, rfl⟩))
    (fun os started H enc _ => lifted os started H enc)

/-- For every input the law returns true. -/
theorem proved : Rows.LruNoneSaid := over
#print axioms proved
end Go.Proofs.Ytidcbjgiohkidaa.lruNone
