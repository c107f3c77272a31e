/- LruPlays: for every input the law returns true, and each argument reads behind the call as it read before. Conditions: none. -/
import Derived.Test.YtidcbjgiohkidaaRows
import Derived.Test.YtidcbjgiohkidaaLruL
import Derived.WalkKit
import Derived.ProofKit
import Derived.OpenShut
import Derived.ShutString
import Derived.ChangeOld
import Derived.Below
import Derived.SizedLaws
import Derived.Test.YtidcbjgiohkidaaOpenS
import Derived.Test.YtidcbjgiohkidaaRecs
namespace Go.Proofs.Ytidcbjgiohkidaa.lruPlays
open Go.ChangeShapes Go.WideShapes Go.ChangeAt Go.RowKit
open Go.ChangeMaps (open_string shut_string)
set_option linter.unusedVariables false

theorem own : ownKnob Try.prog.godebug = none := by kernel_rfl
theorem laidOut : laidOutB Try.prog = true := by kernel_rfl

set_option maxRecDepth 100000 in
theorem lifted (os : Os) (started : os.Started) (H : Type) (enc : TypeId × Value → H) :
    ReturnsInHanded {} Try.checked os 4 .any (Rows.lruPlaysSpec.pre6 enc Try.prog Try.f4 Rows.lruPlaysRow.domain false) (Rows.lruPlaysSpec.post enc Try.prog Try.f4 false true false false) := by
  refine returnsInHanded_of_change_sized (C := Try.checked) own started (by kernel_rfl) Try.func4
    (ChangeSpec.witness6 (enc := enc) (C := Try.checked) false ⟨#[], #[.int .i64 0, .slice none 0 0], []⟩ 8 (by kernel_rfl) (by kernel_rfl) (by kernel_rfl) (by kernel_rfl)) ?_
  intro W base args ds gs before hval0 hW hcnd hsz0 _
  have hsz : (DataW.weightsEach Try.prog (Try.f4.params.toList ++ Rows.lruPlaysSpec.plain.varTypes Try.prog) (ds ++ gs)).all (· ≤ reachBytes) = true := hsz0
  have hval : ∀ (j : Nat) t v, Try.f4.params[j]? = some t → args[j]? = some v → Value.okWide Try.prog W .any base t v := hval0
  have hW' := hW
  obtain ⟨p, q, hA0, hV, rfl, hfz, hnd⟩ := hW
  have hA : DataW.TrodAll enc Try.prog W 0 (fun _ => true) true Try.f4.params.toList args.toList ds p := hA0
  rw [Try.params4] at hA hval hsz
  obtain ⟨v0, vs0, d0, ds0, p0, q0, hargs, rfl, rfl, h0, r0⟩ := trodAll_cons hA
  obtain ⟨v1, vs1, d1, ds1, p1, q1, rfl, rfl, rfl, h1, r1⟩ := trodAll_cons r0
  obtain ⟨rfl, rfl, rfl⟩ := trodAll_nil r1
  obtain rfl : args = #[v0, v1] := by cases args; simp_all
  obtain ⟨rfl, rfl⟩ := trodVars_none hV
  have k0 := h0
  have lt0 : ∀ x ∈ p0, x.block < W.heap.size := by obtain ⟨m, hm⟩ := k0; exact DataW.trod_lt m _ _ _ hm
  obtain ⟨a0, rfl, rfl, rfl, w0⟩ := open_int Try.underlying3 (hval 0 3 v0 rfl rfl) h0
  have k1 := h1
  have lt1 : ∀ x ∈ p1, x.block < W.heap.size := by obtain ⟨m, hm⟩ := k1; exact DataW.trod_lt m _ _ _ hm
  obtain ⟨a1, len1, cap1, V1, rfl, hr1, hn1, hB1, hm1, hF1⟩ := open_recs (i0 := 1) Try.underlying34 Try.underlying42 (by kernel_rfl) (by kernel_rfl) (by decide) (hval 1 34 v1 rfl rfl) h1 rfl rfl hsz (by rw [show Try.prog.bytesOf 42 = 56 from by kernel_rfl]; decide)
  have hf1x0 : ∀ j, j < len1 → V1 j 0 = .int .i64 (intOf (V1 j 0)) ∧ (Lit.int .i64 (intOf (V1 j 0))).wf = true := fun j hj => by obtain ⟨y, m, hy⟩ := hF1 j hj 0 _ rfl; exact recs_int Try.underlying3 hy
  have hf1x1 : ∀ j, j < len1 → V1 j 1 = .string (strOf (V1 j 1)) ∧ (strOf (V1 j 1)).size ≤ maxLen := fun j hj => by obtain ⟨y, m, hy⟩ := hF1 j hj 1 _ rfl; exact recs_strz Try.underlying9 hy
  have hf1x2 : ∀ j, j < len1 → V1 j 2 = .int .i64 (intOf (V1 j 2)) ∧ (Lit.int .i64 (intOf (V1 j 2))).wf = true := fun j hj => by obtain ⟨y, m, hy⟩ := hF1 j hj 2 _ rfl; exact recs_int Try.underlying3 hy
  have hf1x3 : ∀ j, j < len1 → ∃ (a : Option Addr) (l c : Nat) (ss : List ByteArray), V1 j 3 = .slice a l c ∧ ss.length = l ∧ l ≤ maxLen ∧ StrsAt W a ss ∧ (∀ s, s ∈ ss → s.size ≤ maxLen) := fun j hj => by obtain ⟨y, m, hy⟩ := hF1 j hj 3 _ rfl; obtain ⟨a, l, c, ss, e1, e2, e3, e4, e5, _⟩ := read_strs Try.underlying22 hy; exact ⟨a, l, c, ss, e1, e2, e3, e4, e5⟩
  rw [show Try.prog.bytesOf 42 = 56 from by kernel_rfl] at hB1
  clear hA0 hval0 hsz0
  refine (lplays_law (w := W) a0 w0 a1 len1 cap1 V1 hm1 hr1 hB1 hf1x0 hf1x1 hf1x2 hf1x3).mono fun e W' ⟨he, bel⟩ => ?_
  subst he
  exact ⟨_, rfl, _, _, _, [], _, [], hW', trodAll_mk1 (shut_bool Try.underlying4 _), (trodAll_cons_mk (Below.trod laidOut (by kernel_rfl) (of_decide_eq_true (by kernel_rfl)) k0 bel lt0) (trodAll_cons_mk (Below.trod laidOut (by kernel_rfl) (of_decide_eq_true (by kernel_rfl)) k1 bel lt1) trodAll_mk0)), rfl, bel.frame _, fun h => by cases h⟩

theorem over : Rows.lruPlaysRow.holds Try.pinned (OpenSpec.ofChange Rows.lruPlaysSpec) :=
  OpenClaim.holds_of_wide 4 Try.f4 rfl rfl rfl rfl rfl rfl rfl ⟨rfl, rfl, rfl, rfl, rfl⟩ rfl rfl rfl rfl rfl (by kernel_rfl) Try.func4 (by kernel_rfl)
    (of_decide_eq_true (by kernel_rfl)) (by unfold Func.isWrapper; first | (rw [if_pos (by decide +kernel)]; kernel_rfl) | (rw [if_neg (by decide +kernel)]; exact ⟨rfl, rfl⟩))
    (fun os started H enc _ => lifted os started H enc)

/-- For every input the law returns true. -/
theorem proved : Rows.LruPlaysSaid := over
#print axioms proved
end Go.Proofs.Ytidcbjgiohkidaa.lruPlays
