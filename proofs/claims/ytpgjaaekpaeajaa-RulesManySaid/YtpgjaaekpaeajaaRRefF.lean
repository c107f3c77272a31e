/- The reference's rules: what is wrong with a flow rule. -/
import Derived.Test.YtpgjaaekpaeajaaRRef
namespace Go.Proofs.Ytpgjaaekpaeajaa
open Go.RowKit
set_option linter.unusedVariables false
set_option linter.unusedSimpArgs false

def rflowF (A0 A1 A2 : Bool) (strat shape : Int) (C re thr cl W w0 Q q0 I i0 fb : Bool) : Int :=
  bif (A0 && A1) && (!((strat == 1) || (strat == 2)) || A2) then
    bif C then bif decide (strat ≤ 2) then bif decide (shape ≤ 3) then
      bif (strat != 0) || re then bif !thr || ((shape == 0) && !cl) then
        bif (bif (shape == 1) || (shape == 3) then W else w0) then bif (bif (shape == 2) || (shape == 3) then Q else q0) then
          bif !cl || ((strat == 0) && (shape == 0)) then bif (bif cl then I else i0) then bif cl || !fb then 0
          else 30 else 30 else 30 else 30 else 30 else 30 else 30 else 30 else 30 else 30 else 10
theorem cond_and30 (a b : Bool) (x y : Int) : (bif a then (bif b then x else y) else y) = bif a && b then x else y := by cases a <;> rfl
theorem onlyB_zero (a : Bool) (n lo hi : Int) : onlyB a n lo hi = bif a then inZ n lo hi else (n == 0) := onlyB_cond a n lo hi
theorem rflowF_eq (f : FlowS) : rflowF (nameB f.res) (nameB f.org) (nameB f.ref) f.strat f.shape (inZ f.cnt (leastF f) 1099511627776) (f.ref.toList == []) f.thr f.cl (inZ f.warm 1 3600) (f.warm == 0) (inZ f.queue 0 3600000000) (f.queue == 0) (inZ f.id 1 1099511627776) (f.id == 0) f.fb = flowE f := by
  have hn : namedB f.res (namesF f) = ((nameB f.res && nameB f.org) && (!((f.strat == 1) || (f.strat == 2)) || nameB f.ref)) := by
    unfold namedB namesF
    cases h : (f.strat == 1) || (f.strat == 2)
    · rw [if_neg (by simp)]; simp
    · rw [if_pos rfl]; simp [Bool.and_assoc]
  unfold rflowF flowE lookE
  rw [hn]
  unfold mustL m1 m2 m3 m4 m5 m6 m7 warmF pacedF
  rw [onlyB_zero, onlyB_zero, onlyB_zero]
  simp only [cond_and30]
  rw [show (decide (leastF f ≤ f.cnt) && decide (f.cnt ≤ 1099511627776)) = inZ f.cnt (leastF f) 1099511627776 from rfl]
  simp only [Bool.and_assoc]
  simp only [Bool.cond_eq_ite]

end Go.Proofs.Ytpgjaaekpaeajaa
