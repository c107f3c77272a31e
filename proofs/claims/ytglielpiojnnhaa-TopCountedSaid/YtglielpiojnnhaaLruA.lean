/- lru: out and touch, as they write. -/
import Derived.Test.YtglielpiojnnhaaRing
import Derived.Test.YtglielpiojnnhaaPtrMap
import Derived.BigRegion
import Derived.Test.YtglielpiojnnhaaShelf
import Derived.WalkKit
import Derived.WalkSpells
import Derived.WalkLawsBesides
import Derived.BigQuiet
import Derived.Deep.QuietTactic
import Derived.Deep.DeepCutAuto
import Derived.Deep.CutBlock
import Derived.Lib.Hide
namespace Go.Proofs.Ytglielpiojnnhaa
open Go.RowKit
set_option linter.unusedVariables false
set_option linter.unusedSimpArgs false

set_option maxHeartbeats 3200000 in
set_option maxRecDepth 100000 in
theorem out_gen (w : World) (b pa po qa qo : Nat) (x y : Value) (h2 : w.cell? ⟨b, 2, none⟩ = some (.pointer (some ⟨pa, po, none⟩))) (h3 : w.cell? ⟨b, 3, none⟩ = some (.pointer (some ⟨qa, qo, none⟩)))
    (hp : w.cell? ⟨pa, po + 3, none⟩ = some x) (hq : w.cell? ⟨qa, qo + 2, none⟩ = some y) (fp : ∀ o, w.frozen? ⟨pa, o, none⟩ = false) (fq : ∀ o, w.frozen? ⟨qa, o, none⟩ = false) (hne : po + 3 ≠ qo + 2) :
    Calls Try.prog 14 #[.pointer (some ⟨b, 0, none⟩)] w fun e w' => e = .returned (.tuple #[]) ∧ w' = ((w.setCell ⟨pa, po + 3, none⟩ (.pointer (some ⟨qa, qo, none⟩))).setCell ⟨qa, qo + 2, none⟩ (.pointer (some ⟨pa, po, none⟩))).drew := by
  have hq' : (w.setCell ⟨pa, po + 3, none⟩ (.pointer (some ⟨qa, qo, none⟩))).cell? ⟨qa, qo + 2, none⟩ = some y := cell_far hq (fun e => by injection e with _ e2; exact hne e2)
  clear hne
  go_enter Try.func14, Try.ntmps14
  go_wp2_with (fail)
  go_region
  all_goals
    go_wp2_with (fail)
    go_end0
    exact ⟨rfl, rfl⟩

set_option maxHeartbeats 3200000 in
set_option maxRecDepth 100000 in
theorem touch_gen (w : World) (m c pa po : Nat) (x u v : Value) (h4 : w.cell? ⟨m, 4, none⟩ = some (.pointer (some ⟨pa, po, none⟩))) (hp : w.cell? ⟨pa, po + 3, none⟩ = some x)
    (h2 : w.cell? ⟨c, 2, none⟩ = some u) (h3 : w.cell? ⟨c, 3, none⟩ = some v) (fp : ∀ o, w.frozen? ⟨pa, o, none⟩ = false) (fm : ∀ o, w.frozen? ⟨m, o, none⟩ = false) (fc : ∀ o, w.frozen? ⟨c, o, none⟩ = false)
    (hpc : pa ≠ c) (hmc : m ≠ c) (hpo : po + 3 ≠ 4) :
    Calls Try.prog 15 #[.pointer (some ⟨m, 0, none⟩), .pointer (some ⟨c, 0, none⟩)] w fun e w' => e = .returned (.tuple #[]) ∧
      w' = ((((w.setCell ⟨c, 2, none⟩ (.pointer (some ⟨pa, po, none⟩))).setCell ⟨c, 3, none⟩ (.pointer (some ⟨m, 2, none⟩))).setCell ⟨pa, po + 3, none⟩ (.pointer (some ⟨c, 0, none⟩))).setCell ⟨m, 4, none⟩ (.pointer (some ⟨c, 0, none⟩))).drew := by
  have k3 : (w.setCell ⟨c, 2, none⟩ (.pointer (some ⟨pa, po, none⟩))).cell? ⟨c, 3, none⟩ = some v := cell_far h3 (fun e => by injection e with _ e2; omega)
  have k2 : ((w.setCell ⟨c, 2, none⟩ (.pointer (some ⟨pa, po, none⟩))).setCell ⟨c, 3, none⟩ (.pointer (some ⟨m, 2, none⟩))).cell? ⟨c, 2, none⟩ = some (.pointer (some ⟨pa, po, none⟩)) := cell_far (cell_same h2) (fun e => by injection e with _ e2; omega)
  have kp : ((w.setCell ⟨c, 2, none⟩ (.pointer (some ⟨pa, po, none⟩))).setCell ⟨c, 3, none⟩ (.pointer (some ⟨m, 2, none⟩))).cell? ⟨pa, po + 3, none⟩ = some x := cell_far (cell_far hp (fun e => by injection e with e1 _; exact hpc e1.symm)) (fun e => by injection e with e1 _; exact hpc e1.symm)
  have km : (((w.setCell ⟨c, 2, none⟩ (.pointer (some ⟨pa, po, none⟩))).setCell ⟨c, 3, none⟩ (.pointer (some ⟨m, 2, none⟩))).setCell ⟨pa, po + 3, none⟩ (.pointer (some ⟨c, 0, none⟩))).cell? ⟨m, 4, none⟩ = some (.pointer (some ⟨pa, po, none⟩)) :=
    cell_far (cell_far (cell_far h4 (fun e => by injection e with e1 _; exact hmc e1.symm)) (fun e => by injection e with e1 _; exact hmc e1.symm)) (fun e => by injection e with _ e2; exact hpo e2)
  clear hpc hmc hpo
  go_enter Try.func15, Try.ntmps15
  go_wp2_with (fail)
  go_region
  all_goals
    go_wp2_with (fail)
    go_end0
    exact ⟨rfl, rfl⟩
end Go.Proofs.Ytglielpiojnnhaa
