/- The laws of the layer pacing: PacingSpaces, PacingStays. -/
import Derived.Test.YtfednlooepicaaaLawPac
import Derived.Test.YtfednlooepicaaaRecs
import Derived.Deep.RegionWith
namespace Go.Proofs.Ytfednlooepicaaa
open Go.RowKit
set_option linter.unusedVariables false
set_option linter.unusedSimpArgs false

/-- The plain law: whoever goes, goes at least its cost behind the one ahead, and waits no longer than the queue. -/
theorem spaces_law {s : PaceS} (h : PaceOk s) {time count : Int} (hb : askB s time count s.count = true) :
    askE s time count s.count = 0 ∧ costE count s.count = 0 ∧ costN count s.count = cst count s.count ∧ (gone s time count s.count).t = time + askW s time count s.count ∧ (gone s time count s.count).some = true ∧
    0 ≤ askW s time count s.count ∧ askW s time count s.count ≤ s.queue ∧ 0 ≤ time ∧ time ≤ 1152921504606846976 ∧ (s.some = true → cst count s.count ≤ time + askW s time count s.count - s.t) := by
  have hb' := hb
  simp only [askB, Bool.and_eq_true, decide_eq_true_eq] at hb'
  obtain ⟨he, hg⟩ := hb'
  have ha : asked time count s.count := by
    apply Classical.byContradiction; intro hn; simp [askE, hn] at he
  have hbd := goesAt_bd h ha
  have e3 : askW s time count s.count = goesAt s time (cst count s.count) - time := by simp [askW, hb]
  have hg' : goesAt s time (cst count s.count) - time ≤ s.queue := by simpa [goesB] using hg
  have hgo : gone s time count s.count = { s with t := goesAt s time (cst count s.count), some := true, noted := time } := by unfold gone; rw [if_pos he, if_pos hg]
  refine ⟨he, ?_, ?_, ?_, ?_, by omega, by omega, ha.1, ha.2.1, fun hs => ?_⟩
  · unfold costE; rw [if_pos ⟨ha.2.2.1, ha.2.2.2⟩]
  · unfold costN; rw [if_pos ⟨ha.2.2.1, ha.2.2.2⟩]
  · rw [hgo, e3]; show goesAt s time (cst count s.count) = _; omega
  · rw [hgo]
  · rw [e3]
    have : s.t + cst count s.count ≤ goesAt s time (cst count s.count) := by
      unfold goesAt; rw [if_pos hs]; split <;> omega
    omega
theorem stays_law (s : PaceS) (time count rate : Int) (h : askB s time count rate = false ∨ askE s time count rate ≠ 0) : (gone s time count rate).t = s.t ∧ (gone s time count rate).some = s.some := by
  unfold gone
  by_cases he : askE s time count rate = 0
  · rw [if_pos he]
    have hg : goesB s time count rate = false := by
      rcases h with h | h
      · simpa [askB, he] using h
      · exact absurd he h
    rw [hg]; exact ⟨rfl, rfl⟩
  · rw [if_neg he]; exact ⟨rfl, rfl⟩
theorem gone_same (s : PaceS) (time count rate : Int) : (gone s time count rate).count = s.count ∧ (gone s time count rate).queue = s.queue := by
  unfold gone; split
  · split <;> exact ⟨rfl, rfl⟩
  · exact ⟨rfl, rfl⟩

end Go.Proofs.Ytfednlooepicaaa
