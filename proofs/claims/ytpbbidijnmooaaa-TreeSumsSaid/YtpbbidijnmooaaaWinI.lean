/- window: its sum and its most, by the notes. -/
import Derived.Test.YtpbbidijnmooaaaWinH
namespace Go.Proofs.Ytpbbidijnmooaaa
open Go.RowKit
set_option linter.unusedVariables false
set_option linter.unusedSimpArgs false

theorem runW_snoc (f : Int → Option CntS) : ∀ (n : Nat) (lo : Int) (s : CntS), runW f (n + 1) lo s = (match f (lo + n) with | some c => twoC (runW f n lo s) c | none => runW f n lo s)
  | 0, lo, s => by
    show runW f 0 (lo + 1) _ = _
    simp only [runW]
    have e : lo + ((0 : Nat) : Int) = lo := by omega
    rw [e]
    cases f lo <;> rfl
  | n + 1, lo, s => by
    rw [runW, runW_snoc f n (lo + 1), runW]
    have e : lo + 1 + (n : Int) = lo + ((n + 1 : Nat) : Int) := by omega
    rw [e]
theorem sumBk_run (f : Int → Option CntS) (lo : Int) : ∀ n, sumBk (bksW f lo n) = runW f n lo .zero
  | 0 => rfl
  | n + 1 => by
    rw [runW_snoc, bksW]
    cases h : f (lo + n) with
    | none => simp only [List.append_nil]; exact sumBk_run f lo n
    | some c => simp only; rw [sumBk_snoc, sumBk_run f lo n]
theorem InvW.sum2 {b B last : Int} {notes : List NoteW} {f : Int → Option CntS} (h : InvW b B last notes f) {at_ : Int} (hat : last ≤ at_) {cnt : Nat} {lo : Int} (hlo : lo = max 0 (at_ / b - B + 1)) (hcnt : (cnt : Int) = at_ / b - lo + 1) : sumBk (bksW f lo cnt) = winC b B at_ notes := by
  have hm : last / b ≤ at_ / b := Int.ediv_le_ediv h.b1 hat
  have hl : last / b - B < lo := by omega
  have e := runW_img h (n := cnt) (lo := lo) rawOk_zero hl
  rw [imgC_zero, RawC.zero_add] at e
  rw [sumBk_run, e]
  unfold winC
  congr 1
  refine sumW_congr (fun x hx => ?_)
  obtain ⟨x0, x1⟩ := h.nn x hx
  have q0 : 0 ≤ x.at_ / b := Int.ediv_nonneg x0 (by have := h.b1; omega)
  have q1 : x.at_ / b ≤ last / b := Int.ediv_le_ediv h.b1 x1
  rw [← Bool.decide_and]
  congr 1
  exact propext ⟨fun h => by omega, fun h => by omega⟩
/-- Of two buckets, the one ahead. -/
theorem InvW.past {b last : Int} {notes : List NoteW} {f : Int → Option CntS} (h : InvW b 2 last notes f) {at_ : Int} (hat : last ≤ at_) {cnt : Nat} {lo : Int} (hlo : lo = max 0 (at_ / b - 2 + 1)) (hcnt : (cnt : Int) = at_ / b - lo + 1) : mostBk (at_ / b) (bksW f lo cnt) = (imgC (sumW (fun x => decide (x.at_ / b = at_ / b - 1)) notes)).p := by
  have hm : last / b ≤ at_ / b := Int.ediv_le_ediv h.b1 hat
  have hl0 := h.l0
  have hb := h.b1
  have hk0 : 0 ≤ at_ / b := Int.ediv_nonneg (by omega) (by omega)
  generalize hK : at_ / b = K at *
  by_cases h0 : K = 0
  · have e1 : lo = 0 := by omega
    have e2 : cnt = 1 := by omega
    subst e1 e2
    have e3 : mostBk K (bksW f 0 1) = 0 := by
      show mostBk K (bksW f 0 0 ++ _) = 0
      cases hf : f (0 + ((0 : Nat) : Int)) with
      | none => simp [bksW, mostBk]
      | some c => simp [bksW, mostBk, mostF, h0]
    rw [e3, sumW_none (fun x hx => by
      obtain ⟨x0, x1⟩ := h.nn x hx
      have q0 : 0 ≤ x.at_ / b := Int.ediv_nonneg x0 (by omega)
      rw [decide_eq_false_iff_not]; omega), imgC_zero]
    rfl
  · have e1 : lo = K - 1 := by omega
    have e2 : cnt = 2 := by omega
    subst e1 e2
    have e4 : mostBk K (bksW f (K - 1) 2) = mostBk K (bksW f (K - 1) 1) := by
      have e : (K - 1) + ((1 : Nat) : Int) = K := by omega
      show mostBk K (bksW f (K - 1) 1 ++ (match f ((K - 1) + ((1 : Nat) : Int)) with | some c => [((K - 1) + ((1 : Nat) : Int), c)] | .none => [])) = _
      rw [e]
      cases f K with
      | none => simp
      | some c =>
        simp only
        rw [mostBk_snoc]
        unfold mostF
        rw [if_pos rfl]
    have e5 : mostBk K (bksW f (K - 1) 1) = max 0 ((f (K - 1)).getD .zero).p := by
      have e : (K - 1) + ((0 : Nat) : Int) = K - 1 := by omega
      show mostBk K (bksW f (K - 1) 0 ++ (match f ((K - 1) + ((0 : Nat) : Int)) with | some c => [((K - 1) + ((0 : Nat) : Int), c)] | .none => [])) = _
      rw [e]
      cases f (K - 1) with
      | none => simp [bksW, mostBk, CntS.zero]
      | some c =>
        simp [bksW, mostBk, mostF]
        intro h; omega
    rw [e4, e5, h.at (show last / b - 2 < K - 1 by omega)]
    have := (imgC_right (sumW_ok (p := fun x => decide (x.at_ / b = K - 1)) h.right)).p0
    omega
theorem lo_cnt {K B : Int} (hK : 0 ≤ K) (hB : 1 ≤ B) : ∃ (lo : Int) (cnt : Nat), lo = max 0 (K - B + 1) ∧ (cnt : Int) = K - lo + 1 := by
  obtain ⟨lo, hlo⟩ : ∃ lo, lo = max 0 (K - B + 1) := ⟨_, rfl⟩
  exact ⟨lo, (K - lo + 1).toNat, hlo, by omega⟩

/-- A window, and what was noted. -/
structure WinN (w : World) (p m : Nat) (W B last : Int) (notes : List NoteW) : Prop where
  ex : ∃ f, WinAt w p m W B last f ∧ InvW (W / B) B last notes f
theorem WinN.lt {w : World} {p m : Nat} {W B last : Int} {notes : List NoteW} (h : WinN w p m W B last notes) : p < w.heap.size ∧ m < w.heap.size := by
  obtain ⟨f, h1, _⟩ := h.ex
  exact h1.lt
theorem WinN.kept {w w' : World} {p m : Nat} {W B last : Int} {notes : List NoteW} (h : WinN w p m W B last notes) (hp : w'.heap[p]? = w.heap[p]?) (hm : w'.heap[m]? = w.heap[m]?) : WinN w' p m W B last notes := by
  obtain ⟨f, h1, h2⟩ := h.ex
  exact ⟨f, h1.kept hp hm, h2⟩
theorem WinN.below {w w' : World} {p m : Nat} {W B last : Int} {notes : List NoteW} (h : WinN w p m W B last notes) (hb : Below w.heap.size w w') : WinN w' p m W B last notes := h.kept (hb.block p h.lt.1) (hb.block m h.lt.2)
theorem WinN.cell {w : World} {p m : Nat} {W B last : Int} {notes : List NoteW} (h : WinN w p m W B last notes) : w.cell? ⟨p, 2, none⟩ = some (.int .i64 last) := by
  obtain ⟨f, h1, _⟩ := h.ex
  exact h1.cells.2.2.1
theorem WinN.last {w : World} {p m : Nat} {W B last : Int} {notes : List NoteW} (h : WinN w p m W B last notes) : 0 ≤ last ∧ last ≤ 1152921504606846976 := by
  obtain ⟨f, h1, _⟩ := h.ex
  exact ⟨h1.l0, h1.l1⟩
theorem WinN.right {w : World} {p m : Nat} {W B last : Int} {notes : List NoteW} (h : WinN w p m W B last notes) : RightL notes ∧ ∀ x, x ∈ notes → 0 ≤ x.at_ ∧ x.at_ ≤ last := by
  obtain ⟨f, _, h1⟩ := h.ex
  exact ⟨h1.right, h1.nn⟩
theorem winN_made (w : World) {W B : Int} (hS : ShapeW W B) : WinN ((w.alloc (.map #[] 0)).alloc (winObj W B w.heap.size)) (w.heap.size + 1) w.heap.size W B 0 [] :=
  ⟨_, winAt_made w hS, InvW.empty hS.slot hS.b0⟩
theorem wLastN_any {w : World} {p m : Nat} {W B last : Int} {notes : List NoteW} (h : WinN w p m W B last notes) : Calls Try.prog 47 #[.pointer (some ⟨p, 0, none⟩)] w fun e w' => e = .returned (.int .i64 last) ∧ w' = w := by
  obtain ⟨f, h1, _⟩ := h.ex
  exact wLast_any h1
theorem wAddN_any {w : World} {p m : Nat} {W B last : Int} {notes : List NoteW} (h : WinN w p m W B last notes) (at_ : Int) (hE : lookW last at_ = 0) (a : Option Addr) (len cap : Nat) (cs : List CntS) (hl : cs.length = len) (hm : len ≤ 1099511627776) (hnil : a = none → len = 0 ∧ cap = 0)
    (hc : CtsAt w a cs) (hr : ∀ c, c ∈ cs → RightC c) (hap : ∀ g off, a = some ⟨g, off, none⟩ → g ≠ p ∧ g ≠ m) :
    Calls Try.prog 48 #[.pointer (some ⟨p, 0, none⟩), .int .i64 at_, .slice a len cap] w fun e w' => e = .returned (.int .i64 0) ∧ WinN w' p m W B at_ (notes ++ newW at_ cs) ∧ Off (fun i => i = p ∨ i = m) w w' := by
  obtain ⟨f, h1, h2⟩ := h.ex
  exact (wadd_any h1 at_ hE a len cap cs hl hm hnil hc hr hap).mono fun e w' h => ⟨h.1, ⟨_, h.2.at', h2.add (lookW_ok hE).2.2 hr⟩, h.2.off⟩
theorem wSumN_any {w : World} {p m : Nat} {W B last : Int} {notes : List NoteW} (h : WinN w p m W B last notes) (at_ : Int) (hE : lookW last at_ = 0) :
    Calls Try.prog 53 #[.pointer (some ⟨p, 0, none⟩), .int .i64 at_] w fun e w' => e = .returned (.tuple #[ctV (winC (W / B) B at_ notes), .int .i64 0]) ∧ Below w.heap.size w w' := by
  obtain ⟨f, h1, h2⟩ := h.ex
  obtain ⟨lo, cnt, q1, q2⟩ := lo_cnt (K := at_ / (W / B)) (B := B) (Int.ediv_nonneg (lookW_ok hE).1 (by have := h1.shape.slot; omega)) h1.shape.b0
  have := wSum_any h1 hE _ rfl cnt lo q1 q2
  rw [h2.sum2 (lookW_ok hE).2.2 q1 q2] at this
  exact this
/-- What passed in the bucket ahead. -/
def pastC (b at_ : Int) (notes : List NoteW) : Int := (imgC (sumW (fun x => decide (x.at_ / b = at_ / b - 1)) notes)).p
theorem wwrongN_any {w : World} {p m : Nat} {W B last : Int} {notes : List NoteW} (h : WinN w p m W B last notes) (at_ : Int) : Calls Try.prog 57 #[.pointer (some ⟨p, 0, none⟩), .int .i64 at_] w fun e w' => e = .returned (.int .i64 (lookW last at_)) ∧ w' = w := wwrong_any p last at_ w h.cell
end Go.Proofs.Ytpbbidijnmooaaa
