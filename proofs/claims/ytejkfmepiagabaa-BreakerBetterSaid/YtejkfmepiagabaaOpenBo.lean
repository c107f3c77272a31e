/- How a slice of truth values that came in is opened. -/
import Derived.Test.YtejkfmepiagabaaRecs
import Derived.Test.YtejkfmepiagabaaBrJ
namespace Go.Proofs.Ytejkfmepiagabaa
open Go.ChangeShapes Go.WideShapes Go.ChangeAt Go.RowKit Go.Deep
set_option linter.unusedVariables false

set_option maxRecDepth 100000 in
theorem open_bools {H : Type} {enc : TypeId × Value → H} {W : World} {spare : Nat → Bool} {held : Bool} {base b0 t e : Nat} {r : Reach} {v : Value} {d : DataW H} {p : List MemPlace}
    (ht : Try.prog.underlying t = some (.slice e)) (he : Try.prog.underlying e = some .bool) (hC : Try.prog.cellsOf e = 1)
    (hval : Value.okWide Try.prog W r b0 t v) (hd : DataW.Trod enc Try.prog W base spare held t v d p)
    {ts : List TypeId} {ds : List (DataW H)} {i0 : Nat} (hj : ts[i0]? = some t) (hdj : ds[i0]? = some d) (hsz : (DataW.weightsEach Try.prog ts ds).all (· ≤ reachBytes) = true) (hB : 0 < Try.prog.bytesOf e) :
    ∃ (a : Option Addr) (len cap : Nat) (G : Nat → Bool), v = .slice a len cap ∧ len ≤ 140737488351232 ∧ BoolsAt W a len G := by
  obtain ⟨a, len, cap, rfl⟩ := okWide_slice ht hval
  obtain ⟨fuel, hf⟩ := hd
  rcases open_slice1 ht hC hf with ⟨hcs, hx⟩ | ⟨x, l, c, m, n, V, D, Pl, hcs, _, hl, hm, hmm, hx, hi⟩
  · simp [Value.cells] at hcs
    obtain ⟨rfl, rfl, rfl⟩ := hcs
    exact ⟨none, 0, 0, fun _ => false, rfl, by omega, Or.inl rfl⟩
  · simp [Value.cells] at hcs
    obtain ⟨rfl, rfl, rfl⟩ := hcs
    simp only [Prod.mk.injEq] at hx
    have hlm : len ≤ m := by rw [hmm]; split <;> omega
    have hs : len * Try.prog.bytesOf e ≤ 140737488351232 := by
      obtain ⟨rfl, _⟩ := hx
      have := sized_slice hsz hj hdj ht
      simp only [List.length_map, List.length_range, reachBytes] at this
      refine Nat.le_trans (Nat.mul_le_mul_right _ ?_) this
      omega
    refine ⟨some x, len, cap, fun j => boolOf (V j), rfl, Nat.le_trans (Nat.le_mul_of_pos_right _ hB) hs, ?_⟩
    by_cases h0 : len = 0
    · exact Or.inl h0
    · right
      obtain ⟨b, off, spot⟩ := x
      have hv0 := (hi 0 (by omega)).1
      have hspot : spot = none := by simpa [Addr.add] using World.cell?_spot hv0
      subst hspot
      refine ⟨b, off, rfl, ?_, fun j hj => ?_⟩
      · rw [Go.WideShapes.add_plain] at hv0
        exact World.block_lt_of_cell? W _ hv0
      · obtain ⟨h1, h2⟩ := hi j (by omega)
        rw [Go.WideShapes.add_plain] at h1
        rw [h1, recs_bool he h2]

theorem brbetter_walk (w : World) (res : ByteArray) (hz : res.size ≤ maxLen) (gr : Int) (w1 : (Lit.int .u8 gr).wf = true) (cnt : Int) (w2 : (Lit.int .i64 cnt).wf = true) (slow : Int) (w3 : (Lit.int .i64 slow).wf = true) (least : Int) (w4 : (Lit.int .i64 least).wf = true) (win : Int) (w5 : (Lit.int .i64 win).wf = true) (rec_ : Int) (w6 : (Lit.int .i64 rec_).wf = true)
    (a : Option Addr) (len cap : Nat) (V : Nat → Nat → Value) (hm : len ≤ 140737488351232) (hr : RecsAt w a 5 len V)
    (h0 : ∀ j, j < len → V j 0 = .int .i64 (intOf (V j 0)) ∧ (Lit.int .i64 (intOf (V j 0))).wf = true) (h1 : ∀ j, j < len → V j 1 = .int .i64 (intOf (V j 1)) ∧ (Lit.int .i64 (intOf (V j 1))).wf = true)
    (h2 : ∀ j, j < len → V j 2 = .int .i64 (intOf (V j 2)) ∧ (Lit.int .i64 (intOf (V j 2))).wf = true) (h3 : ∀ j, j < len → V j 3 = .bool (boolOf (V j 3))) (h4 : ∀ j, j < len → V j 4 = .bool (boolOf (V j 4)))
    (a3 : Option Addr) (len3 cap3 : Nat) (G : Nat → Bool) (hm3 : len3 ≤ 140737488351232) (hg : BoolsAt w a3 len3 G) :
    Calls Try.prog 6 #[.agg #[.string res, .int .u8 gr, .int .i64 cnt, .int .i64 slow, .int .i64 least, .int .i64 win, .int .i64 rec_], .slice a len cap, .slice a3 len3 cap3] w fun e w' => e = .returned (.bool true) ∧ Below w.heap.size w w' :=
  brbetter_run w ⟨res, gr, cnt, slow, least, win, rec_⟩ hz a len cap hm _ _ _ _ _ (deedsB hr h0 h1 h2 h3 h4) a3 len3 cap3 hm3 G hg
end Go.Proofs.Ytejkfmepiagabaa
