/- How rules are opened where the bulk of what comes in is bounded. -/
import Derived.Test.YtgkdpkpiejjfmaaRulesIn
import Derived.Test.YtgkdpkpiejjfmaaRows
namespace Go.Proofs.Ytgkdpkpiejjfmaa
open Go.ChangeShapes Go.WideShapes Go.ChangeAt Go.RowKit Go.Deep
set_option linter.unusedVariables false
set_option linter.unusedSimpArgs false

theorem bulk_one {H : Type} (d : DataW H) : 1 ≤ Rows.uptoBulk d := by
  cases d with
  | lit l => cases l <;> simp [Rows.uptoBulk]
  | _ => simp [Rows.uptoBulk]
theorem bulk_part {H : Type} {d : DataW H} : ∀ {l : List (DataW H)}, d ∈ l → Rows.uptoBulk d ≤ Rows.uptoBulkAll l
  | x :: r, h => by
    simp only [Rows.uptoBulkAll]
    rcases List.mem_cons.1 h with e | e
    · subst e; omega
    · have := bulk_part e; omega
theorem bulk_len {H : Type} : ∀ (l : List (DataW H)), l.length ≤ Rows.uptoBulkAll l
  | [] => by simp
  | x :: r => by have := bulk_one x; have := bulk_len r; simp only [Rows.uptoBulkAll, List.length_cons]; omega
theorem open_structB {H : Type} {enc : TypeId × Value → H} {W : World} {spare : Nat → Bool} {held : Bool} {base t : Nat} {fs : Array Field} {cs : Array Value} {d : DataW H} {p : List MemPlace}
    (ht : Try.prog.underlying t = some (.struct fs)) (hone : oneCellFields Try.prog fs = true) (hsz : cs.size = fs.size)
    (hd : DataW.Trod enc Try.prog W base spare held t (.agg cs) d p) :
    ∀ (k : Nat) (f : Field) (u : Value), fs[k]? = some f → cs[k]? = some u → ∃ (y : DataW H × List MemPlace) (m : Nat), DataW.trod enc Try.prog W base spare held m f.type [u] = some y ∧ Rows.uptoBulk y.1 ≤ Rows.uptoBulk d := by
  obtain ⟨fuel, hf⟩ := hd
  intro k f u hk hu
  obtain ⟨ys, n', _, hye, hlen, _, hff⟩ := DataW.trod_struct ht hf
  have hcl : (Value.cells (.agg cs)).toList = cs.toList := rfl
  obtain ⟨ho, hkk⟩ := hone_of hone k f hk
  have hkl : k < fs.size := (Array.getElem?_eq_some_iff.1 hk).1
  have hks : k < cs.size := by rw [hsz]; exact hkl
  have h1 := hff k f hk
  rw [ho, hkk, hcl] at h1
  have hone' : (cs.toList.drop k).take 1 = [cs[k]] := by
    rw [List.drop_eq_getElem_cons (by simpa using hks)]; rfl
  rw [hone'] at h1
  obtain rfl : cs[k] = u := (Array.getElem?_eq_some_iff.1 hu).2
  have hys : ∃ y, ys[k]? = some y := ⟨_, List.getElem?_eq_getElem (by omega)⟩
  obtain ⟨y, hy⟩ := hys
  refine ⟨y, _, h1.trans hy, ?_⟩
  have e1 : d = .agg (ys.map (·.1)) := (Prod.mk.inj hye).1
  have e3 : Rows.uptoBulk y.1 ≤ Rows.uptoBulkAll (ys.map (·.1)) := bulk_part (List.mem_map.2 ⟨y, List.mem_of_getElem? hy, rfl⟩)
  rw [e1]
  simp only [Rows.uptoBulk]
  omega
theorem slice_bulk {H : Type} {enc : TypeId × Value → H} {W : World} {spare : Nat → Bool} {held : Bool} {base t e m : Nat} {a : Option Addr} {len cap : Nat} {y : DataW H × List MemPlace}
    (ht : Try.prog.underlying t = some (.slice e)) (h : DataW.trod enc Try.prog W base spare held m t [.slice a len cap] = some y) : len ≤ Rows.uptoBulk y.1 := by
  rcases open_slice ht h with ⟨hcs, hx⟩ | ⟨x, l, c, m, n, D, Pl, hcs, _, hl, hm, hmm, hx, hi⟩
  · simp at hcs
    omega
  · simp at hcs
    obtain ⟨rfl, rfl, rfl⟩ := hcs
    rw [hx]
    have := bulk_len ((List.range len).map D)
    simp only [List.length_map, List.length_range] at this
    simp only [Rows.uptoBulk]
    omega
theorem open_rulesB {H : Type} {enc : TypeId × Value → H} {W : World} {spare : Nat → Bool} {held : Bool} {base b0 : Nat} {r : Reach} {v : Value} {d : DataW H} {p : List MemPlace}
    (hval : Value.okWide Try.prog W r b0 28 v) (hd : DataW.Trod enc Try.prog W base spare held 28 v d p) (hsz : Sz 28 d) (hk : Rows.uptoBulk d ≤ 1048576) :
    ∃ r : RulesS, v = r.v ∧ RulesAt W r ∧ r.n0 ≤ 1048576 ∧ r.n1 ≤ 1048576 ∧ r.n2 ≤ 1048576 ∧ r.n3 ≤ 1048576 ∧ r.n4 ≤ 1048576 := by
  obtain ⟨r, rfl, hr⟩ := open_rules hval hd hsz
  have hF := open_structB Try.underlying28 (by kernel_rfl) (by rfl) hd
  obtain ⟨y0, m0, t0, b0⟩ := hF 0 _ _ rfl rfl
  obtain ⟨y1, m1, t1, b1⟩ := hF 1 _ _ rfl rfl
  obtain ⟨y2, m2, t2, b2⟩ := hF 2 _ _ rfl rfl
  obtain ⟨y3, m3, t3, b3⟩ := hF 3 _ _ rfl rfl
  obtain ⟨y4, m4, t4, b4⟩ := hF 4 _ _ rfl rfl
  exact ⟨r, rfl, hr, Nat.le_trans (slice_bulk Try.underlying22 t0) (by omega), Nat.le_trans (slice_bulk Try.underlying23 t1) (by omega), Nat.le_trans (slice_bulk Try.underlying24 t2) (by omega), Nat.le_trans (slice_bulk Try.underlying25 t3) (by omega), Nat.le_trans (slice_bulk Try.underlying26 t4) (by omega)⟩
end Go.Proofs.Ytgkdpkpiejjfmaa
