/- breaker: what is wrong with a rule. -/
import Derived.Test.YtgkdpkpiejjfmaaRuC
import Derived.Laws.EntriesVeiled
namespace Go.Proofs.Ytgkdpkpiejjfmaa
open Go.RowKit
set_option linter.unusedVariables false
set_option linter.unusedSimpArgs false

structure BreakS where
  res : ByteArray
  gr : Int
  cnt : Int
  slow : Int
  least : Int
  win : Int
  rec_ : Int
def BreakS.cells (r : BreakS) : Array Value := #[.string r.res, .int .u8 r.gr, .int .i64 r.cnt, .int .i64 r.slow, .int .i64 r.least, .int .i64 r.win, .int .i64 r.rec_]
def BreakS.v (r : BreakS) : Value := .agg r.cells
structure BreakBox (w : World) (b : Nat) (r : BreakS) : Prop where
  c0 : w.cell? ⟨b, 0, none⟩ = some (.string r.res)
  c1 : w.cell? ⟨b, 1, none⟩ = some (.int .u8 r.gr)
  c2 : w.cell? ⟨b, 2, none⟩ = some (.int .i64 r.cnt)
  c3 : w.cell? ⟨b, 3, none⟩ = some (.int .i64 r.slow)
  c4 : w.cell? ⟨b, 4, none⟩ = some (.int .i64 r.least)
  c5 : w.cell? ⟨b, 5, none⟩ = some (.int .i64 r.win)
  c6 : w.cell? ⟨b, 6, none⟩ = some (.int .i64 r.rec_)
theorem BreakBox.below {w w' : World} {b : Nat} {r : BreakS} (h : BreakBox w b r) (hb : Below w.heap.size w w') : BreakBox w' b r := by
  have hl := World.block_lt_of_cell? w _ h.c0
  have g : ∀ o v, w.cell? ⟨b, o, none⟩ = some v → w'.cell? ⟨b, o, none⟩ = some v := fun o v e => (hb.cell (p := ⟨b, o, none⟩) hl).trans e
  exact ⟨g _ _ h.c0, g _ _ h.c1, g _ _ h.c2, g _ _ h.c3, g _ _ h.c4, g _ _ h.c5, g _ _ h.c6⟩
def br1 (r : BreakS) (most : Int) : Bool := decide (r.gr ≤ 2) && (decide (0 ≤ r.cnt) && decide (r.cnt ≤ most))
def br2 (r : BreakS) : Bool := onlyB (r.gr == 0) r.slow 1 3600000000
def br3 (r : BreakS) : Bool := (decide (1 ≤ r.least) && decide (r.least ≤ 1099511627776)) && (decide (1000000 ≤ r.win) && decide (r.win ≤ 120000000))
def br4 (r : BreakS) : Bool := decide (1000000 ≤ r.rec_) && decide (r.rec_ ≤ 3600000000)
def mostR (r : BreakS) : Int := if r.gr = 2 then 1099511627776 else 1000
def breakE (r : BreakS) : Int := lookE (namedB r.res []) (br1 r (mostR r) && (br2 r && (br3 r && br4 r))) 31

set_option maxHeartbeats 800000 in
theorem break1 (r : BreakS) (most : Int) (b l : Nat) (w : World) (h : BreakBox w b r) (hl : w.cell? ⟨l, 0, none⟩ = some (.int .i64 most)) : Calls Try.prog 56 #[.pointer (some ⟨b, 0, none⟩), .pointer (some ⟨l, 0, none⟩)] w fun e w' => e = .returned (.bool (br1 r most)) ∧ w' = w := by
  obtain ⟨c0, c1, c2, c3, c4, c5, c6⟩ := h
  have HW := Lib.hid (within_any r.cnt 0 most w)
  unfold br1
  generalize (decide (0 ≤ r.cnt) && decide (r.cnt ≤ most)) = B at HW ⊢
  by_cases h1 : r.gr ≤ 2
  · rw [decide_eq_true h1, Bool.true_and]
    go_enter Try.func56, Try.ntmps56
    go_wp2_with (fail)
    refine HW.out.mono ?_
    rintro e wq ⟨rfl, hq⟩
    subst hq
    go_wp2_with (fail)
    go_ret
    exact ⟨rfl, rfl⟩
  · rw [decide_eq_false h1, Bool.false_and]
    go_enter Try.func56, Try.ntmps56
    go_wp2_with (fail)
    go_ret
    exact ⟨rfl, rfl⟩
set_option maxHeartbeats 800000 in
theorem break2 (r : BreakS) (b : Nat) (w : World) (h : BreakBox w b r) : Calls Try.prog 57 #[.pointer (some ⟨b, 0, none⟩)] w fun e w' => e = .returned (.bool (br2 r)) ∧ w' = w := by
  obtain ⟨c0, c1, c2, c3, c4, c5, c6⟩ := h
  have HW := Lib.hid (only_any (r.gr == 0) r.slow 1 3600000000 w)
  unfold br2
  generalize onlyB (r.gr == 0) r.slow 1 3600000000 = B at HW ⊢
  go_enter Try.func57, Try.ntmps57
  go_wp2_with (fail)
  refine HW.out.mono ?_
  rintro e wq ⟨rfl, hq⟩
  subst hq
  go_wp2_with (fail)
  go_ret
  exact ⟨rfl, rfl⟩
set_option maxHeartbeats 800000 in
theorem break3 (r : BreakS) (b : Nat) (w : World) (h : BreakBox w b r) : Calls Try.prog 58 #[.pointer (some ⟨b, 0, none⟩)] w fun e w' => e = .returned (.bool (br3 r)) ∧ w' = w := by
  obtain ⟨c0, c1, c2, c3, c4, c5, c6⟩ := h
  have HW := Lib.hid (within_any r.least 1 1099511627776 w)
  have HV := Lib.hid (within_any r.win 1000000 120000000 w)
  unfold br3
  generalize (decide (1 ≤ r.least) && decide (r.least ≤ 1099511627776)) = B at HW ⊢
  generalize (decide (1000000 ≤ r.win) && decide (r.win ≤ 120000000)) = C at HV ⊢
  cases B
  · rw [Bool.false_and]
    go_enter Try.func58, Try.ntmps58
    go_wp2_with (fail)
    refine HW.out.mono ?_
    rintro e wq ⟨rfl, hq⟩
    subst hq
    go_wp2_with (fail)
    go_ret
    exact ⟨rfl, rfl⟩
  · rw [Bool.true_and]
    go_enter Try.func58, Try.ntmps58
    go_wp2_with (fail)
    refine HW.out.mono ?_
    rintro e wq ⟨rfl, hq⟩
    subst hq
    go_wp2_with (fail)
    refine HV.out.mono ?_
    rintro e wq2 ⟨rfl, hq⟩
    subst hq
    go_wp2_with (fail)
    go_ret
    exact ⟨rfl, rfl⟩
set_option maxHeartbeats 800000 in
theorem break4 (r : BreakS) (b : Nat) (w : World) (h : BreakBox w b r) : Calls Try.prog 59 #[.pointer (some ⟨b, 0, none⟩)] w fun e w' => e = .returned (.bool (br4 r)) ∧ w' = w := by
  obtain ⟨c0, c1, c2, c3, c4, c5, c6⟩ := h
  have HW := Lib.hid (within_any r.rec_ 1000000 3600000000 w)
  unfold br4
  generalize (decide (1000000 ≤ r.rec_) && decide (r.rec_ ≤ 3600000000)) = B at HW ⊢
  go_enter Try.func59, Try.ntmps59
  go_wp2_with (fail)
  refine HW.out.mono ?_
  rintro e wq ⟨rfl, hq⟩
  subst hq
  go_wp2_with (fail)
  go_ret
  exact ⟨rfl, rfl⟩

def fnB (id : FuncId) (caps : Array Value) : Value := .func (.func id) #[] caps
theorem entB1 (b l : Nat) (wx : World) : (callFunc 56 #[.pointer (some ⟨b, 0, none⟩), .pointer (some ⟨l, 0, none⟩)]).run Try.prog wx = .ok (.enter 56 #[.pointer (some ⟨b, 0, none⟩), .pointer (some ⟨l, 0, none⟩)]) wx := by kernel_rfl
theorem entB2 (b : Nat) (wx : World) : (callFunc 57 #[.pointer (some ⟨b, 0, none⟩)]).run Try.prog wx = .ok (.enter 57 #[.pointer (some ⟨b, 0, none⟩)]) wx := by kernel_rfl
theorem entB3 (b : Nat) (wx : World) : (callFunc 58 #[.pointer (some ⟨b, 0, none⟩)]).run Try.prog wx = .ok (.enter 58 #[.pointer (some ⟨b, 0, none⟩)]) wx := by kernel_rfl
theorem entB4 (b : Nat) (wx : World) : (callFunc 59 #[.pointer (some ⟨b, 0, none⟩)]).run Try.prog wx = .ok (.enter 59 #[.pointer (some ⟨b, 0, none⟩)]) wx := by kernel_rfl
set_option maxRecDepth 100000 in
theorem break_look {W : World} (r : BreakS) (hz0 : r.res.size ≤ maxLen) (b l g : Nat) (most : Int) (hb : BreakBox W b r) (hle : W.cell? ⟨l, 0, none⟩ = some (.int .i64 most))
    (g0 : W.cell? ⟨g, 0, none⟩ = some (fnB 56 #[.pointer (some ⟨b, 0, none⟩), .pointer (some ⟨l, 0, none⟩)])) (g1 : W.cell? ⟨g, 1, none⟩ = some (fnB 57 #[.pointer (some ⟨b, 0, none⟩)])) (g2 : W.cell? ⟨g, 2, none⟩ = some (fnB 58 #[.pointer (some ⟨b, 0, none⟩)])) (g3 : W.cell? ⟨g, 3, none⟩ = some (fnB 59 #[.pointer (some ⟨b, 0, none⟩)])) :
    Calls Try.prog 33 #[.agg #[.string r.res, .slice none 0 0, .int .i64 31], .slice (some ⟨g, 0, none⟩) 4 4] W fun e w' => e = .returned (.int .i64 (lookE (namedB r.res []) (br1 r most && (br2 r && (br3 r && br4 r))) 31)) ∧ Below W.heap.size W w' := by
  have hll := World.block_lt_of_cell? W _ hle
  have ho := lookof_any (w := W) r.res hz0 none 0 0 [] rfl (by omega) (Or.inl rfl) (by simp) 31 g 4 4
    [⟨56, #[.pointer (some ⟨b, 0, none⟩), .pointer (some ⟨l, 0, none⟩)], br1 r most⟩, ⟨57, #[.pointer (some ⟨b, 0, none⟩)], br2 r⟩, ⟨58, #[.pointer (some ⟨b, 0, none⟩)], br3 r⟩, ⟨59, #[.pointer (some ⟨b, 0, none⟩)], br4 r⟩]
    rfl (by omega) (World.block_lt_of_cell? W _ g0)
    (fun j hj => by
      match j, hj with
      | 0, _ => exact g0
      | 1, _ => exact g1
      | 2, _ => exact g2
      | 3, _ => exact g3)
    (fun j hj wx => by
      match j, hj with
      | 0, _ => exact entB1 b l wx
      | 1, _ => exact entB2 b wx
      | 2, _ => exact entB3 b wx
      | 3, _ => exact entB4 b wx)
    (fun j hj wx hx => by
      have fin : ∀ {id : FuncId} {caps : Array Value} {v : Bool}, Calls Try.prog id caps wx (fun e w' => e = .returned (.bool v) ∧ w' = wx) → Calls Try.prog id caps wx (fun e w' => e = .returned (.bool v) ∧ Below wx.heap.size wx w') := fun h => h.mono (fun e w' hh => ⟨hh.1, hh.2 ▸ Below.refl _ _⟩)
      match j, hj with
      | 0, _ => exact fin (break1 r most b l wx (hb.below hx) ((hx.cell (p := ⟨l, 0, none⟩) hll).trans hle))
      | 1, _ => exact fin (break2 r b wx (hb.below hx))
      | 2, _ => exact fin (break3 r b wx (hb.below hx))
      | 3, _ => exact fin (break4 r b wx (hb.below hx)))
  simp only [List.all_cons, List.all_nil, Bool.and_true] at ho
  exact ho
theorem get_allocB (w : World) (o : Obj) (i : Nat) : (w.alloc o).heap[i]? = if i = w.heap.size then some o else w.heap[i]? := by
  show (Array.push w.heap o)[i]? = _
  rw [Array.getElem?_push]
def brkO (r : BreakS) : Obj := .cells r.cells 51
def brkG (b l : Nat) : Obj := .cells #[fnB 56 #[.pointer (some ⟨b, 0, none⟩), .pointer (some ⟨l, 0, none⟩)], fnB 57 #[.pointer (some ⟨b, 0, none⟩)], fnB 58 #[.pointer (some ⟨b, 0, none⟩)], fnB 59 #[.pointer (some ⟨b, 0, none⟩)]] 31
theorem brk_box {w : World} {g : Nat} {r : BreakS} {fr : Nat × Nat} (h : w.heap[g]? = some (.cells r.cells 51 fr)) : BreakBox w g r := by
  constructor <;> simp [World.cell?, h, BreakS.cells]
theorem break_tail {w : World} (r : BreakS) (hz : r.res.size ≤ maxLen) (most : Int) :
    Calls Try.prog 33 #[.agg #[.string r.res, .slice none 0 0, .int .i64 31], .slice (some ⟨w.heap.size + 1 + 1, 0, none⟩) 4 4] (((w.alloc (brkO r)).alloc (.cells #[.int .i64 most] 3)).alloc (brkG w.heap.size (w.heap.size + 1))) fun e w' => e = .returned (.int .i64 (lookE (namedB r.res []) (br1 r most && (br2 r && (br3 r && br4 r))) 31)) ∧ Below w.heap.size w w' := by
  have hB : Below w.heap.size w (((w.alloc (brkO r)).alloc (.cells #[.int .i64 most] 3)).alloc (brkG w.heap.size (w.heap.size + 1))) := (((Below.refl _ _).alloc (Nat.le_refl _) _).alloc (by simp) _).alloc (by simp; omega) _
  have h0 : (((w.alloc (brkO r)).alloc (.cells #[.int .i64 most] 3)).alloc (brkG w.heap.size (w.heap.size + 1))).heap[w.heap.size]? = some (brkO r) := by
    rw [get_allocB, if_neg (by simp; omega), get_allocB, if_neg (by simp), get_allocB, if_pos rfl]
  have h1 : (((w.alloc (brkO r)).alloc (.cells #[.int .i64 most] 3)).alloc (brkG w.heap.size (w.heap.size + 1))).heap[w.heap.size + 1]? = some (.cells #[.int .i64 most] 3) := by
    rw [get_allocB, if_neg (by simp), get_allocB, if_pos (by simp)]
  have h2 : (((w.alloc (brkO r)).alloc (.cells #[.int .i64 most] 3)).alloc (brkG w.heap.size (w.heap.size + 1))).heap[w.heap.size + 1 + 1]? = some (brkG w.heap.size (w.heap.size + 1)) := by
    rw [get_allocB, if_pos (by simp)]
  generalize ((w.alloc (brkO r)).alloc (.cells #[.int .i64 most] 3)).alloc (brkG w.heap.size (w.heap.size + 1)) = W at *
  refine (break_look r hz w.heap.size (w.heap.size + 1) (w.heap.size + 1 + 1) most (brk_box h0) (by simp only [World.cell?, h1]; rfl) (by simp only [World.cell?, h2]; rfl) (by simp only [World.cell?, h2]; rfl) (by simp only [World.cell?, h2]; rfl) (by simp only [World.cell?, h2]; rfl)).mono fun e w' h => ⟨h.1, hB.trans (h.2.mono hB.size)⟩

set_option maxHeartbeats 1600000 in
set_option maxRecDepth 100000 in
theorem break_any (r : BreakS) (hz : r.res.size ≤ maxLen) (w : World) : Calls Try.prog 48 #[r.v] w fun e w' => e = .returned (.int .i64 (breakE r)) ∧ Below w.heap.size w w' := by
  have HT := Lib.hid (fun most => break_tail (w := w) r hz most)
  have HE := Lib.hid (show breakE r = lookE (namedB r.res []) (br1 r (mostR r) && (br2 r && (br3 r && br4 r))) 31 from rfl)
  by_cases hg : r.gr = 2
  · have HT2 := Lib.hid (HT.out 1099511627776)
    have hm : mostR r = 1099511627776 := by unfold mostR; rw [if_pos hg]
    rw [hm] at HE
    rw [HE.out]
    generalize lookE (namedB r.res []) (br1 r 1099511627776 && (br2 r && (br3 r && br4 r))) 31 = E at *
    unfold brkO BreakS.cells brkG fnB at HT2
    have hg2 : (r.gr == 2) = true := by simp [hg]
    have HGG := Lib.hid hg
    unfold BreakS.v BreakS.cells
    clear HT HE hm hz hg
    go_enter Try.func48, Try.ntmps48
    go_wp2_with (fail)
    refine HT2.out.mono ?_
    rintro e w1 ⟨rfl, h1⟩
    have HB := Lib.hid h1
    clear h1
    go_wp2_with (fail)
    go_ret
    exact ⟨rfl, HB.out⟩
  · have HT2 := Lib.hid (HT.out 1000)
    have hm : mostR r = 1000 := by unfold mostR; rw [if_neg hg]
    rw [hm] at HE
    rw [HE.out]
    generalize lookE (namedB r.res []) (br1 r 1000 && (br2 r && (br3 r && br4 r))) 31 = E at *
    unfold brkO BreakS.cells brkG fnB at HT2
    have hg2 : (r.gr == 2) = false := by simp [hg]
    unfold BreakS.v BreakS.cells
    clear HT HE hm hz hg
    go_enter Try.func48, Try.ntmps48
    go_wp2_with (fail)
    refine HT2.out.mono ?_
    rintro e w1 ⟨rfl, h1⟩
    have HB := Lib.hid h1
    clear h1
    go_wp2_with (fail)
    go_ret
    exact ⟨rfl, HB.out⟩
/-- What is so of a rule that is right. -/
structure BreakOk (r : BreakS) : Prop where
  gr : r.gr ≤ 2
  c0 : 0 ≤ r.cnt
  c1 : r.cnt ≤ mostR r
  s : r.gr = 0 → 1 ≤ r.slow ∧ r.slow ≤ 3600000000
  l0 : 1 ≤ r.least
  l1 : r.least ≤ 1099511627776
  w0 : 1000000 ≤ r.win
  w1 : r.win ≤ 120000000
  r0 : 1000000 ≤ r.rec_
  r1 : r.rec_ ≤ 3600000000
theorem breakE_ok {r : BreakS} (h : breakE r = 0) : BreakOk r := by
  unfold breakE lookE at h
  split at h
  · split at h
    · rename_i hb
      simp only [br1, br2, br3, br4, onlyB, Bool.and_eq_true, Bool.or_eq_true, decide_eq_true_eq, beq_iff_eq] at hb
      obtain ⟨⟨h1, h2, h3⟩, h4, ⟨⟨h5, h6⟩, h7, h8⟩, h9, h10⟩ := hb
      exact ⟨h1, h2, h3, fun hg => by
        rcases h4 with ⟨_, h, h'⟩ | ⟨h, _⟩
        · exact ⟨h, h'⟩
        · simp [hg] at h, h5, h6, h7, h8, h9, h10⟩
    · cases h
  · cases h
end Go.Proofs.Ytgkdpkpiejjfmaa
