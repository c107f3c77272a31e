/- Copies of lists of int64 with marked room behind their end: HandInts, SameInts, KeptInts. -/
import Derived.Test.YtogdnacambjhpaaProg
import Derived.Test.YtogdnacambjhpaaSkK
import Derived.ProofKit
import Derived.Below
import Derived.Deep.OwnRows
import Derived.Deep.RegionWith
namespace Go.Proofs.Ytogdnacambjhpaa
open Go.RowKit Go.Deep
set_option linter.unusedVariables false
set_option linter.unusedSimpArgs false

theorem IntsAt.below {w w' : World} {a : Option Addr} {xs : List Int} (h : IntsAt w a xs) (hb : Below w.heap.size w w') : IntsAt w' a xs := by
  rcases h with h | ⟨b, off, rfl, hlt, hc⟩
  · exact Or.inl h
  · exact Or.inr ⟨b, off, rfl, Nat.lt_of_lt_of_le hlt hb.size, fun j hj => (hb.cell (p := ⟨b, off + j, none⟩) hlt).trans (hc j hj)⟩

/-- What lies in such a copy. -/
def handF (xs : List Int) (j : Nat) : Value := .int .i64 (if j < xs.length then xs.getD j 0 else -700 - (j : Int) + xs.length)
def HandAt (w : World) (g : Nat) (xs : List Int) : Prop := w.rowIs g 3 (xs.length + 9) (handF xs)
theorem HandAt.below {w w' : World} {g : Nat} {xs : List Int} (h : HandAt w g xs) (hb : Below w.heap.size w w') : HandAt w' g xs := h.of_block (hb.block g (World.rowIs.lt h))
theorem HandAt.ints {w : World} {g : Nat} {xs : List Int} (h : HandAt w g xs) : IntsAt w (some ⟨g, 0, none⟩) xs :=
  Or.inr ⟨g, 0, rfl, World.rowIs.lt h, fun j hj => by
    have := World.rowIs.cell h (i := j) (by omega)
    rw [Nat.zero_add, this]; unfold handF; rw [if_pos hj]⟩

set_option maxHeartbeats 1600000 in
theorem hand_any (a : Option Addr) (len cap : Nat) (xs : List Int) (w : World) (hl : xs.length = len) (hm : len * 8 ≤ 140737488351232) (hr : IntsAt w a xs) :
    Calls Try.prog 20 #[.slice a len cap] w fun e w' => ∃ g, e = .returned (.slice (some ⟨g, 0, none⟩) len (len + 9)) ∧ w.heap.size ≤ g ∧ HandAt w' g xs ∧ Below w.heap.size w w' := by
  have hmk := run_make_row' (P := Try.prog) 31 3 (.int .i64 0) 8 Try.underlying31 (by kernel_rfl) rfl .i64 .i64 (len + 9) (by omega) (by omega)
  have Hr := Lib.hid hr
  have Hl := Lib.hid hl
  clear hl hr
  have hcast : ((len + 9 : Nat) : Int) = (len : Int) + 9 := by omega
  rw [hcast] at hmk
  go_enter Try.func20, Try.ntmps20
  go_wp2_with (fail)
  have R0 : (w.alloc (.cells (madeCells #[.int .i64 0] (len + 9)) 3)).rowIs w.heap.size 3 (len + 9) (fun _ => .int .i64 0) := World.rowIs_made w _ _ _
  have B0 : Below w.heap.size w (w.alloc (.cells (madeCells #[.int .i64 0] (len + 9)) 3)) := (Below.refl _ _).alloc (Nat.le_refl _) _
  clear hmk
  generalize w.alloc (.cells (madeCells #[.int .i64 0] (len + 9)) 3) = W0 at *
  go_loopw [4] (fun i wr => ∃ k : Nat, k ≤ len ∧ i = .int .i64 k ∧ wr.rowIs w.heap.size 3 (len + 9) (fun j => .int .i64 (if j < k then xs.getD j 0 else 0)) ∧ Below w.heap.size w wr) (fun i _ => len - (intOf i).toNat)
  case atStart => exact ⟨0, Nat.zero_le _, rfl, R0.congr (fun i _ => by simp), B0⟩
  case round =>
    obtain ⟨k, hk, rfl, hrow, hbr⟩ := hrel
    by_cases hlt : k < len
    · rcases Hr.out.below hbr with h | ⟨b1, o1, rfl, hlt1, hc1⟩
      · exfalso; have := Hl.out; subst h; simp at this; omega
      · have d1 := hc1 k (by rw [Hl.out]; exact hlt)
        have d2 := hrow.cell (i := k) (by omega)
        have d3 := hrow.frozen k
        have HR := Lib.hid hrow
        generalize hX : xs.getD k 0 = X at *
        have HX := Lib.hid hX
        clear hc1 hX hrow
        have k0 : (0 : Int) ≤ k := by omega
        have k1 : (k : Int) < len := by omega
        go_wp2_with (fail)
        refine ⟨⟨k + 1, by omega, by go_num, (HR.out.set k (.int .i64 X)).congr (fun i _ => ?_), hbr.setCell (Nat.le_refl _) _⟩, by simp [intOf]; omega⟩
        show (if i = k then (.int .i64 X : Value) else .int .i64 (if i < k then xs.getD i 0 else 0)) = .int .i64 (if i < k + 1 then xs.getD i 0 else 0)
        by_cases hik : i = k
        · subst hik; rw [if_pos rfl, if_pos (by omega), HX.out]
        · rw [if_neg hik]
          by_cases h2 : i < k
          · rw [if_pos h2, if_pos (by omega)]
          · rw [if_neg h2, if_neg (by omega)]
    · have hkl : k = len := by omega
      subst hkl
      have lt0 := World.rowIs.lt hrow
      have R1 : wr.rowIs w.heap.size 3 (k + 9) (fun j => .int .i64 (if j < k then xs.getD j 0 else 0)) := hrow
      clear hrow R0 B0
      go_wp2_with (fail)
      go_loopw [5] (fun i wx => ∃ m : Nat, k ≤ m ∧ m ≤ k + 9 ∧ i = .int .i64 m ∧ wx.rowIs w.heap.size 3 (k + 9) (fun j => .int .i64 (if j < k then xs.getD j 0 else if j < m then -700 - (j : Int) + k else 0)) ∧ Below w.heap.size w wx) (fun i _ => k + 9 - (intOf i).toNat)
      case atStart => exact ⟨k, Nat.le_refl _, by omega, rfl, R1.congr (fun i _ => by by_cases h : i < k <;> simp [h]), hbr⟩
      case round =>
        obtain ⟨m, hkm, hm9, rfl, hrow, hbx⟩ := hrel
        by_cases hlt9 : m < k + 9
        · have d2 := hrow.cell (i := m) hlt9
          have d3 := hrow.frozen m
          have HR := Lib.hid hrow
          clear hrow R1
          have m0 : (0 : Int) ≤ m := by omega
          have m1 : (m : Int) < (k : Int) + 9 := by omega
          have m2 : (m : Int) ≤ 140737488351232 + 9 := by omega
          have m3 : (k : Int) ≤ 140737488351232 := by omega
          go_wp2_with (fail)
          refine ⟨⟨m + 1, by omega, by omega, by go_num, (HR.out.set m (.int .i64 (-700 - (m : Int) + k))).congr (fun i _ => ?_), hbx.setCell (Nat.le_refl _) _⟩, by simp [intOf]; omega⟩
          show (if i = m then (.int .i64 (-700 - (m : Int) + k) : Value) else .int .i64 (if i < k then xs.getD i 0 else if i < m then -700 - (i : Int) + k else 0)) = .int .i64 (if i < k then xs.getD i 0 else if i < m + 1 then -700 - (i : Int) + k else 0)
          by_cases hik : i = m
          · subst hik; rw [if_pos rfl, if_neg (by omega), if_pos (by omega)]
          · rw [if_neg hik]
            by_cases h2 : i < k
            · rw [if_pos h2, if_pos h2]
            · rw [if_neg h2, if_neg h2]
              by_cases h3 : i < m
              · rw [if_pos h3, if_pos (by omega)]
              · rw [if_neg h3, if_neg (by omega)]
        · have hme : m = k + 9 := by omega
          subst hme
          have HR := Lib.hid hrow
          clear hrow R1
          go_wp2_with (fail)
          go_ret
          refine ⟨w.heap.size, rfl, Nat.le_refl _, ?_, hbx⟩
          unfold HandAt
          rw [Hl.out]
          refine HR.out.congr (fun i hi => ?_)
          unfold handF
          rw [Hl.out, if_pos hi]

set_option maxHeartbeats 1600000 in
/-- Two lists that are the same. -/
theorem same_ints (a b : Option Addr) (len ca cb : Nat) (xs : List Int) (w : World) (hl : xs.length = len) (hm : len * 8 ≤ 140737488351232) (ha : IntsAt w a xs) (hb : IntsAt w b xs) :
    Calls Try.prog 46 #[.slice a len ca, .slice b len cb] w fun e w' => e = .returned (.bool true) ∧ Below w.heap.size w w' := by
  have Ha := Lib.hid ha
  have Hb := Lib.hid hb
  have Hl := Lib.hid hl
  clear hl ha hb
  go_enter Try.func46, Try.ntmps46
  go_wp2_with (fail)
  go_loopw [5] (fun i wr => ∃ k : Nat, k ≤ len ∧ i = .int .i64 k ∧ Below w.heap.size w wr) (fun i _ => len - (intOf i).toNat)
  case atStart => exact ⟨0, Nat.zero_le _, rfl, Below.refl _ _⟩
  case round =>
    obtain ⟨k, hk, rfl, hbr⟩ := hrel
    by_cases hlt : k < len
    · rcases Ha.out.below hbr with h | ⟨b1, o1, rfl, hlt1, hc1⟩
      · exfalso; have := Hl.out; subst h; simp at this; omega
      · rcases Hb.out.below hbr with h | ⟨b2, o2, rfl, hlt2, hc2⟩
        · exfalso; have := Hl.out; subst h; simp at this; omega
        · have d1 := hc1 k (by rw [Hl.out]; exact hlt)
          have d2 := hc2 k (by rw [Hl.out]; exact hlt)
          generalize xs.getD k 0 = X at *
          clear hc1 hc2
          have k0 : (0 : Int) ≤ k := by omega
          have k1 : (k : Int) < len := by omega
          have hne : (X != X) = false := by simp
          go_wp2_with (fail)
          go_quiet (fail)
          go_wp2_with (fail)
          go_roundw
          case rel => exact ⟨k + 1, by omega, by go_num, below_drewN hbr _⟩
          case measure => simp [intOf]; omega
    · have hkl : k = len := by omega
      subst hkl
      go_wp2_with (fail)
      go_ret
      exact ⟨rfl, hbr⟩

set_option maxHeartbeats 1600000 in
theorem kept_ints (a : Option Addr) (g len cap : Nat) (xs : List Int) (w : World) (hl : xs.length = len) (hm : len * 8 ≤ 140737488351232) (ha : HandAt w g xs) (hb : IntsAt w a xs) :
    Calls Try.prog 22 #[.slice (some ⟨g, 0, none⟩) len (len + 9), .slice a len cap] w fun e w' => e = .returned (.bool true) ∧ Below w.heap.size w w' := by
  have Ha := Lib.hid ha
  have Hb := Lib.hid hb
  have Hl := Lib.hid hl
  clear hl ha hb
  go_enter Try.func22, Try.ntmps22
  go_wp2_with (fail)
  refine (same_ints (some ⟨g, 0, none⟩) a len (len + 9) cap xs _ Hl.out hm Ha.out.ints Hb.out).mono ?_
  rintro e w1 ⟨rfl, hb1⟩
  go_wp2_with (fail)
  go_loopw [6] (fun i wr => ∃ m : Nat, len ≤ m ∧ m ≤ len + 9 ∧ i = .int .i64 m ∧ Below w.heap.size w wr) (fun i _ => len + 9 - (intOf i).toNat)
  case atStart => exact ⟨len, Nat.le_refl _, by omega, rfl, hb1⟩
  case round =>
    obtain ⟨m, hkm, hm9, rfl, hbr⟩ := hrel
    have hlt := World.rowIs.lt Ha.out
    by_cases hlt9 : m < len + 9
    · have d1 := World.rowIs.cell (Ha.out.below hbr) (i := m) (by rw [Hl.out]; exact hlt9)
      unfold handF at d1
      rw [if_neg (by rw [Hl.out]; omega), Hl.out] at d1
      have m0 : (0 : Int) ≤ m := by omega
      have m1 : (m : Int) < (len : Int) + 9 := by omega
      have m3 : (len : Int) ≤ 140737488351232 := by omega
      go_wp2_with (fail)
      first
        | exact ⟨⟨m + 1, by omega, by omega, by go_num, hbr⟩, by simp [intOf]; omega⟩
        | (go_roundw
           case rel => exact ⟨m + 1, by omega, by omega, by go_num, hbr⟩
           case measure => simp [intOf]; omega)
    · have hme : m = len + 9 := by omega
      subst hme
      go_wp2_with (fail)
      go_ret
      exact ⟨rfl, hbr⟩
end Go.Proofs.Ytogdnacambjhpaa
