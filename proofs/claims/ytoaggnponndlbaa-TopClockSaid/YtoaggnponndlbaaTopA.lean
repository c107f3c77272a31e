/- TopClock: a clock in memory; NewClock, Tick, Now; the law. -/
import Derived.Test.YtoaggnponndlbaaNumLists
import Derived.Below
import Derived.Deep.RegionWith
namespace Go.Proofs.Ytoaggnponndlbaa
open Go.RowKit
set_option linter.unusedVariables false
set_option linter.unusedSimpArgs false

structure ClockAt (w : World) (b : Nat) (t : Int) : Prop where
  c0 : w.cell? ⟨b, 0, none⟩ = some (.int .i64 t)
  fr : ∀ o, w.frozen? ⟨b, o, none⟩ = false
  lt : b < w.heap.size
theorem ClockAt.of_block {w w' : World} {b : Nat} {t : Int} (h : ClockAt w b t) (hb : w'.heap[b]? = w.heap[b]?) (hz : w.heap.size ≤ w'.heap.size) : ClockAt w' b t :=
  ⟨(World.cell?_of_block (a := ⟨b, 0, none⟩) hb).trans h.c0, fun o => (World.frozen?_of_block (a := ⟨b, o, none⟩) hb).trans (h.fr o), Nat.lt_of_lt_of_le h.lt hz⟩
theorem ClockAt.below {w w' : World} {b : Nat} {t : Int} (h : ClockAt w b t) (hb : Below w.heap.size w w') : ClockAt w' b t := h.of_block (hb.block b h.lt) hb.size
theorem grown_belowC {w w' : World} (h : Below w.heap.size w w') (r : Option Nat) : w.grownBy w' r := ⟨h.os, h.tape, h.output, h.size, fun k hk _ => h.block k hk⟩
theorem grown_setC {a b : World} {g : Nat} (h : a.grownBy b (some g)) (o : Nat) (u : Value) : a.grownBy (b.setCell ⟨g, o, none⟩ u) (some g) :=
  ⟨h.os, h.tape, h.output, by simpa [World.setCell] using h.size, fun i hi hne => (Below.heap_setCell b ⟨g, o, none⟩ u i (fun e => hne (by rw [e]))).trans (h.block i hi hne)⟩
theorem below_ownC {w w1 w2 : World} {b : Nat} (h : Below w.heap.size w w1) (hb : w.heap.size ≤ b) (hg : w1.grownBy w2 (some b)) : Below w.heap.size w w2 :=
  h.grown hg h.size (fun k e => by cases e; exact hb)
theorem wf64C {n : Int} (h : (Lit.int .i64 n).wf = true) : -9223372036854775808 ≤ n ∧ n ≤ 9223372036854775807 := by
  simp only [Lit.wf, IntKind.min, IntKind.max, IntKind.signed, IntKind.bits, Bool.and_eq_true, decide_eq_true_eq, if_true] at h
  omega

theorem ints_belowC {w w' : World} {a : Option Addr} {xs : List Int} (h : IntsAt w a xs) (hb : Below w.heap.size w w') : IntsAt w' a xs := by
  rcases h with h | ⟨b, off, rfl, hlt, hc⟩
  · exact Or.inl h
  · exact Or.inr ⟨b, off, rfl, Nat.lt_of_lt_of_le hlt hb.size, fun j hj => (hb.cell (p := ⟨b, off + j, none⟩) hlt).trans (hc j hj)⟩

def isT (x : Int) : Bool := decide (0 ≤ x ∧ x ≤ 1152921504606846976)
theorem wistime_any (x : Int) (w : World) :
    Calls Try.prog 16 #[.int .i64 x] w fun e w' => e = .returned (.bool (isT x)) ∧ w = w' := by
  by_cases h1 : x < 0
  · have e : isT x = false := decide_eq_false (by omega)
    have h2 : ¬ 0 ≤ x := by omega
    rw [e]
    go_enter Try.func16, Try.ntmps16
    go_wp2_with (fail)
    go_ret
    exact ⟨rfl, rfl⟩
  · have h2 : 0 ≤ x := by omega
    by_cases h3 : x ≤ 1152921504606846976
    · have e : isT x = true := decide_eq_true (by omega)
      rw [e]
      go_enter Try.func16, Try.ntmps16
      go_wp2_with (fail)
      go_ret
      exact ⟨rfl, rfl⟩
    · have e : isT x = false := decide_eq_false (by omega)
      rw [e]
      go_enter Try.func16, Try.ntmps16
      go_wp2_with (fail)
      go_ret
      exact ⟨rfl, rfl⟩

def ClockMade (x : Int) (w : World) (e : Ending) (w' : World) : Prop :=
  (0 ≤ x ∧ x ≤ 1152921504606846976 ∧ ∃ b, e = .returned (.tuple #[.pointer (some ⟨b, 0, none⟩), .int .i64 0]) ∧ w.heap.size ≤ b ∧ ClockAt w' b x ∧ Below w.heap.size w w') ∨
  ((x < 0 ∨ 1152921504606846976 < x) ∧ e = .returned (.tuple #[.pointer none, .int .i64 2]) ∧ Below w.heap.size w w')
theorem cnew_any (x : Int) (w : World) : Calls Try.prog 5 #[.int .i64 x] w (ClockMade x w) := by
  have Ht := fun w => wistime_any x w
  by_cases h : 0 ≤ x ∧ x ≤ 1152921504606846976
  · have e : isT x = true := decide_eq_true h
    rw [e] at Ht
    have HT := Lib.hid Ht
    clear Ht e
    obtain ⟨h0, h1⟩ := h
    go_enter Try.func5, Try.ntmps5
    go_wp2_with (fail)
    refine (HT.out _).mono ?_
    rintro e w1 ⟨rfl, rfl⟩
    go_wp2_with (fail)
    go_ret2
    exact Or.inl ⟨h0, h1, w.heap.size, rfl, Nat.le_refl _, ⟨by simp [go_sem], by simp [go_sem], by simp⟩, (Below.refl _ _).alloc (Nat.le_refl _) _⟩
  · have e : isT x = false := decide_eq_false h
    rw [e] at Ht
    have HT := Lib.hid Ht
    have h' : x < 0 ∨ 1152921504606846976 < x := by omega
    have H := Lib.hid h'
    clear Ht e h h'
    go_enter Try.func5, Try.ntmps5
    go_wp2_with (fail)
    refine (HT.out _).mono ?_
    rintro e w1 ⟨rfl, rfl⟩
    go_wp2_with (fail)
    go_ret2
    exact Or.inr ⟨H.out, rfl, Below.refl _ _⟩

theorem cnow_any (b : Nat) (t : Int) (w : World) (h : ClockAt w b t) :
    Calls Try.prog 8 #[.pointer (some ⟨b, 0, none⟩)] w fun e w' => e = .returned (.int .i64 t) ∧ w = w' := by
  have c0 := h.c0
  clear h
  go_enter Try.func8, Try.ntmps8
  go_wp2_with (fail)
  go_ret
  exact ⟨rfl, rfl⟩

def Ticked (b : Nat) (t n : Int) (w : World) (e : Ending) (w' : World) : Prop :=
  (0 ≤ n ∧ n ≤ 1152921504606846976 - t ∧ e = .returned (.tuple #[.int .i64 (t + n), .int .i64 0]) ∧ ClockAt w' b (t + n) ∧ w.grownBy w' (some b)) ∨
  ((n < 0 ∨ 1152921504606846976 - t < n) ∧ e = .returned (.tuple #[.int .i64 0, .int .i64 2]) ∧ ClockAt w' b t ∧ w.grownBy w' (some b))

set_option maxHeartbeats 1600000 in
theorem ctick_one (b : Nat) (t n : Int) (bl : Nat) (w : World) (h : ClockAt w b t) (t0 : 0 ≤ t) (t1 : t ≤ 1152921504606846976) (n0 : -9223372036854775808 ≤ n) (n1 : n ≤ 9223372036854775807) (hc : w.cell? ⟨bl, 0, none⟩ = some (.int .i64 n)) :
    Calls Try.prog 7 #[.pointer (some ⟨b, 0, none⟩), .slice (some ⟨bl, 0, none⟩) 1 1] w (Ticked b t n w) := by
  have H := Lib.hid h
  obtain ⟨c0, fr, lt⟩ := h
  have f0 := fr 0
  clear fr
  by_cases g : 0 ≤ n ∧ n ≤ 1152921504606846976 - t
  · obtain ⟨g0, g1⟩ := g
    go_enter Try.func7, Try.ntmps7
    go_wp2_with (fail)
    go_loop [6, 17] (fun s i => (i = .int .i64 0 ∧ s = .int .i64 t) ∨ (i = .int .i64 1 ∧ s = .int .i64 (t + n))) (fun _ i => 1 - (intOf i).toNat)
    case atStart => exact Or.inl ⟨rfl, rfl⟩
    case round =>
      rcases hrel with ⟨rfl, rfl⟩ | ⟨rfl, rfl⟩
      · go_wp2_with (fail)
        go_round
        case rel => exact Or.inr ⟨rfl, rfl⟩
        case measure => simp [intOf]
      · go_wp2_with (fail)
        go_ret2
        exact Or.inl ⟨g0, g1, rfl, ⟨by simp [go_sem, c0, f0], fun o => by simp [go_sem, H.out.fr], by simp [go_sem]; exact lt⟩, grown_setC (grown_belowC (Below.refl _ _) _) _ _⟩
  · have g' : n < 0 ∨ (¬ n < 0 ∧ 1152921504606846976 - t < n) := by omega
    have G := Lib.hid (show n < 0 ∨ 1152921504606846976 - t < n by omega)
    clear g
    rcases g' with g' | ⟨g', g2⟩
    all_goals
      go_enter Try.func7, Try.ntmps7
      go_wp2_with (fail)
      go_loop [6, 17] (fun s i => i = .int .i64 0 ∧ s = .int .i64 t) (fun _ i => 1 - (intOf i).toNat)
      case atStart => exact ⟨rfl, rfl⟩
      case round =>
        obtain ⟨rfl, rfl⟩ := hrel
        go_wp2_with (fail)
        go_ret2
        exact Or.inr ⟨G.out, rfl, H.out, grown_belowC (Below.refl _ _) _⟩

set_option maxHeartbeats 3200000 in
set_option maxRecDepth 100000 in
theorem tclock_walk (w : World) (x : Int) (wx : (Lit.int .i64 x).wf = true) (a : Option Addr) (len cap : Nat) (xs : List Int) (hl : xs.length = len) (hm : len * 8 ≤ 140737488351232) (hx : I64s xs) (hr : IntsAt w a xs) (h0 : 0 < len → a ≠ none) (hn : a = none → cap = 0) :
    Calls Try.prog 3 #[.int .i64 x, .slice a len cap] w fun e w' => e = .returned (.bool true) ∧ Below w.heap.size w w' := by
  obtain ⟨x0, x1⟩ := wf64C wx
  have Hr := Lib.hid hr
  have Hl := Lib.hid hl
  clear wx hr hl h0 hn
  go_enter Try.func3, Try.ntmps3
  go_wp2_with (fail)
  refine (cnew_any x _).mono ?_
  rintro e v1 (⟨z0, z1, b, rfl, hb, hp, hbel⟩ | ⟨hno, rfl, hbel⟩)
  · have HP := Lib.hid hp
    have hbw : w.heap.size ≤ b := hb
    clear hp hb
    go_wp2_with (fail)
    go_loopw [7, 8] (fun s i wr => ∃ (k : Nat) (S : Int), k ≤ len ∧ i = .int .i64 k ∧ s = .int .i64 S ∧ 0 ≤ S ∧ S ≤ 1152921504606846976 ∧ Hid (ClockAt wr b S) ∧ Below w.heap.size w wr) (fun _ i _ => len - (intOf i).toNat)
    case atStart => exact ⟨0, x, Nat.zero_le _, rfl, rfl, z0, z1, HP, hbel⟩
    case round =>
      obtain ⟨k, S, hk, rfl, rfl, s0, s1, HC, hbr⟩ := hrel
      by_cases hlt : k < len ∧ k < 100
      · obtain ⟨hlt, hlt100⟩ := hlt
        rcases Hr.out with h | ⟨bl, ol, rfl, hbl, hcell⟩
        · exfalso; have := Hl.out; subst h; simp at this; omega
        · have d1w := hcell k (by rw [Hl.out]; exact hlt)
          have D := Lib.hid (fun (wx : World) (h : Below w.heap.size w wx) => (h.cell (p := ⟨bl, ol + k, none⟩) hbl).trans d1w)
          obtain ⟨x0, x1⟩ := getD_bd hx k
          generalize xs.getD k 0 = X at *
          have d1 := D.out wr hbr
          clear hcell d1w
          have k0 : (0 : Int) ≤ k := by omega
          have k1 : (k : Int) < len := by omega
          by_cases hA : 0 ≤ X ∧ X ≤ 1152921504606846976 - S
          · have hA2 := hA
            have HA := Lib.hid hA2
            obtain ⟨a1, a2⟩ := hA
            have hf : fitB (S + X) = true := fitB_yes (by omega) (by omega)
            have e1 := Lib.hid (fitN_yes hf)
            have e2 := Lib.hid (fitE_yes hf)
            clear hf hA2
            go_wp2_with (fail)
            refine (add_any S X _ (by omega) (by omega) x0 x1).mono ?_
            rintro e w2 ⟨rfl, rfl⟩
            rw [e1.out, e2.out]
            go_wp2_with (fail)
            refine (ctick_one b S X _ _ (HC.out.below ((Below.refl _ _).alloc (Nat.le_refl _) _)) s0 s1 x0 x1 (by simp [go_sem])).mono ?_
            rintro e w3 hT
            obtain ⟨rfl, hp3, hg3⟩ : e = .returned (.tuple #[.int .i64 (S + X), .int .i64 0]) ∧ ClockAt w3 b (S + X) ∧ _ := by
              rcases hT with ⟨_, _, h⟩ | ⟨h, _⟩
              · exact h
              · exfalso; omega
            have HC3 := Lib.hid hp3
            have L3 : Below w.heap.size w w3 := below_ownC (hbr.alloc hbr.size _) hbw hg3
            have d1 := D.out _ L3
            clear hp3 hg3 hT
            go_wp2_with (fail)
            refine (cnow_any b _ _ HC3.out).mono ?_
            rintro e w4 ⟨rfl, rfl⟩
            go_wp2_with (fail)
            refine (within_any _ 0 1152921504606846976 _).mono ?_
            rintro e w5 ⟨rfl, rfl⟩
            rw [if_neg (by omega), if_neg (by omega)]
            go_wp2_with (fail)
            exact ⟨⟨k + 1, S + X, by omega, by go_num, rfl, by omega, by omega, HC3, L3⟩, by simp [intOf]; omega⟩
          · have HA := Lib.hid hA
            by_cases hB : X < 0
            · have hf : fitB (S + X) = true := fitB_yes (by omega) (by omega)
              have e1 := Lib.hid (fitN_yes hf)
              have e2 := Lib.hid (fitE_yes hf)
              clear hf hA
              go_wp2_with (fail)
              refine (add_any S X _ (by omega) (by omega) x0 x1).mono ?_
              rintro e w2 ⟨rfl, rfl⟩
              rw [e1.out, e2.out]
              go_wp2_with (fail)
              refine (ctick_one b S X _ _ (HC.out.below ((Below.refl _ _).alloc (Nat.le_refl _) _)) s0 s1 x0 x1 (by simp [go_sem])).mono ?_
              rintro e w3 hT
              obtain ⟨rfl, hp3, hg3⟩ : e = .returned (.tuple #[.int .i64 0, .int .i64 2]) ∧ ClockAt w3 b S ∧ _ := by
                rcases hT with ⟨_, _, h⟩ | ⟨_, h⟩
                · exfalso; omega
                · exact h
              have HC3 := Lib.hid hp3
              have L3 : Below w.heap.size w w3 := below_ownC (hbr.alloc hbr.size _) hbw hg3
              have d1 := D.out _ L3
              clear hp3 hg3 hT
              go_wp2_with (fail)
              refine (cnow_any b _ _ HC3.out).mono ?_
              rintro e w4 ⟨rfl, rfl⟩
              go_wp2_with (fail)
              refine (within_any _ 0 1152921504606846976 _).mono ?_
              rintro e w5 ⟨rfl, rfl⟩
              rw [if_neg (by omega), if_neg (by omega)]
              go_wp2_with (fail)
              exact ⟨⟨k + 1, S, by omega, by go_num, rfl, by omega, by omega, HC3, L3⟩, by simp [intOf]; omega⟩
            · have hC : 1152921504606846976 < S + X := by omega
              cases hf : fitB (S + X) with
              | true =>
                have e1 := Lib.hid (fitN_yes hf)
                have e2 := Lib.hid (fitE_yes hf)
                clear hf hA
                go_wp2_with (fail)
                refine (add_any S X _ (by omega) (by omega) x0 x1).mono ?_
                rintro e w2 ⟨rfl, rfl⟩
                rw [e1.out, e2.out]
                go_wp2_with (fail)
                refine (ctick_one b S X _ _ (HC.out.below ((Below.refl _ _).alloc (Nat.le_refl _) _)) s0 s1 x0 x1 (by simp [go_sem])).mono ?_
                rintro e w3 hT
                obtain ⟨rfl, hp3, hg3⟩ : e = .returned (.tuple #[.int .i64 0, .int .i64 2]) ∧ ClockAt w3 b S ∧ _ := by
                  rcases hT with ⟨_, _, h⟩ | ⟨_, h⟩
                  · exfalso; omega
                  · exact h
                have HC3 := Lib.hid hp3
                have L3 : Below w.heap.size w w3 := below_ownC (hbr.alloc hbr.size _) hbw hg3
                have d1 := D.out _ L3
                clear hp3 hg3 hT
                go_wp2_with (fail)
                refine (cnow_any b _ _ HC3.out).mono ?_
                rintro e w4 ⟨rfl, rfl⟩
                go_wp2_with (fail)
                refine (within_any _ 0 1152921504606846976 _).mono ?_
                rintro e w5 ⟨rfl, rfl⟩
                rw [if_neg (by omega), if_neg (by omega)]
                go_wp2_with (fail)
                exact ⟨⟨k + 1, S, by omega, by go_num, rfl, by omega, by omega, HC3, L3⟩, by simp [intOf]; omega⟩
              | false =>
                have e1 := Lib.hid (fitN_no hf)
                have e2 := Lib.hid (fitE_no hf)
                clear hf hA
                go_wp2_with (fail)
                refine (add_any S X _ (by omega) (by omega) x0 x1).mono ?_
                rintro e w2 ⟨rfl, rfl⟩
                rw [e1.out, e2.out]
                go_wp2_with (fail)
                refine (ctick_one b S X _ _ (HC.out.below ((Below.refl _ _).alloc (Nat.le_refl _) _)) s0 s1 x0 x1 (by simp [go_sem])).mono ?_
                rintro e w3 hT
                obtain ⟨rfl, hp3, hg3⟩ : e = .returned (.tuple #[.int .i64 0, .int .i64 2]) ∧ ClockAt w3 b S ∧ _ := by
                  rcases hT with ⟨_, _, h⟩ | ⟨_, h⟩
                  · exfalso; omega
                  · exact h
                have HC3 := Lib.hid hp3
                have L3 : Below w.heap.size w w3 := below_ownC (hbr.alloc hbr.size _) hbw hg3
                have d1 := D.out _ L3
                clear hp3 hg3 hT
                go_wp2_with (fail)
                refine (cnow_any b _ _ HC3.out).mono ?_
                rintro e w4 ⟨rfl, rfl⟩
                go_wp2_with (fail)
                refine (within_any _ 0 1152921504606846976 _).mono ?_
                rintro e w5 ⟨rfl, rfl⟩
                rw [if_neg (by omega), if_neg (by omega)]
                go_wp2_with (fail)
                exact ⟨⟨k + 1, S, by omega, by go_num, rfl, by omega, by omega, HC3, L3⟩, by simp [intOf]; omega⟩
      · by_cases hl2 : k < len
        · have k1 : (k : Int) < len := by omega
          have k2 : ¬ (k : Int) < 100 := by omega
          go_wp2_with (fail)
          refine (cnow_any b _ _ HC.out).mono ?_
          rintro e w4 ⟨rfl, rfl⟩
          go_wp2_with (fail)
          go_ret
          exact ⟨rfl, hbr⟩
        · have hkl : k = len := by omega
          subst hkl
          go_wp2_with (fail)
          refine (cnow_any b _ _ HC.out).mono ?_
          rintro e w4 ⟨rfl, rfl⟩
          go_wp2_with (fail)
          go_ret
          exact ⟨rfl, hbr⟩
  · have hno' : x < 0 ∨ (¬ x < 0 ∧ 1152921504606846976 < x) := by omega
    clear hno
    rcases hno' with h1 | ⟨h1, h2⟩
    all_goals
      go_wp2_with (fail)
      go_ret
      exact ⟨rfl, hbel⟩
end Go.Proofs.Ytoaggnponndlbaa
