/- NumLists: the walk. -/
import Derived.Test.YtdglclgjiilfkaaLawRounds
import Derived.Laws.AppendOwnNone
namespace Go.Proofs.Ytdglclgjiilfkaa
open Go.RowKit
set_option linter.unusedVariables false
set_option linter.unusedSimpArgs false

theorem IntsAt.below {w w' : World} {a : Option Addr} {xs : List Int} (h : IntsAt w a xs) (hb : Below w.heap.size w w') : IntsAt w' a xs := by
  rcases h with h | ⟨b, off, rfl, hlt, hc⟩
  · exact Or.inl h
  · exact Or.inr ⟨b, off, rfl, Nat.lt_of_lt_of_le hlt hb.size, fun j hj => (hb.cell (p := ⟨b, off + j, none⟩) hlt).trans (hc j hj)⟩

/-- A row of the call's own reads as a list. -/
theorem IntsAt.own {w : World} {base : Nat} {v : Value} {n : Nat} {xs : List Int} (h : w.ownsRow base 3 1 v n (xs.map (Value.int .i64))) : ∃ a cap, v = .slice a n cap ∧ IntsAt w a xs ∧ n = xs.length := by
  have hn : xs.length = n := by have := h.1; simpa using this
  rcases h.2 with ⟨rfl, rfl⟩ | ⟨g, cap, cur, rfl, hb, hh, hc, hm, hs, ht⟩
  · exact ⟨none, 0, rfl, Or.inl (List.length_eq_zero_iff.1 hn), hn.symm⟩
  · refine ⟨_, cap, rfl, ?_, hn.symm⟩
    right
    have hlt : g < w.heap.size := by
      apply Classical.byContradiction; intro hge
      rw [Array.getElem?_eq_none (by omega)] at hh; simp at hh
    refine ⟨g, 0, rfl, hlt, fun j hj => ?_⟩
    have h1 : (cur.toList.take (n * 1))[j]? = some (Value.int .i64 (xs.getD j 0)) := by
      rw [ht]; simp [List.getD, hj]
    have h2 : cur.toList[j]? = some (Value.int .i64 (xs.getD j 0)) := by
      rw [List.getElem?_take] at h1
      split at h1
      · exact h1
      · simp at h1
    simp only [World.cell?, hh]
    simpa using h2
theorem info_int : (Try.prog.info? 3).map (fun i => (i.zero, i.size, i.bytes)) = some (some (.int .i64 0), 1, 8) := by kernel_rfl

set_option maxHeartbeats 1600000 in
theorem lists_walk (a : Option Addr) (len cap : Nat) (xs : List Int) (w : World) (hl : xs.length = len) (hm : len * 8 ≤ 140737488351232) (hx : I64s xs) (hr : IntsAt w a xs) (h0 : 0 < len → a ≠ none) (hn : a = none → cap = 0) :
    Calls Try.prog 7 #[.slice a len cap] w fun e w' => e = .returned (.bool true) ∧ Below w.heap.size w w' := by
  obtain ⟨i0, hi, hz0, hz1, hz2⟩ := info_parts info_int
  have Hl := Lib.hid hl
  have Hr := Lib.hid hr
  have H0 := Lib.hid h0
  have Hn := Lib.hid hn
  clear hl hr h0 hn
  go_enter Try.func7, Try.ntmps7
  go_upto_region 2 with (fail)
  go_cut [3] from 9 to 11 (fun v wx => ∃ a' cap', v = .slice a' len cap' ∧ IntsAt wx a' xs ∧ Below w.heap.size w wx)
  case first =>
    cases a with
    | none =>
      have hlen : len = 0 := by
        apply Classical.byContradiction; intro h; exact H0.out (by omega) rfl
      have hcap := Hn.out rfl
      subst hlen hcap
      have hxs : xs = [] := List.length_eq_zero_iff.1 Hl.out
      go_wp2_with (at_builtin; refine wpList_append_own_none rfl _ _ 33 rfl w.heap.size 3 i0 1 Try.underlying33 hi (.slice none 0 0) 0 [] rfl (World.ownsRow_nil _ _ _ _) rfl ?_)
      go_meet
      exact ⟨none, 0, rfl, Or.inl hxs, Below.refl _ _⟩
    | some ad =>
      have hnews : ∀ j u, (xs.map (Value.int .i64))[j]? = some u → w.cell? (ad.add j) = some u := by
        intro j u hu
        rcases Hr.out with h | ⟨b, off, h, _, hc⟩
        · subst h; simp at hu
        · injection h with h; subst h
          have hj : j < xs.length := by
            apply Classical.byContradiction; intro hge
            rw [List.getElem?_eq_none (by simpa using hge)] at hu; simp at hu
          rw [Go.WideShapes.add_plain, hc j hj]
          simp [List.getElem?_map, hj] at hu
          simp [List.getD, hj, hu]
      go_wp2_with (at_builtin; refine wpList_append_own _ rfl _ _ 33 rfl w.heap.size 3 i0 (.int .i64 0) 1 8 Try.underlying33 hi hz0 hz1 hz2 rfl (by decide) (.slice none 0 0) 0 [] rfl (World.ownsRow_nil _ _ _ _) ad len cap (xs.map (Value.int .i64)) rfl (by simpa using Hl.out) hnews (by intro u hu; simp at hu; obtain ⟨x, _, rfl⟩ := hu; rfl) (by unfold maxLen; omega) (by omega) (Nat.le_refl _) ?_; intro v' w1 hown hg _)
      have hbel : Below w.heap.size w w1 := (Below.refl _ _).grown hg (Nat.le_refl _) (by simp [Value.ownBlock])
      simp only [Nat.zero_add, List.nil_append] at hown
      obtain ⟨a', cap', hv, hat, _⟩ := IntsAt.own hown
      go_meet
      exact ⟨a', cap', hv, hat, hbel⟩
  case rest =>
    obtain ⟨a', cap', rfl, hat, hbel⟩ := hcut
    have Hat := Lib.hid hat
    clear hat
    have hm' : len ≤ 140737488355328 := by omega
    go_wp2_with (fail)
    refine (mean_any a' len cap' xs _ hx Hl.out hm' Hat.out).mono ?_
    rintro e w2 ⟨rfl, hb2⟩
    have hr2 := Lib.hid (Hr.out.below hbel)
    have B2 := hbel.trans (hb2.mono hbel.size)
    go_wp2_with (fail)
    refine (rmean_any a len cap xs _ hx Hl.out hm' (Hr.out.below B2)).mono ?_
    rintro e w3 ⟨rfl, hb3⟩
    have B3 := B2.trans (hb3.mono B2.size)
    go_wp2_with (fail)
    refine (live_any _).mono ?_
    rintro e w4 ⟨rfl, hb4⟩
    have B4 := B3.trans (hb4.mono B3.size)
    go_wp2_with (fail)
    refine (same_any _ _ _ _ _).mono ?_
    rintro e w5 ⟨rfl, rfl⟩
    simp only [beq_self_eq_true, Bool.and_self]
    have hat4 := Lib.hid (((Hat.out.below hb2).below hb3).below hb4)
    go_wp2_with (fail)
    refine (plusl_any a' len cap' xs _ hx Hl.out hm' hat4.out).mono ?_
    rintro e w6 ⟨rfl, rfl⟩
    go_wp2_with (fail)
    refine (rplusl_any a len cap xs _ hx Hl.out hm' (Hr.out.below B4)).mono ?_
    rintro e w7 ⟨rfl, hb7⟩
    have B7 := B4.trans (hb7.mono B4.size)
    have hat7 := Lib.hid (hat4.out.below hb7)
    have hr7 := Lib.hid (Hr.out.below B7)
    go_wp2_with (fail)
    go_loopw [8] (fun i wr => ∃ k : Nat, k ≤ len ∧ i = .int .i64 k ∧ Below w7.heap.size w7 wr) (fun i _ => len - (intOf i).toNat)
    case atStart => exact ⟨0, Nat.zero_le _, rfl, Below.refl _ _⟩
    case round =>
      obtain ⟨k, hk, rfl, hbr⟩ := hrel
      by_cases hlt : k < len
      · rcases hat7.out.below hbr with h | ⟨b1, o1, rfl, hlt1, hc1⟩
        · exfalso; have := Hl.out; subst h; simp at this; omega
        · rcases hr7.out.below hbr with h | ⟨b2, o2, rfl, hlt2, hc2⟩
          · exfalso; have := Hl.out; subst h; simp at this; omega
          · have d1 := hc1 k (by rw [Hl.out]; exact hlt)
            have d2 := hc2 k (by rw [Hl.out]; exact hlt)
            generalize xs.getD k 0 = X at *
            clear hc1 hc2
            have k0 : (0 : Int) ≤ k := by omega
            have k1 : (k : Int) < len := by omega
            have hne : (X != X) = false := by simp
            go_wp2_with (fail)
            go_quiet (fail)
            go_wp2_with (fail)
            go_roundw
            case rel => exact ⟨k + 1, by omega, by go_num, below_drewN hbr _⟩
            case measure => simp [intOf]; omega
      · have hkl : k = len := by omega
        subst hkl
        go_wp2_with (fail)
        go_ret
        exact ⟨rfl, B7.trans (hbr.mono B7.size)⟩
end Go.Proofs.Ytdglclgjiilfkaa
