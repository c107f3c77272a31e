/- slices.Clone of items and texts: own rows. -/
import Derived.Test.YtgkdpkpiejjfmaaRCpF
import Derived.Test.YtgkdpkpiejjfmaaRowsOf
import Derived.Test.YtgkdpkpiejjfmaaLay2
import Derived.Test.YtgkdpkpiejjfmaaRJoin
namespace Go.Proofs.Ytgkdpkpiejjfmaa
open Go.RowKit
set_option linter.unusedVariables false
set_option linter.unusedSimpArgs false

theorem cs_len_itG (xs : List ItemS) : ∀ r ∈ xs.map ItemS.cs, r.length = 2 := by intro r hr; obtain ⟨x, _, rfl⟩ := List.mem_map.1 hr; rfl
set_option maxHeartbeats 3200000 in
set_option maxRecDepth 100000 in
theorem itclone_zeroG {w : World} (a : Addr) (c : Nat) : Calls Try.prog 14 #[.slice (some a) 0 c] w fun e w' => e = .returned (.slice (some ⟨w.heap.size, 0, none⟩) 0 0) ∧ w'.ownsRow w.heap.size 46 2 (.slice (some ⟨w.heap.size, 0, none⟩) 0 0) 0 [] ∧ Below w.heap.size w w' := by
  have HB := Lib.hid (fun o => (Below.refl w.heap.size w).alloc (Nat.le_refl _) o)
  have HL := Lib.hid (show (w.alloc (.cells #[] 46)).ownsRow w.heap.size 46 2 (.slice (some ⟨w.heap.size, 0, none⟩) 0 0) 0 [] from World.ownsRow_lit (base := w.heap.size) (e := 46) (size := 2) w #[] 0 (Nat.le_refl _) (by unfold maxLen; omega) rfl)
  have hq := fun w => Lib.run_eql_slice_nil (P := Try.prog) w 42 _ (some a) 0 c 0 0 Try.underlying42
  go_enter Try.func14, Try.ntmps14
  go_wp2_with (fail)
  go_ret
  exact ⟨rfl, HL.out, HB.out _⟩
theorem own_sliceG {w : World} {base size n : Nat} {e : TypeId} {v : Value} {xs : List Value} (h : w.ownsRow base e size v n xs) : ∃ a c, v = .slice a n c := by
  rcases h.2 with ⟨rfl, h2⟩ | ⟨g, cap, cur, rfl, _⟩
  · exact ⟨none, 0, by rw [h2]⟩
  · exact ⟨_, cap, rfl⟩
theorem itclone_own {w : World} (R : HotS) (ok : HotOk w R) : Calls Try.prog 14 #[.slice R.ia R.il R.ic] w fun e w' => ∃ a' c', e = .returned (.slice a' R.il c') ∧ w'.ownsRow w.heap.size 46 2 (.slice a' R.il c') R.il ((R.items.map ItemS.cs).flatten) ∧ Below w.heap.size w w' := by
  have hl := ok.l
  cases hia : R.ia with
  | none =>
    obtain ⟨h1, h2⟩ := ok.nil hia
    have h : Calls Try.prog 14 #[.slice none R.il R.ic] w _ := AnyE.slices_Clone_nil Try.lcloneI R.il R.ic w
    refine h.mono ?_
    rintro e w' ⟨rfl, rfl⟩
    have h3 : R.items = [] := List.length_eq_zero_iff.1 (hl.trans h1)
    refine ⟨none, 0, by rw [h1], ?_, Below.refl _ _⟩
    rw [h1, h3]
    exact World.ownsRow_nil _ _ _ _
  | some a =>
    by_cases hz : R.il = 0
    · have h3 : R.items = [] := List.length_eq_zero_iff.1 (hl.trans hz)
      rw [hz, h3]
      refine (itclone_zeroG a R.ic).mono ?_
      rintro e w' ⟨rfl, ho, hb⟩
      exact ⟨_, 0, rfl, ho, hb⟩
    · rcases ok.at_ with h | ⟨b, off, h1, h2, h3⟩
      · rw [List.map_eq_nil_iff.1 h] at hl
        exact absurd hl.symm hz
      · rw [hia] at h1
        injection h1 with h1
        subst h1
        obtain ⟨iiti, iit0, iit1, iit2, iit3⟩ := info_partsO info_itJ
        have hL := cs_len_itG R.items
        have hm : (R.items.map ItemS.cs).length = R.il := by rw [List.length_map]; exact hl
        have h : Calls Try.prog 14 #[.slice (some ⟨b, off, none⟩) R.il R.ic] w _ :=
          AnyE.slices_Clone Try.lcloneI iiti _ 2 24 iit0 iit1 iit2 iit3 rfl (by omega) Try.sizeOf46 b off R.il R.ic (R.items.map ItemS.cs).flatten w (by rw [flatten_len hL, hm]) (by have := ok.b; unfold maxLen; omega) (by have := ok.b; omega)
            (fun j u hj => by
              have := rowsAt_cells hL (by omega) (hia ▸ ok.at_) _ rfl j u hj
              rw [Go.WideShapes.add_plain] at this
              exact this) (fun u hu => by
              obtain ⟨r, hr, hu⟩ := List.mem_flatten.1 hu
              obtain ⟨x, _, rfl⟩ := List.mem_map.1 hr
              simp only [ItemS.cs, List.mem_cons, List.not_mem_nil, or_false] at hu
              rcases hu with rfl | rfl <;> rfl)
        refine h.mono ?_
        rintro e w' ⟨v', rfl, hown, hne, hb⟩
        obtain ⟨a', c', rfl⟩ := own_sliceG hown
        exact ⟨a', c', rfl, hown, hb⟩
theorem txclone_own {w : World} (R : AuthS) (ok : AuthOk w R) : Calls Try.prog 15 #[.slice R.oa R.ol R.oc] w fun e w' => ∃ a' c', e = .returned (.slice a' R.ol c') ∧ w'.ownsRow w.heap.size 9 1 (.slice a' R.ol c') R.ol (R.orig.map Value.string) ∧ Below w.heap.size w w' := by
  have hl := ok.l
  cases hoa : R.oa with
  | none =>
    obtain ⟨h1, h2⟩ := ok.nil hoa
    refine (Try.slices_Clone_string_nil R.ol R.oc w).mono ?_
    rintro e w' ⟨rfl, rfl⟩
    have h3 : R.orig = [] := List.length_eq_zero_iff.1 (hl.trans h1)
    refine ⟨none, 0, by rw [h1], ?_, Below.refl _ _⟩
    rw [h1, h3]
    exact World.ownsRow_nil _ _ _ _
  | some a =>
    by_cases hz : R.ol = 0
    · have h3 : R.orig = [] := List.length_eq_zero_iff.1 (hl.trans hz)
      rw [hz, h3]
      refine (Try.slices_Clone_string_zero a R.oc w).mono ?_
      rintro e w' ⟨v', rfl, ho, _, hb⟩
      obtain ⟨a', c', rfl⟩ := own_sliceG ho
      exact ⟨a', c', rfl, ho, hb⟩
    · rcases ok.at_ with h | ⟨b, off, h1, h2, h3⟩
      · rw [h] at hl
        exact absurd hl.symm hz
      · rw [hoa] at h1
        injection h1 with h1
        subst h1
        refine (Try.slices_Clone_string b off R.ol R.oc R.orig w (by omega) (by have := ok.b; omega) h3).mono ?_
        rintro e w' ⟨v', rfl, hown, hne, hb⟩
        rw [List.take_of_length_le (by omega)] at hown
        obtain ⟨a', c', rfl⟩ := own_sliceG hown
        exact ⟨a', c', rfl, hown, hb⟩
end Go.Proofs.Ytgkdpkpiejjfmaa
