/- slices.EqualFunc at hot rules and lists. -/
import Derived.Test.YtgkdpkpiejjfmaaRCpC
namespace Go.Proofs.Ytgkdpkpiejjfmaa
open Go.RowKit
set_option linter.unusedVariables false
set_option linter.unusedSimpArgs false

set_option maxHeartbeats 3200000 in
set_option maxRecDepth 20000 in
theorem eqfHotS_any {w : World} (a b : Option Addr) (n m ca cb : Nat) (xs ys : List HotS) (hx : xs.length = n) (hy : ys.length = m) (hm : n ≤ 140737488355328) (ha : RowsAt w a 5 (xs.map HotS.cs)) (hb : RowsAt w b 5 (ys.map HotS.cs)) (hox : ∀ x ∈ xs, HotOk w x) (hoy : ∀ y ∈ ys, HotOk w y) :
    Calls Try.prog 25 #[.slice a n ca, .slice b m cb, .func (.func 26) #[] #[]] w (Tells (xs.map hK = ys.map hK) w) := by
  have HA := Lib.hid ha
  have HB := Lib.hid hb
  have HX := Lib.hid hx
  have HY := Lib.hid hy
  have HOX := Lib.hid hox
  have HOY := Lib.hid hoy
  clear ha hb hx hy hox hoy
  by_cases hnm : n = m
  · subst hnm
    go_enter Try.func25, Try.ntmps25
    go_wp2_with (fail)
    go_loopw [7, 8, 9, 17] (fun _ _ _ i wr => ∃ k : Nat, k ≤ n ∧ i = .int .i64 k ∧ Hid (∀ j, j < k → (xs.map hK)[j]? = (ys.map hK)[j]?) ∧ Hid (Below w.heap.size w wr)) (fun _ _ _ i _ => n - (intOf i).toNat)
    case atStart => exact ⟨0, Nat.zero_le _, rfl, Lib.hid (fun j h => by omega), Lib.hid (Below.refl _ _)⟩
    case round =>
      rename World => wr
      obtain ⟨k, hk, rfl, HE, HW⟩ := hrel
      by_cases hlt : k < n
      · have k0 : (0 : Int) ≤ k := by omega
        have k1 : (k : Int) < n := by omega
        obtain ⟨x, hx⟩ : ∃ x, xs[k]? = some x := ⟨_, List.getElem?_eq_getElem (by rw [HX.out]; exact hlt)⟩
        obtain ⟨y, hy⟩ : ∃ y, ys[k]? = some y := ⟨_, List.getElem?_eq_getElem (by rw [HY.out]; exact hlt)⟩
        have HXX := Lib.hid (show (xs.map hK)[k]? = some (hK x) by rw [List.getElem?_map, hx]; rfl)
        have HYY := Lib.hid (show (ys.map hK)[k]? = some (hK y) by rw [List.getElem?_map, hy]; rfl)
        rcases HA.out with h | ⟨g, off, rfl, hg, hc⟩
        · have h3 := HX.out
          rw [List.map_eq_nil_iff.1 h] at h3
          exact absurd h3 (by show ¬ (0 = n); omega)
        · rcases HB.out with h | ⟨g', off', rfl, hg', hc'⟩
          · have h3 := HY.out
            rw [List.map_eq_nil_iff.1 h] at h3
            exact absurd h3 (by show ¬ (0 = n); omega)
          · have hxc := hc k x.cs (by rw [List.getElem?_map, hx]; rfl)
            have hyc := hc' k y.cs (by rw [List.getElem?_map, hy]; rfl)
            have d0 := (HW.out.cell (p := ⟨g, off + k * 5 + 0, none⟩) hg).trans (hxc 0 (.string x.res) (by decide) rfl)
            have d1 := (HW.out.cell (p := ⟨g, off + k * 5 + 1, none⟩) hg).trans (hxc 1 (.int .i64 x.idx) (by decide) rfl)
            have d2 := (HW.out.cell (p := ⟨g, off + k * 5 + 2, none⟩) hg).trans (hxc 2 (.int .i64 x.cnt) (by decide) rfl)
            have d3 := (HW.out.cell (p := ⟨g, off + k * 5 + 3, none⟩) hg).trans (hxc 3 (.int .i64 x.secs) (by decide) rfl)
            have d4 := (HW.out.cell (p := ⟨g, off + k * 5 + 4, none⟩) hg).trans (hxc 4 (.slice x.ia x.il x.ic) (by decide) rfl)
            have e0 := (HW.out.cell (p := ⟨g', off' + k * 5 + 0, none⟩) hg').trans (hyc 0 (.string y.res) (by decide) rfl)
            have e1 := (HW.out.cell (p := ⟨g', off' + k * 5 + 1, none⟩) hg').trans (hyc 1 (.int .i64 y.idx) (by decide) rfl)
            have e2 := (HW.out.cell (p := ⟨g', off' + k * 5 + 2, none⟩) hg').trans (hyc 2 (.int .i64 y.cnt) (by decide) rfl)
            have e3 := (HW.out.cell (p := ⟨g', off' + k * 5 + 3, none⟩) hg').trans (hyc 3 (.int .i64 y.secs) (by decide) rfl)
            have e4 := (HW.out.cell (p := ⟨g', off' + k * 5 + 4, none⟩) hg').trans (hyc 4 (.slice y.ia y.il y.ic) (by decide) rfl)
            rw [Nat.add_zero] at d0 e0
            have hgz : g' < wr.heap.size := Nat.lt_of_lt_of_le hg' HW.out.size
            have f0 : ∀ o, (wr.alloc o).cell? ⟨g', off' + k * 5, none⟩ = some (.string y.res) := fun o => (World.cell?_of_block (a := ⟨g', off' + k * 5, none⟩) (Below.heap_alloc wr o g' hgz)).trans e0
            have f1 : ∀ o, (wr.alloc o).cell? ⟨g', off' + k * 5 + 1, none⟩ = some (.int .i64 y.idx) := fun o => (World.cell?_of_block (a := ⟨g', off' + k * 5 + 1, none⟩) (Below.heap_alloc wr o g' hgz)).trans e1
            have f2 : ∀ o, (wr.alloc o).cell? ⟨g', off' + k * 5 + 2, none⟩ = some (.int .i64 y.cnt) := fun o => (World.cell?_of_block (a := ⟨g', off' + k * 5 + 2, none⟩) (Below.heap_alloc wr o g' hgz)).trans e2
            have f3 : ∀ o, (wr.alloc o).cell? ⟨g', off' + k * 5 + 3, none⟩ = some (.int .i64 y.secs) := fun o => (World.cell?_of_block (a := ⟨g', off' + k * 5 + 3, none⟩) (Below.heap_alloc wr o g' hgz)).trans e3
            have f4 : ∀ o, (wr.alloc o).cell? ⟨g', off' + k * 5 + 4, none⟩ = some (.slice y.ia y.il y.ic) := fun o => (World.cell?_of_block (a := ⟨g', off' + k * 5 + 4, none⟩) (Below.heap_alloc wr o g' hgz)).trans e4
            have HS := Lib.hid (fun (wx : World) (hb : Below w.heap.size w wx) => sameHot_any (w := wx) x y ((HOX.out x (List.mem_of_getElem? hx)).below (Nat.le_refl _) hb) ((HOY.out y (List.mem_of_getElem? hy)).below (Nat.le_refl _) hb))
            clear hc hc' hxc hyc hg hg' hx hy hgz
            go_wp2_with (fail)
            have hal := (HW.out.alloc HW.out.size (.cells #[.string x.res, .int .i64 x.idx, .int .i64 x.cnt, .int .i64 x.secs, .slice x.ia x.il x.ic] 44)).alloc (by simp; have := HW.out.size; omega) (.cells #[.string y.res, .int .i64 y.idx, .int .i64 y.cnt, .int .i64 y.secs, .slice y.ia y.il y.ic] 44)
            have HAL := Lib.hid hal
            refine (HS.out _ hal).mono ?_
            rintro e w1 ⟨⟨t, rfl, ht⟩, hb1⟩
            have HT := Lib.hid ht
            have HBN := Lib.hid (HAL.out.trans (hb1.mono HAL.out.size))
            clear ht hb1 hal HAL HS f0 f1 f2 f3 f4 d0 e0 d1 e1 d2 e2 d3 e3 d4 e4
            cases t with
            | true =>
              go_wp2_with (fail)
              exact ⟨⟨k + 1, by omega, by go_num, Lib.hid (fun j hj => by
                by_cases h : j = k
                · subst h; rw [HXX.out, HYY.out, HT.out.1 (by trivial)]
                · exact HE.out j (by omega)), HBN⟩, by first | (simp [intOf]; done) | (simp [intOf]; omega)⟩
            | false =>
              go_wp2_with (fail)
              go_ret
              refine ⟨⟨false, rfl, fun h => absurd h (by decide), fun h => ?_⟩, HBN.out⟩
              exfalso
              have h1 := HXX.out
              rw [h, HYY.out] at h1
              exact absurd (HT.out.2 (Option.some.inj h1).symm) (by decide)
      · have k1 : ¬ (k : Int) < n := by omega
        go_wp2_with (fail)
        go_ret
        refine ⟨⟨true, rfl, fun _ => ?_, fun _ => rfl⟩, HW.out⟩
        refine List.ext_getElem? (fun j => ?_)
        by_cases h : j < k
        · exact HE.out j h
        · rw [List.getElem?_eq_none (by rw [List.length_map, HX.out]; omega), List.getElem?_eq_none (by rw [List.length_map, HY.out]; omega)]
  · go_enter Try.func25, Try.ntmps25
    have hnm' : ¬ (n : Int) = m := by omega
    go_wp2_with (fail)
    go_ret
    exact ⟨⟨false, rfl, fun h => absurd h (by decide), fun h => absurd (by have := congrArg List.length h; rwa [List.length_map, List.length_map, HX.out, HY.out] at this) hnm⟩, Below.refl _ _⟩
set_option maxHeartbeats 3200000 in
set_option maxRecDepth 20000 in
theorem eqfAuthS_any {w : World} (a b : Option Addr) (n m ca cb : Nat) (xs ys : List AuthS) (hx : xs.length = n) (hy : ys.length = m) (hm : n ≤ 140737488355328) (ha : RowsAt w a 3 (xs.map AuthS.cs)) (hb : RowsAt w b 3 (ys.map AuthS.cs)) (hox : ∀ x ∈ xs, AuthOk w x) (hoy : ∀ y ∈ ys, AuthOk w y) :
    Calls Try.prog 27 #[.slice a n ca, .slice b m cb, .func (.func 28) #[] #[]] w (Tells (xs.map aK = ys.map aK) w) := by
  have HA := Lib.hid ha
  have HB := Lib.hid hb
  have HX := Lib.hid hx
  have HY := Lib.hid hy
  have HOX := Lib.hid hox
  have HOY := Lib.hid hoy
  clear ha hb hx hy hox hoy
  by_cases hnm : n = m
  · subst hnm
    go_enter Try.func27, Try.ntmps27
    go_wp2_with (fail)
    go_loopw [7, 8, 9, 17] (fun _ _ _ i wr => ∃ k : Nat, k ≤ n ∧ i = .int .i64 k ∧ Hid (∀ j, j < k → (xs.map aK)[j]? = (ys.map aK)[j]?) ∧ Hid (Below w.heap.size w wr)) (fun _ _ _ i _ => n - (intOf i).toNat)
    case atStart => exact ⟨0, Nat.zero_le _, rfl, Lib.hid (fun j h => by omega), Lib.hid (Below.refl _ _)⟩
    case round =>
      rename World => wr
      obtain ⟨k, hk, rfl, HE, HW⟩ := hrel
      by_cases hlt : k < n
      · have k0 : (0 : Int) ≤ k := by omega
        have k1 : (k : Int) < n := by omega
        obtain ⟨x, hx⟩ : ∃ x, xs[k]? = some x := ⟨_, List.getElem?_eq_getElem (by rw [HX.out]; exact hlt)⟩
        obtain ⟨y, hy⟩ : ∃ y, ys[k]? = some y := ⟨_, List.getElem?_eq_getElem (by rw [HY.out]; exact hlt)⟩
        have HXX := Lib.hid (show (xs.map aK)[k]? = some (aK x) by rw [List.getElem?_map, hx]; rfl)
        have HYY := Lib.hid (show (ys.map aK)[k]? = some (aK y) by rw [List.getElem?_map, hy]; rfl)
        rcases HA.out with h | ⟨g, off, rfl, hg, hc⟩
        · have h3 := HX.out
          rw [List.map_eq_nil_iff.1 h] at h3
          exact absurd h3 (by show ¬ (0 = n); omega)
        · rcases HB.out with h | ⟨g', off', rfl, hg', hc'⟩
          · have h3 := HY.out
            rw [List.map_eq_nil_iff.1 h] at h3
            exact absurd h3 (by show ¬ (0 = n); omega)
          · have hxc := hc k x.cs (by rw [List.getElem?_map, hx]; rfl)
            have hyc := hc' k y.cs (by rw [List.getElem?_map, hy]; rfl)
            have d0 := (HW.out.cell (p := ⟨g, off + k * 3 + 0, none⟩) hg).trans (hxc 0 (.string x.res) (by decide) rfl)
            have d1 := (HW.out.cell (p := ⟨g, off + k * 3 + 1, none⟩) hg).trans (hxc 1 (.bool x.white) (by decide) rfl)
            have d2 := (HW.out.cell (p := ⟨g, off + k * 3 + 2, none⟩) hg).trans (hxc 2 (.slice x.oa x.ol x.oc) (by decide) rfl)
            have e0 := (HW.out.cell (p := ⟨g', off' + k * 3 + 0, none⟩) hg').trans (hyc 0 (.string y.res) (by decide) rfl)
            have e1 := (HW.out.cell (p := ⟨g', off' + k * 3 + 1, none⟩) hg').trans (hyc 1 (.bool y.white) (by decide) rfl)
            have e2 := (HW.out.cell (p := ⟨g', off' + k * 3 + 2, none⟩) hg').trans (hyc 2 (.slice y.oa y.ol y.oc) (by decide) rfl)
            rw [Nat.add_zero] at d0 e0
            have hgz : g' < wr.heap.size := Nat.lt_of_lt_of_le hg' HW.out.size
            have f0 : ∀ o, (wr.alloc o).cell? ⟨g', off' + k * 3, none⟩ = some (.string y.res) := fun o => (World.cell?_of_block (a := ⟨g', off' + k * 3, none⟩) (Below.heap_alloc wr o g' hgz)).trans e0
            have f1 : ∀ o, (wr.alloc o).cell? ⟨g', off' + k * 3 + 1, none⟩ = some (.bool y.white) := fun o => (World.cell?_of_block (a := ⟨g', off' + k * 3 + 1, none⟩) (Below.heap_alloc wr o g' hgz)).trans e1
            have f2 : ∀ o, (wr.alloc o).cell? ⟨g', off' + k * 3 + 2, none⟩ = some (.slice y.oa y.ol y.oc) := fun o => (World.cell?_of_block (a := ⟨g', off' + k * 3 + 2, none⟩) (Below.heap_alloc wr o g' hgz)).trans e2
            have HS := Lib.hid (fun (wx : World) (hb : Below w.heap.size w wx) => sameAuth_any (w := wx) x y ((HOX.out x (List.mem_of_getElem? hx)).below (Nat.le_refl _) hb) ((HOY.out y (List.mem_of_getElem? hy)).below (Nat.le_refl _) hb))
            clear hc hc' hxc hyc hg hg' hx hy hgz
            go_wp2_with (fail)
            have hal := (HW.out.alloc HW.out.size (.cells #[.string x.res, .bool x.white, .slice x.oa x.ol x.oc] 48)).alloc (by simp; have := HW.out.size; omega) (.cells #[.string y.res, .bool y.white, .slice y.oa y.ol y.oc] 48)
            have HAL := Lib.hid hal
            refine (HS.out _ hal).mono ?_
            rintro e w1 ⟨⟨t, rfl, ht⟩, hb1⟩
            have HT := Lib.hid ht
            have HBN := Lib.hid (HAL.out.trans (hb1.mono HAL.out.size))
            clear ht hb1 hal HAL HS f0 f1 f2 d0 e0 d1 e1 d2 e2
            cases t with
            | true =>
              go_wp2_with (fail)
              exact ⟨⟨k + 1, by omega, by go_num, Lib.hid (fun j hj => by
                by_cases h : j = k
                · subst h; rw [HXX.out, HYY.out, HT.out.1 (by trivial)]
                · exact HE.out j (by omega)), HBN⟩, by first | (simp [intOf]; done) | (simp [intOf]; omega)⟩
            | false =>
              go_wp2_with (fail)
              go_ret
              refine ⟨⟨false, rfl, fun h => absurd h (by decide), fun h => ?_⟩, HBN.out⟩
              exfalso
              have h1 := HXX.out
              rw [h, HYY.out] at h1
              exact absurd (HT.out.2 (Option.some.inj h1).symm) (by decide)
      · have k1 : ¬ (k : Int) < n := by omega
        go_wp2_with (fail)
        go_ret
        refine ⟨⟨true, rfl, fun _ => ?_, fun _ => rfl⟩, HW.out⟩
        refine List.ext_getElem? (fun j => ?_)
        by_cases h : j < k
        · exact HE.out j h
        · rw [List.getElem?_eq_none (by rw [List.length_map, HX.out]; omega), List.getElem?_eq_none (by rw [List.length_map, HY.out]; omega)]
  · go_enter Try.func27, Try.ntmps27
    have hnm' : ¬ (n : Int) = m := by omega
    go_wp2_with (fail)
    go_ret
    exact ⟨⟨false, rfl, fun h => absurd h (by decide), fun h => absurd (by have := congrArg List.length h; rwa [List.length_map, List.length_map, HX.out, HY.out] at this) hnm⟩, Below.refl _ _⟩
end Go.Proofs.Ytgkdpkpiejjfmaa
