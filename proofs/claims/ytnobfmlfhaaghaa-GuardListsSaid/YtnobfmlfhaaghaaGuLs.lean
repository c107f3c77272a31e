/- guard.Lists, the reference's Lists. -/
import Derived.Test.YtnobfmlfhaaghaaGuI
import Derived.Test.YtnobfmlfhaaghaaRulesIn
import Derived.Test.YtnobfmlfhaaghaaHandB
namespace Go.Proofs.Ytnobfmlfhaaghaa
open Go.RowKit
set_option linter.unusedVariables false
set_option linter.unusedSimpArgs false

/-- Whether a rule of another resource, or one that lets pass. -/
def passA (resource origin : ByteArray) (x : AuthS) : Bool := !(x.res.toList == resource.toList && !listB x.res x.white x.orig origin)
def lstG (p : AuthS → Bool) (bs : List AuthS) : Int × Bool := match bs.findIdx? (fun x => !p x) with | none => (bs.length, true) | some k => (k, false)
theorem lstG_none {p : AuthS → Bool} {bs : List AuthS} (h : ∀ x, x ∈ bs → p x = true) : lstG p bs = ((bs.length : Int), true) := by
  unfold lstG
  rw [List.findIdx?_eq_none_iff.2 (fun x hx => by rw [h x hx]; rfl)]
theorem lstG_some {p : AuthS → Bool} {bs : List AuthS} {k : Nat} (hk : k < bs.length) (hp : p bs[k] = false) (h : ∀ j (hj : j < k), p (bs[j]'(by omega)) = true) : lstG p bs = ((k : Int), false) := by
  unfold lstG
  rw [List.findIdx?_eq_some_iff_getElem.2 ⟨hk, by rw [hp]; rfl, fun j hj => by rw [h j hj]; simp⟩]
theorem au_get {w : World} {a : Option Addr} {bs : List AuthS} (h : RowsAt w a 3 (bs.map AuthS.cs)) {k : Nat} {x : AuthS} (hk : bs[k]? = some x) : ∃ b off, a = some ⟨b, off, none⟩ ∧ b < w.heap.size ∧ w.cell? ⟨b, off + k * 3, none⟩ = some (.string x.res) ∧ w.cell? ⟨b, off + k * 3 + 1, none⟩ = some (.bool x.white) ∧ w.cell? ⟨b, off + k * 3 + 2, none⟩ = some (.slice x.oa x.ol x.oc) := by
  obtain ⟨b, off, e, hl, hc⟩ := rowsAt_getH h (j := k) (x := x.cs) (by rw [List.getElem?_map, hk]; rfl)
  exact ⟨b, off, e, hl, hc 0 (.string x.res) (by decide) rfl, hc 1 (.bool x.white) (by decide) rfl, hc 2 (.slice x.oa x.ol x.oc) (by decide) rfl⟩

set_option maxHeartbeats 6400000 in
set_option maxRecDepth 100000 in
theorem glists_any {w : World} (a : Option Addr) (n cap : Nat) (bs : List AuthS) (hl : bs.length = n) (few : n * 48 ≤ 140737488351232) (hr : RowsAt w a 3 (bs.map AuthS.cs)) (hok : ∀ x ∈ bs, AuthOk w x) (resource origin : ByteArray) :
    Calls Try.prog 16 #[.slice a n cap, .string resource, .string origin] w fun e w' => e = .returned (.tuple #[.int .i64 (lstG (passA resource origin) bs).1, .bool (lstG (passA resource origin) bs).2]) ∧ Below w.heap.size w w' := by
  have HR := Lib.hid hr
  have HOK := Lib.hid hok
  have HL := Lib.hid hl
  clear hr hl hok
  go_enter Try.func16, Try.ntmps16
  go_wp2_with (fail)
  go_loopw [8, 9, 12] (fun _ _ i wr => ∃ (k : Nat), k ≤ n ∧ i = .int .i64 k ∧ Hid (∀ x, x ∈ bs.take k → passA resource origin x = true) ∧ Hid (Below w.heap.size w wr)) (fun _ _ i _ => n - (intOf i).toNat)
  case atStart => exact ⟨0, Nat.zero_le _, rfl, Lib.hid (by simp), Lib.hid (Below.refl _ _)⟩
  case round =>
    rename World => wy
    obtain ⟨k, hk, rfl, HP, HB⟩ := hrel
    have hbz := HB.out.size
    by_cases hlt : k < n
    · have hkl : k < bs.length := by rw [HL.out]; exact hlt
      obtain ⟨gb, off, rfl, hgb, d0, d1, d2⟩ := au_get HR.out (List.getElem?_eq_getElem hkl)
      have k0 : (0 : Int) ≤ k := by omega
      have k1 : (k : Int) < n := by omega
      have hmem : (bs[k]'hkl) ∈ bs := List.getElem_mem hkl
      have d0 := (HB.out.cell (p := ⟨gb, off + k * 3, none⟩) hgb).trans d0
      have d1 := (HB.out.cell (p := ⟨gb, off + k * 3 + 1, none⟩) hgb).trans d1
      have d2 := (HB.out.cell (p := ⟨gb, off + k * 3 + 2, none⟩) hgb).trans d2
      have HY := Lib.hid (HOK.out _ hmem)
      have HTK := Lib.hid (show bs.take (k + 1) = bs.take k ++ [bs[k]'hkl] from List.take_succ_eq_append_getElem hkl)
      have HIX := Lib.hid (fun hp => lstG_some hkl (p := passA resource origin) hp (fun j hj => HP.out _ (by rw [List.mem_take_iff_getElem]; exact ⟨j, by omega, rfl⟩)))
      have HNEXT := Lib.hid (fun hp => show ∀ x, x ∈ bs.take (k + 1) → passA resource origin x = true from fun x hx => by
        rw [HTK.out, List.mem_append] at hx
        rcases hx with hx | hx
        · exact HP.out x hx
        · obtain rfl := List.mem_singleton.1 hx
          exact hp)
      generalize bs[k]'hkl = X at *
      obtain ⟨xr, xw, xo, xl, xc, xs⟩ := X
      dsimp only at *
      have hol := HY.out.l
      have holc := HY.out.lc
      have hob := HY.out.b
      dsimp only at hol holc hob
      have HOC := Lib.hid (And.intro hol (And.intro holc hob))
      have HX := Lib.hid (fun wx (hx : Below w.heap.size w wx) => glist_any (w := wx) xr xw HY.out.z xo xl xc xs HOC.out.1 (by have := HOC.out.2.2; omega) HOC.out.2.1 (HY.out.at_.below2 (Nat.le_refl _) hx) HY.out.iz origin)
      have HPA := Lib.hid (show passA resource origin ⟨xr, xw, xo, xl, xc, xs⟩ = !(xr.toList == resource.toList && !listB xr xw xs origin) from rfl)
      have HAL := Lib.hid (HB.out.alloc hbz (.cells #[.string xr, .bool xw, .slice xo xl xc] 37))
      clear hol holc hob hmem HTK
      generalize listB xr xw xs origin = LB at *
      cases hres : (xr.toList == resource.toList) with
      | false =>
        have hq : ¬ xr.toList = resource.toList := by simpa using hres
        have HN := Lib.hid (HNEXT.out (by rw [HPA.out, hres]; rfl))
        clear HIX HNEXT
        go_wp2_with (fail)
        exact ⟨⟨k + 1, by omega, by go_num, HN, HAL⟩, by first | (simp [intOf]; done) | (simp [intOf]; omega)⟩
      | true =>
        have hq : xr.toList = resource.toList := by simpa using hres
        cases LB with
        | true =>
          have HN := Lib.hid (HNEXT.out (by rw [HPA.out, hres]; rfl))
          clear HIX HNEXT
          go_wp2_with (fail)
          refine (HX.out _ HAL.out).mono ?_
          rintro e wb ⟨rfl, hbb⟩
          have HBB := Lib.hid (HAL.out.trans (hbb.mono HAL.out.size))
          clear hbb
          go_wp2_with (fail)
          exact ⟨⟨k + 1, by omega, by go_num, HN, HBB⟩, by first | (simp [intOf]; done) | (simp [intOf]; omega)⟩
        | false =>
          have HN := Lib.hid (HIX.out (by rw [HPA.out, hres]; rfl))
          clear HIX HNEXT
          go_wp2_with (fail)
          refine (HX.out _ HAL.out).mono ?_
          rintro e wb ⟨rfl, hbb⟩
          have HBB := Lib.hid (HAL.out.trans (hbb.mono HAL.out.size))
          clear hbb
          go_wp2_with (fail)
          go_ret2
          exact ⟨by rw [HN.out]; rfl, HBB.out⟩
    · have k1 : ¬ (k : Int) < n := by omega
      have HALL := Lib.hid (lstG_none (p := passA resource origin) (bs := bs) (fun x hx => HP.out x (by rw [List.take_of_length_le (by rw [HL.out]; omega)]; exact hx)))
      clear HP
      go_wp2_with (fail)
      go_ret2
      exact ⟨by rw [HALL.out, HL.out]; rfl, HB.out⟩

set_option maxHeartbeats 6400000 in
set_option maxRecDepth 100000 in
theorem rlists_any {w : World} (a : Option Addr) (n cap : Nat) (bs : List AuthS) (hl : bs.length = n) (few : n * 48 ≤ 140737488351232) (hr : RowsAt w a 3 (bs.map AuthS.cs)) (hok : ∀ x ∈ bs, AuthOk w x) (resource origin : ByteArray) :
    Calls Try.prog 17 #[.slice a n cap, .string resource, .string origin] w fun e w' => e = .returned (.tuple #[.int .i64 (lstG (passA resource origin) bs).1, .bool (lstG (passA resource origin) bs).2]) ∧ Below w.heap.size w w' := by
  have HR := Lib.hid hr
  have HOK := Lib.hid hok
  have HL := Lib.hid hl
  clear hr hl hok
  go_enter Try.func17, Try.ntmps17
  go_wp2_with (fail)
  go_loopw [8] (fun i wr => ∃ (k : Nat), k ≤ n ∧ i = .int .i64 k ∧ Hid (∀ x, x ∈ bs.take k → passA resource origin x = true) ∧ Hid (Below w.heap.size w wr)) (fun i _ => n - (intOf i).toNat)
  case atStart => exact ⟨0, Nat.zero_le _, rfl, Lib.hid (by simp), Lib.hid (Below.refl _ _)⟩
  case round =>
    rename World => wy
    obtain ⟨k, hk, rfl, HP, HB⟩ := hrel
    have hbz := HB.out.size
    by_cases hlt : k < n
    · have hkl : k < bs.length := by rw [HL.out]; exact hlt
      obtain ⟨gb, off, rfl, hgb, d0, d1, d2⟩ := au_get HR.out (List.getElem?_eq_getElem hkl)
      have k0 : (0 : Int) ≤ k := by omega
      have k1 : (k : Int) < n := by omega
      have hmem : (bs[k]'hkl) ∈ bs := List.getElem_mem hkl
      have d0 := (HB.out.cell (p := ⟨gb, off + k * 3, none⟩) hgb).trans d0
      have d1 := (HB.out.cell (p := ⟨gb, off + k * 3 + 1, none⟩) hgb).trans d1
      have d2 := (HB.out.cell (p := ⟨gb, off + k * 3 + 2, none⟩) hgb).trans d2
      have HY := Lib.hid (HOK.out _ hmem)
      have HTK := Lib.hid (show bs.take (k + 1) = bs.take k ++ [bs[k]'hkl] from List.take_succ_eq_append_getElem hkl)
      have HIX := Lib.hid (fun hp => lstG_some hkl (p := passA resource origin) hp (fun j hj => HP.out _ (by rw [List.mem_take_iff_getElem]; exact ⟨j, by omega, rfl⟩)))
      have HNEXT := Lib.hid (fun hp => show ∀ x, x ∈ bs.take (k + 1) → passA resource origin x = true from fun x hx => by
        rw [HTK.out, List.mem_append] at hx
        rcases hx with hx | hx
        · exact HP.out x hx
        · obtain rfl := List.mem_singleton.1 hx
          exact hp)
      generalize bs[k]'hkl = X at *
      obtain ⟨xr, xw, xo, xl, xc, xs⟩ := X
      dsimp only at *
      have hol := HY.out.l
      have holc := HY.out.lc
      have hob := HY.out.b
      dsimp only at hol holc hob
      have HOC := Lib.hid (And.intro hol (And.intro holc hob))
      have HX := Lib.hid (fun wx (hx : Below w.heap.size w wx) => r16list_any (w := wx) xr xw HY.out.z xo xl xc xs HOC.out.1 (by have := HOC.out.2.2; omega) (HY.out.at_.below2 (Nat.le_refl _) hx) HY.out.iz origin)
      have HPA := Lib.hid (show passA resource origin ⟨xr, xw, xo, xl, xc, xs⟩ = !(xr.toList == resource.toList && !listB xr xw xs origin) from rfl)
      have HAL := HB
      clear hol holc hob hmem HTK
      generalize listB xr xw xs origin = LB at *
      cases hres : (xr.toList == resource.toList) with
      | false =>
        have hq : ¬ xr.toList = resource.toList := by simpa using hres
        have HN := Lib.hid (HNEXT.out (by rw [HPA.out, hres]; rfl))
        clear HIX HNEXT
        go_wp2_with (fail)
        exact ⟨⟨k + 1, by omega, by go_num, HN, HAL⟩, by first | (simp [intOf]; done) | (simp [intOf]; omega)⟩
      | true =>
        have hq : xr.toList = resource.toList := by simpa using hres
        cases LB with
        | true =>
          have HN := Lib.hid (HNEXT.out (by rw [HPA.out, hres]; rfl))
          clear HIX HNEXT
          go_wp2_with (fail)
          refine (HX.out _ HAL.out).mono ?_
          rintro e wb ⟨rfl, hbb⟩
          have HBB := Lib.hid (HAL.out.trans (hbb.mono HAL.out.size))
          clear hbb
          go_wp2_with (fail)
          exact ⟨⟨k + 1, by omega, by go_num, HN, HBB⟩, by first | (simp [intOf]; done) | (simp [intOf]; omega)⟩
        | false =>
          have HN := Lib.hid (HIX.out (by rw [HPA.out, hres]; rfl))
          clear HIX HNEXT
          go_wp2_with (fail)
          refine (HX.out _ HAL.out).mono ?_
          rintro e wb ⟨rfl, hbb⟩
          have HBB := Lib.hid (HAL.out.trans (hbb.mono HAL.out.size))
          clear hbb
          go_wp2_with (fail)
          go_ret2
          exact ⟨by rw [HN.out]; rfl, HBB.out⟩
    · have k1 : ¬ (k : Int) < n := by omega
      have HALL := Lib.hid (lstG_none (p := passA resource origin) (bs := bs) (fun x hx => HP.out x (by rw [List.take_of_length_le (by rw [HL.out]; omega)]; exact hx)))
      clear HP
      go_wp2_with (fail)
      go_ret2
      exact ⟨by rw [HALL.out, HL.out]; rfl, HB.out⟩
end Go.Proofs.Ytnobfmlfhaaghaa
