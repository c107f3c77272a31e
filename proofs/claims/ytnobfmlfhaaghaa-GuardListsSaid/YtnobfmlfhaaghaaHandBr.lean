/- spillwaymem: HandBreaks, SameBreaks, KeptBreaks. -/
import Derived.Test.YtnobfmlfhaaghaaHandB
namespace Go.Proofs.Ytnobfmlfhaaghaa
open Go.RowKit
set_option linter.unusedVariables false
set_option linter.unusedSimpArgs false

def markBr (j : Nat) : List Value := [.string ⟨#[]⟩, .int .u8 0, .int .i64 (-700 - (j : Int)), .int .i64 0, .int .i64 0, .int .i64 0, .int .i64 0]
def zeroBr : List Value := [.string ⟨#[]⟩, .int .u8 0, .int .i64 0, .int .i64 0, .int .i64 0, .int .i64 0, .int .i64 0]
def fullBr (rs : List (List Value)) : List (List Value) := rs ++ (List.range 9).map markBr
theorem infoBr : (Try.prog.info? 104).map (fun i => (i.zero, i.size, i.bytes)) = some (some (.agg #[.string ⟨#[]⟩, .int .u8 0, .int .i64 0, .int .i64 0, .int .i64 0, .int .i64 0, .int .i64 0]), 7, 64) := by kernel_rfl
theorem madeBr (m : Nat) : (madeCells (Value.agg #[.string ⟨#[]⟩, .int .u8 0, .int .i64 0, .int .i64 0, .int .i64 0, .int .i64 0, .int .i64 0]).cells (m * 7)).toList = (List.replicate m zeroBr).flatten := made_rows #[.string ⟨#[]⟩, .int .u8 0, .int .i64 0, .int .i64 0, .int .i64 0, .int .i64 0, .int .i64 0] m (by decide)

theorem lenBr (xs : List BreakS) : ∀ r ∈ xs.map BreakS.cs, r.length = 7 := by intro r hr; obtain ⟨x, _, rfl⟩ := List.mem_map.1 hr; rfl
set_option maxHeartbeats 6400000 in
set_option maxRecDepth 100000 in
theorem handBr_any {w : World} (a : Option Addr) (len cap : Nat) (xs : List BreakS) (hl : xs.length = len) (hb : len * 64 ≤ 140737488351232) (hr : RowsAt w a 7 (xs.map BreakS.cs)) :
    Calls Try.prog 35 #[.slice a len cap] w fun e w' => e = .returned (.slice (some ⟨w.heap.size, 0, none⟩) len (len + 9)) ∧ w'.ownsRow w.heap.size 104 7 (.slice (some ⟨w.heap.size, 0, none⟩) (len + 9) (len + 9)) (len + 9) (fullBr (xs.map BreakS.cs)).flatten ∧ Below w.heap.size w w' := by
  obtain ⟨i0, hi, hz0, hz1, hz2⟩ := info_partsO infoBr
  have HR := Lib.hid hr
  have HN := Lib.hid (lenBr xs)
  obtain ⟨rs, hrs⟩ : ∃ rs, xs.map BreakS.cs = rs := ⟨_, rfl⟩
  have HL := Lib.hid (show rs.length = len by rw [← hrs, List.length_map]; exact hl)
  have HX := Lib.hid (show ∀ k r, rs[k]? = some r → ∃ x : BreakS, r = BreakS.cs x from fun k r h => by rw [← hrs, List.getElem?_map] at h; cases hx : xs[k]? with | none => rw [hx] at h; cases h | some x => rw [hx] at h; exact ⟨x, (Option.some.inj h).symm⟩)
  rw [hrs] at HR HN ⊢
  have hw9 : IntKind.i64.wrap ((len : Int) + 9) = (len : Int) + 9 := by rw [IntKind.wrap_i64]; omega
  have HP : ∀ x y : Int, x = y → IntKind.i64 = IntKind.i64 := fun _ _ _ => rfl
  clear hr hl HP hrs
  go_enter Try.func35, Try.ntmps35
  go_wp2_with (at_make; refine wpList_make_full _ rfl (.tmp 8) (.tmp 8) 41 rfl w.heap.size 104 i0 _ 7 Try.underlying41 hi hz0 hz1 .i64 .i64 _ _ (len + 9) rfl rfl (by simp) (by simp) (by rw [hz2]; omega) (by unfold maxLen; omega) (Nat.le_refl _) ?_; intro w1 hown1 hg1; rw [madeBr] at hown1; have HO1 := Lib.hid hown1; have HG1 := Lib.hid (below_grownH hg1); clear hown1 hg1)
  go_wp2_with (fail)
  have HGS := Lib.hid (HO1.out.lt w.heap.size rfl).2
  obtain ⟨G, hG⟩ : ∃ G, w.heap.size = G := ⟨_, rfl⟩
  rw [hG] at HO1 HGS ⊢
  have HGW := Lib.hid hG
  clear hG
  go_loopw [4] (fun s wr => ∃ k : Nat, k ≤ len ∧ s = .int .i64 k ∧ Hid (wr.ownsRow G 104 7 (.slice (some ⟨G, 0, none⟩) (len + 9) (len + 9)) (len + 9) (rs.take k ++ List.replicate (len + 9 - k) zeroBr).flatten) ∧ Hid (Below G w wr)) (fun s _ => len - (intOf s).toNat)
  case atStart => exact ⟨0, Nat.zero_le _, rfl, Lib.hid (by simpa using HO1.out), Lib.hid (by rw [← HGW.out]; exact HG1.out)⟩
  case round =>
    obtain ⟨k, hk, rfl, HO, HB⟩ := hrel
    have k0 : (0 : Int) ≤ k := by omega
    have hLn : ∀ r ∈ rs.take k ++ List.replicate (len + 9 - k) zeroBr, r.length = 7 := by
      intro r hr
      rcases List.mem_append.1 hr with h | h
      · exact HN.out r (List.mem_of_mem_take h)
      · rw [List.eq_of_mem_replicate h]; rfl
    have HLN := Lib.hid hLn
    clear hLn
    by_cases hlt : k < len
    · have k1 : (k : Int) < len := by omega
      have k2 : (k : Int) < (len : Int) + 9 := by omega
      have hkl : k < rs.length := by rw [HL.out]; exact hlt
      obtain ⟨b, off, rfl, hbl, hc⟩ := rowsAt_getH HR.out (List.getElem?_eq_getElem hkl)
      obtain ⟨x, hu⟩ := HX.out k _ (List.getElem?_eq_getElem hkl)
      rw [hu] at hc
      have HBk := HB.out
      have d0 : wr.cell? ⟨b, off + k * 7, none⟩ = some (.string x.res) := (HB.out.cell (p := ⟨b, off + k * 7 + 0, none⟩) (by rw [← HGW.out]; exact hbl)).trans (hc 0 (.string x.res) (by decide) rfl)
      have d1 : wr.cell? ⟨b, off + k * 7 + 1, none⟩ = some (.int .u8 x.gr) := (HB.out.cell (p := ⟨b, off + k * 7 + 1, none⟩) (by rw [← HGW.out]; exact hbl)).trans (hc 1 (.int .u8 x.gr) (by decide) rfl)
      have d2 : wr.cell? ⟨b, off + k * 7 + 2, none⟩ = some (.int .i64 x.cnt) := (HB.out.cell (p := ⟨b, off + k * 7 + 2, none⟩) (by rw [← HGW.out]; exact hbl)).trans (hc 2 (.int .i64 x.cnt) (by decide) rfl)
      have d3 : wr.cell? ⟨b, off + k * 7 + 3, none⟩ = some (.int .i64 x.slow) := (HB.out.cell (p := ⟨b, off + k * 7 + 3, none⟩) (by rw [← HGW.out]; exact hbl)).trans (hc 3 (.int .i64 x.slow) (by decide) rfl)
      have d4 : wr.cell? ⟨b, off + k * 7 + 4, none⟩ = some (.int .i64 x.least) := (HB.out.cell (p := ⟨b, off + k * 7 + 4, none⟩) (by rw [← HGW.out]; exact hbl)).trans (hc 4 (.int .i64 x.least) (by decide) rfl)
      have d5 : wr.cell? ⟨b, off + k * 7 + 5, none⟩ = some (.int .i64 x.win) := (HB.out.cell (p := ⟨b, off + k * 7 + 5, none⟩) (by rw [← HGW.out]; exact hbl)).trans (hc 5 (.int .i64 x.win) (by decide) rfl)
      have d6 : wr.cell? ⟨b, off + k * 7 + 6, none⟩ = some (.int .i64 x.rec_) := (HB.out.cell (p := ⟨b, off + k * 7 + 6, none⟩) (by rw [← HGW.out]; exact hbl)).trans (hc 6 (.int .i64 x.rec_) (by decide) rfl)
      have hset := rows_put HLN.out HO.out (i := k) (by rw [List.length_append, List.length_take, List.length_replicate]; omega) (r := [.string x.res, .int .u8 x.gr, .int .i64 x.cnt, .int .i64 x.slow, .int .i64 x.least, .int .i64 x.win, .int .i64 x.rec_]) rfl
      have hrow := fun j hj => rows_cell HLN.out (m := len + 9) (by rw [List.length_append, List.length_take, List.length_replicate]; omega) HO.out (i := k) (r := zeroBr) (by rw [List.getElem?_append_right (by rw [List.length_take]; omega), List.length_take, List.getElem?_replicate, if_pos (by omega)]) j hj
      have e0 : wr.cell? ⟨G, k * 7, none⟩ = some (.string ⟨#[]⟩) := hrow 0 (by decide)
      have e1 : wr.cell? ⟨G, k * 7 + 1, none⟩ = some (.int .u8 0) := hrow 1 (by decide)
      have e2 : wr.cell? ⟨G, k * 7 + 2, none⟩ = some (.int .i64 0) := hrow 2 (by decide)
      have e3 : wr.cell? ⟨G, k * 7 + 3, none⟩ = some (.int .i64 0) := hrow 3 (by decide)
      have e4 : wr.cell? ⟨G, k * 7 + 4, none⟩ = some (.int .i64 0) := hrow 4 (by decide)
      have e5 : wr.cell? ⟨G, k * 7 + 5, none⟩ = some (.int .i64 0) := hrow 5 (by decide)
      have e6 : wr.cell? ⟨G, k * 7 + 6, none⟩ = some (.int .i64 0) := hrow 6 (by decide)
      have f0 : wr.frozen? ⟨G, k * 7, none⟩ = false := HO.out.frozenAt _
      have f1 : wr.frozen? ⟨G, k * 7 + 1, none⟩ = false := HO.out.frozenAt _
      have f2 : wr.frozen? ⟨G, k * 7 + 2, none⟩ = false := HO.out.frozenAt _
      have f3 : wr.frozen? ⟨G, k * 7 + 3, none⟩ = false := HO.out.frozenAt _
      have f4 : wr.frozen? ⟨G, k * 7 + 4, none⟩ = false := HO.out.frozenAt _
      have f5 : wr.frozen? ⟨G, k * 7 + 5, none⟩ = false := HO.out.frozenAt _
      have f6 : wr.frozen? ⟨G, k * 7 + 6, none⟩ = false := HO.out.frozenAt _
      have HS := Lib.hid hset
      have HT := Lib.hid (show (rs.take k ++ List.replicate (len + 9 - k) zeroBr).set k [.string x.res, .int .u8 x.gr, .int .i64 x.cnt, .int .i64 x.slow, .int .i64 x.least, .int .i64 x.win, .int .i64 x.rec_] = rs.take (k + 1) ++ List.replicate (len + 9 - (k + 1)) zeroBr by
        rw [show len + 9 - k = (len + 9 - (k + 1)) + 1 by omega, set_fill (by rw [List.length_take]; omega), show [.string x.res, .int .u8 x.gr, .int .i64 x.cnt, .int .i64 x.slow, .int .i64 x.least, .int .i64 x.win, .int .i64 x.rec_] = BreakS.cs x from rfl, ← hu]
        rw [show rs.take (k + 1) = rs.take k ++ [rs[k]'hkl] from List.take_succ_eq_append_getElem hkl])
      clear hset hrow hc hu HBk
      go_wp2_with (fail)
      refine ⟨⟨k + 1, by omega, by go_num, Lib.hid ?_, Lib.hid (HB.out.grown HS.out.2 (by have := HB.out.size; have := HGW.out; omega) (fun j e => by cases e; exact Nat.le_refl _))⟩, by first | (simp [intOf]; done) | (simp [intOf]; omega)⟩
      rw [← HT.out]
      exact HS.out.1
    · have hkn : k = len := by omega
      subst hkn
      have HO2 : Hid (wr.ownsRow G 104 7 (.slice (some ⟨G, 0, none⟩) (k + 9) (k + 9)) (k + 9) (rs ++ List.replicate 9 zeroBr).flatten) := Lib.hid (by
        have := HO.out
        rwa [List.take_of_length_le (by rw [HL.out]; exact Nat.le_refl _), show k + 9 - k = 9 by omega] at this)
      clear HO HLN
      go_wp2_with (fail)
      go_loopw [5] (fun s wr => ∃ j : Nat, j ≤ 9 ∧ s = .int .i64 ((k : Int) + j) ∧ Hid (wr.ownsRow G 104 7 (.slice (some ⟨G, 0, none⟩) (k + 9) (k + 9)) (k + 9) (rs ++ ((List.range j).map markBr ++ List.replicate (9 - j) zeroBr)).flatten) ∧ Hid (Below G w wr)) (fun s _ => k + 9 - (intOf s).toNat)
      case atStart => exact ⟨0, by omega, by go_num, HO2, HB⟩
      case round =>
        rename World => wz
        obtain ⟨j, hj, rfl, HO, HB⟩ := hrel
        have j0 : (0 : Int) ≤ (k : Int) + j := by omega
        by_cases hlt : j < 9
        · have j1 : (k : Int) + j < (k : Int) + 9 := by omega
          have hLn : ∀ r ∈ rs ++ ((List.range j).map markBr ++ List.replicate (9 - j) zeroBr), r.length = 7 := by
            intro r hr
            rcases List.mem_append.1 hr with h | h
            · exact HN.out r h
            · rcases List.mem_append.1 h with h | h
              · obtain ⟨q, _, rfl⟩ := List.mem_map.1 h; rfl
              · rw [List.eq_of_mem_replicate h]; rfl
          have hlenL : (rs ++ ((List.range j).map markBr ++ List.replicate (9 - j) zeroBr)).length = k + 9 := by simp; have := HL.out; omega
          have hget : (rs ++ ((List.range j).map markBr ++ List.replicate (9 - j) zeroBr))[k + j]? = some zeroBr := by
            rw [List.getElem?_append_right (by rw [HL.out]; omega), HL.out, List.getElem?_append_right (by simp), List.length_map, List.length_range, List.getElem?_replicate, if_pos (by omega)]
          have hset := rows_put hLn HO.out (i := k + j) (by rw [hlenL]; omega) (r := markBr j) rfl
          have hrow := fun q hq => rows_cell hLn hlenL HO.out hget q hq
          have e0 : wz.cell? ⟨G, (k + j) * 7, none⟩ = some (.string ⟨#[]⟩) := hrow 0 (by decide)
          have e1 : wz.cell? ⟨G, (k + j) * 7 + 1, none⟩ = some (.int .u8 0) := hrow 1 (by decide)
          have e2 : wz.cell? ⟨G, (k + j) * 7 + 2, none⟩ = some (.int .i64 0) := hrow 2 (by decide)
          have e3 : wz.cell? ⟨G, (k + j) * 7 + 3, none⟩ = some (.int .i64 0) := hrow 3 (by decide)
          have e4 : wz.cell? ⟨G, (k + j) * 7 + 4, none⟩ = some (.int .i64 0) := hrow 4 (by decide)
          have e5 : wz.cell? ⟨G, (k + j) * 7 + 5, none⟩ = some (.int .i64 0) := hrow 5 (by decide)
          have e6 : wz.cell? ⟨G, (k + j) * 7 + 6, none⟩ = some (.int .i64 0) := hrow 6 (by decide)
          have f0 : wz.frozen? ⟨G, (k + j) * 7, none⟩ = false := HO.out.frozenAt _
          have f1 : wz.frozen? ⟨G, (k + j) * 7 + 1, none⟩ = false := HO.out.frozenAt _
          have f2 : wz.frozen? ⟨G, (k + j) * 7 + 2, none⟩ = false := HO.out.frozenAt _
          have f3 : wz.frozen? ⟨G, (k + j) * 7 + 3, none⟩ = false := HO.out.frozenAt _
          have f4 : wz.frozen? ⟨G, (k + j) * 7 + 4, none⟩ = false := HO.out.frozenAt _
          have f5 : wz.frozen? ⟨G, (k + j) * 7 + 5, none⟩ = false := HO.out.frozenAt _
          have f6 : wz.frozen? ⟨G, (k + j) * 7 + 6, none⟩ = false := HO.out.frozenAt _
          have HS := Lib.hid hset
          have HT := Lib.hid (show (rs ++ ((List.range j).map markBr ++ List.replicate (9 - j) zeroBr)).set (k + j) (markBr j) = rs ++ ((List.range (j + 1)).map markBr ++ List.replicate (9 - (j + 1)) zeroBr) by
            rw [← List.append_assoc, show 9 - j = (9 - (j + 1)) + 1 by omega, set_fill (by simp; have := HL.out; omega), List.range_succ, List.map_append]
            simp)
          have hmk : -700 - ((k : Int) + j) + (k : Int) = -700 - (j : Int) := by omega
          clear hset hrow hget hlenL hLn
          go_wp2_with (fail)
          refine ⟨⟨j + 1, by omega, by go_num, Lib.hid ?_, Lib.hid (HB.out.grown HS.out.2 (by have := HB.out.size; have := HGW.out; omega) (fun q e => by cases e; exact Nat.le_refl _))⟩, by first | (simp [intOf]; done) | (simp [intOf]; omega)⟩
          rw [← HT.out]
          first | exact HS.out.1 | (have h9 := HS.out.1; unfold markBr at h9; rw [← hmk] at h9; exact h9)
        · have hj9 : j = 9 := by omega
          subst hj9
          go_wp2_with (fail)
          go_ret
          refine ⟨by first | rfl | (rw [← HGW.out]; rfl) | (rw [HGW.out]; rfl), ?_, by rw [HGW.out]; exact HB.out⟩
          have := HO.out
          simp only [Nat.sub_self, List.replicate_zero, List.append_nil] at this
          rw [HGW.out]
          exact this

theorem eqBr_agg (x : BreakS) : (Value.agg #[.string x.res, .int .u8 x.gr, .int .i64 x.cnt, .int .i64 x.slow, .int .i64 x.least, .int .i64 x.win, .int .i64 x.rec_]) = .agg #[.string x.res, .int .u8 x.gr, .int .i64 x.cnt, .int .i64 x.slow, .int .i64 x.least, .int .i64 x.win, .int .i64 x.rec_] := rfl
set_option maxHeartbeats 6400000 in
set_option maxRecDepth 100000 in
theorem sameBr_any {w : World} (a b : Option Addr) (len ca cb : Nat) (xs : List BreakS) (hl : xs.length = len) (hb : len * 64 ≤ 140737488351232) (ha : RowsAt w a 7 (xs.map BreakS.cs)) (hb2 : RowsAt w b 7 (xs.map BreakS.cs)) :
    Calls Try.prog 66 #[.slice a len ca, .slice b len cb] w fun e w' => e = .returned (.bool true) ∧ Below w.heap.size w w' := by
  have HA := Lib.hid ha
  have HB := Lib.hid hb2
  have HL := Lib.hid hl
  clear ha hb2 hl
  go_enter Try.func66, Try.ntmps66
  go_wp2_with (fail)
  go_loopw [5] (fun s wr => ∃ k : Nat, k ≤ len ∧ s = .int .i64 k ∧ Hid (Below w.heap.size w wr)) (fun s _ => len - (intOf s).toNat)
  case atStart => exact ⟨0, Nat.zero_le _, rfl, Lib.hid (Below.refl _ _)⟩
  case round =>
    obtain ⟨k, hk, rfl, HW⟩ := hrel
    have k0 : (0 : Int) ≤ k := by omega
    by_cases hlt : k < len
    · have k1 : (k : Int) < len := by omega
      obtain ⟨x, hx⟩ : ∃ x, xs[k]? = some x := ⟨_, List.getElem?_eq_getElem (by rw [HL.out]; exact hlt)⟩
      have hxc : (xs.map BreakS.cs)[k]? = some (BreakS.cs x) := by rw [List.getElem?_map, hx]; rfl
      obtain ⟨p, po, rfl, hpl, hpc⟩ := rowsAt_getH HA.out hxc
      obtain ⟨q, qo, rfl, hql, hqc⟩ := rowsAt_getH HB.out hxc
      have d0 : wr.cell? ⟨p, po + k * 7, none⟩ = some (.string x.res) := (HW.out.cell (p := ⟨p, po + k * 7 + 0, none⟩) hpl).trans (hpc 0 (.string x.res) (by decide) rfl)
      have d1 : wr.cell? ⟨p, po + k * 7 + 1, none⟩ = some (.int .u8 x.gr) := (HW.out.cell (p := ⟨p, po + k * 7 + 1, none⟩) hpl).trans (hpc 1 (.int .u8 x.gr) (by decide) rfl)
      have d2 : wr.cell? ⟨p, po + k * 7 + 2, none⟩ = some (.int .i64 x.cnt) := (HW.out.cell (p := ⟨p, po + k * 7 + 2, none⟩) hpl).trans (hpc 2 (.int .i64 x.cnt) (by decide) rfl)
      have d3 : wr.cell? ⟨p, po + k * 7 + 3, none⟩ = some (.int .i64 x.slow) := (HW.out.cell (p := ⟨p, po + k * 7 + 3, none⟩) hpl).trans (hpc 3 (.int .i64 x.slow) (by decide) rfl)
      have d4 : wr.cell? ⟨p, po + k * 7 + 4, none⟩ = some (.int .i64 x.least) := (HW.out.cell (p := ⟨p, po + k * 7 + 4, none⟩) hpl).trans (hpc 4 (.int .i64 x.least) (by decide) rfl)
      have d5 : wr.cell? ⟨p, po + k * 7 + 5, none⟩ = some (.int .i64 x.win) := (HW.out.cell (p := ⟨p, po + k * 7 + 5, none⟩) hpl).trans (hpc 5 (.int .i64 x.win) (by decide) rfl)
      have d6 : wr.cell? ⟨p, po + k * 7 + 6, none⟩ = some (.int .i64 x.rec_) := (HW.out.cell (p := ⟨p, po + k * 7 + 6, none⟩) hpl).trans (hpc 6 (.int .i64 x.rec_) (by decide) rfl)
      have e0 : wr.cell? ⟨q, qo + k * 7, none⟩ = some (.string x.res) := (HW.out.cell (p := ⟨q, qo + k * 7 + 0, none⟩) hql).trans (hqc 0 (.string x.res) (by decide) rfl)
      have e1 : wr.cell? ⟨q, qo + k * 7 + 1, none⟩ = some (.int .u8 x.gr) := (HW.out.cell (p := ⟨q, qo + k * 7 + 1, none⟩) hql).trans (hqc 1 (.int .u8 x.gr) (by decide) rfl)
      have e2 : wr.cell? ⟨q, qo + k * 7 + 2, none⟩ = some (.int .i64 x.cnt) := (HW.out.cell (p := ⟨q, qo + k * 7 + 2, none⟩) hql).trans (hqc 2 (.int .i64 x.cnt) (by decide) rfl)
      have e3 : wr.cell? ⟨q, qo + k * 7 + 3, none⟩ = some (.int .i64 x.slow) := (HW.out.cell (p := ⟨q, qo + k * 7 + 3, none⟩) hql).trans (hqc 3 (.int .i64 x.slow) (by decide) rfl)
      have e4 : wr.cell? ⟨q, qo + k * 7 + 4, none⟩ = some (.int .i64 x.least) := (HW.out.cell (p := ⟨q, qo + k * 7 + 4, none⟩) hql).trans (hqc 4 (.int .i64 x.least) (by decide) rfl)
      have e5 : wr.cell? ⟨q, qo + k * 7 + 5, none⟩ = some (.int .i64 x.win) := (HW.out.cell (p := ⟨q, qo + k * 7 + 5, none⟩) hql).trans (hqc 5 (.int .i64 x.win) (by decide) rfl)
      have e6 : wr.cell? ⟨q, qo + k * 7 + 6, none⟩ = some (.int .i64 x.rec_) := (HW.out.cell (p := ⟨q, qo + k * 7 + 6, none⟩) hql).trans (hqc 6 (.int .i64 x.rec_) (by decide) rfl)
      clear hx hxc hpc hqc
      go_wp2_with (fail)
      go_quiet (fail)
      go_wp2_with (fail)
      exact ⟨⟨k + 1, by omega, by go_num, Lib.hid (below_drewH HW.out _)⟩, by first | (simp [intOf]; done) | (simp [intOf]; omega)⟩
    · go_wp2_with (fail)
      go_ret
      exact ⟨rfl, HW.out⟩

set_option maxHeartbeats 6400000 in
set_option maxRecDepth 100000 in
theorem keptBr_any {w : World} (G : Nat) (base : Nat) (b : Option Addr) (len cb : Nat) (xs : List BreakS) (hl : xs.length = len) (hb : len * 64 ≤ 140737488351232) (ho : w.ownsRow base 104 7 (.slice (some ⟨G, 0, none⟩) (len + 9) (len + 9)) (len + 9) (fullBr (xs.map BreakS.cs)).flatten) (hb2 : RowsAt w b 7 (xs.map BreakS.cs)) :
    Calls Try.prog 40 #[.slice (some ⟨G, 0, none⟩) len (len + 9), .slice b len cb] w fun e w' => e = .returned (.bool true) ∧ Below w.heap.size w w' := by
  have hLn : ∀ r ∈ fullBr (xs.map BreakS.cs), r.length = 7 := by
    intro r hr
    rcases List.mem_append.1 hr with h | h
    · exact lenBr xs r h
    · obtain ⟨q, _, rfl⟩ := List.mem_map.1 h; rfl
  have hlenL : (fullBr (xs.map BreakS.cs)).length = len + 9 := by unfold fullBr; simp [hl]
  have hcell := fun i r (hi : (fullBr (xs.map BreakS.cs))[i]? = some r) j hj => rows_cell hLn hlenL ho hi j hj
  have hrow : RowsAt w (some ⟨G, 0, none⟩) 7 (xs.map BreakS.cs) := Or.inr ⟨G, 0, rfl, (ho.lt G rfl).2, fun j r hj q u hq hu => by
    rw [Nat.zero_add]
    refine (hcell j r ?_ q hq).trans hu
    unfold fullBr
    rw [List.getElem?_append_left (List.getElem?_eq_some_iff.1 hj).1]; exact hj⟩
  have HS := Lib.hid (sameBr_any (some ⟨G, 0, none⟩) b len (len + 9) cb xs hl hb hrow hb2)
  have HG := Lib.hid (ho.lt G rfl).2
  have HC := Lib.hid (show ∀ j, j < 9 → ∀ i, i < 7 → w.cell? ⟨G, (len + j) * 7 + i, none⟩ = (markBr j)[i]? from fun j hj i hi => hcell (len + j) (markBr j) (by
    unfold fullBr
    rw [List.getElem?_append_right (by rw [List.length_map, hl]; omega), List.length_map, hl, Nat.add_sub_cancel_left, List.getElem?_map, List.getElem?_range hj]; rfl) i hi)
  have hw9 : IntKind.i64.wrap ((len : Int) + 9) = (len : Int) + 9 := by rw [IntKind.wrap_i64]; omega
  clear hLn hlenL hcell hrow ho hb2 hl
  go_enter Try.func40, Try.ntmps40
  go_wp2_with (fail)
  refine HS.out.mono ?_
  rintro e w1 ⟨rfl, hb1⟩
  have HB1 := Lib.hid hb1
  clear hb1
  go_wp2_with (fail)
  go_loopw [6] (fun s wr => ∃ j : Nat, j ≤ 9 ∧ s = .int .i64 ((len : Int) + j) ∧ Hid (Below w.heap.size w wr)) (fun s _ => len + 9 - (intOf s).toNat)
  case atStart => exact ⟨0, by omega, by go_num, HB1⟩
  case round =>
    obtain ⟨j, hj, rfl, HW⟩ := hrel
    have j0 : (0 : Int) ≤ (len : Int) + j := by omega
    by_cases hlt : j < 9
    · have j1 : (len : Int) + j < (len : Int) + 9 := by omega
      have hmk : -700 - ((len : Int) + j) + (len : Int) = -700 - (j : Int) := by omega
      have d0 : wr.cell? ⟨G, (len + j) * 7, none⟩ = some (.string ⟨#[]⟩) := (HW.out.cell (p := ⟨G, (len + j) * 7 + 0, none⟩) HG.out).trans ((HC.out j hlt 0 (by decide)).trans rfl)
      have d1 : wr.cell? ⟨G, (len + j) * 7 + 1, none⟩ = some (.int .u8 0) := (HW.out.cell (p := ⟨G, (len + j) * 7 + 1, none⟩) HG.out).trans ((HC.out j hlt 1 (by decide)).trans rfl)
      have d2 : wr.cell? ⟨G, (len + j) * 7 + 2, none⟩ = some (.int .i64 (-700 - ((len : Int) + j) + (len : Int))) := (HW.out.cell (p := ⟨G, (len + j) * 7 + 2, none⟩) HG.out).trans ((HC.out j hlt 2 (by decide)).trans (by rw [hmk]; rfl))
      have d3 : wr.cell? ⟨G, (len + j) * 7 + 3, none⟩ = some (.int .i64 0) := (HW.out.cell (p := ⟨G, (len + j) * 7 + 3, none⟩) HG.out).trans ((HC.out j hlt 3 (by decide)).trans rfl)
      have d4 : wr.cell? ⟨G, (len + j) * 7 + 4, none⟩ = some (.int .i64 0) := (HW.out.cell (p := ⟨G, (len + j) * 7 + 4, none⟩) HG.out).trans ((HC.out j hlt 4 (by decide)).trans rfl)
      have d5 : wr.cell? ⟨G, (len + j) * 7 + 5, none⟩ = some (.int .i64 0) := (HW.out.cell (p := ⟨G, (len + j) * 7 + 5, none⟩) HG.out).trans ((HC.out j hlt 5 (by decide)).trans rfl)
      have d6 : wr.cell? ⟨G, (len + j) * 7 + 6, none⟩ = some (.int .i64 0) := (HW.out.cell (p := ⟨G, (len + j) * 7 + 6, none⟩) HG.out).trans ((HC.out j hlt 6 (by decide)).trans rfl)
      clear hmk
      go_wp2_with (fail)
      exact ⟨⟨j + 1, by omega, by go_num, HW⟩, by first | (simp [intOf]; done) | (simp [intOf]; omega)⟩
    · have hj9 : j = 9 := by omega
      subst hj9
      go_wp2_with (fail)
      go_ret
      exact ⟨rfl, HW.out⟩
end Go.Proofs.Ytnobfmlfhaaghaa
