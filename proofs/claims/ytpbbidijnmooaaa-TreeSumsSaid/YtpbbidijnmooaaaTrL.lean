/- tree: Sum. -/
import Derived.Test.YtpbbidijnmooaaaTrK
namespace Go.Proofs.Ytpbbidijnmooaaa
open Go.RowKit
set_option linter.unusedVariables false
set_option linter.unusedSimpArgs false

def sumTE (last at_ : Int) (M : TreeM) (L : List KeyS) : Int := if isT at_ = false then 2 else if at_ < last then 7 else if L.any (fun q => (getM M q).isNone) then 4 else 0
structure SumPost (w : World) (M : TreeM) (last at_ : Int) (L : List KeyS) (e : Ending) (w' : World) : Prop where
  no : sumTE last at_ M L ≠ 0 → e = .returned (.tuple #[ctV .zero, .int .i64 0, .int .i64 (sumTE last at_ M L)])
  yes : sumTE last at_ M L = 0 → e = .returned (.tuple #[ctV (sumN at_ (nodesOf M L)), .int .i64 (flsOf (nodesOf M L)), .int .i64 0])
  bel : Below w.heap.size w w'
theorem SumPost.mkNo {w w' : World} {M : TreeM} {last at_ : Int} {L : List KeyS} {x : Int} (hE : sumTE last at_ M L = x) (hx : x ≠ 0) (hb : Below w.heap.size w w') : SumPost w M last at_ L (.returned (.tuple #[ctV .zero, .int .i64 0, .int .i64 x])) w' :=
  ⟨fun _ => by rw [hE], fun h0 => absurd (hE.symm.trans h0) hx, hb⟩
def xsOf (T : List TN) (l : List KeyS) : List TN := l.filterMap (findT T)
theorem xsOf_snoc {T : List TN} {l : List KeyS} {q : KeyS} {x : TN} (h : findT T q = some x) : xsOf T (l ++ [q]) = xsOf T l ++ [x] := by
  unfold xsOf
  rw [List.filterMap_append, List.filterMap_cons, h]; rfl
theorem xsOf_mem {T : List TN} {l : List KeyS} {x : TN} (h : x ∈ xsOf T l) : x ∈ T := by
  unfold xsOf at h
  obtain ⟨q, _, hq⟩ := List.mem_filterMap.1 h
  exact (findT_mem hq).1
theorem xsOf_nodes (t : TreeV) (l : List KeyS) : (xsOf t.T l).map (·.n) = nodesOf t.M l := by
  unfold xsOf nodesOf
  rw [List.map_filterMap]
  congr 1
  funext q
  rw [getM_findT]
theorem xsOf_len {T : List TN} : ∀ {l : List KeyS}, (∀ q, q ∈ l → (findT T q).isSome = true) → (xsOf T l).length = l.length
  | [], _ => rfl
  | q :: l, h => by
    obtain ⟨x, hx⟩ := Option.isSome_iff_exists.1 (h q (by simp))
    have ih := xsOf_len (T := T) (l := l) (fun y hy => h y (by simp [hy]))
    unfold xsOf at *
    rw [List.filterMap_cons, hx, List.length_cons, List.length_cons, ih]
def ptrsX (xs : List TN) : List Value := xs.map (fun x => .pointer (some ⟨x.k.q, 0, none⟩))
theorem ptrs_row {w : World} {base n cap : Nat} {a : Option Addr} {xs : List TN} (h : w.ownsRow base 45 1 (.slice a n cap) n (ptrsX xs)) (hn : xs.length = n) : PtrsAt w a (xs.map (·.k.q)) := by
  rcases h.2 with ⟨_, hz⟩ | ⟨g, cp, cur, hh, _, hgg, _⟩
  · left
    rw [List.length_eq_zero_iff.1 (hn.trans hz)]; rfl
  · injection hh with h1 h2 h3
    subst h1
    rw [h3] at h
    refine Or.inr ⟨g, rfl, (Array.getElem?_eq_some_iff.1 hgg).1, fun j q hq => ?_⟩
    rw [List.getElem?_map] at hq
    cases hx : xs[j]? with
    | none => rw [hx] at hq; cases hq
    | some x =>
      rw [hx] at hq
      obtain rfl := Option.some.inj hq
      have hj := (List.getElem?_eq_some_iff.1 hx).1
      rw [h.cellAt j (by omega)]
      unfold ptrsX
      rw [List.getElem?_map, hx]; rfl
theorem info_ptrN : (Try.prog.info? 45).map (fun i => (i.zero, i.size, i.bytes)) = some (some (.pointer none), 1, 8) := by kernel_rfl
theorem joinN (at_ : Int) (t : TreeV) (l : List KeyS) (h : ∀ x, x ∈ xsOf t.T l → RightL x.n.notes) : joinC .zero ((xsOf t.T l).map (winX at_)) = sumN at_ (nodesOf t.M l) := by
  have e := joinC_win (b := 100000) (B := 10) (at_ := at_) (l := (xsOf t.T l).map (·.n)) rawOk_zero (fun n hn => by obtain ⟨x, hx, rfl⟩ := List.mem_map.1 hn; exact h x hx)
  rw [imgC_zero, List.map_map, RawC.zero_add, xsOf_nodes] at e
  exact e
theorem one_cellT (w : World) (x : Value) (t : TypeId) : ∀ j v, ([x] : List Value)[j]? = some v → (w.alloc (.cells #[x] t)).cell? ((⟨w.heap.size, 0, none⟩ : Addr).add j) = some v := by
  intro j v hj
  have hn := new_blockS w (.cells #[x] t)
  rw [WideShapes.add_plain]
  simp only [World.cell?, hn]
  match j, hj with
  | 0, h => simpa using h

theorem sum_s13 {wx : World} {t : TreeV} {D : Nat} {q : KeyS} {x : TN} (h : TreeAt wx t) (hd : wx.heap[D]? = some (.cells #[.int .u8 q.kind, .string q.ctx, .string q.res, .string q.org] 30)) (hx : findT t.T q = some x) (hok : KeyOk q) :
    (wx.cell? ⟨D, 0, none⟩ = some (.int .u8 q.kind) ∧ wx.cell? ⟨D, 1, none⟩ = some (.string q.ctx) ∧ wx.cell? ⟨D, 2, none⟩ = some (.string q.res) ∧ wx.cell? ⟨D, 3, none⟩ = some (.string q.org)) ∧ wx.cell? ⟨t.tb, 0, none⟩ = some (.map (some t.mb)) ∧ (Instr.lookup 55 (.map (some t.mb)) (.agg #[.int .u8 q.kind, .string q.ctx, .string q.res, .string q.org]) false).run Try.prog wx = .ok (.pointer (some ⟨x.k.q, 0, none⟩)) wx := by
  have h2 := h.map.look hok
  rw [hx] at h2
  exact ⟨four_box hd, h.cells.1, h2⟩
set_option maxHeartbeats 12800000 in
set_option maxRecDepth 100000 in
theorem tsum_any {w : World} {t : TreeV} (k : TreeAt w t) (htop : t.top = t.last) (at_ : Int) (a : Option Addr) (len cap : Nat) (L : List KeyS) (hl : L.length = len) (hm : len ≤ 1048576) (hk : KeysAt w a L) (hok : ∀ q, q ∈ L → KeyOk q) :
    Calls Try.prog 10 #[.pointer (some ⟨t.tb, 0, none⟩), .int .i64 at_, .slice a len cap] w (SumPost w t.M t.last at_ L) := by
  have HK := Lib.hid k
  have HL := Lib.hid hl
  have HKA := Lib.hid hk
  have HOK := Lib.hid hok
  have HTOP := Lib.hid htop
  have HT := Lib.hid (fun wx => tisTime_any at_ wx)
  have HEE := Lib.hid (fun (x : Int) (h : sumTE t.last at_ t.M L = x) (hx : x ≠ 0) (wx : World) (hb : Below w.heap.size w wx) => SumPost.mkNo h hx hb)
  have HE0 := Lib.hid (show sumTE t.last at_ t.M L = (if isT at_ = false then 2 else if at_ < t.last then 7 else if L.any (fun q => (getM t.M q).isNone) then 4 else 0) from rfl)
  have HYES := Lib.hid (fun (hE : sumTE t.last at_ t.M L = 0) (w9 : World) (hb : Below w.heap.size w w9) => (show SumPost w t.M t.last at_ L (.returned (.tuple #[ctV (sumN at_ (nodesOf t.M L)), .int .i64 (flsOf (nodesOf t.M L)), .int .i64 0])) w9 from ⟨fun h => absurd hE h, fun _ => rfl, hb⟩))
  have HJN := Lib.hid (fun h => joinN at_ t L h)
  have HXN := Lib.hid (xsOf_nodes t L)
  have hc := k.cells
  obtain ⟨tb, mb, vr, T, last, top⟩ := t
  dsimp only at HE0 HEE HYES HJN HXN hc HTOP ⊢
  obtain ⟨M, hM⟩ : ∃ M, (⟨tb, mb, vr, T, last, top⟩ : TreeV).M = M := ⟨_, rfl⟩
  have HGM := Lib.hid (fun q => getM_findT ⟨tb, mb, vr, T, last, top⟩ q)
  rw [hM] at HE0 HEE HYES HJN HXN HGM ⊢
  dsimp only at HGM
  have HB0 := (Below.refl _ w).alloc (Nat.le_refl _) (ctO .zero 32)
  have hnw := (get_allocW w (ctO .zero 32) w.heap.size).trans (if_pos rfl)
  have HB := Lib.hid HB0
  have HNW := Lib.hid hnw
  have hcl := hc.2.2
  have hcl := (HB0.cell (World.block_lt_of_cell? _ _ hcl)).trans hcl
  clear k hl hk hok htop hM hc HB0 hnw
  unfold ctO CntS.zero at HB HNW hcl
  unfold ctV CntS.zero at HEE
  dsimp only at HB HNW HEE hcl
  go_enter Try.func10, Try.ntmps10
  go_wp2_with (fail)
  refine (HT.out _).mono ?_
  rintro e w3 ⟨rfl, hq⟩
  subst hq
  obtain ⟨wB, hwB⟩ : ∃ wB, w.alloc (.cells #[.int .i64 0, .int .i64 0, .int .i64 0, .int .i64 0, .int .i64 0, .int .i64 0] 32) = wB := ⟨_, rfl⟩
  rw [hwB] at HB HNW hcl ⊢
  clear hwB
  obtain ⟨⟨z0, z1, z2, z3, z4, z5⟩, zf⟩ := ct_cells (c := .zero) HNW.out
  dsimp only [CntS.zero] at z0 z1 z2 z3 z4 z5
  cases hTa : isT at_ with
  | false =>
    have HE := Lib.hid (HE0.out.trans (if_pos hTa))
    clear HE0
    go_wp2_with (fail)
    refine bodyPost_ret (results_cell_tmp3 (P := Try.prog) rfl _ _ w.heap.size 32 #[.int .i64 0, .int .i64 0, .int .i64 0, .int .i64 0, .int .i64 0, .int .i64 0] (0, 0) _ (.int .i64 0) (.int .i64 2) (by rfl) (by rfl) (by rfl) ?hh Try.underlying32 rfl (by kernel_rfl)) rfl ?_
    case hh => exact sixC_same (c := .zero) HNW.out 0 0 0 0 0 0
    exact HEE.out 2 HE.out (by decide) _ (sixC_below HB.out (Nat.le_refl _) 0 0 0 0 0 0)
  | true =>
    have HTA := Lib.hid hTa
    have HE1 := Lib.hid (HE0.out.trans (if_neg (by rw [hTa]; simp)))
    clear HE0 hTa
    by_cases hlt : at_ < last
    · have HE := Lib.hid (HE1.out.trans (if_pos hlt))
      clear HE1
      go_wp2_with (fail)
      refine bodyPost_ret (results_cell_tmp3 (P := Try.prog) rfl _ _ w.heap.size 32 #[.int .i64 0, .int .i64 0, .int .i64 0, .int .i64 0, .int .i64 0, .int .i64 0] (0, 0) _ (.int .i64 0) (.int .i64 7) (by rfl) (by rfl) (by rfl) ?hh Try.underlying32 rfl (by kernel_rfl)) rfl ?_
      case hh => exact sixC_same (c := .zero) HNW.out 0 0 0 0 0 0
      exact HEE.out 7 HE.out (by decide) _ (sixC_below HB.out (Nat.le_refl _) 0 0 0 0 0 0)
    · have HE2 := Lib.hid (HE1.out.trans (if_neg hlt))
      have HLT := Lib.hid (show last ≤ at_ by omega)
      clear HE1 z0 z1 z2 z3 z4 z5 zf
      go_wp2_with (fail)
      clear hcl
      go_loopw [7, 8, 9, 11, 31] (fun x7 x8 x9 _ x31 wr => ∃ (j : Nat) (v : Value), j ≤ len ∧ x31 = .int .i64 j ∧ x7 = .int .i64 0 ∧ x8 = .int .i64 0 ∧ x9 = v ∧ Hid (∀ q, q ∈ L.take j → (findT T q).isSome = true) ∧ Hid (wr.ownsRow wB.heap.size 45 1 v j (ptrsX (xsOf T (L.take j)))) ∧ Hid (Below wB.heap.size wB wr)) (fun _ _ _ _ x31 _ => len - (intOf x31).toNat)
      case atStart => exact ⟨0, _, Nat.zero_le _, rfl, rfl, rfl, rfl, Lib.hid (by simp), Lib.hid (World.ownsRow_nil _ _ _ _), Lib.hid (Below.refl _ _)⟩
      case round =>
        rename World => wr
        obtain ⟨j, v, hj, rfl, rfl, rfl, hv, HALL, HO, HBR⟩ := hrel
        have hv := hv.symm
        subst hv
        by_cases hjlt : j < len
        · have hjl : j < L.length := by rw [HL.out]; exact hjlt
          obtain ⟨⟨kind, qctx, qres, qorg⟩, hq⟩ : ∃ q, L[j]? = some q := ⟨_, List.getElem?_eq_getElem hjl⟩
          obtain ⟨gK, rfl, hgK, d0, d1, d2, d3⟩ := HKA.out.get hq
          have hbw := HB.out.trans (HBR.out.mono HB.out.size)
          have d0 := (hbw.cell (p := ⟨gK, j * 4, none⟩) hgK).trans d0
          have d1 := (hbw.cell (p := ⟨gK, j * 4 + 1, none⟩) hgK).trans d1
          have d2 := (hbw.cell (p := ⟨gK, j * 4 + 2, none⟩) hgK).trans d2
          have d3 := (hbw.cell (p := ⟨gK, j * 4 + 3, none⟩) hgK).trans d3
          have j0 : (0 : Int) ≤ j := by omega
          have j1 : (j : Int) < len := by omega
          have hqok := HOK.out _ (List.mem_of_getElem? hq)
          have HQ := Lib.hid hq
          have halb : Below wr.heap.size wr (wr.alloc (.cells #[.int .u8 kind, .string qctx, .string qres, .string qorg] 30)) := (Below.refl _ _).alloc (Nat.le_refl _) _
          have hnb := new_blockS wr (.cells #[.int .u8 kind, .string qctx, .string qres, .string qorg] 30)
          obtain ⟨wd, hwd⟩ : ∃ wd, wr.alloc (.cells #[.int .u8 kind, .string qctx, .string qres, .string qorg] 30) = wd := ⟨_, rfl⟩
          rw [hwd] at halb hnb
          obtain ⟨D, hD⟩ : ∃ D, wr.heap.size = D := ⟨_, rfl⟩
          rw [hD] at hnb
          have hbd := HBR.out.trans (halb.mono HBR.out.size)
          have HBD := Lib.hid hbd
          have HND := Lib.hid hnb
          have HDS := Lib.hid (show D < wd.heap.size ∧ wB.heap.size ≤ D by have := (Array.getElem?_eq_some_iff.1 hnb).1; have := HBR.out.size; omega)
          have hkd := HK.out.below (HB.out.trans (hbd.mono HB.out.size))
          have hc0 := hkd.cells.1
          have hlk := fun n => (hkd.kept (w' := wd.drewN n) (fun _ _ => rfl)).map.look hqok
          unfold KeyS.v at hlk
          dsimp only at hc0 hlk
          obtain ⟨f0, f1, f2, f3⟩ := four_box hnb
          have HROW0 := Lib.hid (HO.out.kept (row := none) ⟨halb.os, halb.tape, halb.output, halb.size, fun k hk _ => halb.block k hk⟩ (by cases v.ownBlock <;> simp))
          have HDR := Lib.hid (show v.ownBlock ≠ some D from fun e => by have := (HO.out.lt D e).2; omega)
          cases hf : findT T ⟨kind, qctx, qres, qorg⟩ with
          | none =>
            have HE := Lib.hid (HE2.out.trans (if_pos (List.any_eq_true.2 ⟨_, List.mem_of_getElem? hq, by rw [HGM.out, hf]; rfl⟩)))
            simp only [hf, nodeP, ptrT, Option.map_none, Option.getD_none] at hlk
            have hnz := (hbd.block w.heap.size (Array.getElem?_eq_some_iff.1 HNW.out).1).trans HNW.out
            have HNZ := Lib.hid hnz
            obtain ⟨⟨z0, z1, z2, z3, z4, z5⟩, zf⟩ := ct_cells (c := .zero) hnz
            dsimp only [CntS.zero] at z0 z1 z2 z3 z4 z5
            clear hq hgK hjl hbw hqok halb hnb hbd hkd hf hnz
            go_wp2_with (fail)
            clear hD hwd
            go_quiet (fail)
            go_wp2_with (fail)
            refine bodyPost_ret (results_cell_tmp3 (P := Try.prog) rfl _ _ w.heap.size 32 #[.int .i64 0, .int .i64 0, .int .i64 0, .int .i64 0, .int .i64 0, .int .i64 0] (0, 0) _ (.int .i64 0) (.int .i64 4) (by rfl) (by rfl) (by rfl) ?hh Try.underlying32 rfl (by kernel_rfl)) rfl ?_
            case hh => exact sixC_same (w := wd.drewN nq) (c := .zero) HNZ.out 0 0 0 0 0 0
            exact HEE.out 4 HE.out (by decide) _ (sixC_below (below_drewG (HB.out.trans (HBD.out.mono HB.out.size)) nq) (Nat.le_refl _) 0 0 0 0 0 0)
          | some x =>
            have HTK := Lib.hid (show xsOf T (L.take (j + 1)) = xsOf T (L.take j) ++ [x] by rw [take_snocT hq, xsOf_snoc hf])
            have HAL2 := Lib.hid (show ∀ q, q ∈ L.take (j + 1) → (findT T q).isSome = true by
              intro q hq2
              rw [take_snocT hq] at hq2
              rcases List.mem_append.1 hq2 with h | h
              · exact HALL.out q h
              · obtain rfl := List.mem_singleton.1 h
                rw [hf]; rfl)
            have HSX := Lib.hid (fun (wx : World) (hx : Below w.heap.size w wx) (hd : wx.heap[D]? = some (.cells #[.int .u8 kind, .string qctx, .string qres, .string qorg] 30)) => sum_s13 (q := ⟨kind, qctx, qres, qorg⟩) (HK.out.below hx) hd hf hqok)
            simp only [hf, nodeP_some] at hlk
            dsimp only at HSX
            obtain ⟨xq, hxq⟩ : ∃ xq, x.k.q = xq := ⟨_, rfl⟩
            have HXQ := Lib.hid hxq
            rw [hxq] at hlk HSX
            clear hq hgK hjl hbw hqok halb hnb hbd hkd hf hxq
            go_wp2_with (fail)
            clear hD hwd
            go_quiet (fail)
            clear hc0 hlk f0 f1 f2 f3
            have hs13 := HSX.out (wd.drewN (nq + 1)) (below_drewG (HB.out.trans (HBD.out.mono HB.out.size)) _) HND.out
            have hal8 : Below wd.heap.size wd ((wd.alloc (.cells #[.pointer (some ⟨xq, 0, none⟩)] 45)).drewN (nq + 1)) := below_drewG ((Below.refl _ wd).alloc (Nat.le_refl _) _) _
            have HBW8 := Lib.hid (show Below wB.heap.size wB ((wd.alloc (.cells #[.pointer (some ⟨xq, 0, none⟩)] 45)).drewN (nq + 1)) from HBD.out.trans (hal8.mono HBD.out.size))
            have HD8 := Lib.hid ((hal8.block D HDS.out.1).trans HND.out)
            have HS8 := Lib.hid (HSX.out _ (HB.out.trans (HBW8.out.mono HB.out.size)) HD8.out)
            have HBZ := Lib.hid HBW8.out.size
            have HDL := Lib.hid (Nat.lt_of_lt_of_le HDS.out.1 hal8.size)
            obtain ⟨PJ, hPJ⟩ : ∃ PJ, ptrsX (xsOf T (L.take j)) = PJ := ⟨_, rfl⟩
            have HPJ := Lib.hid hPJ
            rw [hPJ] at HROW0
            have HROW := Lib.hid (show ((wd.alloc (.cells #[.pointer (some ⟨xq, 0, none⟩)] 45)).drewN (nq + 1)).ownsRow wB.heap.size 45 1 v j PJ from rowKept HROW0.out (fun g e => hal8.block g (HROW0.out.lt g e).2))
            have HTC := Lib.hid (show ∀ i u, ([.pointer (some ⟨xq, 0, none⟩)] : List Value)[i]? = some u → ((wd.alloc (.cells #[.pointer (some ⟨xq, 0, none⟩)] 45)).drewN (nq + 1)).cell? ((⟨wd.heap.size, 0, none⟩ : Addr).add i) = some u from fun i u hu => one_cellT wd _ _ i u hu)
            obtain ⟨i0, hi, hz0, hz1, hz2⟩ := info_partsT info_ptrN
            clear hal8 hPJ
            go_wp2_with (fail)
            refine wp_region_noPanic ?_
            refine wp_region_held_drew (S := (fun wx => (wx.cell? ⟨D, 0, none⟩ = some (.int .u8 kind) ∧ wx.cell? ⟨D, 1, none⟩ = some (.string qctx) ∧ wx.cell? ⟨D, 2, none⟩ = some (.string qres) ∧ wx.cell? ⟨D, 3, none⟩ = some (.string qorg)) ∧ wx.cell? ⟨tb, 0, none⟩ = some (.map (some mb)) ∧ (Instr.lookup 55 (.map (some mb)) (.agg #[.int .u8 kind, .string qctx, .string qres, .string qorg]) false).run Try.prog wx = .ok (.pointer (some ⟨xq, 0, none⟩)) wx)) (by kernel_rfl) ?_ (fun hHeld => ?_)
            · exact hs13
            refine wpAnyH_take (i := 0) (v := ?_) rfl (by kernel_rfl) (by kernel_rfl) (by kernel_rfl) (fun _ _ _ h => h) (Or.inl ⟨by rfl, ?hy⟩) (by assumption) ?_
            case hy => intro w hSw; (try dsimp only at hSw); go_simp; try with_reducible rfl
            try simp only [Act.put, List.getElem_toArray, List.getElem_cons_succ, List.getElem_cons_zero, List.setIfInBounds_toArray, List.set_cons_zero, List.set_cons_succ]
            refine wpAnyH_take (i := 1) (v := ?_) rfl (by kernel_rfl) (by kernel_rfl) (by kernel_rfl) (fun _ _ _ h => h) (Or.inl ⟨by rfl, ?hy⟩) (by assumption) ?_
            case hy => intro w hSw; (try dsimp only at hSw); go_simp; try with_reducible rfl
            try simp only [Act.put, List.getElem_toArray, List.getElem_cons_succ, List.getElem_cons_zero, List.setIfInBounds_toArray, List.set_cons_zero, List.set_cons_succ]
            refine wpAnyH_take (i := 2) (v := ?_) rfl (by kernel_rfl) (by kernel_rfl) (by kernel_rfl) (fun _ _ _ h => h) (Or.inl ⟨by rfl, ?hy⟩) (by assumption) ?_
            case hy => intro w hSw; (try dsimp only at hSw); go_simp; try with_reducible rfl
            try simp only [Act.put, List.getElem_toArray, List.getElem_cons_succ, List.getElem_cons_zero, List.setIfInBounds_toArray, List.set_cons_zero, List.set_cons_succ]
            refine wpAnyH_take (i := 3) (v := ?_) rfl (by kernel_rfl) (by kernel_rfl) (by kernel_rfl) (fun _ _ _ h => h) (Or.inl ⟨by rfl, ?hy⟩) (by assumption) ?_
            case hy => intro w hSw; (try dsimp only at hSw); go_simp; try with_reducible rfl
            try simp only [Act.put, List.getElem_toArray, List.getElem_cons_succ, List.getElem_cons_zero, List.setIfInBounds_toArray, List.set_cons_zero, List.set_cons_succ]
            refine wpAnyH_take (i := 4) (v := ?_) rfl (by kernel_rfl) (by kernel_rfl) (by kernel_rfl) (fun _ _ _ h => h) (Or.inl ⟨by rfl, ?hy⟩) (by assumption) ?_
            case hy => intro w hSw; (try dsimp only at hSw); go_simp; try with_reducible rfl
            try simp only [Act.put, List.getElem_toArray, List.getElem_cons_succ, List.getElem_cons_zero, List.setIfInBounds_toArray, List.set_cons_zero, List.set_cons_succ]
            refine wpAnyH_take (i := 5) (v := ?_) rfl (by kernel_rfl) (by kernel_rfl) (by kernel_rfl) (fun _ _ _ h => h) (Or.inl ⟨by rfl, ?hy⟩) (by assumption) ?_
            case hy => intro w hSw; (try dsimp only at hSw); go_simp; try with_reducible rfl
            try simp only [Act.put, List.getElem_toArray, List.getElem_cons_succ, List.getElem_cons_zero, List.setIfInBounds_toArray, List.set_cons_zero, List.set_cons_succ]
            refine wpAnyH_take (i := 6) (v := ?_) rfl (by kernel_rfl) (by kernel_rfl) (by kernel_rfl) (fun _ _ _ h => h) (Or.inl ⟨by rfl, ?hy⟩) (by assumption) ?_
            case hy => intro w hSw; (try dsimp only at hSw); go_simp; try with_reducible rfl
            try simp only [Act.put, List.getElem_toArray, List.getElem_cons_succ, List.getElem_cons_zero, List.setIfInBounds_toArray, List.set_cons_zero, List.set_cons_succ]
            refine wpAnyH_take (i := 7) (v := ?_) rfl (by kernel_rfl) (by kernel_rfl) (by kernel_rfl) (fun _ _ _ h => h) (Or.inl ⟨by rfl, ?hy⟩) (by assumption) ?_
            case hy => intro w hSw; (try dsimp only at hSw); go_simp; try with_reducible rfl
            try simp only [Act.put, List.getElem_toArray, List.getElem_cons_succ, List.getElem_cons_zero, List.setIfInBounds_toArray, List.set_cons_zero, List.set_cons_succ]
            refine wpAnyH_ready (rs := [8]) (by kernel_rfl) (by simp) (AllReadyH.cons rfl (fun K hK => ?_) AllReadyH.nil)
            go_simp
            skip
            try (go_wp2_with fail)
            refine hK.out _ _ ?_ (fun hHeld => ?_)
            · exact HS8.out
            clear hK K
            try simp only [Act.put, List.getElem_toArray, List.getElem_cons_succ, List.getElem_cons_zero, List.setIfInBounds_toArray, List.set_cons_zero, List.set_cons_succ]
            refine wpAnyH_ready (rs := [9]) (by kernel_rfl) (by simp) (AllReadyH.cons rfl (fun K hK => ?_) AllReadyH.nil)
            rw [if_pos (by rfl)]
            refine wp_append_at _ (.tmp 44) (.tmp 52) 61 rfl wB.heap.size 45 i0 (.pointer none) 1 8 Try.underlying61 hi hz0 hz1 hz2 rfl (by decide) v j PJ rfl HROW.out ⟨_, 0, none⟩ 1 1 [.pointer (some ⟨xq, 0, none⟩)] rfl rfl HTC.out (by intro u hu; simp at hu; subst hu; rfl) (by unfold maxLen; omega) (by omega) HBZ.out (by decide) ?_
            intro v3 w7 hown7 hg7 hk7
            have HO7 := Lib.hid hown7
            have HB7 := Lib.hid (HBW8.out.grown hg7 HBZ.out (fun k e => (HROW.out.lt k e).1))
            have HS7 := Lib.hid (HSX.out w7 (HB.out.trans (HB7.out.mono HB.out.size)) ((hg7.block D HDL.out (fun e => HDR.out e.symm)).trans HD8.out))
            clear hown7 hg7 hk7
            refine hK.out _ _ HS7.out (fun hHeld => ?_)
            clear hK K
            try simp only [Act.put, List.getElem_toArray, List.getElem_cons_succ, List.getElem_cons_zero, List.setIfInBounds_toArray, List.set_cons_zero, List.set_cons_succ]
            refine wpAnyH_take (i := 10) (v := ?_) rfl (by kernel_rfl) (by kernel_rfl) (by kernel_rfl) (fun _ _ _ h => h) (Or.inl ⟨by rfl, ?hy⟩) (by assumption) ?_
            case hy => intro w hSw; (try dsimp only at hSw); go_simp; try with_reducible rfl
            try simp only [Act.put, List.getElem_toArray, List.getElem_cons_succ, List.getElem_cons_zero, List.setIfInBounds_toArray, List.set_cons_zero, List.set_cons_succ]
            refine wpAnyH_done (by kernel_rfl) ?_ _
            refine NoPanic.normal ?_
            clear hs13
            go_wp2_with (fail)
            refine ⟨⟨j + 1, v3, by omega, by go_num, rfl, rfl, rfl, HAL2, Lib.hid ?_, HB7⟩, by first | (simp [intOf]; done) | (simp [intOf]; omega)⟩
            have ho := HO7.out
            rw [HTK.out]
            unfold ptrsX at HPJ ⊢
            rw [List.map_append, HPJ.out, List.map_singleton, HXQ.out]
            exact ho
        · have j1 : ¬ (j : Int) < len := by omega
          have e1 : L.take j = L := List.take_of_length_le (by rw [HL.out]; omega)
          have hjn : j = len := by omega
          subst hjn
          rw [e1] at HALL HO
          have HE := Lib.hid (HE2.out.trans (if_neg (by
            intro h
            obtain ⟨q, hq, hn⟩ := List.any_eq_true.1 h
            have h2 := HALL.out q hq
            rw [HGM.out] at hn
            cases hf : findT T q with
            | none => rw [hf] at h2; cases h2
            | some x => rw [hf] at hn; simp at hn)))
          obtain ⟨a9, c9, rfl⟩ := own_sliceT HO.out
          have hxl := (xsOf_len HALL.out).trans HL.out
          have hbw := HB.out.trans (HBR.out.mono HB.out.size)
          have HJ := Lib.hid (njoin_any (w := wr) at_ a9 j c9 (xsOf T L) hxl hm (ptrs_row HO.out hxl) (fun x hx => by
            have hk := HK.out.nodes x (xsOf_mem hx)
            have h3 := HTOP.out
            have h4 := HLT.out
            refine ⟨hk.1.below hbw, ?_⟩
            have h5 := hk.2
            dsimp only at h5
            have h6 := HTA.out
            unfold isT at h6
            simp at h6
            unfold lookW
            rw [if_neg (by omega), if_neg (by omega)]))
          rw [HJN.out (fun x hx => (HK.out.nodes x (xsOf_mem hx)).1.sec.right.1), HXN.out] at HJ
          have HFIN := Lib.hid (HYES.out HE.out)
          obtain ⟨XC, hXC⟩ : ∃ XC, sumN at_ (nodesOf M L) = XC := ⟨_, rfl⟩
          rw [hXC] at HJ HFIN
          obtain ⟨FJ, hFJ⟩ : ∃ FJ, flsOf (nodesOf M L) = FJ := ⟨_, rfl⟩
          rw [hFJ] at HJ HFIN
          obtain ⟨xp, xb, xd, xe, xr, xm⟩ := XC
          unfold ctV at HJ HFIN
          dsimp only at HJ HFIN
          clear HO HALL e1 hxl hbw hXC hFJ HE HYES HEE HE2
          go_wp2_with (fail)
          refine HJ.out.mono ?_
          rintro e w2 ⟨rfl, h2⟩
          have hbl := (Array.getElem?_eq_some_iff.1 HNW.out).1
          have hn2 := (h2.block w.heap.size (Nat.lt_of_lt_of_le hbl HBR.out.size)).trans ((HBR.out.block w.heap.size hbl).trans HNW.out)
          have HB2 := Lib.hid (HB.out.trans ((HBR.out.trans (h2.mono HBR.out.size)).mono HB.out.size))
          have HN2 := Lib.hid hn2
          obtain ⟨⟨z0, z1, z2, z3, z4, z5⟩, zf⟩ := ct_cells (c := .zero) hn2
          clear h2 hn2 hbl
          go_wp2_with (fail)
          refine bodyPost_ret (results_cell_tmp3 (P := Try.prog) rfl _ _ w.heap.size 32 #[.int .i64 xp, .int .i64 xb, .int .i64 xd, .int .i64 xe, .int .i64 xr, .int .i64 xm] (0, 0) _ (.int .i64 FJ) (.int .i64 0) (by rfl) (by rfl) (by rfl) ?hh Try.underlying32 rfl (by kernel_rfl)) rfl ?_
          case hh => exact sixC_same (c := .zero) HN2.out xp xb xd xe xr xm
          exact HFIN.out _ (sixC_below HB2.out (Nat.le_refl _) xp xb xd xe xr xm)
end Go.Proofs.Ytpbbidijnmooaaa
