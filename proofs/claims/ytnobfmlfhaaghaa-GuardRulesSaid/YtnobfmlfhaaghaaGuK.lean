/- guard: all rules let pass, or which is the first that does not. -/
import Derived.Test.YtnobfmlfhaaghaaGuJ
import Derived.Test.YtnobfmlfhaaghaaHandSy
import Derived.Lib.SliceRun
import Derived.Deep.RegionHeld3
import Derived.RangeFuncRecord
namespace Go.Proofs.Ytnobfmlfhaaghaa
open Go.RowKit
set_option linter.unusedVariables false
set_option linter.unusedSimpArgs false

def SysR.s (r : SysR) : SysS := ⟨r.q, r.t, r.r, r.l, r.c⟩
def SysR.v (x : SysR) : Value := .agg #[.int .i64 x.q, .int .i64 x.t, .int .i64 x.r, .int .i64 x.l, .int .i64 x.c]
def NowS.cs (s : NowS) : List Value := s.c.toList
def idxG (p : SysR → Bool) (bs : List SysR) : Int := match bs.findIdx? p with | none => -1 | some k => k
theorem idxG_none {p : SysR → Bool} {bs : List SysR} (h : ∀ x, x ∈ bs → p x = false) : idxG p bs = -1 := by
  unfold idxG
  rw [List.findIdx?_eq_none_iff.2 h]
theorem idxG_some {p : SysR → Bool} {bs : List SysR} {k : Nat} (hk : k < bs.length) (hp : p bs[k] = true) (h : ∀ j (hj : j < k), p (bs[j]'(by omega)) = false) : idxG p bs = k := by
  unfold idxG
  rw [List.findIdx?_eq_some_iff_getElem.2 ⟨hk, hp, fun j hj => by rw [h j hj]; simp⟩]
theorem sys_get {w : World} {a : Option Addr} {bs : List SysR} (h : RowsAt w a 5 (bs.map SysR.cs)) {k : Nat} {x : SysR} (hk : bs[k]? = some x) : ∃ b off, a = some ⟨b, off, none⟩ ∧ b < w.heap.size ∧ w.cell? ⟨b, off + k * 5, none⟩ = some (.int .i64 x.q) ∧ w.cell? ⟨b, off + k * 5 + 1, none⟩ = some (.int .i64 x.t) ∧ w.cell? ⟨b, off + k * 5 + 2, none⟩ = some (.int .i64 x.r) ∧ w.cell? ⟨b, off + k * 5 + 3, none⟩ = some (.int .i64 x.l) ∧ w.cell? ⟨b, off + k * 5 + 4, none⟩ = some (.int .i64 x.c) := by
  obtain ⟨b, off, e, hl, hc⟩ := rowsAt_getH h (j := k) (x := x.cs) (by rw [List.getElem?_map, hk]; rfl)
  exact ⟨b, off, e, hl, hc 0 (.int .i64 x.q) (by decide) rfl, hc 1 (.int .i64 x.t) (by decide) rfl, hc 2 (.int .i64 x.r) (by decide) rfl, hc 3 (.int .i64 x.l) (by decide) rfl, hc 4 (.int .i64 x.c) (by decide) rfl⟩
theorem now_get {w : World} {a : Option Addr} {ns : List NowS} (h : RowsAt w a 7 (ns.map NowS.cs)) {k : Nat} {s : NowS} (hk : ns[k]? = some s) : ∃ b off, a = some ⟨b, off, none⟩ ∧ b < w.heap.size ∧ w.cell? ⟨b, off + k * 7, none⟩ = some (.int .i64 s.qps) ∧ w.cell? ⟨b, off + k * 7 + 1, none⟩ = some (.int .i64 s.thr) ∧ w.cell? ⟨b, off + k * 7 + 2, none⟩ = some (.int .i64 s.rt) ∧ w.cell? ⟨b, off + k * 7 + 3, none⟩ = some (.int .i64 s.load) ∧ w.cell? ⟨b, off + k * 7 + 4, none⟩ = some (.int .i64 s.cpu) ∧ w.cell? ⟨b, off + k * 7 + 5, none⟩ = some (.int .i64 s.most) ∧ w.cell? ⟨b, off + k * 7 + 6, none⟩ = some (.int .i64 s.least) := by
  obtain ⟨b, off, e, hl, hc⟩ := rowsAt_getH h (j := k) (x := s.cs) (by rw [List.getElem?_map, hk]; rfl)
  exact ⟨b, off, e, hl, hc 0 (.int .i64 s.qps) (by decide) rfl, hc 1 (.int .i64 s.thr) (by decide) rfl, hc 2 (.int .i64 s.rt) (by decide) rfl, hc 3 (.int .i64 s.load) (by decide) rfl, hc 4 (.int .i64 s.cpu) (by decide) rfl, hc 5 (.int .i64 s.most) (by decide) rfl, hc 6 (.int .i64 s.least) (by decide) rfl⟩

set_option maxHeartbeats 3200000 in
set_option maxRecDepth 100000 in
theorem sysidx_any {w : World} (a : Option Addr) (n cap : Nat) (bs : List SysR) (hn : bs.length = n) (few : n ≤ 9223372036854775807) (hr : RowsAt w a 5 (bs.map SysR.cs)) (id : FuncId) (caps : Array Value) (p : SysR → Bool)
    (he : ∀ x : SysR, x ∈ bs → ∀ wx, (callFunc id (#[x.v] ++ caps)).run Try.prog wx = .ok (.enter id (#[x.v] ++ caps)) wx)
    (hf : ∀ x : SysR, x ∈ bs → ∀ wx, Below w.heap.size w wx → Calls Try.prog id (#[x.v] ++ caps) wx fun e w' => e = .returned (.bool (p x)) ∧ Below wx.heap.size wx w') :
    Calls Try.prog 51 #[.slice a n cap, .func (.func id) #[] caps] w fun e w' => e = .returned (.int .i64 (idxG p bs)) ∧ Below w.heap.size w w' := by
  have HR := Lib.hid hr
  have HE := Lib.hid he
  have HF := Lib.hid hf
  have HN := Lib.hid hn
  clear hr he hf hn
  go_enter Try.func51, Try.ntmps51
  go_wp2_with (fail)
  go_loopw [5, 8] (fun _ i wr => ∃ (k : Nat), k ≤ n ∧ i = .int .i64 k ∧ Hid (∀ x, x ∈ bs.take k → p x = false) ∧ Hid (Below w.heap.size w wr)) (fun _ i _ => n - (intOf i).toNat)
  case atStart => exact ⟨0, Nat.zero_le _, rfl, Lib.hid (by simp), Lib.hid (Below.refl _ _)⟩
  case round =>
    rename World => wy
    obtain ⟨k, hk, rfl, HP, HB⟩ := hrel
    have hbz := HB.out.size
    by_cases hlt : k < n
    · have hkl : k < bs.length := by rw [HN.out]; exact hlt
      obtain ⟨gb, off, rfl, hgb, d0, d1, d2, d3, d4⟩ := sys_get HR.out (List.getElem?_eq_getElem hkl)
      have k0 : (0 : Int) ≤ k := by omega
      have k1 : (k : Int) < n := by omega
      have hmem : (bs[k]'hkl) ∈ bs := List.getElem_mem hkl
      have d0 := (HB.out.cell (p := ⟨gb, off + k * 5, none⟩) hgb).trans d0
      have d1 := (HB.out.cell (p := ⟨gb, off + k * 5 + 1, none⟩) hgb).trans d1
      have d2 := (HB.out.cell (p := ⟨gb, off + k * 5 + 2, none⟩) hgb).trans d2
      have d3 := (HB.out.cell (p := ⟨gb, off + k * 5 + 3, none⟩) hgb).trans d3
      have d4 := (HB.out.cell (p := ⟨gb, off + k * 5 + 4, none⟩) hgb).trans d4
      have HX := Lib.hid (HF.out _ hmem wy HB.out)
      have hen := HE.out _ hmem
      have HTK := Lib.hid (show bs.take (k + 1) = bs.take k ++ [bs[k]'hkl] from List.take_succ_eq_append_getElem hkl)
      have HIX := Lib.hid (fun hp => idxG_some hkl (p := p) hp (fun j hj => HP.out _ (by rw [List.mem_take_iff_getElem]; exact ⟨j, by omega, rfl⟩)))
      generalize bs[k]'hkl = X at *
      obtain ⟨xq, xt, xr, xl, xc⟩ := X
      dsimp only [SysR.v] at *
      cases hpx : p ⟨xq, xt, xr, xl, xc⟩ with
      | true =>
        rw [hpx] at HX
        have hix := Lib.hid (HIX.out hpx)
        clear HIX hpx
        go_wp2_with (fail)
        refine HX.out.mono ?_
        rintro e wb ⟨rfl, hbb⟩
        have HBB := Lib.hid (HB.out.trans (hbb.mono hbz))
        clear hbb
        go_wp2_with (fail)
        go_ret
        exact ⟨by rw [hix.out]; rfl, HBB.out⟩
      | false =>
        rw [hpx] at HX
        have HPX := Lib.hid hpx
        clear HIX hpx
        go_wp2_with (fail)
        refine HX.out.mono ?_
        rintro e wb ⟨rfl, hbb⟩
        have HBB := Lib.hid (HB.out.trans (hbb.mono hbz))
        clear hbb
        go_wp2_with (fail)
        exact ⟨⟨k + 1, by omega, by go_num, Lib.hid (fun x hx => by
          rw [HTK.out, List.mem_append] at hx
          rcases hx with hx | hx
          · exact HP.out x hx
          · obtain rfl := List.mem_singleton.1 hx
            exact HPX.out), HBB⟩, by first | (simp [intOf]; done) | (simp [intOf]; omega)⟩
    · have k1 : ¬ (k : Int) < n := by omega
      have HALL : Hid (idxG p bs = -1) := Lib.hid (idxG_none (fun x hx => HP.out x (by rw [List.take_of_length_le (by rw [HN.out]; omega)]; exact hx)))
      clear HP
      go_wp2_with (fail)
      go_ret
      exact ⟨by rw [HALL.out]; rfl, HB.out⟩

/-- What of all rules is told. -/
def sysRes (rs : List SysR) (n : Int) (ns : List NowS) : Int × Bool × Int :=
  match ns with
  | [s] => if rs.all (fun x => sysE x.s == 0) then (if nOk n && nowOk s then (if idxG (fun x => !passB x.s n s) rs < 0 then (rs.length, true, 0) else (idxG (fun x => !passB x.s n s) rs, false, 0)) else (0, false, 2)) else (0, false, 33)
  | _ => (0, false, 6)
def tri3 (x : Int × Bool × Int) : Value := .tuple #[.int .i64 x.1, .bool x.2.1, .int .i64 x.2.2]
theorem sysRes_len {rs : List SysR} {n : Int} {ns : List NowS} (h : ns.length ≠ 1) : sysRes rs n ns = (0, false, 6) := by
  unfold sysRes
  split
  · simp at h
  · rfl
theorem sysRes_bad {rs : List SysR} {n : Int} {s : NowS} {x : SysR} (hx : x ∈ rs) (h : sysE x.s ≠ 0) : sysRes rs n [s] = (0, false, 33) := by
  unfold sysRes
  have : rs.all (fun x => sysE x.s == 0) = false := by
    rw [List.all_eq_false]; exact ⟨x, hx, by simpa using h⟩
  simp only [this]; rfl
theorem sysRes_form {rs : List SysR} {n : Int} {s : NowS} (ha : ∀ x ∈ rs, sysE x.s = 0) (h : (nOk n && nowOk s) = false) : sysRes rs n [s] = (0, false, 2) := by
  unfold sysRes
  have : rs.all (fun x => sysE x.s == 0) = true := List.all_eq_true.2 fun x hx => by simpa using ha x hx
  simp only [this, h]; rfl
theorem sysRes_ok {rs : List SysR} {n : Int} {s : NowS} (ha : ∀ x ∈ rs, sysE x.s = 0) (h : (nOk n && nowOk s) = true) : sysRes rs n [s] = if idxG (fun x => !passB x.s n s) rs < 0 then ((rs.length : Int), true, 0) else (idxG (fun x => !passB x.s n s) rs, false, 0) := by
  unfold sysRes
  have : rs.all (fun x => sysE x.s == 0) = true := List.all_eq_true.2 fun x hx => by simpa using ha x hx
  simp only [this, h]; rfl
theorem sysE_33 {r : SysS} (h : sysE r ≠ 0) : sysE r = 33 := by unfold sysE at *; split at h <;> simp_all
theorem all_next {rs : List SysR} {k : Nat} {x : SysR} (h : ∀ y ∈ rs.take k, sysE y.s = 0) (hk : rs[k]? = some x) (hx : sysE x.s = 0) : ∀ y ∈ rs.take (k + 1), sysE y.s = 0 := by
  intro y hy
  rw [List.take_add_one, hk, Option.toList_some, List.mem_append] at hy
  rcases hy with hy | hy
  · exact h y hy
  · obtain rfl := List.mem_singleton.1 hy; exact hx

set_option maxHeartbeats 6400000 in
set_option maxRecDepth 100000 in
theorem sysclo_any {w : World} (x : SysR) (n : Int) (s : NowS) (bn bw nb no nc : Nat) (hn : w.cell? ⟨bn, 0, none⟩ = some (.int .i64 n)) (hw : w.cell? ⟨bw, 0, none⟩ = some (.slice (some ⟨nb, no, none⟩) 1 nc))
    (hs : w.cell? ⟨nb, no, none⟩ = some (.int .i64 s.qps) ∧ w.cell? ⟨nb, no + 1, none⟩ = some (.int .i64 s.thr) ∧ w.cell? ⟨nb, no + 2, none⟩ = some (.int .i64 s.rt) ∧ w.cell? ⟨nb, no + 3, none⟩ = some (.int .i64 s.load) ∧ w.cell? ⟨nb, no + 4, none⟩ = some (.int .i64 s.cpu) ∧ w.cell? ⟨nb, no + 5, none⟩ = some (.int .i64 s.most) ∧ w.cell? ⟨nb, no + 6, none⟩ = some (.int .i64 s.least)) :
    Calls Try.prog 52 #[x.v, .pointer (some ⟨bn, 0, none⟩), .pointer (some ⟨bw, 0, none⟩)] w fun e w' => e = .returned (.bool (!passB x.s n s)) ∧ Below w.heap.size w w' := by
  have HGS : Hid (∀ wx, Calls Try.prog 12 #[.agg #[.int .i64 x.q, .int .i64 x.t, .int .i64 x.r, .int .i64 x.l, .int .i64 x.c], .int .i64 n, .agg #[.int .i64 s.qps, .int .i64 s.thr, .int .i64 s.rt, .int .i64 s.load, .int .i64 s.cpu, .int .i64 s.most, .int .i64 s.least]] wx fun e w' => e = .returned (.bool (passB x.s n s)) ∧ Below wx.heap.size wx w') := fun wx => gsystem_any x.s n s wx
  have hal : Below w.heap.size w (w.alloc (.cells #[.int .i64 x.q, .int .i64 x.t, .int .i64 x.r, .int .i64 x.l, .int .i64 x.c] 23)) := (Below.refl _ _).alloc (Nat.le_refl _) _
  have hz : (w.alloc (.cells #[.int .i64 x.q, .int .i64 x.t, .int .i64 x.r, .int .i64 x.l, .int .i64 x.c] 23)).heap[w.heap.size]? = some (.cells #[.int .i64 x.q, .int .i64 x.t, .int .i64 x.r, .int .i64 x.l, .int .i64 x.c] 23) := by rw [get_allocG, if_pos rfl]
  have hzz : (w.alloc (.cells #[.int .i64 x.q, .int .i64 x.t, .int .i64 x.r, .int .i64 x.l, .int .i64 x.c] 23)).heap.size = w.heap.size + 1 := by simp
  have l1 := World.block_lt_of_cell? w _ hn
  have l2 := World.block_lt_of_cell? w _ hw
  have l3 := World.block_lt_of_cell? w _ hs.1
  unfold SysR.v
  generalize passB x.s n s = PB at *
  go_enter Try.func52, Try.ntmps52
  go_wp2_with (fail)
  generalize w.alloc _ = wa at *
  have SB : Hid (∀ wx, Below wa.heap.size wa wx → (fun wx => ((wx.cell? ⟨w.heap.size, 0, none⟩ = some (.int .i64 x.q) ∧ wx.cell? ⟨w.heap.size, 1, none⟩ = some (.int .i64 x.t) ∧ wx.cell? ⟨w.heap.size, 2, none⟩ = some (.int .i64 x.r) ∧ wx.cell? ⟨w.heap.size, 3, none⟩ = some (.int .i64 x.l) ∧ wx.cell? ⟨w.heap.size, 4, none⟩ = some (.int .i64 x.c)) ∧ wx.cell? ⟨bn, 0, none⟩ = some (.int .i64 n) ∧ wx.cell? ⟨bw, 0, none⟩ = some (.slice (some ⟨nb, no, none⟩) 1 nc) ∧ (wx.cell? ⟨nb, no, none⟩ = some (.int .i64 s.qps) ∧ wx.cell? ⟨nb, no + 1, none⟩ = some (.int .i64 s.thr) ∧ wx.cell? ⟨nb, no + 2, none⟩ = some (.int .i64 s.rt) ∧ wx.cell? ⟨nb, no + 3, none⟩ = some (.int .i64 s.load) ∧ wx.cell? ⟨nb, no + 4, none⟩ = some (.int .i64 s.cpu) ∧ wx.cell? ⟨nb, no + 5, none⟩ = some (.int .i64 s.most) ∧ wx.cell? ⟨nb, no + 6, none⟩ = some (.int .i64 s.least))) ∧ Below wa.heap.size wa wx) wx) := fun wx hb => by
    have g0 := (hb.block w.heap.size (by omega)).trans hz
    have hbw := hal.trans (hb.mono hal.size)
    refine ⟨⟨?_, (hbw.cell (p := ⟨bn, 0, none⟩) l1).trans hn, (hbw.cell (p := ⟨bw, 0, none⟩) l2).trans hw, (hbw.cell (p := ⟨nb, no, none⟩) l3).trans hs.1, (hbw.cell (p := ⟨nb, no + 1, none⟩) l3).trans hs.2.1, (hbw.cell (p := ⟨nb, no + 2, none⟩) l3).trans hs.2.2.1, (hbw.cell (p := ⟨nb, no + 3, none⟩) l3).trans hs.2.2.2.1, (hbw.cell (p := ⟨nb, no + 4, none⟩) l3).trans hs.2.2.2.2.1, (hbw.cell (p := ⟨nb, no + 5, none⟩) l3).trans hs.2.2.2.2.2.1, (hbw.cell (p := ⟨nb, no + 6, none⟩) l3).trans hs.2.2.2.2.2.2⟩, hb⟩
    simp only [World.cell?, g0]
    exact ⟨rfl, rfl, rfl, rfl, rfl⟩
  have HAL := Lib.hid hal
  clear hn hw hs hz hal l1 l2 l3 hzz
  refine wp_region_held_drew (S := fun wx => ((wx.cell? ⟨w.heap.size, 0, none⟩ = some (.int .i64 x.q) ∧ wx.cell? ⟨w.heap.size, 1, none⟩ = some (.int .i64 x.t) ∧ wx.cell? ⟨w.heap.size, 2, none⟩ = some (.int .i64 x.r) ∧ wx.cell? ⟨w.heap.size, 3, none⟩ = some (.int .i64 x.l) ∧ wx.cell? ⟨w.heap.size, 4, none⟩ = some (.int .i64 x.c)) ∧ wx.cell? ⟨bn, 0, none⟩ = some (.int .i64 n) ∧ wx.cell? ⟨bw, 0, none⟩ = some (.slice (some ⟨nb, no, none⟩) 1 nc) ∧ (wx.cell? ⟨nb, no, none⟩ = some (.int .i64 s.qps) ∧ wx.cell? ⟨nb, no + 1, none⟩ = some (.int .i64 s.thr) ∧ wx.cell? ⟨nb, no + 2, none⟩ = some (.int .i64 s.rt) ∧ wx.cell? ⟨nb, no + 3, none⟩ = some (.int .i64 s.load) ∧ wx.cell? ⟨nb, no + 4, none⟩ = some (.int .i64 s.cpu) ∧ wx.cell? ⟨nb, no + 5, none⟩ = some (.int .i64 s.most) ∧ wx.cell? ⟨nb, no + 6, none⟩ = some (.int .i64 s.least))) ∧ Below wa.heap.size wa wx) (by kernel_rfl) ?_ (fun hHeld => ?_)
  · exact SB.out _ (Below.refl _ _).drew
  refine wpAnyH_take (i := 0) (v := ?_) rfl (by kernel_rfl) (by kernel_rfl) (by kernel_rfl) (fun _ _ _ h => h) (Or.inl ⟨by rfl, ?hy⟩) (by assumption) ?_
  case hy => intro w hSw; (try dsimp only at hSw); go_simp; try with_reducible rfl
  try simp only [Act.put, List.getElem_toArray, List.getElem_cons_succ, List.getElem_cons_zero, List.setIfInBounds_toArray, List.set_cons_zero, List.set_cons_succ]
  refine wpAnyH_take (i := 1) (v := ?_) rfl (by kernel_rfl) (by kernel_rfl) (by kernel_rfl) (fun _ _ _ h => h) (Or.inl ⟨by rfl, ?hy⟩) (by assumption) ?_
  case hy => intro w hSw; (try dsimp only at hSw); go_simp; try with_reducible rfl
  try simp only [Act.put, List.getElem_toArray, List.getElem_cons_succ, List.getElem_cons_zero, List.setIfInBounds_toArray, List.set_cons_zero, List.set_cons_succ]
  refine wpAnyH_take (i := 2) (v := ?_) rfl (by kernel_rfl) (by kernel_rfl) (by kernel_rfl) (fun _ _ _ h => h) (Or.inl ⟨by rfl, ?hy⟩) (by assumption) ?_
  case hy => intro w hSw; (try dsimp only at hSw); go_simp; try with_reducible rfl
  try simp only [Act.put, List.getElem_toArray, List.getElem_cons_succ, List.getElem_cons_zero, List.setIfInBounds_toArray, List.set_cons_zero, List.set_cons_succ]
  refine wpAnyH_take (i := 3) (v := ?_) rfl (by kernel_rfl) (by kernel_rfl) (by kernel_rfl) (fun _ _ _ h => h) (Or.inl ⟨by rfl, ?hy⟩) (by assumption) ?_
  case hy => intro w hSw; (try dsimp only at hSw); go_simp; try with_reducible rfl
  try simp only [Act.put, List.getElem_toArray, List.getElem_cons_succ, List.getElem_cons_zero, List.setIfInBounds_toArray, List.set_cons_zero, List.set_cons_succ]
  refine wpAnyH_take (i := 4) (v := ?_) rfl (by kernel_rfl) (by kernel_rfl) (by kernel_rfl) (fun _ _ _ h => h) (Or.inl ⟨by rfl, ?hy⟩) (by assumption) ?_
  case hy => intro w hSw; (try dsimp only at hSw); go_simp; try with_reducible rfl
  try simp only [Act.put, List.getElem_toArray, List.getElem_cons_succ, List.getElem_cons_zero, List.setIfInBounds_toArray, List.set_cons_zero, List.set_cons_succ]
  refine wpAnyH_ready (rs := [5]) (by kernel_rfl) (by simp) (AllReadyH.cons rfl (fun K hK => ?_) AllReadyH.nil)
  go_simp
  go_at_call 12; refine (HGS.out _).mono ?_; rintro e wq ⟨rfl, hbq⟩
  try (go_wp2_with fail)
  refine hK.out _ _ ?_ (fun hHeld => ?_)
  · exact SB.out _ (hHeld.2.trans (hbq.mono hHeld.2.size))
  clear hK K
  try simp only [Act.put, List.getElem_toArray, List.getElem_cons_succ, List.getElem_cons_zero, List.setIfInBounds_toArray, List.set_cons_zero, List.set_cons_succ]
  refine wpAnyH_take (i := 6) (v := ?_) rfl (by kernel_rfl) (by kernel_rfl) (by kernel_rfl) (fun _ _ _ h => h) (Or.inl ⟨by rfl, ?hy⟩) (by assumption) ?_
  case hy => intro w hSw; (try dsimp only at hSw); go_simp; try with_reducible rfl
  try simp only [Act.put, List.getElem_toArray, List.getElem_cons_succ, List.getElem_cons_zero, List.setIfInBounds_toArray, List.set_cons_zero, List.set_cons_succ]
  refine wpAnyH_take (i := 7) (v := ?_) rfl (by kernel_rfl) (by kernel_rfl) (by kernel_rfl) (fun _ _ _ h => h) (Or.inl ⟨by rfl, ?hy⟩) (by assumption) ?_
  case hy => intro w hSw; (try dsimp only at hSw); go_simp; try with_reducible rfl
  try simp only [Act.put, List.getElem_toArray, List.getElem_cons_succ, List.getElem_cons_zero, List.setIfInBounds_toArray, List.set_cons_zero, List.set_cons_succ]
  refine wpAnyH_done (by kernel_rfl) ?_ _
  go_wp2_with (fail)
  go_ret
  exact ⟨rfl, HAL.out.trans (hHeld.2.mono HAL.out.size)⟩
theorem enSC (x : SysR) (bn bw : Nat) (wx : World) : (callFunc 52 (#[x.v] ++ #[.pointer (some ⟨bn, 0, none⟩), .pointer (some ⟨bw, 0, none⟩)])).run Try.prog wx = .ok (.enter 52 (#[x.v] ++ #[.pointer (some ⟨bn, 0, none⟩), .pointer (some ⟨bw, 0, none⟩)])) wx := by kernel_rfl
end Go.Proofs.Ytnobfmlfhaaghaa