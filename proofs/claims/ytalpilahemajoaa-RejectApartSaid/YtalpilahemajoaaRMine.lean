/- The document's Mine: a loop that collects. -/
import Derived.Test.YtalpilahemajoaaRConc
import Derived.Test.YtalpilahemajoaaMineB
import Derived.Deep.RegionHeld3
namespace Go.Proofs.Ytalpilahemajoaa
open Go.RowKit
set_option linter.unusedVariables false
set_option linter.unusedSimpArgs false

theorem rm_kept {wr wx : World} {base size n : Nat} {e : TypeId} {v : Value} {xs : List Value} (h : wr.ownsRow base e size v n xs) (hb : Below wr.heap.size wr wx) : wx.ownsRow base e size v n xs :=
  h.kept (row := none) ⟨hb.os, hb.tape, hb.output, hb.size, fun k hk _ => hb.block k hk⟩ (by cases v.ownBlock <;> simp)

theorem field_rskip (r x o : ByteArray) (b : Bool) : ∀ w : World, (Instr.field 51 (.agg #[.string r, .string x, .string o, .bool b]) 3).run Try.prog w = .ok (.bool b) w := fun _ => by kernel_rfl

set_option maxHeartbeats 12800000 in
set_option maxRecDepth 100000 in
theorem rmine_any (a : Option Addr) (len cap : Nat) (fs : List FlowS) (c : CallS) (hargs : c.args.oneCell' = true) (w : World) (hl : fs.length = len) (hm : len * 8 ≤ 140737488351232) (hf : FlowsAt w a fs) :
    Calls Try.prog 13 #[.slice a len cap, c.v] w fun e W' => (∃ v, e = .returned v ∧ W'.ownsRow (w.heap.size + 1) 3 1 v (mineN fs c).length (intV (mineN fs c))) ∧ Below w.heap.size w W' := by
  obtain ⟨i0, hi, hz0, hz1, hz2⟩ := info_parts info_intM
  have HFA := Lib.hid hf
  have Hl := Lib.hid hl
  have HA := Lib.hid hargs
  have hargs' := hargs
  clear hf hl hargs
  have CV : c.v = .agg #[.int .i64 c.at_, .string c.res, .string c.ctx, .string c.org, .bool c.inb, .int .i64 c.cnt, c.args] := rfl
  rw [CV]
  have B1 := (Below.refl w.heap.size w).alloc (Nat.le_refl _) (.cells #[.int .i64 c.at_, .string c.res, .string c.ctx, .string c.org, .bool c.inb, .int .i64 c.cnt, c.args] 34)
  have HB0 := Lib.hid (World.alloc_heap_new w (.cells #[.int .i64 c.at_, .string c.res, .string c.ctx, .string c.org, .bool c.inb, .int .i64 c.cnt, c.args] 34))
  have z0 : (w.alloc (.cells #[.int .i64 c.at_, .string c.res, .string c.ctx, .string c.org, .bool c.inb, .int .i64 c.cnt, c.args] 34)).heap.size = w.heap.size + 1 := by simp
  go_enter Try.func13, Try.ntmps13
  go_wp2_with (fail)
  generalize (w.alloc (.cells #[.int .i64 c.at_, .string c.res, .string c.ctx, .string c.org, .bool c.inb, .int .i64 c.cnt, c.args] 34)) = w1 at *
  go_loopw [5, 6] (fun v i wr => ∃ k : Nat, k ≤ len ∧ i = .int .i64 k ∧ Hid (wr.ownsRow (w.heap.size + 1) 3 1 v (outN c (came fs c k)).length (intV (outN c (came fs c k)))) ∧ Hid (wr.heap[w.heap.size]? = some (.cells #[.int .i64 c.at_, .string c.res, .string c.ctx, .string c.org, .bool c.inb, .int .i64 c.cnt, c.args] 34)) ∧ Below w.heap.size w wr ∧ w.heap.size + 1 ≤ wr.heap.size)
    (fun _ i _ => len - (intOf i).toNat)
  case atStart => exact ⟨0, Nat.zero_le _, rfl, World.ownsRow_nil _ _ _ _, HB0.out, B1, by omega⟩
  case round =>
    obtain ⟨k, hk, rfl, hown, hcall, hbr, hsz⟩ := hrel
    by_cases hlt : k < len
    · obtain ⟨b, off, rfl, hl4, hfc⟩ : ∃ b off, a = some ⟨b, off, none⟩ ∧ b < w.heap.size ∧ ∀ j f, fs[j]? = some f → FlowAt w b (off + j * 12) f := by
        rcases HFA.out with h | h
        · have := Hl.out; rw [h] at this; simp at this; omega
        · exact h
      have L4 := Lib.hid hl4
      have Hf := Lib.hid hfc
      clear hl4 hfc HFA
      obtain ⟨f, hg⟩ : ∃ g, fs[k]? = some g := ⟨_, List.getElem?_eq_getElem (by rw [Hl.out]; exact hlt)⟩
      have HF := Lib.hid ((Hf.out k f hg).of_block (hbr.block b L4.out))
      have hle := outN_le c (came fs c k)
      have hle2 := came_le fs c k
      have bwr : b < wr.heap.size := Nat.lt_of_lt_of_le L4.out hbr.size
      have SS := Lib.hid (show ∀ wa wb : World, (fun wx => (wx.cell? ⟨b, off + k * 12, none⟩ = some (.string f.res) ∧ wx.cell? ⟨b, off + k * 12 + 1, none⟩ = some (.string f.org) ∧ wx.cell? ⟨b, off + k * 12 + 2, none⟩ = some (.bool f.thr) ∧ wx.cell? ⟨b, off + k * 12 + 3, none⟩ = some (.int .i64 f.cnt) ∧ wx.cell? ⟨b, off + k * 12 + 4, none⟩ = some (.int .u8 f.strat) ∧ wx.cell? ⟨b, off + k * 12 + 5, none⟩ = some (.string f.ref) ∧ wx.cell? ⟨b, off + k * 12 + 6, none⟩ = some (.int .u8 f.shape) ∧ wx.cell? ⟨b, off + k * 12 + 7, none⟩ = some (.int .i64 f.warm) ∧ wx.cell? ⟨b, off + k * 12 + 8, none⟩ = some (.int .i64 f.queue) ∧ wx.cell? ⟨b, off + k * 12 + 9, none⟩ = some (.bool f.cl) ∧ wx.cell? ⟨b, off + k * 12 + 10, none⟩ = some (.int .i64 f.id) ∧ wx.cell? ⟨b, off + k * 12 + 11, none⟩ = some (.bool f.fb)) ∧ (wx.cell? ⟨w.heap.size, 0, none⟩ = some (.int .i64 c.at_) ∧ wx.cell? ⟨w.heap.size, 1, none⟩ = some (.string c.res) ∧ wx.cell? ⟨w.heap.size, 2, none⟩ = some (.string c.ctx) ∧ wx.cell? ⟨w.heap.size, 3, none⟩ = some (.string c.org) ∧ wx.cell? ⟨w.heap.size, 4, none⟩ = some (.bool c.inb) ∧ wx.cell? ⟨w.heap.size, 5, none⟩ = some (.int .i64 c.cnt) ∧ wx.cell? ⟨w.heap.size, 6, none⟩ = some (c.args)) ∧ Below wr.heap.size wr wx) wa → Below wa.heap.size wa wb → (fun wx => (wx.cell? ⟨b, off + k * 12, none⟩ = some (.string f.res) ∧ wx.cell? ⟨b, off + k * 12 + 1, none⟩ = some (.string f.org) ∧ wx.cell? ⟨b, off + k * 12 + 2, none⟩ = some (.bool f.thr) ∧ wx.cell? ⟨b, off + k * 12 + 3, none⟩ = some (.int .i64 f.cnt) ∧ wx.cell? ⟨b, off + k * 12 + 4, none⟩ = some (.int .u8 f.strat) ∧ wx.cell? ⟨b, off + k * 12 + 5, none⟩ = some (.string f.ref) ∧ wx.cell? ⟨b, off + k * 12 + 6, none⟩ = some (.int .u8 f.shape) ∧ wx.cell? ⟨b, off + k * 12 + 7, none⟩ = some (.int .i64 f.warm) ∧ wx.cell? ⟨b, off + k * 12 + 8, none⟩ = some (.int .i64 f.queue) ∧ wx.cell? ⟨b, off + k * 12 + 9, none⟩ = some (.bool f.cl) ∧ wx.cell? ⟨b, off + k * 12 + 10, none⟩ = some (.int .i64 f.id) ∧ wx.cell? ⟨b, off + k * 12 + 11, none⟩ = some (.bool f.fb)) ∧ (wx.cell? ⟨w.heap.size, 0, none⟩ = some (.int .i64 c.at_) ∧ wx.cell? ⟨w.heap.size, 1, none⟩ = some (.string c.res) ∧ wx.cell? ⟨w.heap.size, 2, none⟩ = some (.string c.ctx) ∧ wx.cell? ⟨w.heap.size, 3, none⟩ = some (.string c.org) ∧ wx.cell? ⟨w.heap.size, 4, none⟩ = some (.bool c.inb) ∧ wx.cell? ⟨w.heap.size, 5, none⟩ = some (.int .i64 c.cnt) ∧ wx.cell? ⟨w.heap.size, 6, none⟩ = some (c.args)) ∧ Below wr.heap.size wr wx) wb from fun wa wb hs hb => by
        obtain ⟨⟨h0, h1, h2, h3, h4, h5, h6, h7, h8, h9, h10, h11⟩, ⟨g0, g1, g2, g3, g4, g5, g6⟩, hz⟩ := hs
        have hzs := hz.size
        exact ⟨⟨(hb.cell (by show b < _; omega)).trans h0, (hb.cell (by show b < _; omega)).trans h1, (hb.cell (by show b < _; omega)).trans h2, (hb.cell (by show b < _; omega)).trans h3, (hb.cell (by show b < _; omega)).trans h4, (hb.cell (by show b < _; omega)).trans h5, (hb.cell (by show b < _; omega)).trans h6, (hb.cell (by show b < _; omega)).trans h7, (hb.cell (by show b < _; omega)).trans h8, (hb.cell (by show b < _; omega)).trans h9, (hb.cell (by show b < _; omega)).trans h10, (hb.cell (by show b < _; omega)).trans h11⟩, ⟨(hb.cell (by show w.heap.size < _; omega)).trans g0, (hb.cell (by show w.heap.size < _; omega)).trans g1, (hb.cell (by show w.heap.size < _; omega)).trans g2, (hb.cell (by show w.heap.size < _; omega)).trans g3, (hb.cell (by show w.heap.size < _; omega)).trans g4, (hb.cell (by show w.heap.size < _; omega)).trans g5, (hb.cell (by show w.heap.size < _; omega)).trans g6⟩, hz.trans (hb.mono hzs)⟩)
      have QC := Lib.hid (show ∀ wx : World, wx.heap[w.heap.size]? = some (.cells #[.int .i64 c.at_, .string c.res, .string c.ctx, .string c.org, .bool c.inb, .int .i64 c.cnt, c.args] 34) → (wx.cell? ⟨w.heap.size, 0, none⟩ = some (.int .i64 c.at_) ∧ wx.cell? ⟨w.heap.size, 1, none⟩ = some (.string c.res) ∧ wx.cell? ⟨w.heap.size, 2, none⟩ = some (.string c.ctx) ∧ wx.cell? ⟨w.heap.size, 3, none⟩ = some (.string c.org) ∧ wx.cell? ⟨w.heap.size, 4, none⟩ = some (.bool c.inb) ∧ wx.cell? ⟨w.heap.size, 5, none⟩ = some (.int .i64 c.cnt) ∧ wx.cell? ⟨w.heap.size, 6, none⟩ = some (c.args)) from fun wx hx => by
        simp only [World.cell?, hx]
        repeat' apply And.intro
        all_goals rfl)
      have S0 : (fun wx => (wx.cell? ⟨b, off + k * 12, none⟩ = some (.string f.res) ∧ wx.cell? ⟨b, off + k * 12 + 1, none⟩ = some (.string f.org) ∧ wx.cell? ⟨b, off + k * 12 + 2, none⟩ = some (.bool f.thr) ∧ wx.cell? ⟨b, off + k * 12 + 3, none⟩ = some (.int .i64 f.cnt) ∧ wx.cell? ⟨b, off + k * 12 + 4, none⟩ = some (.int .u8 f.strat) ∧ wx.cell? ⟨b, off + k * 12 + 5, none⟩ = some (.string f.ref) ∧ wx.cell? ⟨b, off + k * 12 + 6, none⟩ = some (.int .u8 f.shape) ∧ wx.cell? ⟨b, off + k * 12 + 7, none⟩ = some (.int .i64 f.warm) ∧ wx.cell? ⟨b, off + k * 12 + 8, none⟩ = some (.int .i64 f.queue) ∧ wx.cell? ⟨b, off + k * 12 + 9, none⟩ = some (.bool f.cl) ∧ wx.cell? ⟨b, off + k * 12 + 10, none⟩ = some (.int .i64 f.id) ∧ wx.cell? ⟨b, off + k * 12 + 11, none⟩ = some (.bool f.fb)) ∧ (wx.cell? ⟨w.heap.size, 0, none⟩ = some (.int .i64 c.at_) ∧ wx.cell? ⟨w.heap.size, 1, none⟩ = some (.string c.res) ∧ wx.cell? ⟨w.heap.size, 2, none⟩ = some (.string c.ctx) ∧ wx.cell? ⟨w.heap.size, 3, none⟩ = some (.string c.org) ∧ wx.cell? ⟨w.heap.size, 4, none⟩ = some (.bool c.inb) ∧ wx.cell? ⟨w.heap.size, 5, none⟩ = some (.int .i64 c.cnt) ∧ wx.cell? ⟨w.heap.size, 6, none⟩ = some (c.args)) ∧ Below wr.heap.size wr wx) wr.drew := by
        obtain ⟨h0, h1, h2, h3, h4, h5, h6, h7, h8, h9, h10, h11⟩ := HF.out
        exact ⟨⟨h0, h1, h2, h3, h4, h5, h6, h7, h8, h9, h10, h11⟩, QC.out _ hcall.out, (Below.refl _ _).drew⟩
      have HS0 := Lib.hid S0
      have Hc := Lib.hid (fun (wx : World) (hS : (fun wx => (wx.cell? ⟨b, off + k * 12, none⟩ = some (.string f.res) ∧ wx.cell? ⟨b, off + k * 12 + 1, none⟩ = some (.string f.org) ∧ wx.cell? ⟨b, off + k * 12 + 2, none⟩ = some (.bool f.thr) ∧ wx.cell? ⟨b, off + k * 12 + 3, none⟩ = some (.int .i64 f.cnt) ∧ wx.cell? ⟨b, off + k * 12 + 4, none⟩ = some (.int .u8 f.strat) ∧ wx.cell? ⟨b, off + k * 12 + 5, none⟩ = some (.string f.ref) ∧ wx.cell? ⟨b, off + k * 12 + 6, none⟩ = some (.int .u8 f.shape) ∧ wx.cell? ⟨b, off + k * 12 + 7, none⟩ = some (.int .i64 f.warm) ∧ wx.cell? ⟨b, off + k * 12 + 8, none⟩ = some (.int .i64 f.queue) ∧ wx.cell? ⟨b, off + k * 12 + 9, none⟩ = some (.bool f.cl) ∧ wx.cell? ⟨b, off + k * 12 + 10, none⟩ = some (.int .i64 f.id) ∧ wx.cell? ⟨b, off + k * 12 + 11, none⟩ = some (.bool f.fb)) ∧ (wx.cell? ⟨w.heap.size, 0, none⟩ = some (.int .i64 c.at_) ∧ wx.cell? ⟨w.heap.size, 1, none⟩ = some (.string c.res) ∧ wx.cell? ⟨w.heap.size, 2, none⟩ = some (.string c.ctx) ∧ wx.cell? ⟨w.heap.size, 3, none⟩ = some (.string c.org) ∧ wx.cell? ⟨w.heap.size, 4, none⟩ = some (.bool c.inb) ∧ wx.cell? ⟨w.heap.size, 5, none⟩ = some (.int .i64 c.cnt) ∧ wx.cell? ⟨w.heap.size, 6, none⟩ = some (c.args)) ∧ Below wr.heap.size wr wx) wx) => have hb : Below wr.heap.size wr wx := hS.2.2; rconcerns_any fs f c.org k b off len cap wx Hl.out hg (by omega) (fun j g hj => ((Hf.out j g hj).of_block (hbr.block b L4.out)).of_block (hb.block b bwr)) (Nat.lt_of_lt_of_le bwr hb.size))
      have Hw := Lib.hid (fun (wx : World) => rwhere_any f c HA.out wx)
      rw [CV] at Hw
      unfold FlowS.v FlowS.cells LookS.v at Hw
      have Yes := Lib.hid (fun h => came_yes (c := c) hg h)
      have No := Lib.hid (fun h => came_no (c := c) hg h)
      unfold mineB at Yes No
      have k0 : (0 : Int) ≤ k := by omega
      have k1 : (k : Int) < len := by omega
      clear S0 hg bwr CV HB0 B1 z0
      cases h1 : (f.res.toList == c.res.toList)
      · have hn := No.out (by rw [h1]; rfl)
        obtain ⟨h0, h1, h2, h3, h4, h5, h6, h7, h8, h9, h10, h11⟩ := HF.out
        obtain ⟨q0, q1, q2, q3, q4, q5, q6⟩ := QC.out _ hcall.out
        clear Yes No Hc Hw HS0 SS QC HF
        go_wp2_with (fail)
        go_quiet (fail)
        go_wp2_with (fail)
        exact ⟨⟨k + 1, by omega, by go_num, by rw [hn]; exact rm_kept hown.out (below_drewF (Below.refl _ _) _), hcall.out, below_drewF hbr _, hsz⟩, by simp [intOf]; omega⟩
      · cases h2 : concF fs f c.org
        · have hn := No.out (by rw [h1, h2]; rfl)
          rw [h2] at Hc
          go_wp2_with (fail)
          refine wp_region_noPanic ?_
          refine wp_region_held_drew (S := fun wx => (wx.cell? ⟨b, off + k * 12, none⟩ = some (.string f.res) ∧ wx.cell? ⟨b, off + k * 12 + 1, none⟩ = some (.string f.org) ∧ wx.cell? ⟨b, off + k * 12 + 2, none⟩ = some (.bool f.thr) ∧ wx.cell? ⟨b, off + k * 12 + 3, none⟩ = some (.int .i64 f.cnt) ∧ wx.cell? ⟨b, off + k * 12 + 4, none⟩ = some (.int .u8 f.strat) ∧ wx.cell? ⟨b, off + k * 12 + 5, none⟩ = some (.string f.ref) ∧ wx.cell? ⟨b, off + k * 12 + 6, none⟩ = some (.int .u8 f.shape) ∧ wx.cell? ⟨b, off + k * 12 + 7, none⟩ = some (.int .i64 f.warm) ∧ wx.cell? ⟨b, off + k * 12 + 8, none⟩ = some (.int .i64 f.queue) ∧ wx.cell? ⟨b, off + k * 12 + 9, none⟩ = some (.bool f.cl) ∧ wx.cell? ⟨b, off + k * 12 + 10, none⟩ = some (.int .i64 f.id) ∧ wx.cell? ⟨b, off + k * 12 + 11, none⟩ = some (.bool f.fb)) ∧ (wx.cell? ⟨w.heap.size, 0, none⟩ = some (.int .i64 c.at_) ∧ wx.cell? ⟨w.heap.size, 1, none⟩ = some (.string c.res) ∧ wx.cell? ⟨w.heap.size, 2, none⟩ = some (.string c.ctx) ∧ wx.cell? ⟨w.heap.size, 3, none⟩ = some (.string c.org) ∧ wx.cell? ⟨w.heap.size, 4, none⟩ = some (.bool c.inb) ∧ wx.cell? ⟨w.heap.size, 5, none⟩ = some (.int .i64 c.cnt) ∧ wx.cell? ⟨w.heap.size, 6, none⟩ = some (c.args)) ∧ Below wr.heap.size wr wx) (by kernel_rfl) ?_ (fun hHeld => ?_)
          · exact HS0.out
          refine wpAnyH_take (i := 0) (v := ?_) rfl (by kernel_rfl) (by kernel_rfl) (by kernel_rfl) (fun _ _ _ h => h) (Or.inl ⟨by rfl, ?hy⟩) (by assumption) ?_
          case hy => intro w hSw; (try dsimp only at hSw); go_simp; try with_reducible rfl
          try simp only [Act.put, List.getElem_toArray, List.getElem_cons_succ, List.getElem_cons_zero, List.setIfInBounds_toArray, List.set_cons_zero, List.set_cons_succ]
          refine wpAnyH_take (i := 1) (v := ?_) rfl (by kernel_rfl) (by kernel_rfl) (by kernel_rfl) (fun _ _ _ h => h) (Or.inl ⟨by rfl, ?hy⟩) (by assumption) ?_
          case hy => intro w hSw; (try dsimp only at hSw); go_simp; try with_reducible rfl
          try simp only [Act.put, List.getElem_toArray, List.getElem_cons_succ, List.getElem_cons_zero, List.setIfInBounds_toArray, List.set_cons_zero, List.set_cons_succ]
          refine wpAnyH_take (i := 2) (v := ?_) rfl (by kernel_rfl) (by kernel_rfl) (by kernel_rfl) (fun _ _ _ h => h) (Or.inl ⟨by rfl, ?hy⟩) (by assumption) ?_
          case hy => intro w hSw; (try dsimp only at hSw); go_simp; try with_reducible rfl
          try simp only [Act.put, List.getElem_toArray, List.getElem_cons_succ, List.getElem_cons_zero, List.setIfInBounds_toArray, List.set_cons_zero, List.set_cons_succ]
          refine wpAnyH_take (i := 3) (v := ?_) rfl (by kernel_rfl) (by kernel_rfl) (by kernel_rfl) (fun _ _ _ h => h) (Or.inl ⟨by rfl, ?hy⟩) (by assumption) ?_
          case hy => intro w hSw; (try dsimp only at hSw); go_simp; try with_reducible rfl
          try simp only [Act.put, List.getElem_toArray, List.getElem_cons_succ, List.getElem_cons_zero, List.setIfInBounds_toArray, List.set_cons_zero, List.set_cons_succ]
          refine wpAnyH_take (i := 4) (v := ?_) rfl (by kernel_rfl) (by kernel_rfl) (by kernel_rfl) (fun _ _ _ h => h) (Or.inl ⟨by rfl, ?hy⟩) (by assumption) ?_
          case hy => intro w hSw; (try dsimp only at hSw); go_simp; try with_reducible rfl
          try simp only [Act.put, List.getElem_toArray, List.getElem_cons_succ, List.getElem_cons_zero, List.setIfInBounds_toArray, List.set_cons_zero, List.set_cons_succ]
          refine wpAnyH_take (i := 5) (v := ?_) rfl (by kernel_rfl) (by kernel_rfl) (by kernel_rfl) (fun _ _ _ h => h) (Or.inl ⟨by rfl, ?hy⟩) (by assumption) ?_
          case hy => intro w hSw; (try dsimp only at hSw); go_simp; try with_reducible rfl
          try simp only [Act.put, List.getElem_toArray, List.getElem_cons_succ, List.getElem_cons_zero, List.setIfInBounds_toArray, List.set_cons_zero, List.set_cons_succ]
          refine wpAnyH_take (i := 6) (v := ?_) rfl (by kernel_rfl) (by kernel_rfl) (by kernel_rfl) (fun _ _ _ h => h) (Or.inl ⟨by rfl, ?hy⟩) (by assumption) ?_
          case hy => intro w hSw; (try dsimp only at hSw); go_simp; try with_reducible rfl
          try simp only [Act.put, List.getElem_toArray, List.getElem_cons_succ, List.getElem_cons_zero, List.setIfInBounds_toArray, List.set_cons_zero, List.set_cons_succ]
          refine wpAnyH_take (i := 7) (v := ?_) rfl (by kernel_rfl) (by kernel_rfl) (by kernel_rfl) (fun _ _ _ h => h) (Or.inl ⟨by rfl, ?hy⟩) (by assumption) ?_
          case hy => intro w hSw; (try dsimp only at hSw); go_simp; try with_reducible rfl
          try simp only [Act.put, List.getElem_toArray, List.getElem_cons_succ, List.getElem_cons_zero, List.setIfInBounds_toArray, List.set_cons_zero, List.set_cons_succ]
          refine wpAnyH_take (i := 8) (v := ?_) rfl (by kernel_rfl) (by kernel_rfl) (by kernel_rfl) (fun _ _ _ h => h) (Or.inl ⟨by rfl, ?hy⟩) (by assumption) ?_
          case hy => intro w hSw; (try dsimp only at hSw); go_simp; try with_reducible rfl
          try simp only [Act.put, List.getElem_toArray, List.getElem_cons_succ, List.getElem_cons_zero, List.setIfInBounds_toArray, List.set_cons_zero, List.set_cons_succ]
          refine wpAnyH_take (i := 9) (v := ?_) rfl (by kernel_rfl) (by kernel_rfl) (by kernel_rfl) (fun _ _ _ h => h) (Or.inl ⟨by rfl, ?hy⟩) (by assumption) ?_
          case hy => intro w hSw; (try dsimp only at hSw); go_simp; try with_reducible rfl
          try simp only [Act.put, List.getElem_toArray, List.getElem_cons_succ, List.getElem_cons_zero, List.setIfInBounds_toArray, List.set_cons_zero, List.set_cons_succ]
          refine wpAnyH_take (i := 10) (v := ?_) rfl (by kernel_rfl) (by kernel_rfl) (by kernel_rfl) (fun _ _ _ h => h) (Or.inl ⟨by rfl, ?hy⟩) (by assumption) ?_
          case hy => intro w hSw; (try dsimp only at hSw); go_simp; try with_reducible rfl
          try simp only [Act.put, List.getElem_toArray, List.getElem_cons_succ, List.getElem_cons_zero, List.setIfInBounds_toArray, List.set_cons_zero, List.set_cons_succ]
          refine wpAnyH_take (i := 11) (v := ?_) rfl (by kernel_rfl) (by kernel_rfl) (by kernel_rfl) (fun _ _ _ h => h) (Or.inl ⟨by rfl, ?hy⟩) (by assumption) ?_
          case hy => intro w hSw; (try dsimp only at hSw); go_simp; try with_reducible rfl
          try simp only [Act.put, List.getElem_toArray, List.getElem_cons_succ, List.getElem_cons_zero, List.setIfInBounds_toArray, List.set_cons_zero, List.set_cons_succ]
          refine wpAnyH_take (i := 12) (v := ?_) rfl (by kernel_rfl) (by kernel_rfl) (by kernel_rfl) (fun _ _ _ h => h) (Or.inl ⟨by rfl, ?hy⟩) (by assumption) ?_
          case hy => intro w hSw; (try dsimp only at hSw); go_simp; try with_reducible rfl
          try simp only [Act.put, List.getElem_toArray, List.getElem_cons_succ, List.getElem_cons_zero, List.setIfInBounds_toArray, List.set_cons_zero, List.set_cons_succ]
          refine wpAnyH_ready (rs := [13]) (by kernel_rfl) (by simp) (AllReadyH.cons rfl (fun K hK => ?_) AllReadyH.nil)
          go_simp
          go_at_call 17; refine (Hc.out _ (by first | exact HS0.out | assumption)).mono ?_; rintro e wa ⟨rfl, ha⟩
          try (go_wp2_with fail)
          refine hK.out _ _ ?_ (fun hHeld => ?_)
          · exact SS.out _ _ HS0.out ha
          clear hK K
          try simp only [Act.put, List.getElem_toArray, List.getElem_cons_succ, List.getElem_cons_zero, List.setIfInBounds_toArray, List.set_cons_zero, List.set_cons_succ]
          refine wpAnyH_take (i := 14) (v := ?_) rfl (by kernel_rfl) (by kernel_rfl) (by kernel_rfl) (fun _ _ _ h => h) (Or.inl ⟨by rfl, ?hy⟩) (by assumption) ?_
          case hy => intro w hSw; (try dsimp only at hSw); go_simp; try with_reducible rfl
          try simp only [Act.put, List.getElem_toArray, List.getElem_cons_succ, List.getElem_cons_zero, List.setIfInBounds_toArray, List.set_cons_zero, List.set_cons_succ]
          refine wpAnyH_take (i := 15) (v := ?_) rfl (by kernel_rfl) (by kernel_rfl) (by kernel_rfl) (fun _ _ _ h => h) (Or.inl ⟨by rfl, ?hy⟩) (by assumption) ?_
          case hy => intro w hSw; (try dsimp only at hSw); go_simp; try with_reducible rfl
          try simp only [Act.put, List.getElem_toArray, List.getElem_cons_succ, List.getElem_cons_zero, List.setIfInBounds_toArray, List.set_cons_zero, List.set_cons_succ]
          refine wpAnyH_take (i := 16) (v := undef) rfl (by kernel_rfl) (by kernel_rfl) (by kernel_rfl) (fun _ _ _ h => h) (Or.inr ⟨by rfl, rfl⟩) (by assumption) ?_
          try simp only [Act.put, List.getElem_toArray, List.getElem_cons_succ, List.getElem_cons_zero, List.setIfInBounds_toArray, List.set_cons_zero, List.set_cons_succ]
          refine wpAnyH_take (i := 17) (v := undef) rfl (by kernel_rfl) (by kernel_rfl) (by kernel_rfl) (fun _ _ _ h => h) (Or.inr ⟨by rfl, rfl⟩) (by assumption) ?_
          try simp only [Act.put, List.getElem_toArray, List.getElem_cons_succ, List.getElem_cons_zero, List.setIfInBounds_toArray, List.set_cons_zero, List.set_cons_succ]
          refine wpAnyH_take (i := 18) (v := undef) rfl (by kernel_rfl) (by kernel_rfl) (by kernel_rfl) (fun _ _ _ h => h) (Or.inr ⟨by rfl, rfl⟩) (by assumption) ?_
          try simp only [Act.put, List.getElem_toArray, List.getElem_cons_succ, List.getElem_cons_zero, List.setIfInBounds_toArray, List.set_cons_zero, List.set_cons_succ]
          refine wpAnyH_take (i := 19) (v := undef) rfl (by kernel_rfl) (by kernel_rfl) (by kernel_rfl) (fun _ _ _ h => h) (Or.inr ⟨by rfl, rfl⟩) (by assumption) ?_
          try simp only [Act.put, List.getElem_toArray, List.getElem_cons_succ, List.getElem_cons_zero, List.setIfInBounds_toArray, List.set_cons_zero, List.set_cons_succ]
          refine wpAnyH_take (i := 20) (v := undef) rfl (by kernel_rfl) (by kernel_rfl) (by kernel_rfl) (fun _ _ _ h => h) (Or.inr ⟨by rfl, rfl⟩) (by assumption) ?_
          try simp only [Act.put, List.getElem_toArray, List.getElem_cons_succ, List.getElem_cons_zero, List.setIfInBounds_toArray, List.set_cons_zero, List.set_cons_succ]
          refine wpAnyH_ready (rs := [21]) (by kernel_rfl) (by simp) (AllReadyH.cons rfl (fun K hK => ?_) AllReadyH.nil)
          rw [if_neg (by exact Bool.false_ne_true)]
          refine hK.out _ _ hHeld (fun hHeld => ?_)
          clear hK K
          try simp only [Act.put, List.getElem_toArray, List.getElem_cons_succ, List.getElem_cons_zero, List.setIfInBounds_toArray, List.set_cons_zero, List.set_cons_succ]
          refine wpAnyH_take (i := 22) (v := undef) rfl (by kernel_rfl) (by kernel_rfl) (by kernel_rfl) (fun _ _ _ h => h) (Or.inr ⟨by rfl, rfl⟩) (by assumption) ?_
          try simp only [Act.put, List.getElem_toArray, List.getElem_cons_succ, List.getElem_cons_zero, List.setIfInBounds_toArray, List.set_cons_zero, List.set_cons_succ]
          refine wpAnyH_take (i := 23) (v := undef) rfl (by kernel_rfl) (by kernel_rfl) (by kernel_rfl) (fun _ _ _ h => h) (Or.inr ⟨by rfl, rfl⟩) (by assumption) ?_
          try simp only [Act.put, List.getElem_toArray, List.getElem_cons_succ, List.getElem_cons_zero, List.setIfInBounds_toArray, List.set_cons_zero, List.set_cons_succ]
          refine wpAnyH_take (i := 24) (v := ?_) rfl (by kernel_rfl) (by kernel_rfl) (by kernel_rfl) (fun _ _ _ h => h) (Or.inl ⟨by rfl, ?hy⟩) (by assumption) ?_
          case hy => intro w hSw; (try dsimp only at hSw); go_simp; try with_reducible rfl
          try simp only [Act.put, List.getElem_toArray, List.getElem_cons_succ, List.getElem_cons_zero, List.setIfInBounds_toArray, List.set_cons_zero, List.set_cons_succ]
          refine wpAnyH_done (by kernel_rfl) ?_ _
          refine NoPanic.normal ?_
          have hb2 : Below wr.heap.size wr _ := hHeld.2.2
          clear SS HS0 QC HF Yes No Hc Hw hHeld
          go_wp2_with (fail)
          exact ⟨⟨k + 1, by omega, by go_num, by rw [hn]; exact rm_kept hown.out hb2, (hb2.block _ (by omega)).trans hcall.out, hbr.trans (hb2.mono hbr.size), Nat.le_trans hsz hb2.size⟩, by simp [intOf]; omega⟩
        · have hy := Yes.out (by rw [h1, h2]; rfl)
          rw [h2] at Hc
          cases hsk : (whereL f c).skip
          · have hn := outN_yes (c := c) (pre := came fs c k) (p := (k, f)) hsk
            rw [hsk] at Hw
            have hfd := field_rskip (whereL f c).res (whereL f c).ctx (whereL f c).org false
            go_wp2_with (fail)
            refine wp_region_noPanic ?_
            refine wp_region_held_drew (S := fun wx => (wx.cell? ⟨b, off + k * 12, none⟩ = some (.string f.res) ∧ wx.cell? ⟨b, off + k * 12 + 1, none⟩ = some (.string f.org) ∧ wx.cell? ⟨b, off + k * 12 + 2, none⟩ = some (.bool f.thr) ∧ wx.cell? ⟨b, off + k * 12 + 3, none⟩ = some (.int .i64 f.cnt) ∧ wx.cell? ⟨b, off + k * 12 + 4, none⟩ = some (.int .u8 f.strat) ∧ wx.cell? ⟨b, off + k * 12 + 5, none⟩ = some (.string f.ref) ∧ wx.cell? ⟨b, off + k * 12 + 6, none⟩ = some (.int .u8 f.shape) ∧ wx.cell? ⟨b, off + k * 12 + 7, none⟩ = some (.int .i64 f.warm) ∧ wx.cell? ⟨b, off + k * 12 + 8, none⟩ = some (.int .i64 f.queue) ∧ wx.cell? ⟨b, off + k * 12 + 9, none⟩ = some (.bool f.cl) ∧ wx.cell? ⟨b, off + k * 12 + 10, none⟩ = some (.int .i64 f.id) ∧ wx.cell? ⟨b, off + k * 12 + 11, none⟩ = some (.bool f.fb)) ∧ (wx.cell? ⟨w.heap.size, 0, none⟩ = some (.int .i64 c.at_) ∧ wx.cell? ⟨w.heap.size, 1, none⟩ = some (.string c.res) ∧ wx.cell? ⟨w.heap.size, 2, none⟩ = some (.string c.ctx) ∧ wx.cell? ⟨w.heap.size, 3, none⟩ = some (.string c.org) ∧ wx.cell? ⟨w.heap.size, 4, none⟩ = some (.bool c.inb) ∧ wx.cell? ⟨w.heap.size, 5, none⟩ = some (.int .i64 c.cnt) ∧ wx.cell? ⟨w.heap.size, 6, none⟩ = some (c.args)) ∧ Below wr.heap.size wr wx) (by kernel_rfl) ?_ (fun hHeld => ?_)
            · exact HS0.out
            refine wpAnyH_take (i := 0) (v := ?_) rfl (by kernel_rfl) (by kernel_rfl) (by kernel_rfl) (fun _ _ _ h => h) (Or.inl ⟨by rfl, ?hy⟩) (by assumption) ?_
            case hy => intro w hSw; (try dsimp only at hSw); go_simp; try with_reducible rfl
            try simp only [Act.put, List.getElem_toArray, List.getElem_cons_succ, List.getElem_cons_zero, List.setIfInBounds_toArray, List.set_cons_zero, List.set_cons_succ]
            refine wpAnyH_take (i := 1) (v := ?_) rfl (by kernel_rfl) (by kernel_rfl) (by kernel_rfl) (fun _ _ _ h => h) (Or.inl ⟨by rfl, ?hy⟩) (by assumption) ?_
            case hy => intro w hSw; (try dsimp only at hSw); go_simp; try with_reducible rfl
            try simp only [Act.put, List.getElem_toArray, List.getElem_cons_succ, List.getElem_cons_zero, List.setIfInBounds_toArray, List.set_cons_zero, List.set_cons_succ]
            refine wpAnyH_take (i := 2) (v := ?_) rfl (by kernel_rfl) (by kernel_rfl) (by kernel_rfl) (fun _ _ _ h => h) (Or.inl ⟨by rfl, ?hy⟩) (by assumption) ?_
            case hy => intro w hSw; (try dsimp only at hSw); go_simp; try with_reducible rfl
            try simp only [Act.put, List.getElem_toArray, List.getElem_cons_succ, List.getElem_cons_zero, List.setIfInBounds_toArray, List.set_cons_zero, List.set_cons_succ]
            refine wpAnyH_take (i := 3) (v := ?_) rfl (by kernel_rfl) (by kernel_rfl) (by kernel_rfl) (fun _ _ _ h => h) (Or.inl ⟨by rfl, ?hy⟩) (by assumption) ?_
            case hy => intro w hSw; (try dsimp only at hSw); go_simp; try with_reducible rfl
            try simp only [Act.put, List.getElem_toArray, List.getElem_cons_succ, List.getElem_cons_zero, List.setIfInBounds_toArray, List.set_cons_zero, List.set_cons_succ]
            refine wpAnyH_take (i := 4) (v := ?_) rfl (by kernel_rfl) (by kernel_rfl) (by kernel_rfl) (fun _ _ _ h => h) (Or.inl ⟨by rfl, ?hy⟩) (by assumption) ?_
            case hy => intro w hSw; (try dsimp only at hSw); go_simp; try with_reducible rfl
            try simp only [Act.put, List.getElem_toArray, List.getElem_cons_succ, List.getElem_cons_zero, List.setIfInBounds_toArray, List.set_cons_zero, List.set_cons_succ]
            refine wpAnyH_take (i := 5) (v := ?_) rfl (by kernel_rfl) (by kernel_rfl) (by kernel_rfl) (fun _ _ _ h => h) (Or.inl ⟨by rfl, ?hy⟩) (by assumption) ?_
            case hy => intro w hSw; (try dsimp only at hSw); go_simp; try with_reducible rfl
            try simp only [Act.put, List.getElem_toArray, List.getElem_cons_succ, List.getElem_cons_zero, List.setIfInBounds_toArray, List.set_cons_zero, List.set_cons_succ]
            refine wpAnyH_take (i := 6) (v := ?_) rfl (by kernel_rfl) (by kernel_rfl) (by kernel_rfl) (fun _ _ _ h => h) (Or.inl ⟨by rfl, ?hy⟩) (by assumption) ?_
            case hy => intro w hSw; (try dsimp only at hSw); go_simp; try with_reducible rfl
            try simp only [Act.put, List.getElem_toArray, List.getElem_cons_succ, List.getElem_cons_zero, List.setIfInBounds_toArray, List.set_cons_zero, List.set_cons_succ]
            refine wpAnyH_take (i := 7) (v := ?_) rfl (by kernel_rfl) (by kernel_rfl) (by kernel_rfl) (fun _ _ _ h => h) (Or.inl ⟨by rfl, ?hy⟩) (by assumption) ?_
            case hy => intro w hSw; (try dsimp only at hSw); go_simp; try with_reducible rfl
            try simp only [Act.put, List.getElem_toArray, List.getElem_cons_succ, List.getElem_cons_zero, List.setIfInBounds_toArray, List.set_cons_zero, List.set_cons_succ]
            refine wpAnyH_take (i := 8) (v := ?_) rfl (by kernel_rfl) (by kernel_rfl) (by kernel_rfl) (fun _ _ _ h => h) (Or.inl ⟨by rfl, ?hy⟩) (by assumption) ?_
            case hy => intro w hSw; (try dsimp only at hSw); go_simp; try with_reducible rfl
            try simp only [Act.put, List.getElem_toArray, List.getElem_cons_succ, List.getElem_cons_zero, List.setIfInBounds_toArray, List.set_cons_zero, List.set_cons_succ]
            refine wpAnyH_take (i := 9) (v := ?_) rfl (by kernel_rfl) (by kernel_rfl) (by kernel_rfl) (fun _ _ _ h => h) (Or.inl ⟨by rfl, ?hy⟩) (by assumption) ?_
            case hy => intro w hSw; (try dsimp only at hSw); go_simp; try with_reducible rfl
            try simp only [Act.put, List.getElem_toArray, List.getElem_cons_succ, List.getElem_cons_zero, List.setIfInBounds_toArray, List.set_cons_zero, List.set_cons_succ]
            refine wpAnyH_take (i := 10) (v := ?_) rfl (by kernel_rfl) (by kernel_rfl) (by kernel_rfl) (fun _ _ _ h => h) (Or.inl ⟨by rfl, ?hy⟩) (by assumption) ?_
            case hy => intro w hSw; (try dsimp only at hSw); go_simp; try with_reducible rfl
            try simp only [Act.put, List.getElem_toArray, List.getElem_cons_succ, List.getElem_cons_zero, List.setIfInBounds_toArray, List.set_cons_zero, List.set_cons_succ]
            refine wpAnyH_take (i := 11) (v := ?_) rfl (by kernel_rfl) (by kernel_rfl) (by kernel_rfl) (fun _ _ _ h => h) (Or.inl ⟨by rfl, ?hy⟩) (by assumption) ?_
            case hy => intro w hSw; (try dsimp only at hSw); go_simp; try with_reducible rfl
            try simp only [Act.put, List.getElem_toArray, List.getElem_cons_succ, List.getElem_cons_zero, List.setIfInBounds_toArray, List.set_cons_zero, List.set_cons_succ]
            refine wpAnyH_take (i := 12) (v := ?_) rfl (by kernel_rfl) (by kernel_rfl) (by kernel_rfl) (fun _ _ _ h => h) (Or.inl ⟨by rfl, ?hy⟩) (by assumption) ?_
            case hy => intro w hSw; (try dsimp only at hSw); go_simp; try with_reducible rfl
            try simp only [Act.put, List.getElem_toArray, List.getElem_cons_succ, List.getElem_cons_zero, List.setIfInBounds_toArray, List.set_cons_zero, List.set_cons_succ]
            refine wpAnyH_ready (rs := [13]) (by kernel_rfl) (by simp) (AllReadyH.cons rfl (fun K hK => ?_) AllReadyH.nil)
            go_simp
            go_at_call 17; refine (Hc.out _ (by first | exact HS0.out | assumption)).mono ?_; rintro e wa ⟨rfl, ha⟩
            try (go_wp2_with fail)
            refine hK.out _ _ ?_ (fun hHeld => ?_)
            · exact SS.out _ _ HS0.out ha
            clear hK K
            try simp only [Act.put, List.getElem_toArray, List.getElem_cons_succ, List.getElem_cons_zero, List.setIfInBounds_toArray, List.set_cons_zero, List.set_cons_succ]
            refine wpAnyH_take (i := 14) (v := ?_) rfl (by kernel_rfl) (by kernel_rfl) (by kernel_rfl) (fun _ _ _ h => h) (Or.inl ⟨by rfl, ?hy⟩) (by assumption) ?_
            case hy => intro w hSw; (try dsimp only at hSw); go_simp; try with_reducible rfl
            try simp only [Act.put, List.getElem_toArray, List.getElem_cons_succ, List.getElem_cons_zero, List.setIfInBounds_toArray, List.set_cons_zero, List.set_cons_succ]
            refine wpAnyH_take (i := 15) (v := ?_) rfl (by kernel_rfl) (by kernel_rfl) (by kernel_rfl) (fun _ _ _ h => h) (Or.inl ⟨by rfl, ?hy⟩) (by assumption) ?_
            case hy => intro w hSw; (try dsimp only at hSw); go_simp; try with_reducible rfl
            try simp only [Act.put, List.getElem_toArray, List.getElem_cons_succ, List.getElem_cons_zero, List.setIfInBounds_toArray, List.set_cons_zero, List.set_cons_succ]
            refine wpAnyH_take (i := 16) (v := ?_) rfl (by kernel_rfl) (by kernel_rfl) (by kernel_rfl) (fun _ _ _ h => h) (Or.inl ⟨by rfl, ?hy⟩) (by assumption) ?_
            case hy => intro w hSw; (try dsimp only at hSw); go_simp; try with_reducible rfl
            try simp only [Act.put, List.getElem_toArray, List.getElem_cons_succ, List.getElem_cons_zero, List.setIfInBounds_toArray, List.set_cons_zero, List.set_cons_succ]
            refine wpAnyH_take (i := 17) (v := ?_) rfl (by kernel_rfl) (by kernel_rfl) (by kernel_rfl) (fun _ _ _ h => h) (Or.inl ⟨by rfl, ?hy⟩) (by assumption) ?_
            case hy => intro w hSw; (try dsimp only at hSw); go_simp; try with_reducible rfl
            try simp only [Act.put, List.getElem_toArray, List.getElem_cons_succ, List.getElem_cons_zero, List.setIfInBounds_toArray, List.set_cons_zero, List.set_cons_succ]
            refine wpAnyH_take (i := 18) (v := ?_) rfl (by kernel_rfl) (by kernel_rfl) (by kernel_rfl) (fun _ _ _ h => h) (Or.inl ⟨by rfl, ?hy⟩) (by assumption) ?_
            case hy => intro w hSw; (try dsimp only at hSw); go_simp; try with_reducible rfl
            try simp only [Act.put, List.getElem_toArray, List.getElem_cons_succ, List.getElem_cons_zero, List.setIfInBounds_toArray, List.set_cons_zero, List.set_cons_succ]
            refine wpAnyH_take (i := 19) (v := ?_) rfl (by kernel_rfl) (by kernel_rfl) (by kernel_rfl) (fun _ _ _ h => h) (Or.inl ⟨by rfl, ?hy⟩) (by assumption) ?_
            case hy => intro w hSw; (try dsimp only at hSw); go_simp; try with_reducible rfl
            try simp only [Act.put, List.getElem_toArray, List.getElem_cons_succ, List.getElem_cons_zero, List.setIfInBounds_toArray, List.set_cons_zero, List.set_cons_succ]
            refine wpAnyH_take (i := 20) (v := ?_) rfl (by kernel_rfl) (by kernel_rfl) (by kernel_rfl) (fun _ _ _ h => h) (Or.inl ⟨by rfl, ?hy⟩) (by assumption) ?_
            case hy => intro w hSw; (try dsimp only at hSw); go_simp; try with_reducible rfl
            try simp only [Act.put, List.getElem_toArray, List.getElem_cons_succ, List.getElem_cons_zero, List.setIfInBounds_toArray, List.set_cons_zero, List.set_cons_succ]
            refine wpAnyH_ready (rs := [21]) (by kernel_rfl) (by simp) (AllReadyH.cons rfl (fun K hK => ?_) AllReadyH.nil)
            go_simp
            go_at_call 18; refine (Hw.out _).mono ?_; rintro e wb ⟨rfl, hb⟩
            try (go_wp2_with fail)
            refine hK.out _ _ ?_ (fun hHeld => ?_)
            · exact SS.out _ _ hHeld hb
            clear hK K
            try simp only [Act.put, List.getElem_toArray, List.getElem_cons_succ, List.getElem_cons_zero, List.setIfInBounds_toArray, List.set_cons_zero, List.set_cons_succ]
            refine wpAnyH_take (i := 22) (v := ?_) rfl (by kernel_rfl) (by kernel_rfl) (by kernel_rfl) (fun _ _ _ h => h) (Or.inl ⟨by rfl, ?hy⟩) (by assumption) ?_
            case hy => intro w hSw; (try dsimp only at hSw); go_simp; try with_reducible rfl
            try simp only [Act.put, List.getElem_toArray, List.getElem_cons_succ, List.getElem_cons_zero, List.setIfInBounds_toArray, List.set_cons_zero, List.set_cons_succ]
            refine wpAnyH_take (i := 23) (v := ?_) rfl (by kernel_rfl) (by kernel_rfl) (by kernel_rfl) (fun _ _ _ h => h) (Or.inl ⟨by rfl, ?hy⟩) (by assumption) ?_
            case hy => intro w hSw; (try dsimp only at hSw); go_simp; try with_reducible rfl
            try simp only [Act.put, List.getElem_toArray, List.getElem_cons_succ, List.getElem_cons_zero, List.setIfInBounds_toArray, List.set_cons_zero, List.set_cons_succ]
            refine wpAnyH_take (i := 24) (v := ?_) rfl (by kernel_rfl) (by kernel_rfl) (by kernel_rfl) (fun _ _ _ h => h) (Or.inl ⟨by rfl, ?hy⟩) (by assumption) ?_
            case hy => intro w hSw; (try dsimp only at hSw); go_simp; try with_reducible rfl
            try simp only [Act.put, List.getElem_toArray, List.getElem_cons_succ, List.getElem_cons_zero, List.setIfInBounds_toArray, List.set_cons_zero, List.set_cons_succ]
            refine wpAnyH_done (by kernel_rfl) ?_ _
            refine NoPanic.normal ?_
            have hb2 : Below wr.heap.size wr _ := hHeld.2.2
            have hrow := rm_kept hown.out hb2
            clear SS HS0 QC HF Yes No Hc Hw hHeld hfd
            have hwb := hb2.size
            go_wp2_with (at_builtin; refine wpList_append_own _ rfl _ _ 35 rfl (w.heap.size + 1) 3 i0 (.int .i64 0) 1 8 Try.underlying35 hi hz0 hz1 hz2 rfl (by decide) _ _ _ rfl (hrow.alloc _) ⟨wb.heap.size, 0, none⟩ 1 1 [.int .i64 (k : Int)] rfl rfl (cell_one_new _ _ _) (by simp [Value.oneCell']) (by unfold maxLen; omega) (by omega) (by simp; omega) ?_; intro v' w3 hown' hgrow _)
            have hlt3 : ∀ g, Value.ownBlock _ = some g → w.heap.size + 1 ≤ g := fun g e => (hrow.lt g e).1
            have L3 : Below w.heap.size w w3 := (hbr.trans (hb2.mono hbr.size)).trans (by
              exact ((Below.refl wb.heap.size wb).alloc (Nat.le_refl _) _ |>.mono (by omega)).grown hgrow (by simp; omega) (fun g e => by have := hlt3 g e; omega))
            have C3 : w3.heap[w.heap.size]? = some (.cells #[.int .i64 c.at_, .string c.res, .string c.ctx, .string c.org, .bool c.inb, .int .i64 c.cnt, c.args] 34) :=
              (hgrow.block _ (by simp; omega) (fun e => by have := hlt3 _ e.symm; omega)).trans ((Below.heap_alloc _ _ _ (by omega)).trans ((hb2.block _ (by omega)).trans hcall.out))
            have Z3 : w.heap.size + 1 ≤ w3.heap.size := by have := hgrow.size; simp at this; omega
            have HO := Lib.hid hown'
            have HC3 := Lib.hid C3
            clear hown' hgrow hrow hlt3 C3
            go_wp2_with (fail)
            exact ⟨⟨k + 1, by omega, by go_num, by rw [hy, hn, intV, List.map_append, List.length_append]; exact HO.out, HC3.out, L3, Z3⟩, by simp [intOf]; omega⟩
          · have hn := outN_no (c := c) (pre := came fs c k) (p := (k, f)) hsk
            rw [hsk] at Hw
            have hfd := field_rskip (whereL f c).res (whereL f c).ctx (whereL f c).org true
            go_wp2_with (fail)
            refine wp_region_noPanic ?_
            refine wp_region_held_drew (S := fun wx => (wx.cell? ⟨b, off + k * 12, none⟩ = some (.string f.res) ∧ wx.cell? ⟨b, off + k * 12 + 1, none⟩ = some (.string f.org) ∧ wx.cell? ⟨b, off + k * 12 + 2, none⟩ = some (.bool f.thr) ∧ wx.cell? ⟨b, off + k * 12 + 3, none⟩ = some (.int .i64 f.cnt) ∧ wx.cell? ⟨b, off + k * 12 + 4, none⟩ = some (.int .u8 f.strat) ∧ wx.cell? ⟨b, off + k * 12 + 5, none⟩ = some (.string f.ref) ∧ wx.cell? ⟨b, off + k * 12 + 6, none⟩ = some (.int .u8 f.shape) ∧ wx.cell? ⟨b, off + k * 12 + 7, none⟩ = some (.int .i64 f.warm) ∧ wx.cell? ⟨b, off + k * 12 + 8, none⟩ = some (.int .i64 f.queue) ∧ wx.cell? ⟨b, off + k * 12 + 9, none⟩ = some (.bool f.cl) ∧ wx.cell? ⟨b, off + k * 12 + 10, none⟩ = some (.int .i64 f.id) ∧ wx.cell? ⟨b, off + k * 12 + 11, none⟩ = some (.bool f.fb)) ∧ (wx.cell? ⟨w.heap.size, 0, none⟩ = some (.int .i64 c.at_) ∧ wx.cell? ⟨w.heap.size, 1, none⟩ = some (.string c.res) ∧ wx.cell? ⟨w.heap.size, 2, none⟩ = some (.string c.ctx) ∧ wx.cell? ⟨w.heap.size, 3, none⟩ = some (.string c.org) ∧ wx.cell? ⟨w.heap.size, 4, none⟩ = some (.bool c.inb) ∧ wx.cell? ⟨w.heap.size, 5, none⟩ = some (.int .i64 c.cnt) ∧ wx.cell? ⟨w.heap.size, 6, none⟩ = some (c.args)) ∧ Below wr.heap.size wr wx) (by kernel_rfl) ?_ (fun hHeld => ?_)
            · exact HS0.out
            refine wpAnyH_take (i := 0) (v := ?_) rfl (by kernel_rfl) (by kernel_rfl) (by kernel_rfl) (fun _ _ _ h => h) (Or.inl ⟨by rfl, ?hy⟩) (by assumption) ?_
            case hy => intro w hSw; (try dsimp only at hSw); go_simp; try with_reducible rfl
            try simp only [Act.put, List.getElem_toArray, List.getElem_cons_succ, List.getElem_cons_zero, List.setIfInBounds_toArray, List.set_cons_zero, List.set_cons_succ]
            refine wpAnyH_take (i := 1) (v := ?_) rfl (by kernel_rfl) (by kernel_rfl) (by kernel_rfl) (fun _ _ _ h => h) (Or.inl ⟨by rfl, ?hy⟩) (by assumption) ?_
            case hy => intro w hSw; (try dsimp only at hSw); go_simp; try with_reducible rfl
            try simp only [Act.put, List.getElem_toArray, List.getElem_cons_succ, List.getElem_cons_zero, List.setIfInBounds_toArray, List.set_cons_zero, List.set_cons_succ]
            refine wpAnyH_take (i := 2) (v := ?_) rfl (by kernel_rfl) (by kernel_rfl) (by kernel_rfl) (fun _ _ _ h => h) (Or.inl ⟨by rfl, ?hy⟩) (by assumption) ?_
            case hy => intro w hSw; (try dsimp only at hSw); go_simp; try with_reducible rfl
            try simp only [Act.put, List.getElem_toArray, List.getElem_cons_succ, List.getElem_cons_zero, List.setIfInBounds_toArray, List.set_cons_zero, List.set_cons_succ]
            refine wpAnyH_take (i := 3) (v := ?_) rfl (by kernel_rfl) (by kernel_rfl) (by kernel_rfl) (fun _ _ _ h => h) (Or.inl ⟨by rfl, ?hy⟩) (by assumption) ?_
            case hy => intro w hSw; (try dsimp only at hSw); go_simp; try with_reducible rfl
            try simp only [Act.put, List.getElem_toArray, List.getElem_cons_succ, List.getElem_cons_zero, List.setIfInBounds_toArray, List.set_cons_zero, List.set_cons_succ]
            refine wpAnyH_take (i := 4) (v := ?_) rfl (by kernel_rfl) (by kernel_rfl) (by kernel_rfl) (fun _ _ _ h => h) (Or.inl ⟨by rfl, ?hy⟩) (by assumption) ?_
            case hy => intro w hSw; (try dsimp only at hSw); go_simp; try with_reducible rfl
            try simp only [Act.put, List.getElem_toArray, List.getElem_cons_succ, List.getElem_cons_zero, List.setIfInBounds_toArray, List.set_cons_zero, List.set_cons_succ]
            refine wpAnyH_take (i := 5) (v := ?_) rfl (by kernel_rfl) (by kernel_rfl) (by kernel_rfl) (fun _ _ _ h => h) (Or.inl ⟨by rfl, ?hy⟩) (by assumption) ?_
            case hy => intro w hSw; (try dsimp only at hSw); go_simp; try with_reducible rfl
            try simp only [Act.put, List.getElem_toArray, List.getElem_cons_succ, List.getElem_cons_zero, List.setIfInBounds_toArray, List.set_cons_zero, List.set_cons_succ]
            refine wpAnyH_take (i := 6) (v := ?_) rfl (by kernel_rfl) (by kernel_rfl) (by kernel_rfl) (fun _ _ _ h => h) (Or.inl ⟨by rfl, ?hy⟩) (by assumption) ?_
            case hy => intro w hSw; (try dsimp only at hSw); go_simp; try with_reducible rfl
            try simp only [Act.put, List.getElem_toArray, List.getElem_cons_succ, List.getElem_cons_zero, List.setIfInBounds_toArray, List.set_cons_zero, List.set_cons_succ]
            refine wpAnyH_take (i := 7) (v := ?_) rfl (by kernel_rfl) (by kernel_rfl) (by kernel_rfl) (fun _ _ _ h => h) (Or.inl ⟨by rfl, ?hy⟩) (by assumption) ?_
            case hy => intro w hSw; (try dsimp only at hSw); go_simp; try with_reducible rfl
            try simp only [Act.put, List.getElem_toArray, List.getElem_cons_succ, List.getElem_cons_zero, List.setIfInBounds_toArray, List.set_cons_zero, List.set_cons_succ]
            refine wpAnyH_take (i := 8) (v := ?_) rfl (by kernel_rfl) (by kernel_rfl) (by kernel_rfl) (fun _ _ _ h => h) (Or.inl ⟨by rfl, ?hy⟩) (by assumption) ?_
            case hy => intro w hSw; (try dsimp only at hSw); go_simp; try with_reducible rfl
            try simp only [Act.put, List.getElem_toArray, List.getElem_cons_succ, List.getElem_cons_zero, List.setIfInBounds_toArray, List.set_cons_zero, List.set_cons_succ]
            refine wpAnyH_take (i := 9) (v := ?_) rfl (by kernel_rfl) (by kernel_rfl) (by kernel_rfl) (fun _ _ _ h => h) (Or.inl ⟨by rfl, ?hy⟩) (by assumption) ?_
            case hy => intro w hSw; (try dsimp only at hSw); go_simp; try with_reducible rfl
            try simp only [Act.put, List.getElem_toArray, List.getElem_cons_succ, List.getElem_cons_zero, List.setIfInBounds_toArray, List.set_cons_zero, List.set_cons_succ]
            refine wpAnyH_take (i := 10) (v := ?_) rfl (by kernel_rfl) (by kernel_rfl) (by kernel_rfl) (fun _ _ _ h => h) (Or.inl ⟨by rfl, ?hy⟩) (by assumption) ?_
            case hy => intro w hSw; (try dsimp only at hSw); go_simp; try with_reducible rfl
            try simp only [Act.put, List.getElem_toArray, List.getElem_cons_succ, List.getElem_cons_zero, List.setIfInBounds_toArray, List.set_cons_zero, List.set_cons_succ]
            refine wpAnyH_take (i := 11) (v := ?_) rfl (by kernel_rfl) (by kernel_rfl) (by kernel_rfl) (fun _ _ _ h => h) (Or.inl ⟨by rfl, ?hy⟩) (by assumption) ?_
            case hy => intro w hSw; (try dsimp only at hSw); go_simp; try with_reducible rfl
            try simp only [Act.put, List.getElem_toArray, List.getElem_cons_succ, List.getElem_cons_zero, List.setIfInBounds_toArray, List.set_cons_zero, List.set_cons_succ]
            refine wpAnyH_take (i := 12) (v := ?_) rfl (by kernel_rfl) (by kernel_rfl) (by kernel_rfl) (fun _ _ _ h => h) (Or.inl ⟨by rfl, ?hy⟩) (by assumption) ?_
            case hy => intro w hSw; (try dsimp only at hSw); go_simp; try with_reducible rfl
            try simp only [Act.put, List.getElem_toArray, List.getElem_cons_succ, List.getElem_cons_zero, List.setIfInBounds_toArray, List.set_cons_zero, List.set_cons_succ]
            refine wpAnyH_ready (rs := [13]) (by kernel_rfl) (by simp) (AllReadyH.cons rfl (fun K hK => ?_) AllReadyH.nil)
            go_simp
            go_at_call 17; refine (Hc.out _ (by first | exact HS0.out | assumption)).mono ?_; rintro e wa ⟨rfl, ha⟩
            try (go_wp2_with fail)
            refine hK.out _ _ ?_ (fun hHeld => ?_)
            · exact SS.out _ _ HS0.out ha
            clear hK K
            try simp only [Act.put, List.getElem_toArray, List.getElem_cons_succ, List.getElem_cons_zero, List.setIfInBounds_toArray, List.set_cons_zero, List.set_cons_succ]
            refine wpAnyH_take (i := 14) (v := ?_) rfl (by kernel_rfl) (by kernel_rfl) (by kernel_rfl) (fun _ _ _ h => h) (Or.inl ⟨by rfl, ?hy⟩) (by assumption) ?_
            case hy => intro w hSw; (try dsimp only at hSw); go_simp; try with_reducible rfl
            try simp only [Act.put, List.getElem_toArray, List.getElem_cons_succ, List.getElem_cons_zero, List.setIfInBounds_toArray, List.set_cons_zero, List.set_cons_succ]
            refine wpAnyH_take (i := 15) (v := ?_) rfl (by kernel_rfl) (by kernel_rfl) (by kernel_rfl) (fun _ _ _ h => h) (Or.inl ⟨by rfl, ?hy⟩) (by assumption) ?_
            case hy => intro w hSw; (try dsimp only at hSw); go_simp; try with_reducible rfl
            try simp only [Act.put, List.getElem_toArray, List.getElem_cons_succ, List.getElem_cons_zero, List.setIfInBounds_toArray, List.set_cons_zero, List.set_cons_succ]
            refine wpAnyH_take (i := 16) (v := ?_) rfl (by kernel_rfl) (by kernel_rfl) (by kernel_rfl) (fun _ _ _ h => h) (Or.inl ⟨by rfl, ?hy⟩) (by assumption) ?_
            case hy => intro w hSw; (try dsimp only at hSw); go_simp; try with_reducible rfl
            try simp only [Act.put, List.getElem_toArray, List.getElem_cons_succ, List.getElem_cons_zero, List.setIfInBounds_toArray, List.set_cons_zero, List.set_cons_succ]
            refine wpAnyH_take (i := 17) (v := ?_) rfl (by kernel_rfl) (by kernel_rfl) (by kernel_rfl) (fun _ _ _ h => h) (Or.inl ⟨by rfl, ?hy⟩) (by assumption) ?_
            case hy => intro w hSw; (try dsimp only at hSw); go_simp; try with_reducible rfl
            try simp only [Act.put, List.getElem_toArray, List.getElem_cons_succ, List.getElem_cons_zero, List.setIfInBounds_toArray, List.set_cons_zero, List.set_cons_succ]
            refine wpAnyH_take (i := 18) (v := ?_) rfl (by kernel_rfl) (by kernel_rfl) (by kernel_rfl) (fun _ _ _ h => h) (Or.inl ⟨by rfl, ?hy⟩) (by assumption) ?_
            case hy => intro w hSw; (try dsimp only at hSw); go_simp; try with_reducible rfl
            try simp only [Act.put, List.getElem_toArray, List.getElem_cons_succ, List.getElem_cons_zero, List.setIfInBounds_toArray, List.set_cons_zero, List.set_cons_succ]
            refine wpAnyH_take (i := 19) (v := ?_) rfl (by kernel_rfl) (by kernel_rfl) (by kernel_rfl) (fun _ _ _ h => h) (Or.inl ⟨by rfl, ?hy⟩) (by assumption) ?_
            case hy => intro w hSw; (try dsimp only at hSw); go_simp; try with_reducible rfl
            try simp only [Act.put, List.getElem_toArray, List.getElem_cons_succ, List.getElem_cons_zero, List.setIfInBounds_toArray, List.set_cons_zero, List.set_cons_succ]
            refine wpAnyH_take (i := 20) (v := ?_) rfl (by kernel_rfl) (by kernel_rfl) (by kernel_rfl) (fun _ _ _ h => h) (Or.inl ⟨by rfl, ?hy⟩) (by assumption) ?_
            case hy => intro w hSw; (try dsimp only at hSw); go_simp; try with_reducible rfl
            try simp only [Act.put, List.getElem_toArray, List.getElem_cons_succ, List.getElem_cons_zero, List.setIfInBounds_toArray, List.set_cons_zero, List.set_cons_succ]
            refine wpAnyH_ready (rs := [21]) (by kernel_rfl) (by simp) (AllReadyH.cons rfl (fun K hK => ?_) AllReadyH.nil)
            go_simp
            go_at_call 18; refine (Hw.out _).mono ?_; rintro e wb ⟨rfl, hb⟩
            try (go_wp2_with fail)
            refine hK.out _ _ ?_ (fun hHeld => ?_)
            · exact SS.out _ _ hHeld hb
            clear hK K
            try simp only [Act.put, List.getElem_toArray, List.getElem_cons_succ, List.getElem_cons_zero, List.setIfInBounds_toArray, List.set_cons_zero, List.set_cons_succ]
            refine wpAnyH_take (i := 22) (v := ?_) rfl (by kernel_rfl) (by kernel_rfl) (by kernel_rfl) (fun _ _ _ h => h) (Or.inl ⟨by rfl, ?hy⟩) (by assumption) ?_
            case hy => intro w hSw; (try dsimp only at hSw); go_simp; try with_reducible rfl
            try simp only [Act.put, List.getElem_toArray, List.getElem_cons_succ, List.getElem_cons_zero, List.setIfInBounds_toArray, List.set_cons_zero, List.set_cons_succ]
            refine wpAnyH_take (i := 23) (v := ?_) rfl (by kernel_rfl) (by kernel_rfl) (by kernel_rfl) (fun _ _ _ h => h) (Or.inl ⟨by rfl, ?hy⟩) (by assumption) ?_
            case hy => intro w hSw; (try dsimp only at hSw); go_simp; try with_reducible rfl
            try simp only [Act.put, List.getElem_toArray, List.getElem_cons_succ, List.getElem_cons_zero, List.setIfInBounds_toArray, List.set_cons_zero, List.set_cons_succ]
            refine wpAnyH_take (i := 24) (v := ?_) rfl (by kernel_rfl) (by kernel_rfl) (by kernel_rfl) (fun _ _ _ h => h) (Or.inl ⟨by rfl, ?hy⟩) (by assumption) ?_
            case hy => intro w hSw; (try dsimp only at hSw); go_simp; try with_reducible rfl
            try simp only [Act.put, List.getElem_toArray, List.getElem_cons_succ, List.getElem_cons_zero, List.setIfInBounds_toArray, List.set_cons_zero, List.set_cons_succ]
            refine wpAnyH_done (by kernel_rfl) ?_ _
            refine NoPanic.normal ?_
            have hb2 : Below wr.heap.size wr _ := hHeld.2.2
            clear SS HS0 QC HF Yes No Hc Hw hHeld hfd
            go_wp2_with (fail)
            exact ⟨⟨k + 1, by omega, by go_num, by rw [hy, hn]; exact rm_kept hown.out hb2, (hb2.block _ (by omega)).trans hcall.out, hbr.trans (hb2.mono hbr.size), Nat.le_trans hsz hb2.size⟩, by simp [intOf]; omega⟩
    · have hkl : k = len := by omega
      subst hkl
      go_wp2_with (fail)
      go_ret
      refine ⟨⟨_, rfl, ?_⟩, hbr⟩
      unfold mineN
      rw [Hl.out]
      exact hown.out
end Go.Proofs.Ytalpilahemajoaa
