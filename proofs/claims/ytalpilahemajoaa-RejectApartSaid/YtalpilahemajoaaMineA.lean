/- reject.mine's closure: what it hands to a loop's body. -/
import Derived.RangeFuncNested
import Derived.RangeFuncBound
import Derived.RangeFuncCalls
import Derived.RangeFuncLeaves
import Derived.Shelf.Abstract
import Derived.Shelf.RegionOpen
import Derived.WalkKit
import Derived.OwnWalkIn
import Derived.TacticsInMore
import Derived.LoopNIn
import Derived.LoopIn
import Derived.Test.YtalpilahemajoaaConcB
import Derived.Test.YtalpilahemajoaaWhere
namespace Go.Proofs.Ytalpilahemajoaa
open Go.RowKit Go.Shelf
set_option linter.unusedVariables false
set_option linter.unusedSimpArgs false
attribute [local go_sem] Oper.semAt_some

def mineB (fs : List FlowS) (c : CallS) (f : FlowS) : Bool := (f.res.toList == c.res.toList) && concF fs f c.org
def came (fs : List FlowS) (c : CallS) : Nat → List (Nat × FlowS)
  | 0 => []
  | k + 1 => came fs c k ++ (match fs[k]? with | some f => if mineB fs c f then [(k, f)] else [] | none => [])
theorem came_yes {fs : List FlowS} {c : CallS} {k : Nat} {f : FlowS} (h : fs[k]? = some f) (hm : mineB fs c f = true) : came fs c (k + 1) = came fs c k ++ [(k, f)] := by simp [came, h, hm]
theorem came_no {fs : List FlowS} {c : CallS} {k : Nat} {f : FlowS} (h : fs[k]? = some f) (hm : mineB fs c f = false) : came fs c (k + 1) = came fs c k := by simp [came, h, hm]
theorem came_le (fs : List FlowS) (c : CallS) : ∀ k, (came fs c k).length ≤ k
  | 0 => Nat.le_refl _
  | k + 1 => by
    have := came_le fs c k
    unfold came
    rw [List.length_append]
    split
    · split <;> simp <;> omega
    · simp; omega

/-- All blocks below a number but one are as they were. -/
structure KeepEx (n₀ x : Nat) (W W' : World) : Prop where
  size : W.heap.size ≤ W'.heap.size
  block : ∀ k, k < n₀ → k ≠ x → W'.heap[k]? = W.heap[k]?
theorem KeepEx.refl (n₀ x : Nat) (W : World) : KeepEx n₀ x W W := ⟨Nat.le_refl _, fun _ _ _ => rfl⟩
theorem KeepEx.trans {n₀ x : Nat} {A B C : World} (h : KeepEx n₀ x A B) (k : KeepEx n₀ x B C) : KeepEx n₀ x A C := ⟨Nat.le_trans h.size k.size, fun i hi hx => (k.block i hi hx).trans (h.block i hi hx)⟩
theorem KeepEx.below {n₀ x m : Nat} {A B : World} (h : Below m A B) (hm : n₀ ≤ m) : KeepEx n₀ x A B := ⟨h.size, fun i hi _ => h.block i (by omega)⟩

def callCells (c : CallS) : Array Value := #[.int .i64 c.at_, .string c.res, .string c.ctx, .string c.org, .bool c.inb, .int .i64 c.cnt, c.args]

set_option maxRecDepth 100000 in
set_option maxHeartbeats 4000000 in
theorem mine1_in (n : Nat) (hn : 1 ≤ n) (l Bl Bc b off len cap n₀ x : Nat) (fs : List FlowS) (c : CallS) (J Jx : List (Nat × FlowS) → World → Prop)
    (hY : ∀ pre p W1, J pre W1 → pre.length < len → YieldAt Fence.wide (n - 1) Try.prog l #[.int .i64 ((p : Nat × FlowS).1 : Int), p.2.v] W1 fun e W' =>
      (e = .returned (.bool true) ∧ J (pre ++ [p]) W' ∧ KeepEx n₀ x W1 W') ∨ (e = .returned (.bool false) ∧ Jx (pre ++ [p]) W'))
    (W : World) (hJ : AbidesFrom W.heap.size J) (hl : fs.length = len) (hm : len ≤ 140737488351232)
    (hBl : W.cell? ⟨Bl, 0, none⟩ = some (.slice (some ⟨b, off, none⟩) len cap)) (hc1 : W.cell? ⟨Bc, 1, none⟩ = some (.string c.res)) (hc3 : W.cell? ⟨Bc, 3, none⟩ = some (.string c.org))
    (hf : ∀ j g, fs[j]? = some g → FlowAt W b (off + j * 12) g) (l1 : Bl < n₀) (l2 : Bc < n₀) (l3 : b < n₀) (x1 : Bl ≠ x) (x2 : Bc ≠ x) (x3 : b ≠ x) (hn₀ : n₀ ≤ W.heap.size) (h0 : J [] W) :
    CallsIn Fence.wide n Try.prog 20 #[.func (.yield l) #[] #[], .pointer (some ⟨Bl, 0, none⟩), .pointer (some ⟨Bc, 0, none⟩)] W fun e W' => (∃ v, e = .returned v) ∧
      ((∃ ys, ys = came fs c len ∧ J ys W') ∨ (∃ pre, True ∧ Jx pre W')) := by
  have hro : Fence.wide.round = none := rfl
  refine callsIn_of_wp Try.func20 rfl trivial ?_ hro
  simp only [Try.ntmps20, List.size_toArray, List.length_cons, List.length_nil, Nat.reduceAdd, Nat.reduceSub, Array.replicate_succ, Array.replicate_zero, List.push_toArray, List.append_toArray, List.nil_append, List.cons_append]
  gi_wp2
  gi_loopw [8] (fun i wr => ∃ k : Nat, k ≤ len ∧ i = .int .i64 k ∧ J (came fs c k) wr ∧ KeepEx n₀ x W wr) (fun i _ => len - (intOf i).toNat)
  case atStart => exact ⟨0, Nat.zero_le _, rfl, h0, KeepEx.refl _ _ _⟩
  case round =>
    obtain ⟨k, hk, rfl, hJs, hke⟩ := hrel
    by_cases hlt : k < len
    · obtain ⟨f, hfk⟩ : ∃ g, fs[k]? = some g := ⟨_, List.getElem?_eq_getElem (by rw [hl]; exact hlt)⟩
      have hs := hke.size
      have HFA := Lib.hid (fun j g hg => (hf j g hg).of_block (hke.block b l3 x3))
      obtain ⟨c0, c1, c2, c3, c4, c5, c6, c7, c8, c9, c10, c11⟩ := HFA.out k f hfk
      have e1 := (World.cell?_of_block (a := ⟨Bl, 0, none⟩) (hke.block Bl l1 x1)).trans hBl
      have e2 := (World.cell?_of_block (a := ⟨Bc, 1, none⟩) (hke.block Bc l2 x2)).trans hc1
      have e3 := (World.cell?_of_block (a := ⟨Bc, 3, none⟩) (hke.block Bc l2 x2)).trans hc3
      have k0 : (0 : Int) ≤ k := by omega
      have k1 : (k : Int) < len := by omega
      have z1 : Bl < wr.heap.size := by omega
      have z2 : Bc < wr.heap.size := by omega
      have z3 : b < wr.heap.size := by omega
      cases hm1 : (f.res.toList == c.res.toList)
      · have hmb : mineB fs c f = false := by unfold mineB; rw [hm1]; rfl
        have hcm := Lib.hid (came_no (c := c) hfk hmb)
        have hJ1 : J (came fs c k) (wr.alloc (.cells f.cells 25)) := hJ _ wr _ none hJs (World.grownBy_alloc wr _ none) (fun r e => by cases e)
        have hk1 : KeepEx n₀ x W (wr.alloc (.cells f.cells 25)) := hke.trans (KeepEx.below ((Below.refl wr.heap.size wr).alloc (Nat.le_refl _) _) (by omega))
        have HJ1 := Lib.hid hJ1
        clear hmb hJ1
        gi_wp2_with (fail)
        refine ⟨trivial, ?_⟩
        gi_wp2_with (fail)
        refine ⟨fun _ h => (by cases h), ?_⟩
        gi_wp2_with (fail)
        go_roundw
        case rel => exact ⟨k + 1, by omega, by go_num, by rw [hcm.out]; exact HJ1.out, hk1⟩
        case measure => simp [intOf]; omega
      · have Hcon := Lib.hid (fun (wx : World) (hb : Below wr.heap.size wr wx) => concerns_any fs f c.org k b off len cap wx hl hfk hm (fun j g hg => (HFA.out j g hg).of_block (hb.block b z3)) (by have := hb.size; omega))
        have B1 : Below wr.heap.size wr (wr.alloc (.cells #[.string f.res, .string f.org, .bool f.thr, .int .i64 f.cnt, .int .u8 f.strat, .string f.ref, .int .u8 f.shape, .int .i64 f.warm, .int .i64 f.queue, .bool f.cl, .int .i64 f.id, .bool f.fb] 25)) := (Below.refl _ _).alloc (Nat.le_refl _) _
        gi_wp2_with (fail)
        refine ⟨trivial, ?_⟩
        gi_at_call 21
        refine (callsIn_wide.2 (Hcon.out _ B1)).mono ?_
        rintro e w2 ⟨rfl, hb2⟩
        have BB := B1.trans (hb2.mono B1.size)
        have hJ2 : J (came fs c k) w2 := hJ _ wr w2 none hJs ⟨BB.os, BB.tape, BB.output, BB.size, fun i hi _ => BB.block i hi⟩ (fun r e => by cases e)
        have hk2 : KeepEx n₀ x W w2 := hke.trans (KeepEx.below BB (by omega))
        have rc0 : w2.cell? ⟨wr.heap.size, 0, none⟩ = some (.string f.res) := (hb2.cell (p := ⟨wr.heap.size, 0, none⟩) (by simp)).trans (by simp [go_sem])
        have rc1 : w2.cell? ⟨wr.heap.size, 1, none⟩ = some (.string f.org) := (hb2.cell (p := ⟨wr.heap.size, 1, none⟩) (by simp)).trans (by simp [go_sem])
        have rc2 : w2.cell? ⟨wr.heap.size, 2, none⟩ = some (.bool f.thr) := (hb2.cell (p := ⟨wr.heap.size, 2, none⟩) (by simp)).trans (by simp [go_sem])
        have rc3 : w2.cell? ⟨wr.heap.size, 3, none⟩ = some (.int .i64 f.cnt) := (hb2.cell (p := ⟨wr.heap.size, 3, none⟩) (by simp)).trans (by simp [go_sem])
        have rc4 : w2.cell? ⟨wr.heap.size, 4, none⟩ = some (.int .u8 f.strat) := (hb2.cell (p := ⟨wr.heap.size, 4, none⟩) (by simp)).trans (by simp [go_sem])
        have rc5 : w2.cell? ⟨wr.heap.size, 5, none⟩ = some (.string f.ref) := (hb2.cell (p := ⟨wr.heap.size, 5, none⟩) (by simp)).trans (by simp [go_sem])
        have rc6 : w2.cell? ⟨wr.heap.size, 6, none⟩ = some (.int .u8 f.shape) := (hb2.cell (p := ⟨wr.heap.size, 6, none⟩) (by simp)).trans (by simp [go_sem])
        have rc7 : w2.cell? ⟨wr.heap.size, 7, none⟩ = some (.int .i64 f.warm) := (hb2.cell (p := ⟨wr.heap.size, 7, none⟩) (by simp)).trans (by simp [go_sem])
        have rc8 : w2.cell? ⟨wr.heap.size, 8, none⟩ = some (.int .i64 f.queue) := (hb2.cell (p := ⟨wr.heap.size, 8, none⟩) (by simp)).trans (by simp [go_sem])
        have rc9 : w2.cell? ⟨wr.heap.size, 9, none⟩ = some (.bool f.cl) := (hb2.cell (p := ⟨wr.heap.size, 9, none⟩) (by simp)).trans (by simp [go_sem])
        have rc10 : w2.cell? ⟨wr.heap.size, 10, none⟩ = some (.int .i64 f.id) := (hb2.cell (p := ⟨wr.heap.size, 10, none⟩) (by simp)).trans (by simp [go_sem])
        have rc11 : w2.cell? ⟨wr.heap.size, 11, none⟩ = some (.bool f.fb) := (hb2.cell (p := ⟨wr.heap.size, 11, none⟩) (by simp)).trans (by simp [go_sem])
        cases hco : concF fs f c.org with
        | false =>
          have hmb : mineB fs c f = false := by unfold mineB; rw [hm1, hco]; rfl
          have hcm := Lib.hid (came_no (c := c) hfk hmb)
          clear hmb
          gi_wp2_with (fail)
          refine ⟨fun _ h => (by cases h), ?_⟩
          gi_wp2_with (fail)
          go_roundw
          case rel => exact ⟨k + 1, by omega, by go_num, by rw [hcm.out]; exact hJ2, hk2⟩
          case measure => simp [intOf]; omega
        | true =>
          have hmb : mineB fs c f = true := by unfold mineB; rw [hm1, hco]; rfl
          have hcm := Lib.hid (came_yes (c := c) hfk hmb)
          obtain ⟨fn, tmps, assign, body, hy, hR⟩ := hY (came fs c k) (k, f) w2 hJ2 (by have := came_le fs c k; omega)
          dsimp only at hy
          unfold FlowS.v FlowS.cells at hy
          clear hmb
          gi_wp2_with (fail)
          refine hR.mono ?_
          rintro e W3 (⟨rfl, hJ3, hk3⟩ | ⟨rfl, hJx3⟩)
          · gi_wp2_with (fail)
            go_roundw
            case rel => exact ⟨k + 1, by omega, by go_num, by rw [hcm.out]; exact hJ3, hk2.trans hk3⟩
            case measure => simp [intOf]; omega
          · gi_wp2_with (fail)
            refine bodyPost_ret (results_none rfl _ _ _) rfl ?_
            exact ⟨⟨_, rfl⟩, .inr ⟨_, trivial, hJx3⟩⟩
    · obtain rfl : k = len := by omega
      gi_wp2
      go_end0
      exact ⟨⟨_, rfl⟩, .inl ⟨_, rfl, hJs⟩⟩

set_option maxHeartbeats 1000000 in
/-- reject.mine: both arguments are boxed; the function value captures the boxes. -/
theorem mine_any (a : Option Addr) (len cap : Nat) (c : CallS) (hargs : c.args.oneCell' = true) (w : World) :
    Calls Try.prog 16 #[.slice a len cap, c.v] w fun e w' => e = .returned (.func (.func 20) #[] #[.pointer (some ⟨w.heap.size, 0, none⟩), .pointer (some ⟨w.heap.size + 1, 0, none⟩)]) ∧
      w' = (w.alloc (.cells #[.slice a len cap] 31)).alloc (.cells (callCells c) 34) := by
  obtain ⟨at_, cres, ctx, corg, inb, ccnt, args⟩ := c
  unfold CallS.v callCells
  dsimp only at *
  go_enter Try.func16, Try.ntmps16
  go_wp2_with (fail)
  go_ret
  exact ⟨rfl, rfl⟩

set_option maxRecDepth 100000 in
set_option maxHeartbeats 1000000 in
/-- .. at no rule: no round. -/
theorem mine1_nil (n : Nat) (l Bl Bc cap : Nat) (a : Option Addr) (J : List (Nat × FlowS) → World → Prop) (W : World) (hBl : W.cell? ⟨Bl, 0, none⟩ = some (.slice a 0 cap)) (h0 : J [] W) :
    CallsIn Fence.wide n Try.prog 20 #[.func (.yield l) #[] #[], .pointer (some ⟨Bl, 0, none⟩), .pointer (some ⟨Bc, 0, none⟩)] W fun e W' => (∃ v, e = .returned v) ∧ J [] W' := by
  have hro : Fence.wide.round = none := rfl
  refine callsIn_of_wp Try.func20 rfl trivial ?_ hro
  simp only [Try.ntmps20, List.size_toArray, List.length_cons, List.length_nil, Nat.reduceAdd, Nat.reduceSub, Array.replicate_succ, Array.replicate_zero, List.push_toArray, List.append_toArray, List.nil_append, List.cons_append]
  gi_wp2
  gi_loopw [8] (fun i wr => i = .int .i64 0 ∧ J [] wr) (fun _ _ => 0)
  case atStart => exact ⟨rfl, h0⟩
  case round =>
    obtain ⟨rfl, hJs⟩ := hrel
    gi_wp2
    go_end0
    exact ⟨⟨_, rfl⟩, hJs⟩

theorem mine_stops (n : Nat) (hn : 1 ≤ n) (Bl Bc len cap n₀ x : Nat) (a : Option Addr) (fs : List FlowS) (c : CallS) (w : World) (hl : fs.length = len) (hm : len ≤ 140737488351232)
    (hBl : w.cell? ⟨Bl, 0, none⟩ = some (.slice a len cap)) (hc1 : w.cell? ⟨Bc, 1, none⟩ = some (.string c.res)) (hc3 : w.cell? ⟨Bc, 3, none⟩ = some (.string c.org))
    (hf : fs = [] ∨ ∃ b off, a = some ⟨b, off, none⟩ ∧ b < n₀ ∧ b ≠ x ∧ ∀ j f, fs[j]? = some f → FlowAt w b (off + j * 12) f) (l1 : Bl < n₀) (l2 : Bc < n₀) (x1 : Bl ≠ x) (x2 : Bc ≠ x) (hn₀ : n₀ ≤ w.heap.size) :
    SeqStopsK Fence.wide n Try.prog 20 #[.pointer (some ⟨Bl, 0, none⟩), .pointer (some ⟨Bc, 0, none⟩)] (fun p : Nat × FlowS => #[.int .i64 (p.1 : Int), p.2.v]) (KeepEx n₀ x) (fun ys => ys = came fs c len) (fun _ => True) len w := fun l J Jx W hW hJ _ hY h0 => by
  rcases hf with rfl | ⟨b, off, rfl, l3, x3, hf⟩
  · simp at hl; subst hl
    exact (mine1_nil n l Bl Bc cap a J W ((hW.cell (p := ⟨Bl, 0, none⟩) (show Bl < w.heap.size by omega)).trans hBl) h0).mono fun e W' ⟨he, hj⟩ => ⟨he, .inl ⟨_, rfl, hj⟩⟩
  · exact mine1_in n hn l Bl Bc b off len cap n₀ x fs c J Jx hY W hJ hl hm ((hW.cell (p := ⟨Bl, 0, none⟩) (show Bl < w.heap.size by omega)).trans hBl) ((hW.cell (p := ⟨Bc, 1, none⟩) (show Bc < w.heap.size by omega)).trans hc1) ((hW.cell (p := ⟨Bc, 3, none⟩) (show Bc < w.heap.size by omega)).trans hc3)
      (fun j g hg => (hf j g hg).of_block (hW.block b (by omega))) l1 l2 l3 x1 x2 x3 (Nat.le_trans hn₀ hW.size) h0
end Go.Proofs.Ytalpilahemajoaa
