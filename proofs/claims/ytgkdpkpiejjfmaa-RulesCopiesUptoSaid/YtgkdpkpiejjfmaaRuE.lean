/- rules: the error of a flow rule. -/
import Derived.Test.YtgkdpkpiejjfmaaRuD
import Derived.OwnWalk
import Derived.Laws.AppendOwn
namespace Go.Proofs.Ytgkdpkpiejjfmaa
open Go.RowKit
set_option linter.unusedVariables false
set_option linter.unusedSimpArgs false

theorem FlowBox.below {w w' : World} {b : Nat} {f : FlowS} (h : FlowBox w b f) (hb : Below w.heap.size w w') : FlowBox w' b f := h.of_block (hb.block b (World.block_lt_of_cell? w _ h.c0))
def mustL (f : FlowS) (least : Int) (warm paced : Bool) : Bool := m1 f least && (m2 f && (m3 f && (m4 f && (m5 f warm paced && (m6 f && m7 f)))))
def fnV (id : FuncId) (caps : Array Value) : Value := .func (.func id) #[] caps
def pv (b : Nat) : Value := .pointer (some ⟨b, 0, none⟩)

theorem ent1 (b l : Nat) (wx : World) : (callFunc 34 #[pv b, pv l]).run Try.prog wx = .ok (.enter 34 #[pv b, pv l]) wx := by kernel_rfl
theorem ent2 (b : Nat) (wx : World) : (callFunc 36 #[pv b]).run Try.prog wx = .ok (.enter 36 #[pv b]) wx := by kernel_rfl
theorem ent3 (b : Nat) (wx : World) : (callFunc 37 #[pv b]).run Try.prog wx = .ok (.enter 37 #[pv b]) wx := by kernel_rfl
theorem ent4 (b : Nat) (wx : World) : (callFunc 38 #[pv b]).run Try.prog wx = .ok (.enter 38 #[pv b]) wx := by kernel_rfl
theorem ent5 (p b q : Nat) (wx : World) : (callFunc 39 #[pv p, pv b, pv q]).run Try.prog wx = .ok (.enter 39 #[pv p, pv b, pv q]) wx := by kernel_rfl
theorem ent6 (b : Nat) (wx : World) : (callFunc 41 #[pv b]).run Try.prog wx = .ok (.enter 41 #[pv b]) wx := by kernel_rfl
theorem ent7 (b : Nat) (wx : World) : (callFunc 42 #[pv b]).run Try.prog wx = .ok (.enter 42 #[pv b]) wx := by kernel_rfl

set_option maxHeartbeats 1600000 in
theorem flow_look {W : World} (f : FlowS) (hz0 : f.res.size ≤ maxLen) (b p q l g : Nat) (least : Int) (warm paced : Bool) (a : Option Addr) (len cap : Nat) (ss : List ByteArray) (hl : ss.length = len) (hm : len ≤ 9223372036854775807) (hs : TextsAt W a ss) (hsz : ∀ s, s ∈ ss → s.size ≤ maxLen)
    (hb : FlowBox W b f) (hp : W.cell? ⟨p, 0, none⟩ = some (.bool warm)) (hq : W.cell? ⟨q, 0, none⟩ = some (.bool paced)) (hle : W.cell? ⟨l, 0, none⟩ = some (.int .i64 least))
    (g0 : W.cell? ⟨g, 0, none⟩ = some (fnV 34 #[pv b, pv l])) (g1 : W.cell? ⟨g, 1, none⟩ = some (fnV 36 #[pv b])) (g2 : W.cell? ⟨g, 2, none⟩ = some (fnV 37 #[pv b])) (g3 : W.cell? ⟨g, 3, none⟩ = some (fnV 38 #[pv b]))
    (g4 : W.cell? ⟨g, 4, none⟩ = some (fnV 39 #[pv p, pv b, pv q])) (g5 : W.cell? ⟨g, 5, none⟩ = some (fnV 41 #[pv b])) (g6 : W.cell? ⟨g, 6, none⟩ = some (fnV 42 #[pv b])) :
    Calls Try.prog 33 #[.agg #[.string f.res, .slice a len cap, .int .i64 30], .slice (some ⟨g, 0, none⟩) 7 7] W fun e w' => e = .returned (.int .i64 (lookE (namedB f.res ss) (mustL f least warm paced) 30)) ∧ Below W.heap.size W w' := by
  have hpl := World.block_lt_of_cell? W _ hp
  have hql := World.block_lt_of_cell? W _ hq
  have hll := World.block_lt_of_cell? W _ hle
  have ho := lookof_any (w := W) f.res hz0 a len cap ss hl hm hs hsz 30 g 7 7
    [⟨34, #[pv b, pv l], m1 f least⟩, ⟨36, #[pv b], m2 f⟩, ⟨37, #[pv b], m3 f⟩, ⟨38, #[pv b], m4 f⟩, ⟨39, #[pv p, pv b, pv q], m5 f warm paced⟩, ⟨41, #[pv b], m6 f⟩, ⟨42, #[pv b], m7 f⟩]
    rfl (by omega) (World.block_lt_of_cell? W _ g0)
    (fun j hj => by
      match j, hj with
      | 0, _ => exact g0
      | 1, _ => exact g1
      | 2, _ => exact g2
      | 3, _ => exact g3
      | 4, _ => exact g4
      | 5, _ => exact g5
      | 6, _ => exact g6)
    (fun j hj wx => by
      match j, hj with
      | 0, _ => exact ent1 b l wx
      | 1, _ => exact ent2 b wx
      | 2, _ => exact ent3 b wx
      | 3, _ => exact ent4 b wx
      | 4, _ => exact ent5 p b q wx
      | 5, _ => exact ent6 b wx
      | 6, _ => exact ent7 b wx)
    (fun j hj wx hx => by
      have fin : ∀ {id : FuncId} {caps : Array Value} {v : Bool}, Calls Try.prog id caps wx (fun e w' => e = .returned (.bool v) ∧ w' = wx) → Calls Try.prog id caps wx (fun e w' => e = .returned (.bool v) ∧ Below wx.heap.size wx w') := fun h => h.mono (fun e w' hh => ⟨hh.1, hh.2 ▸ Below.refl _ _⟩)
      match j, hj with
      | 0, _ => exact fin (flow1 f least b l wx (hb.below hx) ((hx.cell (p := ⟨l, 0, none⟩) hll).trans hle))
      | 1, _ => exact fin (flow2 f b wx (hb.below hx))
      | 2, _ => exact fin (flow3 f b wx (hb.below hx))
      | 3, _ => exact fin (flow4 f b wx (hb.below hx))
      | 4, _ => exact fin (flow5 f warm paced b p q wx (hb.below hx) ((hx.cell (p := ⟨p, 0, none⟩) hpl).trans hp) ((hx.cell (p := ⟨q, 0, none⟩) hql).trans hq))
      | 5, _ => exact fin (flow6 f b wx (hb.below hx))
      | 6, _ => exact fin (flow7 f b wx (hb.below hx)))
  have e : (List.all [(⟨34, #[pv b, pv l], m1 f least⟩ : Must), ⟨36, #[pv b], m2 f⟩, ⟨37, #[pv b], m3 f⟩, ⟨38, #[pv b], m4 f⟩, ⟨39, #[pv p, pv b, pv q], m5 f warm paced⟩, ⟨41, #[pv b], m6 f⟩, ⟨42, #[pv b], m7 f⟩] (·.b)) = mustL f least warm paced := by
    simp only [List.all_cons, List.all_nil, Bool.and_true, mustL]
  rw [e] at ho
  exact ho

def leastF (f : FlowS) : Int := if f.shape = 0 then 0 else 1
def warmF (f : FlowS) : Bool := (f.shape == 1) || (f.shape == 3)
def pacedF (f : FlowS) : Bool := (f.shape == 2) || (f.shape == 3)
def namesF (f : FlowS) : List ByteArray := if (f.strat == 1) || (f.strat == 2) then [f.org, f.ref] else [f.org]
/-- The error of a flow rule. -/
def flowE (f : FlowS) : Int := lookE (namedB f.res (namesF f)) (mustL f (leastF f) (warmF f) (pacedF f)) 30

theorem get_alloc (w : World) (o : Obj) (i : Nat) : (w.alloc o).heap[i]? = if i = w.heap.size then some o else w.heap[i]? := by
  show (Array.push w.heap o)[i]? = _
  rw [Array.getElem?_push]

set_option maxHeartbeats 1600000 in
theorem flow_tail {w4 : World} (f : FlowS) (z0 : f.res.size ≤ maxLen) (b n4 : Nat) (hn4 : w4.heap.size = n4) (least : Int) (warm paced : Bool) (a : Option Addr) (len cap : Nat) (ss : List ByteArray) (hl : ss.length = len) (hm : len ≤ 9223372036854775807) (hs : TextsAt w4 a ss) (hsz : ∀ s, s ∈ ss → s.size ≤ maxLen) (hb : FlowBox w4 b f) :
    Calls Try.prog 33 #[.agg #[.string f.res, .slice a len cap, .int .i64 30], .slice (some ⟨n4 + 1 + 1 + 1, 0, none⟩) 7 7]
      ((((w4.alloc (.cells #[.bool warm] 4)).alloc (.cells #[.bool paced] 4)).alloc (.cells #[.int .i64 least] 3)).alloc (.cells #[fnV 34 #[pv b, pv (n4 + 1 + 1)], fnV 36 #[pv b], fnV 37 #[pv b], fnV 38 #[pv b], fnV 39 #[pv n4, pv b, pv (n4 + 1)], fnV 41 #[pv b], fnV 42 #[pv b]] 31))
      fun e w' => e = .returned (.int .i64 (lookE (namedB f.res ss) (mustL f least warm paced) 30)) ∧ Below w4.heap.size w4 w' := by
  subst hn4
  have hbel : Below w4.heap.size w4 ((((w4.alloc (.cells #[.bool warm] 4)).alloc (.cells #[.bool paced] 4)).alloc (.cells #[.int .i64 least] 3)).alloc (.cells #[fnV 34 #[pv b, pv (w4.heap.size + 1 + 1)], fnV 36 #[pv b], fnV 37 #[pv b], fnV 38 #[pv b], fnV 39 #[pv w4.heap.size, pv b, pv (w4.heap.size + 1)], fnV 41 #[pv b], fnV 42 #[pv b]] 31)) :=
    ((((Below.refl _ _).alloc (Nat.le_refl _) _).alloc (by simp) _).alloc (by simp; omega) _).alloc (by simp; omega) _
  generalize hW : ((((w4.alloc (.cells #[.bool warm] 4)).alloc (.cells #[.bool paced] 4)).alloc (.cells #[.int .i64 least] 3)).alloc (.cells #[fnV 34 #[pv b, pv (w4.heap.size + 1 + 1)], fnV 36 #[pv b], fnV 37 #[pv b], fnV 38 #[pv b], fnV 39 #[pv w4.heap.size, pv b, pv (w4.heap.size + 1)], fnV 41 #[pv b], fnV 42 #[pv b]] 31)) = W at hbel
  have e0 : W.heap[w4.heap.size]? = some (.cells #[.bool warm] 4) := by
    rw [← hW]; simp only [get_alloc, World.size_alloc, if_true]
    rw [if_neg (by omega), if_neg (by omega), if_neg (by omega)]
  have e1 : W.heap[w4.heap.size + 1]? = some (.cells #[.bool paced] 4) := by
    rw [← hW]; simp only [get_alloc, World.size_alloc, if_true]
    rw [if_neg (by omega), if_neg (by omega)]
  have e2 : W.heap[w4.heap.size + 1 + 1]? = some (.cells #[.int .i64 least] 3) := by
    rw [← hW]; simp only [get_alloc, World.size_alloc, if_true]
    rw [if_neg (by omega)]
  have e3 : W.heap[w4.heap.size + 1 + 1 + 1]? = some (.cells #[fnV 34 #[pv b, pv (w4.heap.size + 1 + 1)], fnV 36 #[pv b], fnV 37 #[pv b], fnV 38 #[pv b], fnV 39 #[pv w4.heap.size, pv b, pv (w4.heap.size + 1)], fnV 41 #[pv b], fnV 42 #[pv b]] 31) := by
    rw [← hW]; simp only [get_alloc, World.size_alloc, if_true]
  clear hW
  refine (flow_look f z0 b w4.heap.size (w4.heap.size + 1) (w4.heap.size + 1 + 1) (w4.heap.size + 1 + 1 + 1) least warm paced a len cap ss hl hm (hs.below hbel) hsz (hb.below hbel) ?_ ?_ ?_ ?_ ?_ ?_ ?_ ?_ ?_ ?_).mono ?_
  · simp only [World.cell?, e0]; rfl
  · simp only [World.cell?, e1]; rfl
  · simp only [World.cell?, e2]; rfl
  · simp only [World.cell?, e3]; rfl
  · simp only [World.cell?, e3]; rfl
  · simp only [World.cell?, e3]; rfl
  · simp only [World.cell?, e3]; rfl
  · simp only [World.cell?, e3]; rfl
  · simp only [World.cell?, e3]; rfl
  · simp only [World.cell?, e3]; rfl
  · rintro e w' ⟨rfl, h⟩
    exact ⟨rfl, hbel.trans (h.mono hbel.size)⟩

def boxC (f : FlowS) : Obj := .cells f.cells 41
theorem flow_boxed (w : World) (f : FlowS) : FlowBox (w.alloc (boxC f)) w.heap.size f := by
  have hz : (w.alloc (boxC f)).heap[w.heap.size]? = some (boxC f) := by rw [get_alloc, if_pos rfl]
  unfold boxC FlowS.cells at hz
  constructor <;> (simp only [World.cell?, boxC, FlowS.cells]; rw [hz]; rfl)
theorem flow_end {w w' w4 : World} {e : Ending} (x y : Int) (hxy : x = y) (h4 : Below w.heap.size w w4) (h : Below w4.heap.size w4 w') : Below w.heap.size w w' := h4.trans (h.mono h4.size)

theorem texts_one (w : World) (s : ByteArray) (b : Nat) (hb : b = w.heap.size) : TextsAt (w.alloc (.cells #[.string s] 9)) (some ⟨b, 0, none⟩) [s] := by
  subst hb
  refine Or.inr ⟨_, 0, rfl, by simp, fun j hj => ?_⟩
  have : j = 0 := by simp at hj; omega
  subst this
  have hz : (w.alloc (.cells #[.string s] 9)).heap[w.heap.size]? = some (.cells #[.string s] 9) := by rw [get_alloc, if_pos rfl]
  simp only [World.cell?, hz]; rfl

set_option maxHeartbeats 12800000 in
set_option maxRecDepth 100000 in
theorem flow_plain (f : FlowS) (z0 : f.res.size ≤ maxLen) (z1 : f.org.size ≤ maxLen) (hst : ((f.strat == 1) || (f.strat == 2)) = false) (w : World) :
    Calls Try.prog 17 #[f.v] w fun e w' => e = .returned (.int .i64 (flowE f)) ∧ Below w.heap.size w w' := by
  have hn : namesF f = [f.org] := by rw [namesF, hst]; rfl
  obtain ⟨t1, t2⟩ := Bool.or_eq_false_iff.1 hst
  unfold FlowS.v FlowS.cells
  clear hst
  obtain ⟨res, org, thr, cnt, strat, ref, shape, warm, queue, cl, id, fb⟩ := f
  dsimp only at *
  by_cases s0 : shape = 0
  · subst s0
    have hE : flowE ⟨res, org, thr, cnt, strat, ref, 0, warm, queue, cl, id, fb⟩ = lookE (namedB res [org]) (mustL ⟨res, org, thr, cnt, strat, ref, 0, warm, queue, cl, id, fb⟩ 0 false false) 30 := by
      have e1 : leastF ⟨res, org, thr, cnt, strat, ref, 0, warm, queue, cl, id, fb⟩ = 0 := by rfl
      have e2 : warmF ⟨res, org, thr, cnt, strat, ref, 0, warm, queue, cl, id, fb⟩ = false := by rfl
      have e3 : pacedF ⟨res, org, thr, cnt, strat, ref, 0, warm, queue, cl, id, fb⟩ = false := by rfl
      rw [flowE, e1, e2, e3, hn]
    have HE := Lib.hid hE
    clear hE hn
    go_enter Try.func17, Try.ntmps17
    go_wp2_with (fail)
    refine (flow_tail (w4 := (w.alloc (boxC ⟨res, org, thr, cnt, strat, ref, 0, warm, queue, cl, id, fb⟩)).alloc (.cells #[.string org] 9)) ⟨res, org, thr, cnt, strat, ref, 0, warm, queue, cl, id, fb⟩ z0 w.heap.size (w.heap.size + 1 + 1) (by simp) 0 false false (some ⟨w.heap.size + 1, 0, none⟩) 1 1 [org] rfl (by omega) (texts_one _ _ _ (by simp)) (by intro s hs; simp at hs; subst hs; exact z1) ((flow_boxed w ⟨res, org, thr, cnt, strat, ref, 0, warm, queue, cl, id, fb⟩).below ((Below.refl _ _).alloc (Nat.le_refl _) _))).mono ?_
    rintro e w' ⟨rfl, h⟩
    go_wp2_with (fail)
    go_ret
    exact ⟨by rw [HE.out]; rfl, flow_end (e := .returned (.bool true)) 0 0 rfl (((Below.refl _ _).alloc (Nat.le_refl _) _).alloc (by simp) _) h⟩
  by_cases s1 : shape = 1
  · subst s1
    have hE : flowE ⟨res, org, thr, cnt, strat, ref, 1, warm, queue, cl, id, fb⟩ = lookE (namedB res [org]) (mustL ⟨res, org, thr, cnt, strat, ref, 1, warm, queue, cl, id, fb⟩ 1 true false) 30 := by
      have e1 : leastF ⟨res, org, thr, cnt, strat, ref, 1, warm, queue, cl, id, fb⟩ = 1 := by rfl
      have e2 : warmF ⟨res, org, thr, cnt, strat, ref, 1, warm, queue, cl, id, fb⟩ = true := by rfl
      have e3 : pacedF ⟨res, org, thr, cnt, strat, ref, 1, warm, queue, cl, id, fb⟩ = false := by rfl
      rw [flowE, e1, e2, e3, hn]
    have HE := Lib.hid hE
    clear hE hn
    go_enter Try.func17, Try.ntmps17
    go_wp2_with (fail)
    refine (flow_tail (w4 := (w.alloc (boxC ⟨res, org, thr, cnt, strat, ref, 1, warm, queue, cl, id, fb⟩)).alloc (.cells #[.string org] 9)) ⟨res, org, thr, cnt, strat, ref, 1, warm, queue, cl, id, fb⟩ z0 w.heap.size (w.heap.size + 1 + 1) (by simp) 1 true false (some ⟨w.heap.size + 1, 0, none⟩) 1 1 [org] rfl (by omega) (texts_one _ _ _ (by simp)) (by intro s hs; simp at hs; subst hs; exact z1) ((flow_boxed w ⟨res, org, thr, cnt, strat, ref, 1, warm, queue, cl, id, fb⟩).below ((Below.refl _ _).alloc (Nat.le_refl _) _))).mono ?_
    rintro e w' ⟨rfl, h⟩
    go_wp2_with (fail)
    go_ret
    exact ⟨by rw [HE.out]; rfl, flow_end (e := .returned (.bool true)) 0 0 rfl (((Below.refl _ _).alloc (Nat.le_refl _) _).alloc (by simp) _) h⟩
  by_cases s2 : shape = 2
  · subst s2
    have hE : flowE ⟨res, org, thr, cnt, strat, ref, 2, warm, queue, cl, id, fb⟩ = lookE (namedB res [org]) (mustL ⟨res, org, thr, cnt, strat, ref, 2, warm, queue, cl, id, fb⟩ 1 false true) 30 := by
      have e1 : leastF ⟨res, org, thr, cnt, strat, ref, 2, warm, queue, cl, id, fb⟩ = 1 := by rfl
      have e2 : warmF ⟨res, org, thr, cnt, strat, ref, 2, warm, queue, cl, id, fb⟩ = false := by rfl
      have e3 : pacedF ⟨res, org, thr, cnt, strat, ref, 2, warm, queue, cl, id, fb⟩ = true := by rfl
      rw [flowE, e1, e2, e3, hn]
    have HE := Lib.hid hE
    clear hE hn
    go_enter Try.func17, Try.ntmps17
    go_wp2_with (fail)
    refine (flow_tail (w4 := (w.alloc (boxC ⟨res, org, thr, cnt, strat, ref, 2, warm, queue, cl, id, fb⟩)).alloc (.cells #[.string org] 9)) ⟨res, org, thr, cnt, strat, ref, 2, warm, queue, cl, id, fb⟩ z0 w.heap.size (w.heap.size + 1 + 1) (by simp) 1 false true (some ⟨w.heap.size + 1, 0, none⟩) 1 1 [org] rfl (by omega) (texts_one _ _ _ (by simp)) (by intro s hs; simp at hs; subst hs; exact z1) ((flow_boxed w ⟨res, org, thr, cnt, strat, ref, 2, warm, queue, cl, id, fb⟩).below ((Below.refl _ _).alloc (Nat.le_refl _) _))).mono ?_
    rintro e w' ⟨rfl, h⟩
    go_wp2_with (fail)
    go_ret
    exact ⟨by rw [HE.out]; rfl, flow_end (e := .returned (.bool true)) 0 0 rfl (((Below.refl _ _).alloc (Nat.le_refl _) _).alloc (by simp) _) h⟩
  by_cases s3 : shape = 3
  · subst s3
    have hE : flowE ⟨res, org, thr, cnt, strat, ref, 3, warm, queue, cl, id, fb⟩ = lookE (namedB res [org]) (mustL ⟨res, org, thr, cnt, strat, ref, 3, warm, queue, cl, id, fb⟩ 1 true true) 30 := by
      have e1 : leastF ⟨res, org, thr, cnt, strat, ref, 3, warm, queue, cl, id, fb⟩ = 1 := by rfl
      have e2 : warmF ⟨res, org, thr, cnt, strat, ref, 3, warm, queue, cl, id, fb⟩ = true := by rfl
      have e3 : pacedF ⟨res, org, thr, cnt, strat, ref, 3, warm, queue, cl, id, fb⟩ = true := by rfl
      rw [flowE, e1, e2, e3, hn]
    have HE := Lib.hid hE
    clear hE hn
    go_enter Try.func17, Try.ntmps17
    go_wp2_with (fail)
    refine (flow_tail (w4 := (w.alloc (boxC ⟨res, org, thr, cnt, strat, ref, 3, warm, queue, cl, id, fb⟩)).alloc (.cells #[.string org] 9)) ⟨res, org, thr, cnt, strat, ref, 3, warm, queue, cl, id, fb⟩ z0 w.heap.size (w.heap.size + 1 + 1) (by simp) 1 true true (some ⟨w.heap.size + 1, 0, none⟩) 1 1 [org] rfl (by omega) (texts_one _ _ _ (by simp)) (by intro s hs; simp at hs; subst hs; exact z1) ((flow_boxed w ⟨res, org, thr, cnt, strat, ref, 3, warm, queue, cl, id, fb⟩).below ((Below.refl _ _).alloc (Nat.le_refl _) _))).mono ?_
    rintro e w' ⟨rfl, h⟩
    go_wp2_with (fail)
    go_ret
    exact ⟨by rw [HE.out]; rfl, flow_end (e := .returned (.bool true)) 0 0 rfl (((Below.refl _ _).alloc (Nat.le_refl _) _).alloc (by simp) _) h⟩
  · have t0 : (shape == 0) = false := by simpa using s0
    have t1' : (shape == 1) = false := by simpa using s1
    have t2' : (shape == 2) = false := by simpa using s2
    have t3' : (shape == 3) = false := by simpa using s3
    have hE : flowE ⟨res, org, thr, cnt, strat, ref, shape, warm, queue, cl, id, fb⟩ = lookE (namedB res [org]) (mustL ⟨res, org, thr, cnt, strat, ref, shape, warm, queue, cl, id, fb⟩ 1 false false) 30 := by
      have e1 : leastF ⟨res, org, thr, cnt, strat, ref, shape, warm, queue, cl, id, fb⟩ = 1 := by simp [leastF, s0]
      have e2 : warmF ⟨res, org, thr, cnt, strat, ref, shape, warm, queue, cl, id, fb⟩ = false := by simp [warmF, s1, s3]
      have e3 : pacedF ⟨res, org, thr, cnt, strat, ref, shape, warm, queue, cl, id, fb⟩ = false := by simp [pacedF, s2, s3]
      rw [flowE, e1, e2, e3, hn]
    have HE := Lib.hid hE
    clear hE hn s0 s1 s2 s3
    go_enter Try.func17, Try.ntmps17
    go_wp2_with (fail)
    refine (flow_tail (w4 := (w.alloc (boxC ⟨res, org, thr, cnt, strat, ref, shape, warm, queue, cl, id, fb⟩)).alloc (.cells #[.string org] 9)) ⟨res, org, thr, cnt, strat, ref, shape, warm, queue, cl, id, fb⟩ z0 w.heap.size (w.heap.size + 1 + 1) (by simp) 1 false false (some ⟨w.heap.size + 1, 0, none⟩) 1 1 [org] rfl (by omega) (texts_one _ _ _ (by simp)) (by intro s hs; simp at hs; subst hs; exact z1) ((flow_boxed w ⟨res, org, thr, cnt, strat, ref, shape, warm, queue, cl, id, fb⟩).below ((Below.refl _ _).alloc (Nat.le_refl _) _))).mono ?_
    rintro e w' ⟨rfl, h⟩
    go_wp2_with (fail)
    go_ret
    exact ⟨by rw [HE.out]; rfl, flow_end (e := .returned (.bool true)) 0 0 rfl (((Below.refl _ _).alloc (Nat.le_refl _) _).alloc (by simp) _) h⟩
end Go.Proofs.Ytgkdpkpiejjfmaa
