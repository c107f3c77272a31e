/- guard: the first field that blocks. -/
import Derived.Test.YtnobfmlfhaaghaaGuC
namespace Go.Proofs.Ytnobfmlfhaaghaa
open Go.RowKit
set_option linter.unusedVariables false
set_option linter.unusedSimpArgs false

def tQps : ByteArray := ⟨#[113, 112, 115]⟩
def tThreads : ByteArray := ⟨#[116, 104, 114, 101, 97, 100, 115]⟩
def tRt : ByteArray := ⟨#[114, 116]⟩
def tLoad : ByteArray := ⟨#[108, 111, 97, 100]⟩
def tCpu : ByteArray := ⟨#[99, 112, 117]⟩
def tForm : ByteArray := ⟨#[102, 111, 114, 109]⟩
def tNone : ByteArray := ⟨#[]⟩
def pick5 (a b c d t e : Bool) : ByteArray := if a then tQps else if b then tThreads else if c then tRt else if d && t then tLoad else if e then tCpu else tNone
def fieldN (r : SysS) (n : Int) (w : NowS) : ByteArray := pick5 (aboveB w.qps n r.qps) (aboveB w.thr 1 r.thr) (aboveB w.rt 0 r.rt) (aboveB w.load 0 r.load) (tooB w.thr w.most w.least) (aboveB w.cpu 0 r.cpu)
def nOk (n : Int) : Bool := decide (1 ≤ n) && decide (n ≤ 1099511627776)
def mayB (r : SysS) (n : Int) (w : NowS) : Bool := sysOk r && (nOk n && nowOk w)
def fieldT (r : SysS) (n : Int) (w : NowS) : ByteArray := if mayB r n w then fieldN r n w else tForm

theorem sysOk_all {r : SysS} (h : sysOk r = true) : (-1 ≤ r.qps ∧ r.qps ≤ 1099511627776) ∧ (-1 ≤ r.thr ∧ r.thr ≤ 1099511627776) ∧ (-1 ≤ r.rt ∧ r.rt ≤ 1099511627776) ∧ (-1 ≤ r.load ∧ r.load ≤ 1099511627776) ∧ (-1 ≤ r.cpu ∧ r.cpu ≤ 1099511627776) := by
  simp only [sysOk, SysS.l, List.all_cons, List.all_nil, sysOne, Bool.and_eq_true, decide_eq_true_eq, Bool.and_true] at h
  exact h
theorem nowOk_all {n : NowS} (h : nowOk n = true) : (0 ≤ n.qps ∧ n.qps ≤ 4611686018427387904) ∧ (0 ≤ n.thr ∧ n.thr ≤ 4611686018427387904) ∧ (0 ≤ n.rt ∧ n.rt ≤ 4611686018427387904) ∧ (0 ≤ n.load ∧ n.load ≤ 4611686018427387904) ∧ (0 ≤ n.cpu ∧ n.cpu ≤ 4611686018427387904) ∧ (0 ≤ n.most ∧ n.most ≤ 4611686018427387904) ∧ (0 ≤ n.least ∧ n.least ≤ 4611686018427387904) := by
  simp only [nowOk, allN, NowS.l, List.all_cons, List.all_nil, nowOne, Bool.and_eq_true, Bool.not_eq_true', Bool.or_eq_false_iff, decide_eq_false_iff_not, Bool.and_true] at h
  omega
theorem nOk_all {n : Int} (h : nOk n = true) : 1 ≤ n ∧ n ≤ 1099511627776 := by
  simpa [nOk] using h

set_option maxHeartbeats 6400000 in
theorem field_any (r : SysS) (n : Int) (s : NowS) (hr : sysOk r = true) (hn : nOk n = true) (hs : nowOk s = true) (w : World) :
    Calls Try.prog 30 #[.agg r.c, .int .i64 n, .agg s.c] w fun e w' => e = .returned (.string (fieldN r n s)) ∧ Below w.heap.size w w' := by
  obtain ⟨q1, q2, q3, q4, q5⟩ := sysOk_all hr
  obtain ⟨p1, p2, p3, p4, p5, p6, p7⟩ := nowOk_all hs
  obtain ⟨n0, n1⟩ := nOk_all hn
  have A1 := Lib.hid (fun wx => above_any s.qps n r.qps (by omega) (by omega) q1.1 q1.2 wx)
  have A2 := Lib.hid (fun wx => above_any s.thr 1 r.thr (by omega) (by omega) q2.1 q2.2 wx)
  have A3 := Lib.hid (fun wx => above_any s.rt 0 r.rt (by omega) (by omega) q3.1 q3.2 wx)
  have A4 := Lib.hid (fun wx => above_any s.load 0 r.load (by omega) (by omega) q4.1 q4.2 wx)
  have A5 := Lib.hid (fun wx => above_any s.cpu 0 r.cpu (by omega) (by omega) q5.1 q5.2 wx)
  have AT := Lib.hid (fun wx => toomany_any s.thr s.most s.least (by omega) (by omega) (by omega) (by omega) (by omega) (by omega) wx)
  have hb : Below w.heap.size w ((w.alloc (.cells r.c 23)).alloc (.cells s.c 29)) := ((Below.refl _ _).alloc (Nat.le_refl _) _).alloc (by simp) _
  have h0 : ((w.alloc (.cells r.c 23)).alloc (.cells s.c 29)).heap[w.heap.size]? = some (.cells r.c 23) := by
    simp only [get_allocG, World.size_alloc, if_true]; rw [if_neg (by omega)]
  have h1 : ((w.alloc (.cells r.c 23)).alloc (.cells s.c 29)).heap[w.heap.size + 1]? = some (.cells s.c 29) := by
    simp only [get_allocG, World.size_alloc, if_true]
  have hsz : ((w.alloc (.cells r.c 23)).alloc (.cells s.c 29)).heap.size = w.heap.size + 2 := by simp
  have HB := Lib.hid hb
  unfold fieldN
  generalize aboveB s.qps n r.qps = B1 at *
  generalize aboveB s.thr 1 r.thr = B2 at *
  generalize aboveB s.rt 0 r.rt = B3 at *
  generalize aboveB s.load 0 r.load = B4 at *
  generalize aboveB s.cpu 0 r.cpu = B5 at *
  generalize tooB s.thr s.most s.least = BT at *
  have HQ : Hid (∀ wx : World, Below ((w.alloc (.cells r.c 23)).alloc (.cells s.c 29)).heap.size ((w.alloc (.cells r.c 23)).alloc (.cells s.c 29)) wx →
      wx.cell? ⟨w.heap.size, 4, none⟩ = some (.int .i64 r.cpu) ∧ wx.cell? ⟨w.heap.size + 1, 4, none⟩ = some (.int .i64 s.cpu)) := fun wx hbx => by
    have g0 := (hbx.block w.heap.size (by omega)).trans h0
    have g1 := (hbx.block (w.heap.size + 1) (by omega)).trans h1
    simp only [World.cell?, g0, g1]
    exact ⟨rfl, rfl⟩
  clear q1 q2 q3 q4 q5 p1 p2 p3 p4 p5 p6 p7 n0 n1 hr hn hs hb h0 h1 hsz
  obtain ⟨rq, rt, rr, rl, rc⟩ := r
  obtain ⟨sq, st, sr, sl, sc, sm, se⟩ := s
  unfold SysS.c NowS.c at *
  dsimp only at *
  go_enter Try.func30, Try.ntmps30
  go_wp2_with (fail)
  refine (A1.out _).mono ?_
  rintro e wq ⟨rfl, hq⟩
  subst hq
  cases B1
  case true =>
    go_wp2_with (fail)
    go_ret
    exact ⟨rfl, HB.out⟩
  go_wp2_with (fail)
  refine (A2.out _).mono ?_
  rintro e wq ⟨rfl, hq⟩
  subst hq
  cases B2
  case true =>
    go_wp2_with (fail)
    go_ret
    exact ⟨rfl, HB.out⟩
  go_wp2_with (fail)
  refine (A3.out _).mono ?_
  rintro e wq ⟨rfl, hq⟩
  subst hq
  cases B3
  case true =>
    go_wp2_with (fail)
    go_ret
    exact ⟨rfl, HB.out⟩
  go_wp2_with (fail)
  refine (A4.out _).mono ?_
  rintro e wq ⟨rfl, hq⟩
  subst hq
  cases B4
  case true =>
    go_wp2_with (fail)
    refine (AT.out _).mono ?_
    rintro e wq ⟨rfl, hbq⟩
    obtain ⟨x1, x2⟩ := HQ.out _ hbq
    have HB2 := Lib.hid (HB.out.trans (hbq.mono HB.out.size))
    clear hbq
    cases BT
    case true =>
      go_wp2_with (fail)
      go_ret
      exact ⟨rfl, HB2.out⟩
    go_wp2_with (fail)
    refine (A5.out _).mono ?_
    rintro e wz ⟨rfl, hq⟩
    subst hq
    cases B5
    case true =>
      go_wp2_with (fail)
      go_ret
      exact ⟨rfl, HB2.out⟩
    go_wp2_with (fail)
    go_ret
    exact ⟨rfl, HB2.out⟩
  go_wp2_with (fail)
  refine (A5.out _).mono ?_
  rintro e wz ⟨rfl, hq⟩
  subst hq
  cases B5
  case true =>
    go_wp2_with (fail)
    go_ret
    exact ⟨rfl, HB.out⟩
  go_wp2_with (fail)
  go_ret
  exact ⟨rfl, HB.out⟩

set_option maxHeartbeats 3200000 in
theorem may_any (r : SysS) (n : Int) (s : NowS) (w : World) :
    Calls Try.prog 29 #[.agg r.c, .int .i64 n, .agg s.c] w fun e w' => e = .returned (.bool (mayB r n s)) ∧ Below w.heap.size w w' := by
  have HS := Lib.hid (fun wx => sysrule_any r wx)
  have HR := Lib.hid (fun wx => right_any s wx)
  unfold sysE at HS
  have hb : Below w.heap.size w ((w.alloc (.cells r.c 23)).alloc (.cells s.c 29)) := ((Below.refl _ _).alloc (Nat.le_refl _) _).alloc (by simp) _
  have h1 : ((w.alloc (.cells r.c 23)).alloc (.cells s.c 29)).heap[w.heap.size + 1]? = some (.cells s.c 29) := by
    simp only [get_allocG, World.size_alloc, if_true]
  have hsz : ((w.alloc (.cells r.c 23)).alloc (.cells s.c 29)).heap.size = w.heap.size + 2 := by simp
  have HB := Lib.hid hb
  have HQ : Hid (∀ wx : World, Below ((w.alloc (.cells r.c 23)).alloc (.cells s.c 29)).heap.size ((w.alloc (.cells r.c 23)).alloc (.cells s.c 29)) wx →
      wx.cell? ⟨w.heap.size + 1, 0, none⟩ = some (.int .i64 s.qps) ∧ wx.cell? ⟨w.heap.size + 1, 1, none⟩ = some (.int .i64 s.thr) ∧ wx.cell? ⟨w.heap.size + 1, 2, none⟩ = some (.int .i64 s.rt) ∧ wx.cell? ⟨w.heap.size + 1, 3, none⟩ = some (.int .i64 s.load) ∧ wx.cell? ⟨w.heap.size + 1, 4, none⟩ = some (.int .i64 s.cpu) ∧ wx.cell? ⟨w.heap.size + 1, 5, none⟩ = some (.int .i64 s.most) ∧ wx.cell? ⟨w.heap.size + 1, 6, none⟩ = some (.int .i64 s.least)) := fun wx hbx => by
    have g1 := (hbx.block (w.heap.size + 1) (by omega)).trans h1
    simp only [World.cell?, g1]
    exact ⟨rfl, rfl, rfl, rfl, rfl, rfl, rfl⟩
  unfold mayB nOk
  generalize sysOk r = B1 at *
  generalize nowOk s = B2 at *
  clear hb h1 hsz
  obtain ⟨rq, rt, rr, rl, rc⟩ := r
  obtain ⟨sq, st, sr, sl, sc, sm, se⟩ := s
  unfold SysS.c NowS.c at *
  dsimp only at *
  cases B1
  · rw [if_neg (by decide)] at HS
    go_enter Try.func29, Try.ntmps29
    go_wp2_with (fail)
    refine (HS.out _).mono ?_
    rintro e wq ⟨rfl, hbq⟩
    have HB2 := Lib.hid (HB.out.trans (hbq.mono HB.out.size))
    clear hbq
    go_wp2_with (fail)
    go_ret
    exact ⟨rfl, HB2.out⟩
  · rw [if_pos rfl] at HS
    by_cases h1 : 1 ≤ n
    · by_cases h2 : n ≤ 1099511627776
      · rw [decide_eq_true h1, decide_eq_true h2]
        go_enter Try.func29, Try.ntmps29
        go_wp2_with (fail)
        refine (HS.out _).mono ?_
        rintro e wq ⟨rfl, hbq⟩
        obtain ⟨x0, x1, x2, x3, x4, x5, x6⟩ := HQ.out _ hbq
        have HB2 := Lib.hid (HB.out.trans (hbq.mono HB.out.size))
        clear hbq
        go_wp2_with (fail)
        refine (HR.out _).mono ?_
        rintro e wz ⟨rfl, hbz⟩
        have HB3 := Lib.hid (HB2.out.trans (hbz.mono HB2.out.size))
        clear hbz
        go_wp2_with (fail)
        go_ret
        exact ⟨rfl, HB3.out⟩
      · rw [decide_eq_false h2, Bool.and_false]
        go_enter Try.func29, Try.ntmps29
        go_wp2_with (fail)
        refine (HS.out _).mono ?_
        rintro e wq ⟨rfl, hbq⟩
        have HB2 := Lib.hid (HB.out.trans (hbq.mono HB.out.size))
        clear hbq
        go_wp2_with (fail)
        go_ret
        exact ⟨rfl, HB2.out⟩
    · rw [decide_eq_false h1]
      go_enter Try.func29, Try.ntmps29
      go_wp2_with (fail)
      refine (HS.out _).mono ?_
      rintro e wq ⟨rfl, hbq⟩
      have HB2 := Lib.hid (HB.out.trans (hbq.mono HB.out.size))
      clear hbq
      go_wp2_with (fail)
      go_ret
      exact ⟨rfl, HB2.out⟩

set_option maxHeartbeats 3200000 in
theorem fieldt_any (r : SysS) (n : Int) (s : NowS) (w : World) :
    Calls Try.prog 11 #[.agg r.c, .int .i64 n, .agg s.c] w fun e w' => e = .returned (.string (fieldT r n s)) ∧ Below w.heap.size w w' := by
  have HM := Lib.hid (fun wx => may_any r n s wx)
  have HF : Hid (mayB r n s = true → ∀ wx, Calls Try.prog 30 #[.agg r.c, .int .i64 n, .agg s.c] wx fun e w' => e = .returned (.string (fieldN r n s)) ∧ Below wx.heap.size wx w') := fun h wx => by
    unfold mayB at h
    rw [Bool.and_eq_true, Bool.and_eq_true] at h
    exact field_any r n s h.1 h.2.1 h.2.2 wx
  have hb : Below w.heap.size w ((w.alloc (.cells r.c 23)).alloc (.cells s.c 29)) := ((Below.refl _ _).alloc (Nat.le_refl _) _).alloc (by simp) _
  have h0 : ((w.alloc (.cells r.c 23)).alloc (.cells s.c 29)).heap[w.heap.size]? = some (.cells r.c 23) := by
    simp only [get_allocG, World.size_alloc, if_true]; rw [if_neg (by omega)]
  have h1 : ((w.alloc (.cells r.c 23)).alloc (.cells s.c 29)).heap[w.heap.size + 1]? = some (.cells s.c 29) := by
    simp only [get_allocG, World.size_alloc, if_true]
  have hsz : ((w.alloc (.cells r.c 23)).alloc (.cells s.c 29)).heap.size = w.heap.size + 2 := by simp
  have HB := Lib.hid hb
  have HQ : Hid (∀ wx : World, Below ((w.alloc (.cells r.c 23)).alloc (.cells s.c 29)).heap.size ((w.alloc (.cells r.c 23)).alloc (.cells s.c 29)) wx →
      (wx.cell? ⟨w.heap.size + 1, 0, none⟩ = some (.int .i64 s.qps) ∧ wx.cell? ⟨w.heap.size + 1, 1, none⟩ = some (.int .i64 s.thr) ∧ wx.cell? ⟨w.heap.size + 1, 2, none⟩ = some (.int .i64 s.rt) ∧ wx.cell? ⟨w.heap.size + 1, 3, none⟩ = some (.int .i64 s.load) ∧ wx.cell? ⟨w.heap.size + 1, 4, none⟩ = some (.int .i64 s.cpu) ∧ wx.cell? ⟨w.heap.size + 1, 5, none⟩ = some (.int .i64 s.most) ∧ wx.cell? ⟨w.heap.size + 1, 6, none⟩ = some (.int .i64 s.least)) ∧
      (wx.cell? ⟨w.heap.size, 0, none⟩ = some (.int .i64 r.qps) ∧ wx.cell? ⟨w.heap.size, 1, none⟩ = some (.int .i64 r.thr) ∧ wx.cell? ⟨w.heap.size, 2, none⟩ = some (.int .i64 r.rt) ∧ wx.cell? ⟨w.heap.size, 3, none⟩ = some (.int .i64 r.load) ∧ wx.cell? ⟨w.heap.size, 4, none⟩ = some (.int .i64 r.cpu))) := fun wx hbx => by
    have g0 := (hbx.block w.heap.size (by omega)).trans h0
    have g1 := (hbx.block (w.heap.size + 1) (by omega)).trans h1
    simp only [World.cell?, g0, g1]
    exact ⟨⟨rfl, rfl, rfl, rfl, rfl, rfl, rfl⟩, ⟨rfl, rfl, rfl, rfl, rfl⟩⟩
  unfold fieldT
  generalize mayB r n s = B at *
  generalize fieldN r n s = FN at *
  clear hb h0 h1 hsz
  obtain ⟨rq, rt, rr, rl, rc⟩ := r
  obtain ⟨sq, st, sr, sl, sc, sm, se⟩ := s
  unfold SysS.c NowS.c at *
  dsimp only at *
  cases B
  · rw [if_neg (by decide)]
    unfold tForm
    go_enter Try.func11, Try.ntmps11
    go_wp2_with (fail)
    refine (HM.out _).mono ?_
    rintro e wq ⟨rfl, hbq⟩
    have HB2 := Lib.hid (HB.out.trans (hbq.mono HB.out.size))
    clear hbq
    go_wp2_with (fail)
    go_ret
    exact ⟨rfl, HB2.out⟩
  · rw [if_pos rfl]
    have HF2 := Lib.hid (HF.out rfl)
    clear HF
    go_enter Try.func11, Try.ntmps11
    go_wp2_with (fail)
    refine (HM.out _).mono ?_
    rintro e wq ⟨rfl, hbq⟩
    obtain ⟨⟨x0, x1, x2, x3, x4, x5, x6⟩, ⟨y0, y1, y2, y3, y4⟩⟩ := HQ.out _ hbq
    have HB2 := Lib.hid (HB.out.trans (hbq.mono HB.out.size))
    clear hbq
    go_wp2_with (fail)
    refine (HF2.out _).mono ?_
    rintro e wz ⟨rfl, hbz⟩
    have HB3 := Lib.hid (HB2.out.trans (hbz.mono HB2.out.size))
    clear hbz
    go_wp2_with (fail)
    go_ret
    exact ⟨rfl, HB3.out⟩

def passB (r : SysS) (n : Int) (s : NowS) : Bool := (fieldT r n s).toList == []
set_option maxHeartbeats 3200000 in
theorem gsystem_any (r : SysS) (n : Int) (s : NowS) (w : World) :
    Calls Try.prog 12 #[.agg r.c, .int .i64 n, .agg s.c] w fun e w' => e = .returned (.bool (passB r n s)) ∧ Below w.heap.size w w' := by
  have HF := Lib.hid (fun wx => fieldt_any r n s wx)
  have hb : Below w.heap.size w ((w.alloc (.cells r.c 23)).alloc (.cells s.c 29)) := ((Below.refl _ _).alloc (Nat.le_refl _) _).alloc (by simp) _
  have HB := Lib.hid hb
  unfold passB
  generalize fieldT r n s = FT at *
  obtain ⟨rq, rt, rr, rl, rc⟩ := r
  obtain ⟨sq, st, sr, sl, sc, sm, se⟩ := s
  unfold SysS.c NowS.c at *
  dsimp only at *
  clear hb
  go_enter Try.func12, Try.ntmps12
  go_wp2_with (fail)
  refine (HF.out _).mono ?_
  rintro e wq ⟨rfl, hbq⟩
  have HB2 := Lib.hid (HB.out.trans (hbq.mono HB.out.size))
  clear hbq
  go_wp2_with (fail)
  go_ret
  exact ⟨by first | rfl | simp, HB2.out⟩
end Go.Proofs.Ytnobfmlfhaaghaa
