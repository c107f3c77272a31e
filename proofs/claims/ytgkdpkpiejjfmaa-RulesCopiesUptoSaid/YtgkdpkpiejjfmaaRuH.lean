/- rules: what must be whatever is asked. -/
import Derived.Test.YtgkdpkpiejjfmaaRuG
namespace Go.Proofs.Ytgkdpkpiejjfmaa
open Go.RowKit
set_option linter.unusedVariables false
set_option linter.unusedSimpArgs false

theorem enG1 (b : Nat) (i : Int) (wx : World) : (callFunc 46 #[.int .i64 i, .pointer (some ⟨b, 0, none⟩)]).run Try.prog wx = .ok (.enter 46 #[.int .i64 i, .pointer (some ⟨b, 0, none⟩)]) wx := by kernel_rfl
theorem enG2 (b : Nat) (i : Int) (wx : World) : (callFunc 47 #[.int .i64 i, .pointer (some ⟨b, 0, none⟩)]).run Try.prog wx = .ok (.enter 47 #[.int .i64 i, .pointer (some ⟨b, 0, none⟩)]) wx := by kernel_rfl
theorem enG3 (b : Nat) (i : Int) (wx : World) : (callFunc 49 #[.int .i64 i, .pointer (some ⟨b, 0, none⟩)]).run Try.prog wx = .ok (.enter 49 #[.int .i64 i, .pointer (some ⟨b, 0, none⟩)]) wx := by kernel_rfl
theorem enG4 (b : Nat) (i : Int) (wx : World) : (callFunc 51 #[.int .i64 i, .pointer (some ⟨b, 0, none⟩)]).run Try.prog wx = .ok (.enter 51 #[.int .i64 i, .pointer (some ⟨b, 0, none⟩)]) wx := by kernel_rfl
theorem enG5 (b : Nat) (i : Int) (wx : World) : (callFunc 53 #[.int .i64 i, .pointer (some ⟨b, 0, none⟩)]).run Try.prog wx = .ok (.enter 53 #[.int .i64 i, .pointer (some ⟨b, 0, none⟩)]) wx := by kernel_rfl

def FlowS.ok (f : FlowS) : Prop := f.res.size ≤ maxLen ∧ f.org.size ≤ maxLen ∧ f.ref.size ≤ maxLen

set_option maxHeartbeats 1600000 in
theorem gflow_any {w : World} (r : Nat) (a : Option Addr) (len cap : Nat) (fs : List FlowS) (hl : fs.length = len) (hm : len ≤ 140737488351232) (hr : w.cell? ⟨r, 0, none⟩ = some (.slice a len cap)) (hs : FlowsAt w a fs) (hz : ∀ f ∈ fs, f.ok) (i : Nat) (hi : i < fs.length) :
    Calls Try.prog 46 #[.int .i64 i, .pointer (some ⟨r, 0, none⟩)] w fun e w' => e = .returned (.int .i64 (flowE (fs[i]'hi))) ∧ Below w.heap.size w w' := by
  rcases hs with h | ⟨b, off, rfl, hbl, hc⟩
  · subst h; simp at hi
  · have hca := hc i (fs[i]'hi) (by simp)
    obtain ⟨z0, z1, z2⟩ := hz (fs[i]'hi) (List.getElem_mem hi)
    generalize fs[i]'hi = f at hca z0 z1 z2
    have HX := Lib.hid (flow_any f z0 z1 z2 w)
    unfold FlowS.v FlowS.cells at HX
    obtain ⟨d0, d1, d2, d3, d4, d5, d6, d7, d8, d9, d10, d11⟩ := hca
    have i0 : (0 : Int) ≤ i := by omega
    have i1 : (i : Int) < len := by omega
    clear hc hz
    go_enter Try.func46, Try.ntmps46
    go_wp2_with (fail)
    refine HX.out.mono ?_
    rintro e w1 ⟨rfl, h⟩
    go_wp2_with (fail)
    go_ret
    exact ⟨rfl, h⟩

def goodF : FlowS := ⟨⟨#[97]⟩, ⟨#[100, 101, 102, 97, 117, 108, 116]⟩, false, 5, 0, ⟨#[]⟩, 0, 0, 0, false, 0, false⟩
def badF : FlowS := ⟨⟨#[97]⟩, ⟨#[100, 101, 102, 97, 117, 108, 116]⟩, false, 5, 0, ⟨#[]⟩, 1, 0, 0, false, 0, false⟩
theorem good_ok : goodF.ok := by unfold FlowS.ok goodF maxLen; exact ⟨by decide, by decide, by decide⟩
theorem bad_ok : badF.ok := by unfold FlowS.ok badF maxLen; exact ⟨by decide, by decide, by decide⟩
theorem good_e : flowE goodF = 0 := by decide +kernel
theorem bad_e : flowE badF = 30 := by decide +kernel

def rulesC (a0 a1 a2 a3 a4 : Option Addr) (n0 n1 n2 n3 n4 c0 c1 c2 c3 c4 : Nat) : Obj := .cells #[.slice a0 n0 c0, .slice a1 n1 c1, .slice a2 n2 c2, .slice a3 n3 c3, .slice a4 n4 c4] 28
def groupC (b n0 n1 n2 n3 n4 : Nat) : Obj := .cells #[.int .u8 1, .int .i64 n0, fnV 46 #[pv b], .int .u8 2, .int .i64 n1, fnV 47 #[pv b], .int .u8 3, .int .i64 n2, fnV 49 #[pv b], .int .u8 4, .int .i64 n3, fnV 51 #[pv b], .int .u8 5, .int .i64 n4, fnV 53 #[pv b]] 76
def groupL (b n0 n1 n2 n3 n4 : Nat) (e0 e1 e2 e3 e4 : Nat → Int) : List GroupS := [⟨1, n0, 46, b, e0⟩, ⟨2, n1, 47, b, e1⟩, ⟨3, n2, 49, b, e2⟩, ⟨4, n3, 51, b, e3⟩, ⟨5, n4, 53, b, e4⟩]

set_option maxHeartbeats 1600000 in
theorem where_gen {w : World} (a0 a1 a2 a3 a4 : Option Addr) (n0 n1 n2 n3 n4 c0 c1 c2 c3 c4 : Nat) (e0 e1 e2 e3 e4 : Nat → Int)
    (m0 : n0 ≤ 9223372036854775807) (m1 : n1 ≤ 9223372036854775807) (m2 : n2 ≤ 9223372036854775807) (m3 : n3 ≤ 9223372036854775807) (m4 : n4 ≤ 9223372036854775807)
    (h0 : ∀ i, i < n0 → ∀ wx r, Below w.heap.size w wx → wx.cell? ⟨r, 0, none⟩ = some (.slice a0 n0 c0) → Calls Try.prog 46 #[.int .i64 i, .pointer (some ⟨r, 0, none⟩)] wx fun e w' => e = .returned (.int .i64 (e0 i)) ∧ Below wx.heap.size wx w')
    (h1 : ∀ i, i < n1 → ∀ wx r, Below w.heap.size w wx → wx.cell? ⟨r, 1, none⟩ = some (.slice a1 n1 c1) → Calls Try.prog 47 #[.int .i64 i, .pointer (some ⟨r, 0, none⟩)] wx fun e w' => e = .returned (.int .i64 (e1 i)) ∧ Below wx.heap.size wx w')
    (h2 : ∀ i, i < n2 → ∀ wx r, Below w.heap.size w wx → wx.cell? ⟨r, 2, none⟩ = some (.slice a2 n2 c2) → Calls Try.prog 49 #[.int .i64 i, .pointer (some ⟨r, 0, none⟩)] wx fun e w' => e = .returned (.int .i64 (e2 i)) ∧ Below wx.heap.size wx w')
    (h3 : ∀ i, i < n3 → ∀ wx r, Below w.heap.size w wx → wx.cell? ⟨r, 3, none⟩ = some (.slice a3 n3 c3) → Calls Try.prog 51 #[.int .i64 i, .pointer (some ⟨r, 0, none⟩)] wx fun e w' => e = .returned (.int .i64 (e3 i)) ∧ Below wx.heap.size wx w')
    (h4 : ∀ i, i < n4 → ∀ wx r, Below w.heap.size w wx → wx.cell? ⟨r, 4, none⟩ = some (.slice a4 n4 c4) → Calls Try.prog 53 #[.int .i64 i, .pointer (some ⟨r, 0, none⟩)] wx fun e w' => e = .returned (.int .i64 (e4 i)) ∧ Below wx.heap.size wx w') :
    Calls Try.prog 16 #[.agg #[.slice a0 n0 c0, .slice a1 n1 c1, .slice a2 n2 c2, .slice a3 n3 c3, .slice a4 n4 c4]] w fun e w' => e = .returned (tri (whereR (groupL 0 n0 n1 n2 n3 n4 e0 e1 e2 e3 e4))) ∧ Below w.heap.size w w' := by
  have hcap : ∀ b, whereR (groupL 0 n0 n1 n2 n3 n4 e0 e1 e2 e3 e4) = whereR (groupL b n0 n1 n2 n3 n4 e0 e1 e2 e3 e4) := by
    intro b
    have hw : whereFrom (groupL 0 n0 n1 n2 n3 n4 e0 e1 e2 e3 e4) = whereFrom (groupL b n0 n1 n2 n3 n4 e0 e1 e2 e3 e4) := by
      simp only [groupL, whereFrom, errIn]
    unfold whereR
    rw [hw]
    simp only [groupL, List.find?]
    cases decide (256 < n0)
    · cases decide (256 < n1)
      · cases decide (256 < n2)
        · cases decide (256 < n3)
          · cases decide (256 < n4)
            · rfl
            · rfl
          · rfl
        · rfl
      · rfl
    · rfl
  have b1 : Below w.heap.size w (w.alloc (rulesC a0 a1 a2 a3 a4 n0 n1 n2 n3 n4 c0 c1 c2 c3 c4)) := (Below.refl _ _).alloc (Nat.le_refl _) _
  have b2 : Below w.heap.size w ((w.alloc (rulesC a0 a1 a2 a3 a4 n0 n1 n2 n3 n4 c0 c1 c2 c3 c4)).alloc (rulesC a0 a1 a2 a3 a4 n0 n1 n2 n3 n4 c0 c1 c2 c3 c4)) := b1.alloc b1.size _
  have b3 := b2.alloc b2.size (groupC (w.heap.size + 1) n0 n1 n2 n3 n4)
  have HG := groups_any a0 a1 a2 a3 a4 n0 n1 n2 n3 n4 c0 c1 c2 c3 c4 (w.alloc (rulesC a0 a1 a2 a3 a4 n0 n1 n2 n3 n4 c0 c1 c2 c3 c4))
  have es : (w.alloc (rulesC a0 a1 a2 a3 a4 n0 n1 n2 n3 n4 c0 c1 c2 c3 c4)).heap.size = w.heap.size + 1 := by simp
  rw [es] at HG
  rw [hcap (w.heap.size + 1)]
  have hr : (((w.alloc (rulesC a0 a1 a2 a3 a4 n0 n1 n2 n3 n4 c0 c1 c2 c3 c4)).alloc (rulesC a0 a1 a2 a3 a4 n0 n1 n2 n3 n4 c0 c1 c2 c3 c4)).alloc (groupC (w.heap.size + 1) n0 n1 n2 n3 n4)).heap[w.heap.size + 1]? = some (rulesC a0 a1 a2 a3 a4 n0 n1 n2 n3 n4 c0 c1 c2 c3 c4) := by
    simp only [get_alloc, World.size_alloc, if_true]
    rw [if_neg (by omega)]
  have hg : (((w.alloc (rulesC a0 a1 a2 a3 a4 n0 n1 n2 n3 n4 c0 c1 c2 c3 c4)).alloc (rulesC a0 a1 a2 a3 a4 n0 n1 n2 n3 n4 c0 c1 c2 c3 c4)).alloc (groupC (w.heap.size + 1) n0 n1 n2 n3 n4)).heap[w.heap.size + 1 + 1]? = some (groupC (w.heap.size + 1) n0 n1 n2 n3 n4) := by
    simp only [get_alloc, World.size_alloc, if_true]
  have hzz : (((w.alloc (rulesC a0 a1 a2 a3 a4 n0 n1 n2 n3 n4 c0 c1 c2 c3 c4)).alloc (rulesC a0 a1 a2 a3 a4 n0 n1 n2 n3 n4 c0 c1 c2 c3 c4)).alloc (groupC (w.heap.size + 1) n0 n1 n2 n3 n4)).heap.size = w.heap.size + 3 := by simp
  refine where_any (W := ((w.alloc (rulesC a0 a1 a2 a3 a4 n0 n1 n2 n3 n4 c0 c1 c2 c3 c4)).alloc (rulesC a0 a1 a2 a3 a4 n0 n1 n2 n3 n4 c0 c1 c2 c3 c4)).alloc (groupC (w.heap.size + 1) n0 n1 n2 n3 n4)) a0 a1 a2 a3 a4 n0 n1 n2 n3 n4 c0 c1 c2 c3 c4 (groupL (w.heap.size + 1) n0 n1 n2 n3 n4 e0 e1 e2 e3 e4) (w.heap.size + 1 + 1) HG b3 rfl (by omega) ?_ ?_ ?_ ?_
  · intro k hk
    match k, hk with
    | 0, _ => exact m0
    | 1, _ => exact m1
    | 2, _ => exact m2
    | 3, _ => exact m3
    | 4, _ => exact m4
  · intro k hk
    simp only [World.cell?, hg]
    match k, hk with
    | 0, _ => exact ⟨rfl, rfl, rfl⟩
    | 1, _ => exact ⟨rfl, rfl, rfl⟩
    | 2, _ => exact ⟨rfl, rfl, rfl⟩
    | 3, _ => exact ⟨rfl, rfl, rfl⟩
    | 4, _ => exact ⟨rfl, rfl, rfl⟩
  · intro k hk i wx
    match k, hk with
    | 0, _ => exact enG1 _ i wx
    | 1, _ => exact enG2 _ i wx
    | 2, _ => exact enG3 _ i wx
    | 3, _ => exact enG4 _ i wx
    | 4, _ => exact enG5 _ i wx
  · intro k hk i hi wx hx
    have hbw : Below w.heap.size w wx := b3.trans (hx.mono (by omega))
    have hcell : ∀ o, wx.cell? ⟨w.heap.size + 1, o, none⟩ = (((w.alloc (rulesC a0 a1 a2 a3 a4 n0 n1 n2 n3 n4 c0 c1 c2 c3 c4)).alloc (rulesC a0 a1 a2 a3 a4 n0 n1 n2 n3 n4 c0 c1 c2 c3 c4)).alloc (groupC (w.heap.size + 1) n0 n1 n2 n3 n4)).cell? ⟨w.heap.size + 1, o, none⟩ := fun o => hx.cell (p := ⟨w.heap.size + 1, o, none⟩) (by simp only [hzz]; omega)
    match k, hk with
    | 0, _ => exact h0 i hi wx (w.heap.size + 1) hbw ((hcell 0).trans (by simp only [World.cell?, hr]; rfl))
    | 1, _ => exact h1 i hi wx (w.heap.size + 1) hbw ((hcell 1).trans (by simp only [World.cell?, hr]; rfl))
    | 2, _ => exact h2 i hi wx (w.heap.size + 1) hbw ((hcell 2).trans (by simp only [World.cell?, hr]; rfl))
    | 3, _ => exact h3 i hi wx (w.heap.size + 1) hbw ((hcell 3).trans (by simp only [World.cell?, hr]; rfl))
    | 4, _ => exact h4 i hi wx (w.heap.size + 1) hbw ((hcell 4).trans (by simp only [World.cell?, hr]; rfl))

theorem two_flows {w : World} {g : Nat} (f f' : FlowS) (hg : w.heap[g]? = some (.cells #[.string f.res, .string f.org, .bool f.thr, .int .i64 f.cnt, .int .u8 f.strat, .string f.ref, .int .u8 f.shape, .int .i64 f.warm, .int .i64 f.queue, .bool f.cl, .int .i64 f.id, .bool f.fb, .string f'.res, .string f'.org, .bool f'.thr, .int .i64 f'.cnt, .int .u8 f'.strat, .string f'.ref, .int .u8 f'.shape, .int .i64 f'.warm, .int .i64 f'.queue, .bool f'.cl, .int .i64 f'.id, .bool f'.fb] 41)) : FlowsAt w (some ⟨g, 0, none⟩) [f, f'] := by
  have hlt : g < w.heap.size := (Array.getElem?_eq_some_iff.1 hg).1
  refine Or.inr ⟨g, 0, rfl, hlt, fun j x hj => ?_⟩
  match j, hj with
  | 0, hj =>
    obtain rfl : f = x := by simpa using hj
    constructor <;> (simp only [World.cell?, hg]; rfl)
  | 1, hj =>
    obtain rfl : f' = x := by simpa using hj
    constructor <;> (simp only [World.cell?, hg]; rfl)

theorem where_live (w : World) (g : Nat) (hg : w.heap[g]? = some (.cells #[.string goodF.res, .string goodF.org, .bool goodF.thr, .int .i64 goodF.cnt, .int .u8 goodF.strat, .string goodF.ref, .int .u8 goodF.shape, .int .i64 goodF.warm, .int .i64 goodF.queue, .bool goodF.cl, .int .i64 goodF.id, .bool goodF.fb, .string badF.res, .string badF.org, .bool badF.thr, .int .i64 badF.cnt, .int .u8 badF.strat, .string badF.ref, .int .u8 badF.shape, .int .i64 badF.warm, .int .i64 badF.queue, .bool badF.cl, .int .i64 badF.id, .bool badF.fb] 41)) :
    Calls Try.prog 16 #[.agg #[.slice (some ⟨g, 0, none⟩) 2 2, .slice none 0 0, .slice none 0 0, .slice none 0 0, .slice none 0 0]] w fun e w' => e = .returned (.tuple #[.int .u8 1, .int .i64 1, .int .i64 30]) ∧ Below w.heap.size w w' := by
  have h := where_gen (w := w) (some ⟨g, 0, none⟩) none none none none 2 0 0 0 0 2 0 0 0 0 (fun i => if i = 0 then 0 else 30) (fun _ => 0) (fun _ => 0) (fun _ => 0) (fun _ => 0) (by omega) (by omega) (by omega) (by omega) (by omega)
    (fun i hi wx r hb hr => by
      have hx := gflow_any r (some ⟨g, 0, none⟩) 2 2 [goodF, badF] rfl (by omega) hr ((two_flows goodF badF hg).below (Nat.le_refl _) hb) (by intro f hf; simp at hf; rcases hf with rfl | rfl; exact good_ok; exact bad_ok) i hi
      refine hx.mono ?_
      rintro e w' ⟨rfl, h⟩
      refine ⟨?_, h⟩
      match i, hi with
      | 0, _ => exact congrArg (fun z => Ending.returned (.int .i64 z)) good_e
      | 1, _ => exact congrArg (fun z => Ending.returned (.int .i64 z)) bad_e)
    (fun i hi => absurd hi (Nat.not_lt_zero _)) (fun i hi => absurd hi (Nat.not_lt_zero _)) (fun i hi => absurd hi (Nat.not_lt_zero _)) (fun i hi => absurd hi (Nat.not_lt_zero _))
  refine h.mono ?_
  rintro e w' ⟨rfl, h⟩
  exact ⟨by rfl, h⟩
end Go.Proofs.Ytgkdpkpiejjfmaa
