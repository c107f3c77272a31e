/- rules.Hot: what is wrong with a rule of hot parameters. -/
import Derived.Test.YtgkdpkpiejjfmaaHotI
import Derived.Test.YtgkdpkpiejjfmaaRuList
import Derived.Laws.Rows
import Derived.Laws.EntriesVeiled
namespace Go.Proofs.Ytgkdpkpiejjfmaa
open Go.RowKit
set_option linter.unusedVariables false
set_option linter.unusedSimpArgs false

def inR (n lo hi : Int) : Bool := decide (lo ≤ n) && decide (n ≤ hi)
def itemBad (x : ItemS) : Bool := decide (64 < (x.val.size : Int)) || !inR x.cnt 0 1099511627776
def hot1B (h : HotS) : Bool := inR h.idx 0 7 && inR h.cnt 0 1099511627776
def hot2B (h : HotS) : Bool := (inR h.secs 1 60 && decide ((h.items.length : Int) ≤ 32)) && !twiceB (h.items.map (·.val))
def hot3B (h : HotS) : Bool := !h.items.any itemBad
def hotE (h : HotS) : Int := lookE (namedB h.res []) (hot1B h && (hot2B h && hot3B h)) 32
def HotS.v (h : HotS) : Value := .agg #[.string h.res, .int .i64 h.idx, .int .i64 h.cnt, .int .i64 h.secs, .slice h.ia h.il h.ic]
def hotO (h : HotS) : Obj := .cells #[.string h.res, .int .i64 h.idx, .int .i64 h.cnt, .int .i64 h.secs, .slice h.ia h.il h.ic] 44

structure HotBox (w : World) (b : Nat) (h : HotS) : Prop where
  c0 : w.cell? ⟨b, 0, none⟩ = some (.string h.res)
  c1 : w.cell? ⟨b, 1, none⟩ = some (.int .i64 h.idx)
  c2 : w.cell? ⟨b, 2, none⟩ = some (.int .i64 h.cnt)
  c3 : w.cell? ⟨b, 3, none⟩ = some (.int .i64 h.secs)
  c4 : w.cell? ⟨b, 4, none⟩ = some (.slice h.ia h.il h.ic)
theorem HotBox.of {w : World} {b : Nat} {h : HotS} (e : w.heap[b]? = some (hotO h)) : HotBox w b h := by
  unfold hotO at e
  constructor <;> simp [World.cell?, e]

set_option maxHeartbeats 1600000 in
theorem hotitem_any (x : ItemS) (w : World) : Calls Try.prog 65 #[x.v] w fun e w' => e = .returned (.bool (itemBad x)) ∧ Below w.heap.size w w' := by
  have HB := Lib.hid (show Below w.heap.size w (w.alloc (.cells #[.string x.val, .int .i64 x.cnt] 46)) from (Below.refl _ _).alloc (Nat.le_refl _) _)
  have HW := Lib.hid (within_any x.cnt 0 1099511627776 (w.alloc (.cells #[.string x.val, .int .i64 x.cnt] 46)))
  rw [show (decide ((0 : Int) ≤ x.cnt) && decide (x.cnt ≤ 1099511627776)) = inR x.cnt 0 1099511627776 from rfl] at HW
  unfold itemBad ItemS.v
  generalize inR x.cnt 0 1099511627776 = B at *
  by_cases h1 : (64 : Int) < x.val.size
  · rw [decide_eq_true h1, Bool.true_or]
    go_enter Try.func65, Try.ntmps65
    go_wp2_with (fail)
    go_ret
    exact ⟨rfl, HB.out⟩
  · rw [decide_eq_false h1, Bool.false_or]
    go_enter Try.func65, Try.ntmps65
    go_wp2_with (fail)
    refine HW.out.mono ?_
    rintro e wq ⟨rfl, hq⟩
    subst hq
    go_wp2_with (fail)
    go_ret
    exact ⟨rfl, HB.out⟩
theorem enHI (x : ItemS) (wx : World) : (callFunc 65 (#[x.v] ++ #[])).run Try.prog wx = .ok (.enter 65 (#[x.v] ++ #[])) wx := by kernel_rfl

set_option maxHeartbeats 1600000 in
theorem hot1_any (h : HotS) (b : Nat) (w : World) (hb : HotBox w b h) : Calls Try.prog 60 #[.pointer (some ⟨b, 0, none⟩)] w fun e w' => e = .returned (.bool (hot1B h)) ∧ w' = w := by
  obtain ⟨c0, c1, c2, c3, c4⟩ := hb
  have HW := Lib.hid (within_any h.idx 0 7 w)
  have HV := Lib.hid (within_any h.cnt 0 1099511627776 w)
  rw [show (decide ((0 : Int) ≤ h.idx) && decide (h.idx ≤ 7)) = inR h.idx 0 7 from rfl] at HW
  rw [show (decide ((0 : Int) ≤ h.cnt) && decide (h.cnt ≤ 1099511627776)) = inR h.cnt 0 1099511627776 from rfl] at HV
  unfold hot1B
  generalize inR h.idx 0 7 = A at *
  generalize inR h.cnt 0 1099511627776 = B at *
  cases A
  · go_enter Try.func60, Try.ntmps60
    go_wp2_with (fail)
    refine HW.out.mono ?_
    rintro e wq ⟨rfl, hq⟩
    subst hq
    go_wp2_with (fail)
    go_ret
    exact ⟨rfl, rfl⟩
  · go_enter Try.func60, Try.ntmps60
    go_wp2_with (fail)
    refine HW.out.mono ?_
    rintro e wq ⟨rfl, hq⟩
    subst hq
    go_wp2_with (fail)
    refine HV.out.mono ?_
    rintro e wq ⟨rfl, hq⟩
    subst hq
    go_wp2_with (fail)
    go_ret
    exact ⟨rfl, rfl⟩

set_option maxHeartbeats 1600000 in
theorem hot2_any (h : HotS) (b p : Nat) (w : World) (hb : HotBox w b h) (hl : h.items.length = h.il) (few : h.il ≤ 9223372036854775807) (va : Option Addr) (vc : Nat) (hvc : h.il ≤ vc) (hp : w.cell? ⟨p, 0, none⟩ = some (.slice va h.il vc)) (hv : TextsAt w va (h.items.map (·.val))) :
    Calls Try.prog 61 #[.pointer (some ⟨b, 0, none⟩), .pointer (some ⟨p, 0, none⟩)] w fun e w' => e = .returned (.bool (hot2B h)) ∧ w' = w := by
  obtain ⟨c0, c1, c2, c3, c4⟩ := hb
  have HW := Lib.hid (within_any h.secs 1 60 w)
  rw [show (decide ((1 : Int) ≤ h.secs) && decide (h.secs ≤ 60)) = inR h.secs 1 60 from rfl] at HW
  have HT := Lib.hid (twice_any va h.il vc (h.items.map (·.val)) (by simpa using hl) few hvc hv)
  unfold hot2B
  rw [hl]
  generalize inR h.secs 1 60 = A at *
  generalize twiceB (h.items.map (·.val)) = T at *
  clear hl hv
  cases A
  · go_enter Try.func61, Try.ntmps61
    go_wp2_with (fail)
    refine HW.out.mono ?_
    rintro e wq ⟨rfl, hq⟩
    subst hq
    go_wp2_with (fail)
    go_ret
    exact ⟨rfl, rfl⟩
  · by_cases h2 : (h.il : Int) ≤ 32
    · rw [decide_eq_true h2]
      go_enter Try.func61, Try.ntmps61
      go_wp2_with (fail)
      refine HW.out.mono ?_
      rintro e wq ⟨rfl, hq⟩
      subst hq
      go_wp2_with (fail)
      refine HT.out.mono ?_
      rintro e wq ⟨rfl, hq⟩
      subst hq
      go_wp2_with (fail)
      go_ret
      exact ⟨rfl, rfl⟩
    · rw [decide_eq_false h2]
      go_enter Try.func61, Try.ntmps61
      go_wp2_with (fail)
      refine HW.out.mono ?_
      rintro e wq ⟨rfl, hq⟩
      subst hq
      go_wp2_with (fail)
      go_ret
      exact ⟨rfl, rfl⟩

set_option maxHeartbeats 1600000 in
theorem hot3_any (h : HotS) (b : Nat) (w : World) (hb : HotBox w b h) (hl : h.items.length = h.il) (few : h.il ≤ 9223372036854775807) (hr : RowsAt w h.ia 2 (h.items.map ItemS.cs)) :
    Calls Try.prog 63 #[.pointer (some ⟨b, 0, none⟩)] w fun e w' => e = .returned (.bool (hot3B h)) ∧ Below w.heap.size w w' := by
  obtain ⟨c0, c1, c2, c3, c4⟩ := hb
  have HA := Lib.hid (itemany_any (w := w) h.ia h.il h.ic h.items hl few hr 65 #[] itemBad (fun x _ wx => enHI x wx) (fun x _ wx _ => hotitem_any x wx))
  unfold hot3B
  generalize h.items.any itemBad = A at *
  clear hl hr
  go_enter Try.func63, Try.ntmps63
  go_wp2_with (fail)
  refine HA.out.mono ?_
  rintro e wq ⟨rfl, hq⟩
  have HB := Lib.hid hq
  clear hq
  go_wp2_with (fail)
  go_ret
  exact ⟨rfl, HB.out⟩
end Go.Proofs.Ytgkdpkpiejjfmaa
