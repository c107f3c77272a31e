import Derived.Laws.Rows
import Derived.Laws.EntriesVeiled
import Derived.Test.YtemlafbkkaloiaaGreatGHotI
import Derived.Test.YtemlafbkkaloiaaGreatGRuList
import Derived.Test.YtemlafbkkaloiaaGreatGBrA
import Derived.Test.YtemlafbkkaloiaaGreatInts
import Derived.Test.YtemlafbkkaloiaaGreatOwn
set_option linter.unusedVariables false
set_option linter.unusedSimpArgs false
namespace Go.Proofs.YtemlafbkkaloiaaGreat
open Go.RowKit
def inR (n lo hi : Int) : Bool := decide (lo ≤ n) && decide (n ≤ hi)
def itemBad (x : ItemS) : Bool := decide (64 < (x.val.size : Int)) || !inR x.cnt 0 1099511627776
def hot1B (h : HotS) : Bool := inR h.idx 0 7 && inR h.cnt 0 1099511627776
def hot2B (h : HotS) : Bool := (inR h.secs 1 60 && decide ((h.items.length : Int) ≤ 32)) && !twiceB (h.items.map (·.val))
def hot3B (h : HotS) : Bool := !h.items.any itemBad
def hotE (h : HotS) : Int := lookE (namedB h.res []) (hot1B h && (hot2B h && hot3B h)) 32
def HotS.v (h : HotS) : Value := .agg #[.string h.res, .int .i64 h.idx, .int .i64 h.cnt, .int .i64 h.secs, .slice h.ia h.il h.ic]
def hotO (h : HotS) : Obj := .cells #[.string h.res, .int .i64 h.idx, .int .i64 h.cnt, .int .i64 h.secs, .slice h.ia h.il h.ic] 24
structure HotBox (w : World) (b : Nat) (h : HotS) : Prop where
  c0 : w.cell? ⟨b, 0, none⟩ = some (.string h.res)
  c1 : w.cell? ⟨b, 1, none⟩ = some (.int .i64 h.idx)
  c2 : w.cell? ⟨b, 2, none⟩ = some (.int .i64 h.cnt)
  c3 : w.cell? ⟨b, 3, none⟩ = some (.int .i64 h.secs)
  c4 : w.cell? ⟨b, 4, none⟩ = some (.slice h.ia h.il h.ic)
theorem HotBox.of {w : World} {b : Nat} {h : HotS} (e : w.heap[b]? = some (hotO h)) : HotBox w b h := by
  unfold hotO at e
  constructor <;> simp [World.cell?, e]
set_option maxHeartbeats 1600000 in
theorem hotitem_any (x : ItemS) (w : World) : Calls Tryz.prog 58 #[x.v] w fun e w' => e = .returned (.bool (itemBad x)) ∧ Below w.heap.size w w' := by
  have HB := Lib.hid (show Below w.heap.size w (w.alloc (.cells #[.string x.val, .int .i64 x.cnt] 52)) from (Below.refl _ _).alloc (Nat.le_refl _) _)
  have HW := Lib.hid (within_any x.cnt 0 1099511627776 (w.alloc (.cells #[.string x.val, .int .i64 x.cnt] 52)))
  rw [show (decide ((0 : Int) ≤ x.cnt) && decide (x.cnt ≤ 1099511627776)) = inR x.cnt 0 1099511627776 from rfl] at HW
  unfold itemBad ItemS.v
  generalize inR x.cnt 0 1099511627776 = B at *
  by_cases h1 : (64 : Int) < x.val.size
  · rw [decide_eq_true h1, Bool.true_or]
    go_enter Tryz.func58, Tryz.ntmps58
    go_wp2_with (fail)
    go_ret
    exact ⟨rfl, HB.out⟩
  · rw [decide_eq_false h1, Bool.false_or]
    go_enter Tryz.func58, Tryz.ntmps58
    go_wp2_with (fail)
    refine HW.out.mono ?_
    rintro e wq ⟨rfl, hq⟩
    subst hq
    go_wp2_with (fail)
    go_ret
    exact ⟨rfl, HB.out⟩
theorem enHI (x : ItemS) (wx : World) : (callFunc 58 (#[x.v] ++ #[])).run Tryz.prog wx = .ok (.enter 58 (#[x.v] ++ #[])) wx := by kernel_rfl
set_option maxHeartbeats 1600000 in
theorem hot1_any (h : HotS) (b : Nat) (w : World) (hb : HotBox w b h) : Calls Tryz.prog 52 #[.pointer (some ⟨b, 0, none⟩)] w fun e w' => e = .returned (.bool (hot1B h)) ∧ w' = w := by
  obtain ⟨c0, c1, c2, c3, c4⟩ := hb
  have HW := Lib.hid (within_any h.idx 0 7 w)
  have HV := Lib.hid (within_any h.cnt 0 1099511627776 w)
  rw [show (decide ((0 : Int) ≤ h.idx) && decide (h.idx ≤ 7)) = inR h.idx 0 7 from rfl] at HW
  rw [show (decide ((0 : Int) ≤ h.cnt) && decide (h.cnt ≤ 1099511627776)) = inR h.cnt 0 1099511627776 from rfl] at HV
  unfold hot1B
  generalize inR h.idx 0 7 = A at *
  generalize inR h.cnt 0 1099511627776 = B at *
  cases A
  · go_enter Tryz.func52, Tryz.ntmps52
    go_wp2_with (fail)
    refine HW.out.mono ?_
    rintro e wq ⟨rfl, hq⟩
    subst hq
    go_wp2_with (fail)
    go_ret
    exact ⟨rfl, rfl⟩
  · go_enter Tryz.func52, Tryz.ntmps52
    go_wp2_with (fail)
    refine HW.out.mono ?_
    rintro e wq ⟨rfl, hq⟩
    subst hq
    go_wp2_with (fail)
    refine HV.out.mono ?_
    rintro e wq ⟨rfl, hq⟩
    subst hq
    go_wp2_with (fail)
    go_ret
    exact ⟨rfl, rfl⟩
set_option maxHeartbeats 1600000 in
theorem hot2_any (h : HotS) (b p : Nat) (w : World) (hb : HotBox w b h) (hl : h.items.length = h.il) (few : h.il ≤ 9223372036854775807) (va : Option Addr) (vc : Nat) (hvc : h.il ≤ vc) (hp : w.cell? ⟨p, 0, none⟩ = some (.slice va h.il vc)) (hv : TextsAt w va (h.items.map (·.val))) :
    Calls Tryz.prog 54 #[.pointer (some ⟨b, 0, none⟩), .pointer (some ⟨p, 0, none⟩)] w fun e w' => e = .returned (.bool (hot2B h)) ∧ w' = w := by
  obtain ⟨c0, c1, c2, c3, c4⟩ := hb
  have HW := Lib.hid (within_any h.secs 1 60 w)
  rw [show (decide ((1 : Int) ≤ h.secs) && decide (h.secs ≤ 60)) = inR h.secs 1 60 from rfl] at HW
  have HT := Lib.hid (twice_any va h.il vc (h.items.map (·.val)) (by simpa using hl) few hvc hv)
  unfold hot2B
  rw [hl]
  generalize inR h.secs 1 60 = A at *
  generalize twiceB (h.items.map (·.val)) = T at *
  clear hl hv
  cases A
  · go_enter Tryz.func54, Tryz.ntmps54
    go_wp2_with (fail)
    refine HW.out.mono ?_
    rintro e wq ⟨rfl, hq⟩
    subst hq
    go_wp2_with (fail)
    go_ret
    exact ⟨rfl, rfl⟩
  · by_cases h2 : (h.il : Int) ≤ 32
    · rw [decide_eq_true h2]
      go_enter Tryz.func54, Tryz.ntmps54
      go_wp2_with (fail)
      refine HW.out.mono ?_
      rintro e wq ⟨rfl, hq⟩
      subst hq
      go_wp2_with (fail)
      refine HT.out.mono ?_
      rintro e wq ⟨rfl, hq⟩
      subst hq
      go_wp2_with (fail)
      go_ret
      exact ⟨rfl, rfl⟩
    · rw [decide_eq_false h2]
      go_enter Tryz.func54, Tryz.ntmps54
      go_wp2_with (fail)
      refine HW.out.mono ?_
      rintro e wq ⟨rfl, hq⟩
      subst hq
      go_wp2_with (fail)
      go_ret
      exact ⟨rfl, rfl⟩
set_option maxHeartbeats 1600000 in
theorem hot3_any (h : HotS) (b : Nat) (w : World) (hb : HotBox w b h) (hl : h.items.length = h.il) (few : h.il ≤ 9223372036854775807) (hr : RowsAt w h.ia 2 (h.items.map ItemS.cs)) :
    Calls Tryz.prog 56 #[.pointer (some ⟨b, 0, none⟩)] w fun e w' => e = .returned (.bool (hot3B h)) ∧ Below w.heap.size w w' := by
  obtain ⟨c0, c1, c2, c3, c4⟩ := hb
  have HA := Lib.hid (itemany_any (w := w) h.ia h.il h.ic h.items hl few hr 58 #[] itemBad (fun x _ wx => enHI x wx) (fun x _ wx _ => hotitem_any x wx))
  unfold hot3B
  generalize h.items.any itemBad = A at *
  clear hl hr
  go_enter Tryz.func56, Tryz.ntmps56
  go_wp2_with (fail)
  refine HA.out.mono ?_
  rintro e wq ⟨rfl, hq⟩
  have HB := Lib.hid hq
  clear hq
  go_wp2_with (fail)
  go_ret
  exact ⟨rfl, HB.out⟩
end Go.Proofs.YtemlafbkkaloiaaGreat
namespace Go.Proofs.YtemlafbkkaloiaaGreat
open Go.RowKit
theorem info_partsO {P : Program} {t : TypeId} {z : Value} {sz by_ : Nat} (h : (P.info? t).map (fun i => (i.zero, i.size, i.bytes)) = some (some z, sz, by_)) : ∃ i, P.info? t = some i ∧ i.zero = some z ∧ i.size = sz ∧ i.bytes = by_ := by
  cases hi : P.info? t with
  | none => rw [hi] at h; cases h
  | some i =>
    rw [hi] at h
    simp only [Option.map_some, Option.some.injEq, Prod.mk.injEq] at h
    exact ⟨i, rfl, h.1, h.2.1, h.2.2⟩
structure OfI (w0 : World) (base bl br : Nat) (res : ByteArray) (ns : List Int) (w : World) : Prop where
  bel : Below w0.heap.size w0 w
  b0 : w0.heap.size ≤ bl
  l0 : bl < base
  bs : base ≤ w.heap.size
  cr : w.cell? ⟨br, 0, none⟩ = some (.string res)
  ne : bl ≠ br
  l1 : br < base
  row : ∃ v, w.heap[bl]? = some (.cells #[v] 104) ∧ w.ownsRow base 3 1 v ns.length (ns.map (Value.int .i64))
theorem OfI.below {w0 w w' : World} {base bl br : Nat} {res : ByteArray} {ns : List Int} (h : OfI w0 base bl br res ns w) (hb : Below w.heap.size w w') : OfI w0 base bl br res ns w' := by
  obtain ⟨v, h1, h2⟩ := h.row
  have hl := h.l0
  have hl1 := h.l1
  have hs := h.bs
  refine ⟨h.bel.trans (hb.mono h.bel.size), h.b0, h.l0, Nat.le_trans h.bs hb.size, (hb.cell (p := ⟨br, 0, none⟩) (by show br < _; omega)).trans h.cr, h.ne, h.l1, v, (hb.block bl (by omega)).trans h1, ?_⟩
  exact h2.kept (row := none) ⟨hb.os, hb.tape, hb.output, hb.size, fun k hk _ => hb.block k hk⟩ (by cases v.ownBlock <;> simp)
theorem OfI.alloc {w0 w : World} {base bl br : Nat} {res : ByteArray} {ns : List Int} (h : OfI w0 base bl br res ns w) (o : Obj) : OfI w0 base bl br res ns (w.alloc o) := h.below ((Below.refl _ _).alloc (Nat.le_refl _) o)
theorem box_one {w : World} {g : Nat} {v : Value} {t : TypeId} (h : w.heap[g]? = some (.cells #[v] t)) : w.cell? ⟨g, 0, none⟩ = some v := by simp [World.cell?, h]
theorem box_oneF {w : World} {g : Nat} {v : Value} {t : TypeId} (h : w.heap[g]? = some (.cells #[v] t)) : w.frozen? ⟨g, 0, none⟩ = false := by simp [World.frozen?, h]
theorem own_sliceO {w : World} {base n size : Nat} {e : TypeId} {v : Value} {xs : List Value} (h : w.ownsRow base e size v n xs) : ∃ a cap, v = .slice a n cap := by
  rcases h.2 with ⟨rfl, rfl⟩ | ⟨g, cap, cur, rfl, _⟩
  · exact ⟨none, 0, rfl⟩
  · exact ⟨_, cap, rfl⟩
theorem one_cellO (w : World) (u : Value) (t : TypeId) : ∀ j x, ([u] : List Value)[j]? = some x → (w.alloc (.cells #[u] t)).cell? ((⟨w.heap.size, 0, none⟩ : Addr).add j) = some x := by
  intro j x hx
  match j with
  | 0 =>
    obtain rfl : u = x := by simpa using hx
    have : (w.alloc (.cells #[u] t)).heap[w.heap.size]? = some (.cells #[u] t) := by rw [get_allocB, if_pos rfl]
    rw [show ((⟨w.heap.size, 0, none⟩ : Addr).add 0) = ⟨w.heap.size, 0, none⟩ from rfl]
    simp only [World.cell?]
    rw [this]
    rfl
  | j + 1 => simp at hx
end Go.Proofs.YtemlafbkkaloiaaGreat
namespace Go.Proofs.YtemlafbkkaloiaaGreat
open Go.RowKit
theorem info_strH : (Tryz.prog.info? 9).map (fun i => (i.zero, i.size, i.bytes)) = some (some (.string ⟨#[]⟩), 1, 16) := by kernel_rfl
theorem one_cellAt (w : World) (u : Value) (t : TypeId) {b : Nat} (hb : b = w.heap.size) : ∀ j x, ([u] : List Value)[j]? = some x → (w.alloc (.cells #[u] t)).cell? ((⟨b, 0, none⟩ : Addr).add j) = some x := by
  subst hb; exact one_cellO w u t
structure HotI (w : World) (h : HotS) (k : Nat) (wr : World) : Prop where
  bel : Below w.heap.size w wr
  box : wr.heap[w.heap.size]? = some (hotO h)
  bs : w.heap.size + 2 ≤ wr.heap.size
  row : ∃ v, wr.heap[w.heap.size + 1]? = some (.cells #[v] 43) ∧ wr.ownsRow (w.heap.size + 2) 9 1 v k (((h.items.take k).map (·.val)).map Value.string)
theorem HotI.start (w : World) (h : HotS) : HotI w h 0 ((w.alloc (hotO h)).alloc (.cells #[.slice none 0 0] 43)) := by
  refine ⟨((Below.refl _ _).alloc (Nat.le_refl _) _).alloc (by simp) _, ?_, by simp, .slice none 0 0, ?_, World.ownsRow_nil _ _ _ _⟩
  · rw [get_allocB, if_neg (by simp), get_allocB, if_pos rfl]
  · rw [get_allocB, if_pos (by simp)]
theorem HotI.push {w : World} {h : HotS} {k : Nat} {wr w3 : World} (hi : HotI w h k wr) {o : Obj} {s : ByteArray} {va va3 : Option Addr} {vc vc3 : Nat} (hv : wr.heap[w.heap.size + 1]? = some (.cells #[.slice va k vc] 43)) (hw : wr.ownsRow (w.heap.size + 2) 9 1 (.slice va k vc) k (((h.items.take k).map (·.val)).map Value.string))
    (hown3 : w3.ownsRow (w.heap.size + 2) 9 1 (.slice va3 (k + 1) vc3) (k + 1) (((h.items.take k).map (·.val)).map Value.string ++ [.string s])) (hg3 : ((wr.alloc o).alloc (.cells #[.string s] 9)).grownBy w3 (Value.slice va k vc).ownBlock)
    (hn : ((h.items.take (k + 1)).map (·.val)).map Value.string = ((h.items.take k).map (·.val)).map Value.string ++ [.string s]) (hb3 : w3.heap[w.heap.size + 1]? = some (.cells #[.slice va k vc] 43)) :
    HotI w h (k + 1) (w3.setCell ⟨w.heap.size + 1, 0, none⟩ (.slice va3 (k + 1) vc3)) := by
  have hs := hi.bs
  have hsz3 := hg3.size
  simp at hsz3
  have hb : Below w.heap.size w w3 := (((hi.bel.alloc hi.bel.size _).alloc (by have := hi.bel.size; simp; omega) _).grown hg3 (by have := hi.bel.size; simp; omega) (fun j e => by have := hw.lt j e; omega))
  refine ⟨hb.setCell (by show w.heap.size ≤ w.heap.size + 1; omega) _, ?_, by simp [World.setCell]; omega, _, heap_setCell_same w3 _ 0 _ _ _ hb3, ?_⟩
  · rw [heap_setCell_other _ _ _ _ (by simp)]
    refine (hg3.block _ (by simp; omega) (fun e => by have := hw.lt _ e.symm; omega)).trans ?_
    rw [Below.heap_alloc _ _ _ (by simp; omega), Below.heap_alloc _ _ _ (by omega)]
    exact hi.box
  · rw [hn]
    refine ⟨hown3.1, ?_⟩
    rcases hown3.2 with h | ⟨g, cap, cur, e1, e2, e3, e4⟩
    · exact Or.inl h
    · exact Or.inr ⟨g, cap, cur, e1, e2, (heap_setCell_other _ _ _ _ (by dsimp only; omega)).trans e3, e4⟩
def hotG (b : Nat) : Obj := .cells #[.func (.func 52) #[] #[.pointer (some ⟨b, 0, none⟩)], .func (.func 54) #[] #[.pointer (some ⟨b, 0, none⟩), .pointer (some ⟨b + 1, 0, none⟩)], .func (.func 56) #[] #[.pointer (some ⟨b, 0, none⟩)]] 36
theorem entH1 (b : Nat) (wx : World) : (callFunc 52 #[.pointer (some ⟨b, 0, none⟩)]).run Tryz.prog wx = .ok (.enter 52 #[.pointer (some ⟨b, 0, none⟩)]) wx := by kernel_rfl
theorem entH2 (b l : Nat) (wx : World) : (callFunc 54 #[.pointer (some ⟨b, 0, none⟩), .pointer (some ⟨l, 0, none⟩)]).run Tryz.prog wx = .ok (.enter 54 #[.pointer (some ⟨b, 0, none⟩), .pointer (some ⟨l, 0, none⟩)]) wx := by kernel_rfl
theorem entH3 (b : Nat) (wx : World) : (callFunc 56 #[.pointer (some ⟨b, 0, none⟩)]).run Tryz.prog wx = .ok (.enter 56 #[.pointer (some ⟨b, 0, none⟩)]) wx := by kernel_rfl
theorem texts_own {w : World} {base n : Nat} {v : Value} {ss : List ByteArray} (h : w.ownsRow base 9 1 v n (ss.map Value.string)) : ∃ a c, v = .slice a n c ∧ n ≤ c ∧ TextsAt w a ss ∧ ss.length = n := by
  have hn : ss.length = n := by have := h.1; simpa using this
  rcases h.2 with ⟨h1, h2⟩ | ⟨g, cap, cur, rfl, hb, hg, hnc, _⟩
  · subst h2
    exact ⟨none, 0, h1, Nat.le_refl _, Or.inl (List.length_eq_zero_iff.1 hn), hn⟩
  · refine ⟨_, cap, rfl, hnc, Or.inr ⟨g, 0, rfl, (Array.getElem?_eq_some_iff.1 hg).1, fun j hj => ?_⟩, hn⟩
    rw [Nat.zero_add, h.cellAt j (by omega)]
    simp [List.getD, hj]
theorem hot_tail {w wr : World} {h : HotS} (ok : HotOk w h) (hi : HotI w h h.il wr) (ng : Nat) (hng : ng = wr.heap.size) :
    Calls Tryz.prog 51 #[.agg #[.string h.res, .slice none 0 0, .int .i64 32], .slice (some ⟨ng, 0, none⟩) 3 3] (wr.alloc (hotG w.heap.size)) fun e w' => e = .returned (.int .i64 (hotE h)) ∧ Below w.heap.size w w' := by
  subst hng
  have hs := hi.bs
  have hB : Below w.heap.size w (wr.alloc (hotG w.heap.size)) := hi.bel.alloc hi.bel.size _
  have h0 : (wr.alloc (hotG w.heap.size)).heap[w.heap.size]? = some (hotO h) := by rw [Below.heap_alloc _ _ _ (by omega)]; exact hi.box
  obtain ⟨v, hv, ho⟩ := hi.row
  rw [List.take_of_length_le (by rw [ok.l]; exact Nat.le_refl _)] at ho
  have hv1 : (wr.alloc (hotG w.heap.size)).heap[w.heap.size + 1]? = some (.cells #[v] 43) := by rw [Below.heap_alloc _ _ _ (by omega)]; exact hv
  have hg : (wr.alloc (hotG w.heap.size)).heap[wr.heap.size]? = some (hotG w.heap.size) := by rw [get_allocB, if_pos rfl]
  obtain ⟨va, vc, rfl, hvc, hta, _⟩ := texts_own (ho.alloc (hotG w.heap.size))
  have hrow := ok.at_.below (Nat.le_refl _) hB
  have hbz : w.heap.size ≤ (wr.alloc (hotG w.heap.size)).heap.size := hB.size
  have hlt0 : w.heap.size < (wr.alloc (hotG w.heap.size)).heap.size := (Array.getElem?_eq_some_iff.1 h0).1
  have hlt1 : w.heap.size + 1 < (wr.alloc (hotG w.heap.size)).heap.size := (Array.getElem?_eq_some_iff.1 hv1).1
  have hltg : wr.heap.size < (wr.alloc (hotG w.heap.size)).heap.size := (Array.getElem?_eq_some_iff.1 hg).1
  have hokb := ok.b
  have few : h.il ≤ 9223372036854775807 := by omega
  generalize wr.alloc (hotG w.heap.size) = W at *
  unfold hotG at hg
  have hlo := lookof_any (w := W) h.res ok.z none 0 0 [] rfl (by omega) (Or.inl rfl) (by simp) 32 wr.heap.size 3 3
    [⟨52, #[.pointer (some ⟨w.heap.size, 0, none⟩)], hot1B h⟩, ⟨54, #[.pointer (some ⟨w.heap.size, 0, none⟩), .pointer (some ⟨w.heap.size + 1, 0, none⟩)], hot2B h⟩, ⟨56, #[.pointer (some ⟨w.heap.size, 0, none⟩)], hot3B h⟩]
    rfl (by omega) hltg
    (fun j hj => by
      match j, hj with
      | 0, _ => simp only [World.cell?, hg]; rfl
      | 1, _ => simp only [World.cell?, hg]; rfl
      | 2, _ => simp only [World.cell?, hg]; rfl)
    (fun j hj wx => by
      match j, hj with
      | 0, _ => exact entH1 _ wx
      | 1, _ => exact entH2 _ _ wx
      | 2, _ => exact entH3 _ wx)
    (fun j hj wx hx => by
      have fin : ∀ {id : FuncId} {caps : Array Value} {v : Bool}, Calls Tryz.prog id caps wx (fun e w' => e = .returned (.bool v) ∧ w' = wx) → Calls Tryz.prog id caps wx (fun e w' => e = .returned (.bool v) ∧ Below wx.heap.size wx w') := fun h => h.mono (fun e w' hh => ⟨hh.1, hh.2 ▸ Below.refl _ _⟩)
      have hbx : HotBox wx w.heap.size h := HotBox.of ((hx.block _ hlt0).trans h0)
      match j, hj with
      | 0, _ => exact fin (hot1_any h _ wx hbx)
      | 1, _ => exact fin (hot2_any h _ _ wx hbx ok.l few va vc hvc ((hx.cell (p := ⟨w.heap.size + 1, 0, none⟩) hlt1).trans (box_one hv1)) (hta.below hx))
      | 2, _ => exact hot3_any h _ wx hbx ok.l few (hrow.below (Nat.le_refl _) hx))
  simp only [List.all_cons, List.all_nil, Bool.and_true] at hlo
  exact hlo.mono fun e w' hh => ⟨hh.1, hB.trans (hh.2.mono hbz)⟩
set_option maxHeartbeats 3200000 in
set_option maxRecDepth 100000 in
theorem rhot_any {w : World} (h : HotS) (ok : HotOk w h) : Calls Tryz.prog 20 #[h.v] w fun e w' => e = .returned (.int .i64 (hotE h)) ∧ Below w.heap.size w w' := by
  obtain ⟨i0, hi, hz0, hz1, hz2⟩ := info_partsO info_strH
  have HST := Lib.hid (HotI.start w h)
  have HOK := Lib.hid ok
  have HT : Hid (∀ wr, HotI w h h.il wr → ∀ ng, ng = wr.heap.size → Calls Tryz.prog 51 #[.agg #[.string h.res, .slice none 0 0, .int .i64 32], .slice (some ⟨ng, 0, none⟩) 3 3] (wr.alloc (hotG w.heap.size)) fun e w' => e = .returned (.int .i64 (hotE h)) ∧ Below w.heap.size w w') := fun wr hi ng hng => hot_tail ok hi ng hng
  have hb24 := ok.b
  unfold hotG at HT
  unfold hotO at HST
  unfold HotS.v
  clear ok
  obtain ⟨h, hh⟩ : ∃ g, g = h := ⟨h, rfl⟩
  obtain ⟨res, idx, cnt, secs, ia, il, ic, items⟩ := h
  subst hh
  dsimp only at *
  go_enter Tryz.func20, Tryz.ntmps20
  go_wp2_with (fail)
  generalize ((w.alloc _).alloc _) = W at *
  go_loopw [5, 9] (fun _ i wr => ∃ k : Nat, k ≤ il ∧ i = .int .i64 k ∧ Hid (HotI w ⟨res, idx, cnt, secs, ia, il, ic, items⟩ k wr)) (fun _ i _ => il - (intOf i).toNat)
  case atStart => exact ⟨0, Nat.zero_le _, rfl, HST⟩
  case round =>
    obtain ⟨k, hk, rfl, HI⟩ := hrel
    have hbz := HI.out.bel.size
    have hbs := HI.out.bs
    by_cases hlt : k < il
    · have hkl : k < items.length := by rw [HOK.out.l]; exact hlt
      obtain ⟨b, off, hab, hbl, d0, d1⟩ := items_get (HOK.out.at_.below (Nat.le_refl _) HI.out.bel) hkl
      have cb := (HotBox.of HI.out.box).c4
      dsimp only at hab cb
      obtain ⟨v, hv, ho⟩ := HI.out.row
      dsimp only at ho
      obtain ⟨va, vc, rfl⟩ := own_sliceO ho
      have cv := box_one hv
      have HV := Lib.hid hv
      have HO := Lib.hid ho
      have k0 : (0 : Int) ≤ k := by omega
      have k1 : (k : Int) < il := by omega
      have hnext : ((items.take (k + 1)).map (·.val)).map Value.string = ((items.take k).map (·.val)).map Value.string ++ [.string (items[k]'hkl).val] := by
        rw [List.take_add_one, List.getElem?_eq_getElem hkl, List.map_append, List.map_append]; rfl
      have HN := Lib.hid hnext
      generalize (items[k]'hkl).val = s at *
      generalize (items[k]'hkl).cnt = c at *
      subst hab
      have cv2 : ((wr.alloc (.cells #[.string s, .int .i64 c] 52))).cell? ⟨w.heap.size + 1, 0, none⟩ = some (.slice va k vc) := (World.cell?_alloc_lt wr _ _ (World.block_lt_of_cell? wr _ cv)).trans cv
      clear hnext hv ho
      go_wp2_with (at_builtin; refine wpList_append_own _ rfl (.tmp 13) (.tmp 16) 43 rfl (w.heap.size + 2) 9 i0 (.string ⟨#[]⟩) 1 16 Tryz.underlying43 hi hz0 hz1 hz2 rfl (by decide) (.slice va k vc) k (((items.take k).map (·.val)).map Value.string) rfl ((HO.out.alloc _).alloc _) ⟨wr.heap.size + 1, 0, none⟩ 1 1 [.string s] rfl rfl (one_cellAt _ _ _ (by simp)) (by simp [Value.oneCell']) (by unfold maxLen; omega) (by omega) (by simp; omega) ?_; intro v3 w3 hown3 hg3 _; obtain ⟨va3, vc3, rfl⟩ := own_sliceO hown3; have hb3 : w3.heap[w.heap.size + 1]? = some (.cells #[.slice va k vc] 43) := (hg3.block _ (by simp; omega) (fun e => by have := HO.out.lt _ e.symm; omega)).trans ((Below.heap_alloc _ _ _ (by simp; omega)).trans ((Below.heap_alloc _ _ _ (by omega)).trans HV.out)); have c3 := box_one hb3; have c4 := box_oneF hb3)
      go_wp2_with (fail)
      exact ⟨⟨k + 1, by omega, by go_num, HI.out.push HV.out HO.out hown3 hg3 HN.out hb3⟩, by first | (simp [intOf]; done) | (simp [intOf]; omega)⟩
    · have hkn : k = il := by omega
      have HT2 := Lib.hid (HT.out wr (by subst hkn; exact HI.out) wr.heap.size rfl)
      have cb := (HotBox.of HI.out.box).c0
      dsimp only at cb
      clear HT HST HI
      go_wp2_with (fail)
      refine HT2.out.mono ?_
      rintro e wq ⟨rfl, hbq⟩
      have HBQ := Lib.hid hbq
      clear hbq
      go_wp2_with (fail)
      go_ret
      exact ⟨rfl, HBQ.out⟩
end Go.Proofs.YtemlafbkkaloiaaGreat
