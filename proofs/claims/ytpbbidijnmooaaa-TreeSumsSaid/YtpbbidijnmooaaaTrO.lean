/- tree: Of, Node. -/
import Derived.Test.YtpbbidijnmooaaaTrN
import Derived.Test.YtpbbidijnmooaaaWFork
namespace Go.Proofs.Ytpbbidijnmooaaa
open Go.RowKit
set_option linter.unusedVariables false
set_option linter.unusedSimpArgs false

def ofB (kind : Int) (res : ByteArray) (q : KeyS) : Bool := !(decide (q.kind = kind) && decide (q.res = res))
theorem bytes_eqT {a b : ByteArray} (h : a.toList = b.toList) : a = b := by
  rw [ByteArray.toList_eq, ByteArray.toList_eq] at h
  rcases a with ⟨⟨l⟩⟩; rcases b with ⟨⟨l'⟩⟩; simpa using h
set_option maxHeartbeats 3200000 in
set_option maxRecDepth 100000 in
theorem of1_any {w : World} {Bk Br : Nat} {k : Int} {r : ByteArray} (h1 : w.cell? ⟨Bk, 0, none⟩ = some (.int .u8 k)) (h2 : w.cell? ⟨Br, 0, none⟩ = some (.string r)) (q : KeyS) :
    Calls Try.prog 26 #[q.v, .pointer (some ⟨Bk, 0, none⟩), .pointer (some ⟨Br, 0, none⟩)] w fun e w' => e = .returned (.bool (ofB k r q)) ∧ Below w.heap.size w w' := by
  have halb : Below w.heap.size w (w.alloc (.cells #[.int .u8 q.kind, .string q.ctx, .string q.res, .string q.org] 30)) := (Below.refl _ _).alloc (Nat.le_refl _) _
  have hnb := new_blockS w (.cells #[.int .u8 q.kind, .string q.ctx, .string q.res, .string q.org] 30)
  obtain ⟨wb, hwb⟩ : ∃ wb, w.alloc (.cells #[.int .u8 q.kind, .string q.ctx, .string q.res, .string q.org] 30) = wb := ⟨_, rfl⟩
  rw [hwb] at halb hnb
  have HAL := Lib.hid halb
  have g1 := (halb.cell (World.block_lt_of_cell? _ _ h1)).trans h1
  have g2 := (halb.cell (World.block_lt_of_cell? _ _ h2)).trans h2
  obtain ⟨f0, f1, f2, f3⟩ := four_box hnb
  obtain ⟨kind, ctx, res, org⟩ := q
  unfold KeyS.v ofB
  dsimp only at hwb f0 f1 f2 f3 ⊢
  clear h1 h2 halb hnb
  by_cases hk : kind = k
  · subst hk
    by_cases hr : res = r
    · subst hr
      have hrt : (res.toList == res.toList) = true := by simp
      go_enter Try.func26, Try.ntmps26
      go_wp2_with (fail)
      go_ret
      exact ⟨by simp, HAL.out⟩
    · have hrt : (res.toList == r.toList) = false := by
        simp only [beq_eq_false_iff_ne]
        exact fun h => hr (bytes_eqT h)
      have hrn : ¬ res.toList = r.toList := fun h => hr (bytes_eqT h)
      go_enter Try.func26, Try.ntmps26
      go_wp2_with (fail)
      go_ret
      exact ⟨by simp [hr, hrn], HAL.out⟩
  · have hkb : (kind == k) = false := by simpa using hk
    have hkn : (kind != k) = true := by simpa using hk
    go_enter Try.func26, Try.ntmps26
    go_wp2_with (fail)
    go_ret
    exact ⟨by simp [hk], HAL.out⟩
theorem enOf (x : KeyS) (b c : Nat) (wx : World) : (callFunc 26 (#[x.v] ++ #[.pointer (some ⟨b, 0, none⟩), .pointer (some ⟨c, 0, none⟩)])).run Try.prog wx = .ok (.enter 26 (#[x.v] ++ #[.pointer (some ⟨b, 0, none⟩), .pointer (some ⟨c, 0, none⟩)])) wx := by kernel_rfl
/-- Keys of a kind and a resource. -/
def ofP (kind : Int) (res : ByteArray) (q : KeyS) : Bool := decide (q.kind = kind) && decide (q.res = res)
def OfPost (w : World) (l : List KeyS) (e : Ending) (w' : World) : Prop := ∃ a m c, e = .returned (.slice a m c) ∧ m = l.length ∧ w'.ownsRow w.heap.size 30 4 (.slice a m c) m (flatK l) ∧ Below w.heap.size w w'
set_option maxHeartbeats 3200000 in
set_option maxRecDepth 100000 in
theorem tof_any {w : World} {t : TreeV} (k : TreeAt w t) (kind : Int) (res : ByteArray) :
    Calls Try.prog 12 #[.pointer (some ⟨t.tb, 0, none⟩), .int .u8 kind, .string res] w (OfPost w ((keysM t.M).filter (ofP kind res))) := by
  have hA : Below w.heap.size w (w.alloc (.cells #[.int .u8 kind] 28)) := (Below.refl _ _).alloc (Nat.le_refl _) _
  have hzA : (w.alloc (.cells #[.int .u8 kind] 28)).heap.size = w.heap.size + 1 := by simp
  have hnA := new_blockS w (.cells #[.int .u8 kind] 28)
  obtain ⟨wA, hwA⟩ : ∃ wA, w.alloc (.cells #[.int .u8 kind] 28) = wA := ⟨_, rfl⟩
  rw [hwA] at hA hzA hnA
  have hB : Below wA.heap.size wA (wA.alloc (.cells #[.string res] 9)) := (Below.refl _ _).alloc (Nat.le_refl _) _
  have hzB : (wA.alloc (.cells #[.string res] 9)).heap.size = wA.heap.size + 1 := by simp
  have hnB := new_blockS wA (.cells #[.string res] 9)
  obtain ⟨w1, hw1⟩ : ∃ w1, wA.alloc (.cells #[.string res] 9) = w1 := ⟨_, rfl⟩
  rw [hw1] at hB hzB hnB
  have hb1 := hA.trans (hB.mono hA.size)
  have e1 : w1.cell? ⟨w.heap.size, 0, none⟩ = some (.int .u8 kind) := by
    have h := (hB.block w.heap.size (by omega)).trans hnA
    simp [World.cell?, h]
  have e2 : w1.cell? ⟨wA.heap.size, 0, none⟩ = some (.string res) := by simp [World.cell?, hnB]
  have HALL := Lib.hid (tall_any (k.below hb1))
  have HB1 := Lib.hid hb1
  have HE := Lib.hid (And.intro e1 e2)
  have HKL := Lib.hid (show (keysM t.M).length = t.T.length ∧ t.T.length ≤ 1048576 from ⟨by rw [keys_len, M_len], by have := k.few; omega⟩)
  obtain ⟨n0, hn0⟩ : ∃ n0, t.T.length = n0 := ⟨_, rfl⟩
  rw [hn0] at HALL HKL
  generalize keysM t.M = KM at *
  generalize t.tb = tb at *
  have HZ := Lib.hid (show w.heap.size < w1.heap.size ∧ wA.heap.size < w1.heap.size by omega)
  clear k hA hzA hnA hB hzB hnB hb1 e1 e2 hn0
  go_enter Try.func12, Try.ntmps12
  go_wp2_with (fail)
  refine HALL.out.mono ?_
  rintro e w2 ⟨a', c', rfl, ho, hb⟩
  have HB2 := Lib.hid hb
  have HO2 := Lib.hid ho
  obtain ⟨Bk, hBk⟩ : ∃ Bk, w.heap.size = Bk := ⟨_, rfl⟩
  obtain ⟨Br, hBr⟩ : ∃ Br, wA.heap.size = Br := ⟨_, rfl⟩
  rw [hBk] at HE HZ
  rw [hBr] at HE HZ
  have HBK := Lib.hid hBk
  have HDL := Lib.hid (tdelete_any (w := w2) (cap := c') ho HKL.out.1 HKL.out.2 26 #[.pointer (some ⟨Bk, 0, none⟩), .pointer (some ⟨Br, 0, none⟩)] (ofB kind res) (fun x _ wx => enOf x _ _ wx)
    (fun x hx wx hwx => by
      have hno : ∀ b, b < w1.heap.size → ¬ (Value.slice a' n0 c').ownBlock = some b := fun b hb e => by have := (HO2.out.lt b e).1; omega
      have h := of1_any (w := wx) (hwx.cell ((HB2.out.cell (World.block_lt_of_cell? _ _ HE.out.1)).trans HE.out.1) (hno _ HZ.out.1)) (hwx.cell ((HB2.out.cell (World.block_lt_of_cell? _ _ HE.out.2)).trans HE.out.2) (hno _ HZ.out.2)) x
      exact h))
  rw [show KM.filter (fun x => !(ofB kind res x)) = KM.filter (ofP kind res) from List.filter_congr (fun x _ => by unfold ofB ofP; rw [Bool.not_not])] at HDL
  clear ho hb
  go_wp2_with (fail)
  refine HDL.out.mono ?_
  rintro e w3 ⟨m, rfl, hm, ho3, hoff⟩
  have HFIN := Lib.hid (show OfPost w (KM.filter (ofP kind res)) (.returned (.slice a' m c')) w3 from ⟨a', m, c', rfl, hm, ownsRow_leT ho3 HB1.out.size, HB1.out.trans ((HB2.out.trans (hoff.below HB2.out.size (fun i hi e => by have := (HO2.out.lt i e).1; omega))).mono HB1.out.size)⟩)
  clear hm ho3 hoff
  go_wp2_with (fail)
  go_ret
  exact HFIN.out
/-! ### a node's copy -/
theorem fork_made {w w3 : World} {k : NBk} {last flight : Int} {notes : List NoteW} (h : NodeAt w k last flight notes) {w2 : World} (h2 : WinN w2 w.heap.size (w.heap.size + 1) 1000000 10 last notes) (b2 : Below w.heap.size w w2) (h3 : WinN w3 w2.heap.size (w2.heap.size + 1) 2000000 2 last notes) (b3 : Below w2.heap.size w2 w3) :
    NodeAt (w3.alloc (.cells #[.pointer (some ⟨w.heap.size, 0, none⟩), .pointer (some ⟨w2.heap.size, 0, none⟩), .int .i64 flight] 70)) ⟨w3.heap.size, w.heap.size, w.heap.size + 1, w2.heap.size, w2.heap.size + 1⟩ last flight notes ∧
      Below w.heap.size w (w3.alloc (.cells #[.pointer (some ⟨w.heap.size, 0, none⟩), .pointer (some ⟨w2.heap.size, 0, none⟩), .int .i64 flight] 70)) ∧ ∀ i, NOwn ⟨w3.heap.size, w.heap.size, w.heap.size + 1, w2.heap.size, w2.heap.size + 1⟩ i → w.heap.size ≤ i := by
  have hal : Below w3.heap.size w3 (w3.alloc (.cells #[.pointer (some ⟨w.heap.size, 0, none⟩), .pointer (some ⟨w2.heap.size, 0, none⟩), .int .i64 flight] 70)) := (Below.refl _ _).alloc (Nat.le_refl _) _
  have l2 := h2.lt
  have l3 := h3.lt
  have z2 := b2.size
  have z3 := b3.size
  refine ⟨⟨new_blockS w3 _, (h2.below b3).below (hal), h3.below hal, ?_, h.f0, h.f1⟩, (b2.trans (b3.mono z2)).trans (hal.mono (by omega)), fun i hi => ?_⟩
  · simp only [NBk.l, List.nodup_cons, List.mem_cons, List.mem_nil_iff, or_false, not_or, List.not_mem_nil, not_false_eq_true, List.nodup_nil, and_true]
    omega
  · simp only [NOwn, NBk.l, List.mem_cons, List.mem_nil_iff, or_false] at hi
    omega
def FkPost (w : World) (last flight : Int) (notes : List NoteW) (e : Ending) (w' : World) : Prop := ∃ k', e = .returned (.pointer (some ⟨k'.q, 0, none⟩)) ∧ NodeAt w' k' last flight notes ∧ Below w.heap.size w w' ∧ ∀ i, NOwn k' i → w.heap.size ≤ i
set_option maxHeartbeats 3200000 in
set_option maxRecDepth 100000 in
theorem sfork_any {w : World} {k : NBk} {last flight : Int} {notes : List NoteW} (h : NodeAt w k last flight notes) : Calls Try.prog 27 #[.pointer (some ⟨k.q, 0, none⟩)] w (FkPost w last flight notes) := by
  have HF1 := Lib.hid (fun (wx : World) (hx : Below w.heap.size w wx) => wfork_any (h.below hx).sec)
  have HF2 := Lib.hid (fun (wx : World) (hx : Below w.heap.size w wx) => wfork_any (h.below hx).pair)
  have HSX := Lib.hid (fun (wx : World) (hx : Below w.heap.size w wx) => (h.below hx).cells)
  have HH := Lib.hid h
  have hsf := h.cells
  obtain ⟨kq, ks1, km1, ks2, km2⟩ := k
  dsimp only at HF1 HF2 HSX hsf ⊢
  obtain ⟨c0, c1, c2⟩ := hsf
  have hsf := HSX.out w (Below.refl _ _)
  clear h
  go_enter Try.func27, Try.ntmps27
  go_wp2_with (fail)
  clear c0 c1 c2
  refine wp_region_noPanic ?_
  refine wp_region_held_drew (S := (fun wx => wx.cell? ⟨kq, 0, none⟩ = some (.pointer (some ⟨ks1, 0, none⟩)) ∧ wx.cell? ⟨kq, 1, none⟩ = some (.pointer (some ⟨ks2, 0, none⟩)) ∧ wx.cell? ⟨kq, 2, none⟩ = some (.int .i64 flight))) (by kernel_rfl) ?_ (fun hHeld => ?_)
  · exact hsf
  refine wpAnyH_take (i := 0) (v := ?_) rfl (by kernel_rfl) (by kernel_rfl) (by kernel_rfl) (fun _ _ _ h => h) (Or.inl ⟨by rfl, ?hy⟩) (by assumption) ?_
  case hy => intro w hSw; (try dsimp only at hSw); go_simp; try with_reducible rfl
  try simp only [Act.put, List.getElem_toArray, List.getElem_cons_succ, List.getElem_cons_zero, List.setIfInBounds_toArray, List.set_cons_zero, List.set_cons_succ]
  refine wpAnyH_take (i := 1) (v := ?_) rfl (by kernel_rfl) (by kernel_rfl) (by kernel_rfl) (fun _ _ _ h => h) (Or.inl ⟨by rfl, ?hy⟩) (by assumption) ?_
  case hy => intro w hSw; (try dsimp only at hSw); go_simp; try with_reducible rfl
  try simp only [Act.put, List.getElem_toArray, List.getElem_cons_succ, List.getElem_cons_zero, List.setIfInBounds_toArray, List.set_cons_zero, List.set_cons_succ]
  refine wpAnyH_take (i := 2) (v := ?_) rfl (by kernel_rfl) (by kernel_rfl) (by kernel_rfl) (fun _ _ _ h => h) (Or.inl ⟨by rfl, ?hy⟩) (by assumption) ?_
  case hy => intro w hSw; (try dsimp only at hSw); go_simp; try with_reducible rfl
  try simp only [Act.put, List.getElem_toArray, List.getElem_cons_succ, List.getElem_cons_zero, List.setIfInBounds_toArray, List.set_cons_zero, List.set_cons_succ]
  refine wpAnyH_take (i := 3) (v := ?_) rfl (by kernel_rfl) (by kernel_rfl) (by kernel_rfl) (fun _ _ _ h => h) (Or.inl ⟨by rfl, ?hy⟩) (by assumption) ?_
  case hy => intro w hSw; (try dsimp only at hSw); go_simp; try with_reducible rfl
  try simp only [Act.put, List.getElem_toArray, List.getElem_cons_succ, List.getElem_cons_zero, List.setIfInBounds_toArray, List.set_cons_zero, List.set_cons_succ]
  refine wpAnyH_take (i := 5) (v := ?_) rfl (by kernel_rfl) (by kernel_rfl) (by kernel_rfl) (fun _ _ _ h => h) (Or.inl ⟨by rfl, ?hy⟩) (by assumption) ?_
  case hy => intro w hSw; (try dsimp only at hSw); go_simp; try with_reducible rfl
  try simp only [Act.put, List.getElem_toArray, List.getElem_cons_succ, List.getElem_cons_zero, List.setIfInBounds_toArray, List.set_cons_zero, List.set_cons_succ]
  refine wpAnyH_take (i := 6) (v := ?_) rfl (by kernel_rfl) (by kernel_rfl) (by kernel_rfl) (fun _ _ _ h => h) (Or.inl ⟨by rfl, ?hy⟩) (by assumption) ?_
  case hy => intro w hSw; (try dsimp only at hSw); go_simp; try with_reducible rfl
  try simp only [Act.put, List.getElem_toArray, List.getElem_cons_succ, List.getElem_cons_zero, List.setIfInBounds_toArray, List.set_cons_zero, List.set_cons_succ]
  refine wpAnyH_take (i := 7) (v := ?_) rfl (by kernel_rfl) (by kernel_rfl) (by kernel_rfl) (fun _ _ _ h => h) (Or.inl ⟨by rfl, ?hy⟩) (by assumption) ?_
  case hy => intro w hSw; (try dsimp only at hSw); go_simp; try with_reducible rfl
  try simp only [Act.put, List.getElem_toArray, List.getElem_cons_succ, List.getElem_cons_zero, List.setIfInBounds_toArray, List.set_cons_zero, List.set_cons_succ]
  refine wpAnyH_take (i := 8) (v := ?_) rfl (by kernel_rfl) (by kernel_rfl) (by kernel_rfl) (fun _ _ _ h => h) (Or.inl ⟨by rfl, ?hy⟩) (by assumption) ?_
  case hy => intro w hSw; (try dsimp only at hSw); go_simp; try with_reducible rfl
  try simp only [Act.put, List.getElem_toArray, List.getElem_cons_succ, List.getElem_cons_zero, List.setIfInBounds_toArray, List.set_cons_zero, List.set_cons_succ]
  refine wpAnyH_take (i := 9) (v := ?_) rfl (by kernel_rfl) (by kernel_rfl) (by kernel_rfl) (fun _ _ _ h => h) (Or.inl ⟨by rfl, ?hy⟩) (by assumption) ?_
  case hy => intro w hSw; (try dsimp only at hSw); go_simp; try with_reducible rfl
  try simp only [Act.put, List.getElem_toArray, List.getElem_cons_succ, List.getElem_cons_zero, List.setIfInBounds_toArray, List.set_cons_zero, List.set_cons_succ]
  refine wpAnyH_take (i := 12) (v := ?_) rfl (by kernel_rfl) (by kernel_rfl) (by kernel_rfl) (fun _ _ _ h => h) (Or.inl ⟨by rfl, ?hy⟩) (by assumption) ?_
  case hy => intro w hSw; (try dsimp only at hSw); go_simp; try with_reducible rfl
  try simp only [Act.put, List.getElem_toArray, List.getElem_cons_succ, List.getElem_cons_zero, List.setIfInBounds_toArray, List.set_cons_zero, List.set_cons_succ]
  refine wpAnyH_take (i := 13) (v := ?_) rfl (by kernel_rfl) (by kernel_rfl) (by kernel_rfl) (fun _ _ _ h => h) (Or.inl ⟨by rfl, ?hy⟩) (by assumption) ?_
  case hy => intro w hSw; (try dsimp only at hSw); go_simp; try with_reducible rfl
  try simp only [Act.put, List.getElem_toArray, List.getElem_cons_succ, List.getElem_cons_zero, List.setIfInBounds_toArray, List.set_cons_zero, List.set_cons_succ]
  refine wpAnyH_take (i := 14) (v := ?_) rfl (by kernel_rfl) (by kernel_rfl) (by kernel_rfl) (fun _ _ _ h => h) (Or.inl ⟨by rfl, ?hy⟩) (by assumption) ?_
  case hy => intro w hSw; (try dsimp only at hSw); go_simp; try with_reducible rfl
  try simp only [Act.put, List.getElem_toArray, List.getElem_cons_succ, List.getElem_cons_zero, List.setIfInBounds_toArray, List.set_cons_zero, List.set_cons_succ]
  refine wpAnyH_take (i := 15) (v := ?_) rfl (by kernel_rfl) (by kernel_rfl) (by kernel_rfl) (fun _ _ _ h => h) (Or.inl ⟨by rfl, ?hy⟩) (by assumption) ?_
  case hy => intro w hSw; (try dsimp only at hSw); go_simp; try with_reducible rfl
  try simp only [Act.put, List.getElem_toArray, List.getElem_cons_succ, List.getElem_cons_zero, List.setIfInBounds_toArray, List.set_cons_zero, List.set_cons_succ]
  refine wpAnyH_ready (rs := [4]) (by kernel_rfl) (by simp) (AllReadyH.cons rfl (fun K hK => ?_) AllReadyH.nil)
  go_simp
  go_at_call 45; refine (HF1.out _ ((Below.refl _ w).drew)).mono ?_; rintro e w2 ⟨rfl, hw2, hb2⟩; have HW2 := Lib.hid hw2; have HB2 := Lib.hid ((Below.refl _ w).drew.trans hb2); clear hw2 hb2
  try (go_wp2_with fail)
  refine hK.out _ _ ?_ (fun hHeld => ?_)
  · exact HSX.out _ HB2.out
  clear hK K
  try simp only [Act.put, List.getElem_toArray, List.getElem_cons_succ, List.getElem_cons_zero, List.setIfInBounds_toArray, List.set_cons_zero, List.set_cons_succ]
  refine wpAnyH_ready (rs := [10]) (by kernel_rfl) (by simp) (AllReadyH.cons rfl (fun K hK => ?_) AllReadyH.nil)
  go_simp
  go_at_call 45; refine (HF2.out _ HB2.out).mono ?_; rintro e w3 ⟨rfl, hw3, hb3⟩; have HW3 := Lib.hid hw3; have HB23 := Lib.hid hb3; have HB3 := Lib.hid (HB2.out.trans (hb3.mono HB2.out.size)); clear hw3 hb3
  try (go_wp2_with fail)
  refine hK.out _ _ ?_ (fun hHeld => ?_)
  · exact HSX.out _ HB3.out
  clear hK K
  try simp only [Act.put, List.getElem_toArray, List.getElem_cons_succ, List.getElem_cons_zero, List.setIfInBounds_toArray, List.set_cons_zero, List.set_cons_succ]
  refine wpAnyH_take (i := 11) (v := ?_) rfl (by kernel_rfl) (by kernel_rfl) (by kernel_rfl) (fun _ _ _ h => h) (Or.inl ⟨by rfl, ?hy⟩) (by assumption) ?_
  case hy => intro w hSw; (try dsimp only at hSw); go_simp; try with_reducible rfl
  try simp only [Act.put, List.getElem_toArray, List.getElem_cons_succ, List.getElem_cons_zero, List.setIfInBounds_toArray, List.set_cons_zero, List.set_cons_succ]
  refine wpAnyH_take (i := 16) (v := ?_) rfl (by kernel_rfl) (by kernel_rfl) (by kernel_rfl) (fun _ _ _ h => h) (Or.inl ⟨by rfl, ?hy⟩) (by assumption) ?_
  case hy => intro w hSw; (try dsimp only at hSw); go_simp; try with_reducible rfl
  try simp only [Act.put, List.getElem_toArray, List.getElem_cons_succ, List.getElem_cons_zero, List.setIfInBounds_toArray, List.set_cons_zero, List.set_cons_succ]
  refine wpAnyH_ready (rs := [17]) (by kernel_rfl) (by simp) (AllReadyH.cons rfl (fun K hK => ?_) AllReadyH.nil)
  go_simp
  skip
  try (go_wp2_with fail)
  refine hK.out _ _ ?_ (fun hHeld => ?_)
  · exact HSX.out _ (HB3.out.alloc HB3.out.size _)
  clear hK K
  try simp only [Act.put, List.getElem_toArray, List.getElem_cons_succ, List.getElem_cons_zero, List.setIfInBounds_toArray, List.set_cons_zero, List.set_cons_succ]
  refine wpAnyH_take (i := 18) (v := ?_) rfl (by kernel_rfl) (by kernel_rfl) (by kernel_rfl) (fun _ _ _ h => h) (Or.inl ⟨by rfl, ?hy⟩) (by assumption) ?_
  case hy => intro w hSw; (try dsimp only at hSw); go_simp; try with_reducible rfl
  try simp only [Act.put, List.getElem_toArray, List.getElem_cons_succ, List.getElem_cons_zero, List.setIfInBounds_toArray, List.set_cons_zero, List.set_cons_succ]
  refine wpAnyH_done (by kernel_rfl) ?_ _
  refine NoPanic.normal ?_
  go_wp2_with (fail)
  go_ret
  obtain ⟨g1, g2, g3⟩ := fork_made (w := w) (w2 := w2) (w3 := w3) HH.out HW2.out HB2.out HW3.out HB23.out
  exact ⟨_, rfl, g1, g2, g3⟩
set_option maxHeartbeats 1600000 in
theorem sfork_nil (w : World) : Calls Try.prog 27 #[.pointer none] w fun e w' => e = .returned (.pointer none) ∧ w' = w := by
  go_enter Try.func27, Try.ntmps27
  go_wp2_with (fail)
  go_ret
  exact ⟨rfl, rfl⟩
/-- What Node tells. -/
structure NodePost (w : World) (o : Option NodeM) (e : Ending) (w' : World) : Prop where
  bel : Below w.heap.size w w'
  no : o = none → e = .returned (.pointer none)
  yes : ∀ n, o = some n → ∃ k', e = .returned (.pointer (some ⟨k'.q, 0, none⟩)) ∧ NodeAt w' k' n.last n.flight n.notes ∧ ∀ i, NOwn k' i → w.heap.size ≤ i
set_option maxHeartbeats 3200000 in
set_option maxRecDepth 100000 in
theorem tnode_any {w : World} {t : TreeV} (k : TreeAt w t) (q : KeyS) (hq : KeyOk q) :
    Calls Try.prog 14 #[.pointer (some ⟨t.tb, 0, none⟩), q.v] w (NodePost w (getM t.M q)) := by
  have halb : Below w.heap.size w (w.alloc (.cells #[.int .u8 q.kind, .string q.ctx, .string q.res, .string q.org] 30)) := (Below.refl _ _).alloc (Nat.le_refl _) _
  have hnb := new_blockS w (.cells #[.int .u8 q.kind, .string q.ctx, .string q.res, .string q.org] 30)
  obtain ⟨wd, hwd⟩ : ∃ wb, w.alloc (.cells #[.int .u8 q.kind, .string q.ctx, .string q.res, .string q.org] 30) = wb := ⟨_, rfl⟩
  rw [hwd] at halb hnb
  have HAL := Lib.hid halb
  have kd := k.below halb
  have hc0 := kd.cells.1
  have hlk := fun n => (kd.kept (w' := wd.drewN n) (fun _ _ => rfl)).map.look hq
  have HKD := Lib.hid kd
  have HNB := Lib.hid hnb
  have HQ := Lib.hid hq
  rw [getM_findT]
  obtain ⟨f0, f1, f2, f3⟩ := four_box hnb
  obtain ⟨kind, qctx, qres, qorg⟩ := q
  unfold KeyS.v at hlk ⊢
  dsimp only at hlk hwd f0 f1 f2 f3 HNB ⊢
  obtain ⟨tb, mb, vr, T, last, top⟩ := t
  dsimp only at hc0 hlk ⊢
  obtain ⟨D, hD⟩ : ∃ D, w.heap.size = D := ⟨_, rfl⟩
  rw [hD] at f0 f1 f2 f3 HNB
  have HDD := Lib.hid hD
  clear k hq halb hnb kd
  cases hf : findT T ⟨kind, qctx, qres, qorg⟩ with
  | none =>
    simp only [hf, nodeP, ptrT, Option.map_none, Option.getD_none] at hlk
    clear hf
    go_enter Try.func14, Try.ntmps14
    go_wp2_with (fail)
    clear hwd hD
    have HFN := Lib.hid (fun (n : Nat) => sfork_nil (wd.drewN n))
    go_quiet ((go_at_call 27; refine Calls.quiet_of_same ((HFN.out _).mono fun e w' h => ⟨h.1, h.2⟩)))
    go_wp2_with (fail)
    go_ret
    exact ⟨below_drewG HAL.out nq, fun _ => rfl, (fun n h => by cases h)⟩
  | some x =>
    have hx := (HKD.out.nodes x (findT_mem hf).1).1
    have HFK := Lib.hid (fun (wx : World) (hb : Below wd.heap.size wd wx) => sfork_any (hx.below hb))
    have HSX := Lib.hid (fun (wx : World) (hb : Below wd.heap.size wd wx) => sum_s13 (q := ⟨kind, qctx, qres, qorg⟩) (HKD.out.below hb) ((hb.block D (Array.getElem?_eq_some_iff.1 HNB.out).1).trans HNB.out) hf HQ.out)
    dsimp only at HSX
    obtain ⟨xq, hxq⟩ : ∃ xq, x.k.q = xq := ⟨_, rfl⟩
    rw [hxq] at HFK HSX
    have hsn := HSX.out wd (Below.refl _ _)
    have hsn := HSX.out wd.drew (Below.refl _ wd).drew
    clear hf hxq hx f0 f1 f2 f3 hc0 hlk
    have f0 := hsn.1.1
    have f1 := hsn.1.2.1
    have f2 := hsn.1.2.2.1
    have f3 := hsn.1.2.2.2
    clear f0 f1 f2 f3
    go_enter Try.func14, Try.ntmps14
    go_wp2_with (fail)
    clear hwd hD
    refine wp_region_noPanic ?_
    refine wp_region_held_drew (S := (fun wx => (wx.cell? ⟨D, 0, none⟩ = some (.int .u8 kind) ∧ wx.cell? ⟨D, 1, none⟩ = some (.string qctx) ∧ wx.cell? ⟨D, 2, none⟩ = some (.string qres) ∧ wx.cell? ⟨D, 3, none⟩ = some (.string qorg)) ∧ wx.cell? ⟨tb, 0, none⟩ = some (.map (some mb)) ∧ (Instr.lookup 55 (.map (some mb)) (.agg #[.int .u8 kind, .string qctx, .string qres, .string qorg]) false).run Try.prog wx = .ok (.pointer (some ⟨xq, 0, none⟩)) wx)) (by kernel_rfl) ?_ (fun hHeld => ?_)
    · exact hsn
    refine wpAnyH_take (i := 0) (v := ?_) rfl (by kernel_rfl) (by kernel_rfl) (by kernel_rfl) (fun _ _ _ h => h) (Or.inl ⟨by rfl, ?hy⟩) (by assumption) ?_
    case hy => intro w hSw; (try dsimp only at hSw); go_simp; try with_reducible rfl
    try simp only [Act.put, List.getElem_toArray, List.getElem_cons_succ, List.getElem_cons_zero, List.setIfInBounds_toArray, List.set_cons_zero, List.set_cons_succ]
    refine wpAnyH_take (i := 1) (v := ?_) rfl (by kernel_rfl) (by kernel_rfl) (by kernel_rfl) (fun _ _ _ h => h) (Or.inl ⟨by rfl, ?hy⟩) (by assumption) ?_
    case hy => intro w hSw; (try dsimp only at hSw); go_simp; try with_reducible rfl
    try simp only [Act.put, List.getElem_toArray, List.getElem_cons_succ, List.getElem_cons_zero, List.setIfInBounds_toArray, List.set_cons_zero, List.set_cons_succ]
    refine wpAnyH_take (i := 2) (v := ?_) rfl (by kernel_rfl) (by kernel_rfl) (by kernel_rfl) (fun _ _ _ h => h) (Or.inl ⟨by rfl, ?hy⟩) (by assumption) ?_
    case hy => intro w hSw; (try dsimp only at hSw); go_simp; try with_reducible rfl
    try simp only [Act.put, List.getElem_toArray, List.getElem_cons_succ, List.getElem_cons_zero, List.setIfInBounds_toArray, List.set_cons_zero, List.set_cons_succ]
    refine wpAnyH_take (i := 3) (v := ?_) rfl (by kernel_rfl) (by kernel_rfl) (by kernel_rfl) (fun _ _ _ h => h) (Or.inl ⟨by rfl, ?hy⟩) (by assumption) ?_
    case hy => intro w hSw; (try dsimp only at hSw); go_simp; try with_reducible rfl
    try simp only [Act.put, List.getElem_toArray, List.getElem_cons_succ, List.getElem_cons_zero, List.setIfInBounds_toArray, List.set_cons_zero, List.set_cons_succ]
    refine wpAnyH_take (i := 4) (v := ?_) rfl (by kernel_rfl) (by kernel_rfl) (by kernel_rfl) (fun _ _ _ h => h) (Or.inl ⟨by rfl, ?hy⟩) (by assumption) ?_
    case hy => intro w hSw; (try dsimp only at hSw); go_simp; try with_reducible rfl
    try simp only [Act.put, List.getElem_toArray, List.getElem_cons_succ, List.getElem_cons_zero, List.setIfInBounds_toArray, List.set_cons_zero, List.set_cons_succ]
    refine wpAnyH_take (i := 5) (v := ?_) rfl (by kernel_rfl) (by kernel_rfl) (by kernel_rfl) (fun _ _ _ h => h) (Or.inl ⟨by rfl, ?hy⟩) (by assumption) ?_
    case hy => intro w hSw; (try dsimp only at hSw); go_simp; try with_reducible rfl
    try simp only [Act.put, List.getElem_toArray, List.getElem_cons_succ, List.getElem_cons_zero, List.setIfInBounds_toArray, List.set_cons_zero, List.set_cons_succ]
    refine wpAnyH_take (i := 6) (v := ?_) rfl (by kernel_rfl) (by kernel_rfl) (by kernel_rfl) (fun _ _ _ h => h) (Or.inl ⟨by rfl, ?hy⟩) (by assumption) ?_
    case hy => intro w hSw; (try dsimp only at hSw); go_simp; try with_reducible rfl
    try simp only [Act.put, List.getElem_toArray, List.getElem_cons_succ, List.getElem_cons_zero, List.setIfInBounds_toArray, List.set_cons_zero, List.set_cons_succ]
    refine wpAnyH_ready (rs := [7]) (by kernel_rfl) (by simp) (AllReadyH.cons rfl (fun K hK => ?_) AllReadyH.nil)
    go_simp
    go_at_call 27; refine (HFK.out _ ((Below.refl _ wd).drew)).mono ?_; rintro e w2 ⟨k', rfl, hn', hb', ho'⟩; have HN := Lib.hid (And.intro hn' (And.intro hb' ho')); have HBN := Lib.hid ((Below.refl _ wd).drew.trans hb'); clear hn' hb' ho'
    try (go_wp2_with fail)
    refine hK.out _ _ ?_ (fun hHeld => ?_)
    · exact HSX.out _ HBN.out
    clear hK K
    try simp only [Act.put, List.getElem_toArray, List.getElem_cons_succ, List.getElem_cons_zero, List.setIfInBounds_toArray, List.set_cons_zero, List.set_cons_succ]
    refine wpAnyH_take (i := 8) (v := ?_) rfl (by kernel_rfl) (by kernel_rfl) (by kernel_rfl) (fun _ _ _ h => h) (Or.inl ⟨by rfl, ?hy⟩) (by assumption) ?_
    case hy => intro w hSw; (try dsimp only at hSw); go_simp; try with_reducible rfl
    try simp only [Act.put, List.getElem_toArray, List.getElem_cons_succ, List.getElem_cons_zero, List.setIfInBounds_toArray, List.set_cons_zero, List.set_cons_succ]
    refine wpAnyH_done (by kernel_rfl) ?_ _
    refine NoPanic.normal ?_
    go_wp2_with (fail)
    go_ret
    exact ⟨HAL.out.trans (HBN.out.mono HAL.out.size), (fun h => by cases h), (fun n h => by cases h; exact ⟨k', rfl, HN.out.1, fun i hi => Nat.le_trans HAL.out.size (HN.out.2.2 i hi)⟩)⟩
end Go.Proofs.Ytpbbidijnmooaaa
