/- sketch: estimates, totals. -/
import Derived.Test.YtogdnacambjhpaaSkC
namespace Go.Proofs.Ytogdnacambjhpaa
open Go.RowKit
set_option linter.unusedVariables false
set_option linter.unusedSimpArgs false

theorem enT1 (a b : Int) (m : Nat) (wx : World) : (callFunc 44 #[.agg #[.int .i64 a, .int .i64 b, .map (some m)]]).run Try.prog wx = .ok (.enter 44 #[.agg #[.int .i64 a, .int .i64 b, .map (some m)]]) wx := by kernel_rfl
theorem enE1 (a b : Int) (m q : Nat) (wx : World) : (callFunc 66 #[.agg #[.int .i64 a, .int .i64 b, .map (some m)], .pointer (some ⟨q, 0, none⟩)]).run Try.prog wx = .ok (.enter 66 #[.agg #[.int .i64 a, .int .i64 b, .map (some m)], .pointer (some ⟨q, 0, none⟩)]) wx := by kernel_rfl

set_option maxHeartbeats 200000 in
theorem sktot1_any (a b : Int) (m : Nat) (w : World) : Calls Try.prog 44 #[.agg #[.int .i64 a, .int .i64 b, .map (some m)]] w fun e w' => e = .returned (.int .i64 b) ∧ Below w.heap.size w w' := by
  go_enter Try.func44, Try.ntmps44
  go_wp2_with (fail)
  go_ret
  exact ⟨rfl, (Below.refl _ _).alloc (Nat.le_refl _) _⟩

set_option maxHeartbeats 200000 in
theorem skest1_any (a b : Int) (m : Nat) (cnt : Int → Int → Int) (q : Nat) (r c : Int) (r0 : 0 ≤ r) (r1 : r < 8) (c0 : 0 ≤ c) (c1 : c < 4096) (w : World) (hm : CntAt w m cnt) (hq : w.cell? ⟨q, 0, none⟩ = some (.int .i64 r)) (hq1 : w.cell? ⟨q, 1, none⟩ = some (.int .i64 c)) :
    Calls Try.prog 66 #[.agg #[.int .i64 a, .int .i64 b, .map (some m)], .pointer (some ⟨q, 0, none⟩)] w fun e w' => e = .returned (.int .i64 (cnt r c)) ∧ Below w.heap.size w w' := by
  have hb : Below w.heap.size w (w.alloc (.cells #[.int .i64 a, .int .i64 b, .map (some m)] 93)) := (Below.refl _ _).alloc (Nat.le_refl _) _
  have hl := (hm.kept (hb.block m hm.lt)).look r0 r1 c0 c1
  have hlt := World.block_lt_of_cell? w _ hq
  clear hm
  go_enter Try.func66, Try.ntmps66
  go_wp2_with (fail)
  go_ret
  exact ⟨rfl, hb⟩

def estS (h : ShapeS) (b at_ : Int) (key : ByteArray) (bs : List BkA) : Int := leastS (fun r => sumB (beginS b at_ - h.W) (fun x => x.cnt r (colS h r key)) 0 bs) h.R.toNat

theorem leastS_bd {f : Int → Int} (hf : ∀ r : Nat, 0 ≤ f r) : ∀ n : Nat, 0 ≤ leastS f n ∧ leastS f n ≤ 4611686018427387904
  | 0 => by unfold leastS; omega
  | n + 1 => by
    have := leastS_bd hf n
    have := hf n
    rw [leastS]; omega

set_option maxHeartbeats 1600000 in
set_option maxRecDepth 100000 in
theorem skestimate_any {w : World} {s : Nat} {h : ShapeS} {last : Int} {v : Value} {bs : List BkS} (hs : SkAt w s h last v bs) {b : Int} (hb : ShapeOk h b) (at_ : Int) (a0 : 0 ≤ at_) (a1 : at_ ≤ 1152921504606846976) (key : ByteArray) (hk : key.size ≤ maxLen) :
    Calls Try.prog 42 #[.pointer (some ⟨s, 0, none⟩), .int .i64 at_, .string key] w fun e w' => e = .returned (.int .i64 (estS h b at_ key (bs.map BkS.a))) ∧ Below w.heap.size w w' := by
  obtain ⟨c0, c1, c2, c3, c4, c5, c6⟩ := hs.headCells
  have HS := Lib.hid hs
  have hsl := hs.lt (i := s) (by simp [SkOwn])
  have r1 := hb.R1
  have r2 := hb.R2
  have HC := Lib.hid (fun row (r0 : 0 ≤ row) (r1 : row ≤ 64) wx => skcolumn_any h b row hb r0 r1 key hk wx)
  have HCB := Lib.hid (fun row => colS_bd hb row key)
  have hC2 := hb.C2
  obtain ⟨n, hn⟩ : ∃ n : Nat, h.R = n := ⟨h.R.toNat, by omega⟩
  rw [show h.c = #[.int .i64 h.W, .int .i64 h.B, .int .i64 n, .int .i64 h.C, .int .u64 h.seed] by unfold ShapeS.c; rw [hn]] at HC
  have HSUM : Hid (∀ wx, Below w.heap.size w wx → ∀ (q r : Nat), r < n → wx.cell? ⟨q, 0, none⟩ = some (.int .i64 r) → wx.cell? ⟨q, 1, none⟩ = some (.int .i64 (colS h r key)) →
      Calls Try.prog 43 #[.pointer (some ⟨s, 0, none⟩), .int .i64 at_, .func (.func 66) #[] #[.pointer (some ⟨q, 0, none⟩)]] wx fun e w' => e = .returned (.int .i64 (sumB (beginS b at_ - h.W) (fun x => x.cnt r (colS h r key)) 0 (bs.map BkS.a))) ∧ Below wx.heap.size wx w') := fun wx hwx q r hr hq hq1 => by
    have hcb := colS_bd hb r key
    have hql := World.block_lt_of_cell? wx _ hq
    refine sksum_any (hs.below hwx) hb at_ a0 a1 _ _ (fun x => x.cnt r (colS h r key)) (fun x hx => ?_) (fun x _ wy => enE1 _ _ _ _ wy) (fun x hx wy hwy => ?_)
    · obtain ⟨f, n, _, _, _, hbd⟩ := hs.maps x hx
      exact hbd _ _
    · exact skest1_any x.at_ x.tot x.m x.cnt q r (colS h r key) (by omega) (by omega) hcb.1 (by omega) wy (((hs.maps x hx).kept (hwx.block _ (hs.maps x hx).lt)).kept (hwy.block _ (Nat.lt_of_lt_of_le (hs.maps x hx).lt hwx.size)))
        ((hwy.cell (p := ⟨q, 0, none⟩) hql).trans hq) ((hwy.cell (p := ⟨q, 1, none⟩) hql).trans hq1)
  have HBD := Lib.hid (leastS_bd (f := fun r => sumB (beginS b at_ - h.W) (fun x => x.cnt r (colS h r key)) 0 (bs.map BkS.a)) (fun r => (sumB_bd (Int.le_refl 0) (by omega) (fun x hx => by
    obtain ⟨y, hy, rfl⟩ := List.mem_map.1 hx
    obtain ⟨f, n, _, _, _, hbd⟩ := hs.maps y hy
    exact (hbd _ _).1)).1))
  have HE : Hid (estS h b at_ key (bs.map BkS.a) = leastS (fun r => sumB (beginS b at_ - h.W) (fun x => x.cnt r (colS h r key)) 0 (bs.map BkS.a)) n) := by
    show leastS _ h.R.toNat = _
    rw [hn]; rfl
  rw [hn] at c2
  have HSB : Hid (∀ r : Nat, 0 ≤ sumB (beginS b at_ - h.W) (fun x => x.cnt r (colS h r key)) 0 (bs.map BkS.a) ∧ sumB (beginS b at_ - h.W) (fun x => x.cnt r (colS h r key)) 0 (bs.map BkS.a) ≤ 4611686018427387904) := fun r => sumB_bd (Int.le_refl 0) (by omega) (fun x hx => by
    obtain ⟨y, hy, rfl⟩ := List.mem_map.1 hx
    obtain ⟨f, n, _, _, _, hbd⟩ := hs.maps y hy
    exact (hbd _ _).1)
  have hn8 : n ≤ 8 := by omega
  clear hs hb hn r1 r2
  go_enter Try.func42, Try.ntmps42
  go_wp2_with (fail)
  go_loopw [7, 8, 9, 15] (fun x y z i wr => ∃ (k : Nat) (S : Int), k ≤ n ∧ i = .int .i64 k ∧ x = .int .i64 S ∧ 0 ≤ S ∧ S ≤ 4611686018427387904 ∧ Hid (S = leastS (fun r => sumB (beginS b at_ - h.W) (fun x => x.cnt r (colS h r key)) 0 (bs.map BkS.a)) k) ∧ Hid (Below w.heap.size w wr)) (fun _ _ _ i _ => n - (intOf i).toNat)
  case atStart => exact ⟨0, _, Nat.zero_le _, rfl, rfl, by omega, by omega, rfl, Below.refl _ _⟩
  case round =>
    rename World => wy
    obtain ⟨k, S, hk, rfl, rfl, s0, s1, HSS, HB⟩ := hrel
    have hbz := HB.out.size
    by_cases hlt : k < n
    · have k0 : (0 : Int) ≤ k := by omega
      have k1 : (k : Int) < n := by omega
      have c0 := (HB.out.cell (p := ⟨s, 0, none⟩) hsl).trans c0
      have c1 := (HB.out.cell (p := ⟨s, 1, none⟩) hsl).trans c1
      have c2 := (HB.out.cell (p := ⟨s, 2, none⟩) hsl).trans c2
      have c3 := (HB.out.cell (p := ⟨s, 3, none⟩) hsl).trans c3
      have c4 := (HB.out.cell (p := ⟨s, 4, none⟩) hsl).trans c4
      have hc := HC.out k k0 (by omega) wy
      have hcb := HCB.out k
      have hsum := HSUM.out
      have hst : Hid (leastS (fun r => sumB (beginS b at_ - h.W) (fun x => x.cnt r (colS h r key)) 0 (bs.map BkS.a)) (k + 1) = min S (sumB (beginS b at_ - h.W) (fun x => x.cnt (k : Int) (colS h k key)) 0 (bs.map BkS.a))) := by
        show leastS _ (k + 1) = _
        rw [leastS, ← HSS.out]
      have hsb := HSB.out k
      obtain ⟨T, hT⟩ : ∃ T, sumB (beginS b at_ - h.W) (fun x => x.cnt (k : Int) (colS h k key)) 0 (bs.map BkS.a) = T := ⟨_, rfl⟩
      have hs1 := fun wx hwx q => hsum wx hwx q k hlt
      rw [hT] at hst hsb
      simp only [hT] at hs1
      generalize colS h k key = CC at hc hcb hs1
      have HC1 := Lib.hid hc
      have HS1 := Lib.hid hs1
      clear hc hsum hs1 hT
      go_wp2_with (fail)
      refine HC1.out.mono ?_
      rintro e wa ⟨rfl, ha⟩
      have hba := HB.out.trans (ha.mono hbz)
      have HBA := Lib.hid hba
      have hza := hba.size
      have hba2 : Below w.heap.size w (wa.alloc (.cells #[.int .i64 k, .int .i64 CC] 98)) := hba.alloc hza _
      have hnew := new_blockS wa (.cells #[.int .i64 k, .int .i64 CC] 98)
      have HS2 := Lib.hid (HS1.out _ hba2 wa.heap.size (by simp only [World.cell?, hnew]; rfl) (by simp only [World.cell?, hnew]; rfl))
      have HBA2 := Lib.hid hba2
      clear hba ha hba2 hnew
      go_wp2_with (fail)
      refine HS2.out.mono ?_
      rintro e wb ⟨rfl, hbb⟩
      have HBB := Lib.hid (HBA2.out.trans (hbb.mono HBA2.out.size))
      clear hbb
      go_wp2_with (fail)
      exact ⟨⟨k + 1, _, by omega, by go_num, rfl, by first | omega | (split <;> omega), by first | omega | (split <;> omega), by (show _ = _); first | (rw [hst.out]; done) | (rw [hst.out]; split <;> omega), HBB⟩, by first | (simp [intOf]; done) | (simp [intOf]; omega)⟩
    · have k1 : ¬ (k : Int) < n := by omega
      have e1 : k = n := by omega
      have hall : Hid (S = leastS (fun r => sumB (beginS b at_ - h.W) (fun x => x.cnt r (colS h r key)) 0 (bs.map BkS.a)) n) := e1 ▸ HSS.out
      clear HSS e1
      go_wp2_with (fail)
      go_ret
      exact ⟨by rw [HE.out, ← hall.out]; rfl, HB.out⟩

theorem lookS_ok {last at_ : Int} (h : lookS last at_ = 0) : 0 ≤ at_ ∧ at_ ≤ 1152921504606846976 ∧ last ≤ at_ := by
  unfold lookS at h
  split at h
  · omega
  · split at h
    · omega
    · omega
set_option maxHeartbeats 1600000 in
theorem skEstimate_any {w : World} {s : Nat} {h : ShapeS} {last : Int} {v : Value} {bs : List BkS} (hs : SkAt w s h last v bs) {b : Int} (hb : ShapeOk h b) (at_ : Int) (key : ByteArray) (hk : key.size ≤ maxLen) :
    Calls Try.prog 13 #[.pointer (some ⟨s, 0, none⟩), .int .i64 at_, .string key] w fun e w' => e = .returned (.tuple #[.int .i64 (if lookS last at_ = 0 then estS h b at_ key (bs.map BkS.a) else 0), .int .i64 (lookS last at_)]) ∧ Below w.heap.size w w' := by
  have HL := Lib.hid (sklook_any s last at_ w hs.headCells.2.2.2.2.2.2)
  by_cases hE : lookS last at_ = 0
  · obtain ⟨a0, a1, _⟩ := lookS_ok hE
    have HT := Lib.hid (skestimate_any hs hb at_ a0 a1 key hk)
    rw [if_pos hE]
    rw [hE] at HL ⊢
    generalize estS h b at_ key (bs.map BkS.a) = E at *
    clear hs hb hE
    go_enter Try.func13, Try.ntmps13
    go_wp2_with (fail)
    refine HL.out.mono ?_
    rintro e wq ⟨rfl, hq⟩
    subst hq
    go_wp2_with (fail)
    refine HT.out.mono ?_
    rintro e wb ⟨rfl, hbb⟩
    have HBB := Lib.hid hbb
    clear hbb
    go_wp2_with (fail)
    go_ret2
    exact ⟨rfl, HBB.out⟩
  · rw [if_neg hE]
    generalize lookS last at_ = LE at *
    have hne : (LE != 0) = true := by simpa using hE
    clear hs hb
    go_enter Try.func13, Try.ntmps13
    go_wp2_with (fail)
    refine HL.out.mono ?_
    rintro e wq ⟨rfl, hq⟩
    subst hq
    go_wp2_with (fail)
    go_ret2
    exact ⟨rfl, Below.refl _ _⟩

def totS (h : ShapeS) (b at_ : Int) (bs : List BkA) : Int := sumB (beginS b at_ - h.W) (·.tot) 0 bs
set_option maxHeartbeats 1600000 in
theorem skTotal_any {w : World} {s : Nat} {h : ShapeS} {last : Int} {v : Value} {bs : List BkS} (hs : SkAt w s h last v bs) {b : Int} (hb : ShapeOk h b) (at_ : Int) :
    Calls Try.prog 14 #[.pointer (some ⟨s, 0, none⟩), .int .i64 at_] w fun e w' => e = .returned (.tuple #[.int .i64 (if lookS last at_ = 0 then totS h b at_ (bs.map BkS.a) else 0), .int .i64 (lookS last at_)]) ∧ Below w.heap.size w w' := by
  have HL := Lib.hid (sklook_any s last at_ w hs.headCells.2.2.2.2.2.2)
  by_cases hE : lookS last at_ = 0
  · obtain ⟨a0, a1, _⟩ := lookS_ok hE
    have HT := Lib.hid (sksum_any hs hb at_ a0 a1 44 #[] (·.tot) (fun x hx => ⟨(hs.tots x hx).2.2.1, (hs.tots x hx).2.2.2⟩) (fun x _ wx => enT1 _ _ _ wx) (fun x _ wx _ => sktot1_any _ _ _ wx))
    rw [if_pos hE]
    rw [hE] at HL ⊢
    rw [show sumB (beginS b at_ - h.W) (·.tot) 0 (bs.map BkS.a) = totS h b at_ (bs.map BkS.a) from rfl] at HT
    generalize totS h b at_ (bs.map BkS.a) = E at *
    clear hs hb hE
    go_enter Try.func14, Try.ntmps14
    go_wp2_with (fail)
    refine HL.out.mono ?_
    rintro e wq ⟨rfl, hq⟩
    subst hq
    go_wp2_with (fail)
    refine HT.out.mono ?_
    rintro e wb ⟨rfl, hbb⟩
    have HBB := Lib.hid hbb
    clear hbb
    go_wp2_with (fail)
    go_ret2
    exact ⟨rfl, HBB.out⟩
  · rw [if_neg hE]
    generalize lookS last at_ = LE at *
    have hne : (LE != 0) = true := by simpa using hE
    clear hs hb
    go_enter Try.func14, Try.ntmps14
    go_wp2_with (fail)
    refine HL.out.mono ?_
    rintro e wq ⟨rfl, hq⟩
    subst hq
    go_wp2_with (fail)
    go_ret2
    exact ⟨rfl, Below.refl _ _⟩

set_option maxHeartbeats 800000 in
theorem skLast_any {w : World} {s : Nat} {h : ShapeS} {last : Int} {v : Value} {bs : List BkS} (hs : SkAt w s h last v bs) :
    Calls Try.prog 15 #[.pointer (some ⟨s, 0, none⟩)] w fun e w' => e = .returned (.int .i64 last) ∧ w' = w := by
  obtain ⟨c0, c1, c2, c3, c4, c5, c6⟩ := hs.headCells
  clear hs
  go_enter Try.func15, Try.ntmps15
  go_wp2_with (fail)
  go_ret
  exact ⟨rfl, rfl⟩
set_option maxHeartbeats 800000 in
theorem skLast_nil (w : World) : Calls Try.prog 15 #[.pointer none] w fun e w' => e = .returned (.int .i64 0) ∧ w' = w := by
  go_enter Try.func15, Try.ntmps15
  go_wp2_with (fail)
  go_ret
  exact ⟨rfl, rfl⟩
end Go.Proofs.Ytogdnacambjhpaa
