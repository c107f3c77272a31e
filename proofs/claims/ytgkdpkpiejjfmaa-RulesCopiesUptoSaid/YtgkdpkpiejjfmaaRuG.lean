/- rules: the first rule that is wrong. -/
import Derived.Test.YtgkdpkpiejjfmaaRuF
import Derived.Laws.EntriesVeiled
namespace Go.Proofs.Ytgkdpkpiejjfmaa
open Go.RowKit
set_option linter.unusedVariables false
set_option linter.unusedSimpArgs false

/-- The rules of a kind: the closure that tells a rule's error, and what it tells. -/
structure GroupS where
  kind : Int
  n : Nat
  id : FuncId
  cap : Nat
  err : Nat → Int
def errIn (g : GroupS) : Option Nat := (List.range g.n).find? fun i => g.err i != 0
def whereFrom : List GroupS → Int × Int × Int
  | [] => (0, 0, 0)
  | g :: gs => match errIn g with
    | some i => (g.kind, (i : Int), g.err i)
    | none => whereFrom gs
def whereR (gs : List GroupS) : Int × Int × Int :=
  match gs.find? (fun g => decide (256 < g.n)) with
  | some g => (g.kind, 0, 5)
  | none => whereFrom gs
def tri (x : Int × Int × Int) : Value := .tuple #[.int .u8 x.1, .int .i64 x.2.1, .int .i64 x.2.2]

theorem find_none_take {p : GroupS → Bool} {gs : List GroupS} {k : Nat} (hk : k < gs.length) (h : (gs.take k).find? p = none) : (gs.take (k + 1)).find? p = (if p (gs[k]'hk) then some (gs[k]'hk) else none) := by
  rw [List.take_add_one, List.find?_append, h, List.getElem?_eq_getElem hk, Option.toList_some, Option.none_or]
  simp [List.find?]
  split <;> simp_all
theorem find_take_some {p : GroupS → Bool} {gs : List GroupS} {k : Nat} {g : GroupS} (h : (gs.take k).find? p = some g) : gs.find? p = some g := by
  rw [← List.take_append_drop k gs, List.find?_append, h, Option.some_or]
theorem whereFrom_drop {gs : List GroupS} {k : Nat} (hk : k < gs.length) : whereFrom (gs.drop k) = match errIn (gs[k]'hk) with
    | some i => ((gs[k]'hk).kind, (i : Int), (gs[k]'hk).err i)
    | none => whereFrom (gs.drop (k + 1)) := by
  rw [List.drop_eq_getElem_cons hk, whereFrom]
theorem errIn_some {g : GroupS} {i : Nat} (hi : i < g.n) (h0 : ∀ j, j < i → g.err j = 0) (h1 : g.err i ≠ 0) : errIn g = some i := by
  unfold errIn
  rw [List.find?_range_eq_some]
  exact ⟨by simpa using h1, by simpa using hi, fun j hj => by simp [h0 j hj]⟩
theorem errIn_none {g : GroupS} (h0 : ∀ j, j < g.n → g.err j = 0) : errIn g = none := by
  unfold errIn
  rw [List.find?_eq_none]
  intro x hx
  simp [h0 x (List.mem_range.1 hx)]

theorem groups_any (a0 a1 a2 a3 a4 : Option Addr) (n0 n1 n2 n3 n4 c0 c1 c2 c3 c4 : Nat) (w : World) :
    Calls Try.prog 32 #[.agg #[.slice a0 n0 c0, .slice a1 n1 c1, .slice a2 n2 c2, .slice a3 n3 c3, .slice a4 n4 c4]] w fun e w' => e = .returned (.slice (some ⟨w.heap.size + 1, 0, none⟩) 5 5) ∧
      w' = (w.alloc (.cells #[.slice a0 n0 c0, .slice a1 n1 c1, .slice a2 n2 c2, .slice a3 n3 c3, .slice a4 n4 c4] 28)).alloc (.cells #[.int .u8 1, .int .i64 n0, fnV 46 #[pv w.heap.size], .int .u8 2, .int .i64 n1, fnV 47 #[pv w.heap.size], .int .u8 3, .int .i64 n2, fnV 49 #[pv w.heap.size], .int .u8 4, .int .i64 n3, fnV 51 #[pv w.heap.size], .int .u8 5, .int .i64 n4, fnV 53 #[pv w.heap.size]] 76) := by
  go_enter Try.func32, Try.ntmps32
  go_wp2_with (fail)
  go_ret
  exact ⟨rfl, rfl⟩

set_option maxHeartbeats 6400000 in
set_option maxRecDepth 100000 in
theorem where_any {w W : World} (a0 a1 a2 a3 a4 : Option Addr) (n0 n1 n2 n3 n4 c0 c1 c2 c3 c4 : Nat) (gs : List GroupS) (g : Nat)
    (hW : Calls Try.prog 32 #[.agg #[.slice a0 n0 c0, .slice a1 n1 c1, .slice a2 n2 c2, .slice a3 n3 c3, .slice a4 n4 c4]] (w.alloc (.cells #[.slice a0 n0 c0, .slice a1 n1 c1, .slice a2 n2 c2, .slice a3 n3 c3, .slice a4 n4 c4] 28)) fun e w' => e = .returned (.slice (some ⟨g, 0, none⟩) 5 5) ∧ w' = W)
    (hb : Below w.heap.size w W) (hn : gs.length = 5) (hg : g < W.heap.size) (hsm : ∀ k (hk : k < gs.length), (gs[k]'hk).n ≤ 9223372036854775807)
    (hc : ∀ k (hk : k < gs.length), W.cell? ⟨g, k * 3, none⟩ = some (.int .u8 (gs[k]'hk).kind) ∧ W.cell? ⟨g, k * 3 + 1, none⟩ = some (.int .i64 (gs[k]'hk).n) ∧ W.cell? ⟨g, k * 3 + 2, none⟩ = some (.func (.func (gs[k]'hk).id) #[] #[.pointer (some ⟨(gs[k]'hk).cap, 0, none⟩)]))
    (he : ∀ k (hk : k < gs.length), ∀ (i : Int) wx, (callFunc (gs[k]'hk).id #[.int .i64 i, .pointer (some ⟨(gs[k]'hk).cap, 0, none⟩)]).run Try.prog wx = .ok (.enter (gs[k]'hk).id #[.int .i64 i, .pointer (some ⟨(gs[k]'hk).cap, 0, none⟩)]) wx)
    (hf : ∀ k (hk : k < gs.length), ∀ i, i < (gs[k]'hk).n → ∀ wx, Below W.heap.size W wx → Calls Try.prog (gs[k]'hk).id #[.int .i64 i, .pointer (some ⟨(gs[k]'hk).cap, 0, none⟩)] wx fun e w' => e = .returned (.int .i64 ((gs[k]'hk).err i)) ∧ Below wx.heap.size wx w') :
    Calls Try.prog 16 #[.agg #[.slice a0 n0 c0, .slice a1 n1 c1, .slice a2 n2 c2, .slice a3 n3 c3, .slice a4 n4 c4]] w fun e w' => e = .returned (tri (whereR gs)) ∧ Below w.heap.size w w' := by
  have HW := Lib.hid hW
  have HB := Lib.hid hb
  have HC := Lib.hid hc
  have HF := Lib.hid hf
  have HEN := Lib.hid he
  have HN := Lib.hid hn
  have HSM := Lib.hid hsm
  clear hW hb hc hf he hn hsm
  go_enter Try.func16, Try.ntmps16
  go_wp2_with (fail)
  refine HW.out.mono ?_
  rintro e w1 ⟨rfl, rfl⟩
  clear HW
  go_wp2_with (fail)
  go_loopw [7, 16] (fun x i wr => ∃ k : Nat, k ≤ 5 ∧ i = .int .i64 k ∧ Hid ((gs.take k).find? (fun g => decide (256 < g.n)) = none) ∧ Hid (Below w1.heap.size w1 wr)) (fun _ i _ => 5 - (intOf i).toNat)
  case atStart => exact ⟨0, Nat.zero_le _, rfl, rfl, Below.refl _ _⟩
  case round =>
    obtain ⟨k, hk, rfl, HA, HBR⟩ := hrel
    have hB1 := HBR.out
    have hB1z := hB1.size
    by_cases hlt : k < 5
    · have hkl : k < gs.length := by rw [HN.out]; exact hlt
      obtain ⟨d0, d1, d2⟩ := HC.out k hkl
      have d0 := (hB1.cell (p := ⟨g, k * 3, none⟩) hg).trans d0
      have d1 := (hB1.cell (p := ⟨g, k * 3 + 1, none⟩) hg).trans d1
      have d2 := (hB1.cell (p := ⟨g, k * 3 + 2, none⟩) hg).trans d2
      have hft := Lib.hid (find_none_take hkl HA.out)
      have hsm := HSM.out k hkl
      have HFT := Lib.hid (find_take_some (p := fun g => decide (256 < g.n)) (gs := gs) (k := k + 1) (g := gs[k]'hkl))
      generalize gs[k]'hkl = G at d0 d1 d2 hft HFT hsm
      obtain ⟨kind, n, id, cap, err⟩ := G
      dsimp only at d0 d1 d2 hft HFT hsm
      have k0 : (0 : Int) ≤ k := by omega
      have k1 : (k : Int) < 5 := by omega
      have hb2 : Below w1.heap.size w1 (wr.alloc (.cells #[.int .u8 kind, .int .i64 n, .func (.func id) #[] #[.pointer (some ⟨cap, 0, none⟩)]] 76)) := hB1.alloc hB1z _
      have HB2 := Lib.hid hb2
      clear hb2 hB1
      by_cases h256 : 256 < n
      · have i256 : ¬ (n : Int) ≤ 256 := by omega
        have hfind := Lib.hid (HFT.out (by have := hft.out; rw [if_pos (by simpa using h256)] at this; exact this))
        clear hft HFT
        go_wp2_with (fail)
        go_ret3
        exact ⟨by unfold whereR; rw [hfind.out]; rfl, HB.out.trans (HB2.out.mono HB.out.size)⟩
      · have i256 : (n : Int) ≤ 256 := by omega
        have hA2 : Hid ((gs.take (k + 1)).find? (fun g => decide (256 < g.n)) = none) := by
          have := hft.out
          rw [if_neg (by simpa using h256)] at this
          exact this
        clear hft HFT
        go_wp2_with (fail)
        exact ⟨⟨k + 1, by omega, by go_num, hA2, HB2⟩, by first | (simp [intOf]; done) | (simp [intOf]; omega)⟩
    · have k5 : ¬ (k : Int) < 5 := by omega
      have hnone : Hid (gs.find? (fun g => decide (256 < g.n)) = none) := by
        have := HA.out
        rw [List.take_of_length_le (by rw [HN.out]; omega)] at this
        exact this
      clear HA hB1
      go_wp2_with (fail)
      have hwr := Lib.hid hnone.out
      clear hnone
      have HBRR := HBR
      clear HBR
      rename World => w9
      go_loopw [9, 10, 11, 28] (fun x x10 x11 i wy => ∃ k : Nat, k ≤ 5 ∧ i = .int .i64 k ∧ Hid (whereFrom gs = whereFrom (gs.drop k)) ∧ Hid (Below w1.heap.size w1 wy)) (fun _ _ _ i _ => 5 - (intOf i).toNat)
      case atStart => exact ⟨0, Nat.zero_le _, rfl, rfl, HBRR.out⟩
      case round =>
        rename World => wy
        obtain ⟨k, hk, rfl, HA, HBR⟩ := hrel
        have hB1 := HBR.out
        have hB1z := hB1.size
        by_cases hlt : k < 5
        · have hkl : k < gs.length := by rw [HN.out]; exact hlt
          obtain ⟨d0, d1, d2⟩ := HC.out k hkl
          have d0 := (hB1.cell (p := ⟨g, k * 3, none⟩) hg).trans d0
          have d1 := (hB1.cell (p := ⟨g, k * 3 + 1, none⟩) hg).trans d1
          have d2 := (hB1.cell (p := ⟨g, k * 3 + 2, none⟩) hg).trans d2
          have HD := Lib.hid (HA.out.trans (whereFrom_drop hkl))
          have HX := Lib.hid (HF.out k hkl)
          have hen := HEN.out k hkl
          have hsm := HSM.out k hkl
          have HS := Lib.hid (fun i (hi : i < (gs[k]'hkl).n) => errIn_some (g := gs[k]'hkl) (i := i) hi)
          have HNO := Lib.hid (errIn_none (g := gs[k]'hkl))
          generalize gs[k]'hkl = G at d0 d1 d2 HD HX hen hsm HS HNO
          obtain ⟨kind, n, id, cap, err⟩ := G
          dsimp only at d0 d1 d2 HD HX hen hsm HS HNO
          have k0 : (0 : Int) ≤ k := by omega
          have k1 : (k : Int) < 5 := by omega
          have hb2 : Below w1.heap.size w1 (wy.alloc (.cells #[.int .u8 kind, .int .i64 n, .func (.func id) #[] #[.pointer (some ⟨cap, 0, none⟩)]] 76)) := hB1.alloc hB1z _
          have HB2 := Lib.hid hb2
          have hz : (wy.alloc (.cells #[.int .u8 kind, .int .i64 n, .func (.func id) #[] #[.pointer (some ⟨cap, 0, none⟩)]] 76)).heap[wy.heap.size]? = some (.cells #[.int .u8 kind, .int .i64 n, .func (.func id) #[] #[.pointer (some ⟨cap, 0, none⟩)]] 76) := by rw [get_alloc, if_pos rfl]
          have c0' : (wy.alloc (.cells #[.int .u8 kind, .int .i64 n, .func (.func id) #[] #[.pointer (some ⟨cap, 0, none⟩)]] 76)).cell? ⟨wy.heap.size, 0, none⟩ = some (.int .u8 kind) := by simp only [World.cell?, hz]; rfl
          have c2' : (wy.alloc (.cells #[.int .u8 kind, .int .i64 n, .func (.func id) #[] #[.pointer (some ⟨cap, 0, none⟩)]] 76)).cell? ⟨wy.heap.size, 2, none⟩ = some (.func (.func id) #[] #[.pointer (some ⟨cap, 0, none⟩)]) := by simp only [World.cell?, hz]; rfl
          have C0 := Lib.hid c0'
          have C2 := Lib.hid c2'
          clear hb2 hB1 hz c0' c2'
          go_wp2_with (fail)
          go_loopw [10, 11, 34] (fun x y i wz => ∃ m : Nat, m ≤ n ∧ i = .int .i64 m ∧ Hid (∀ j, j < m → err j = 0) ∧ Hid (Below (wy.heap.size + 1) (wy.alloc (.cells #[.int .u8 kind, .int .i64 n, .func (.func id) #[] #[.pointer (some ⟨cap, 0, none⟩)]] 76)) wz)) (fun _ _ i _ => n - (intOf i).toNat)
          case atStart => exact ⟨0, Nat.zero_le _, rfl, fun j hj => absurd hj (Nat.not_lt_zero _), Below.refl _ _⟩
          case round =>
            rename World => wz
            obtain ⟨m, hm, rfl, HZ, HBZ⟩ := hrel
            have hbz := HBZ.out
            have hbzz : wy.heap.size + 1 ≤ wz.heap.size := by have := hbz.size; simpa using this
            have e0 := (hbz.cell (p := ⟨wy.heap.size, 0, none⟩) (Nat.lt_succ_self _)).trans C0.out
            have e2 := (hbz.cell (p := ⟨wy.heap.size, 2, none⟩) (Nat.lt_succ_self _)).trans C2.out
            have hall : Below w1.heap.size w1 wz := HB2.out.trans (hbz.mono (by omega))
            have m0 : (0 : Int) ≤ m := by omega
            by_cases hlt2 : m < n
            · have m1 : (m : Int) < n := by omega
              have HX2 := Lib.hid (HX.out m hlt2 wz hall)
              have hen2 := hen m wz
              have HAL := Lib.hid hall
              have hone := Lib.hid (HS.out m hlt2 HZ.out)
              have hzz : Hid (err m = 0 → ∀ j, j < m + 1 → err j = 0) := fun h j hj => by
                by_cases e : j = m
                · rw [e]; exact h
                · exact HZ.out j (by omega)
              have HW2 : Hid (∀ w2, Below wz.heap.size wz w2 → Below (wy.heap.size + 1) (wy.alloc (.cells #[.int .u8 kind, .int .i64 n, .func (.func id) #[] #[.pointer (some ⟨cap, 0, none⟩)]] 76)) w2) := fun w2 h => HBZ.out.trans (h.mono (by omega))
              generalize he : err m = E at HX2 hone hzz
              have HE := Lib.hid he
              clear hbz hall he hen HZ
              by_cases hE : E = 0
              · subst hE
                go_wp2_with (fail)
                refine HX2.out.mono ?_
                rintro e w2 ⟨rfl, hb3⟩
                have HB3 := Lib.hid (HW2.out w2 hb3)
                clear hb3
                go_wp2_with (fail)
                go_roundw
                case rel => exact ⟨m + 1, by omega, by go_num, hzz.out trivial, HB3⟩
                case measure => simp [intOf]; omega
              · have hEne : (E != 0) = true := by simpa using hE
                go_wp2_with (fail)
                refine HX2.out.mono ?_
                rintro e w2 ⟨rfl, hb3⟩
                have hb4 := HW2.out w2 hb3
                have e0 := (hb4.cell (p := ⟨wy.heap.size, 0, none⟩) (Nat.lt_succ_self _)).trans C0.out
                have HB3 := Lib.hid hb4
                clear hb3 hb4
                go_wp2_with (fail)
                go_ret3
                refine ⟨?_, HB.out.trans ((HB2.out.trans (HB3.out.mono (by omega))).mono HB.out.size)⟩
                have h1 := HD.out
                rw [hone.out hE] at h1
                simp only at h1
                unfold whereR
                rw [hwr.out]
                simp only [h1, HE.out]
                rfl
            · have hmn : m = n := by omega
              subst hmn
              have hno := HNO.out HZ.out
              have hA2 : Hid (whereFrom gs = whereFrom (gs.drop (k + 1))) := by
                have h1 := HD.out
                rw [hno] at h1
                exact h1
              have HB4 := Lib.hid hall
              clear hall hbz hno HZ
              go_wp2_with (fail)
              exact ⟨⟨k + 1, by omega, by go_num, hA2, HB4⟩, by first | (simp [intOf]; done) | (simp [intOf]; omega)⟩
        · have k6 : ¬ (k : Int) < 5 := by omega
          have hend : Hid (whereFrom gs = (0, 0, 0)) := by
            have := HA.out
            rw [List.drop_eq_nil_of_le (by rw [HN.out]; omega)] at this
            exact this
          clear HA hB1
          go_wp2_with (fail)
          go_ret3
          refine ⟨?_, HB.out.trans (HBR.out.mono HB.out.size)⟩
          unfold whereR
          rw [hwr.out]
          simp only [hend.out]
          rfl
end Go.Proofs.Ytgkdpkpiejjfmaa
