import Derived.WalkKit
import Derived.WalkSpells
import Derived.WalkLawsBesides
import Derived.BigQuiet
import Derived.Deep.QuietTactic
import Derived.Deep.DeepCutAuto
import Derived.Deep.CutBlock
import Derived.Lib.Hide
import Derived.Below
import Derived.DeepKeys4
import Derived.IntWalk
import Derived.Test.YtemlafbkkaloiaaGreatGGGMap
import Derived.Test.YtemlafbkkaloiaaGreatShelf
set_option linter.unusedVariables false
set_option linter.unusedSimpArgs false
namespace Go.Proofs.YtemlafbkkaloiaaGreat
open Go.RowKit
/-! ### the map's keys -/
theorem laidOutS : laidOutB Tryz.prog = true := by kernel_rfl
theorem rowCell : (141 : TypeId) < Tryz.prog.types.size := of_decide_eq_true (by kernel_rfl)
theorem wideCell : (match Tryz.prog.underlying 141 with | some (.array _ _) | some (.struct _) => true | _ => false) = true := by rw [Tryz.underlying141]
set_option maxRecDepth 100000 in
theorem cellKeyed : Maps.Keyed Tryz.prog 141 := Maps.Keyed.of_law (deep_law_laid laidOutS (m := 2) (by omega) rowCell (by kernel_rfl) wideCell)
def cellV (r c : Int) : Value := .agg #[.int .i64 r, .int .i64 c]
theorem cellsOfCell : Tryz.prog.cellsOf 141 = 2 := by kernel_rfl
theorem cellsOfInt : Tryz.prog.cellsOf 3 = 1 := by kernel_rfl
theorem keyTypeCell : Tryz.prog.keyType 141 = true := by kernel_rfl
theorem typesS : ∃ m, Tryz.prog.types.size + 1 = m + 2 := by
  have h : 0 < Tryz.prog.types.size := Nat.lt_of_le_of_lt (Nat.zero_le _) rowCell
  exact ⟨Tryz.prog.types.size - 1, by omega⟩
theorem keyOf_cell {r c : Int} (wr : (Lit.int .i64 r).wf = true) (wc : (Lit.int .i64 c).wf = true) : ∃ kl, keyOf Tryz.prog 141 (cellV r c) = some kl := by
  have hu := Tryz.underlying141
  have hi := Tryz.underlying3
  have hf : Value.formed Tryz.prog 141 (cellV r c) = true := by simp [cellV, Value.formed, hu, cellsOfCell]
  obtain ⟨m, hm⟩ := typesS
  unfold keyOf
  rw [hu]
  simp only [keyTypeCell, hf, Bool.and_self, if_true]
  rw [hm]
  simp [cellV, Value.cells, Program.keyLits, hu, hi, cellsOfCell, cellsOfInt, wr, wc]
set_option maxHeartbeats 800000 in
theorem skplus_any (a b : Int) (a0 : 0 ≤ a) (a1 : a ≤ 4611686018427387904) (b0 : 0 ≤ b) (b1 : b ≤ 4611686018427387904) (w : World) :
    Calls Tryz.prog 80 #[.int .i64 a, .int .i64 b] w fun e w' => e = .returned (.int .i64 (plusS a b)) ∧ w' = w := by
  by_cases h : 4611686018427387904 - b < a
  · go_enter Tryz.func80, Tryz.ntmps80
    go_wp2_with (fail)
    go_ret
    exact ⟨by unfold plusS; rw [if_pos h]; rfl, rfl⟩
  · go_enter Tryz.func80, Tryz.ntmps80
    go_wp2_with (fail)
    go_ret
    exact ⟨by unfold plusS; rw [if_neg (by omega)]; rfl, rfl⟩
def lookS (last at_ : Int) : Int := if at_ < 0 ∨ 1152921504606846976 < at_ then 2 else if at_ < last then 7 else 0
set_option maxHeartbeats 1600000 in
theorem sklook_any (s : Nat) (last at_ : Int) (w : World) (hc : w.cell? ⟨s, 6, none⟩ = some (.int .i64 last)) :
    Calls Tryz.prog 76 #[.pointer (some ⟨s, 0, none⟩), .int .i64 at_] w fun e w' => e = .returned (.int .i64 (lookS last at_)) ∧ w' = w := by
  by_cases h1 : at_ < 0
  · go_enter Tryz.func76, Tryz.ntmps76
    go_wp2_with (fail)
    go_ret
    exact ⟨by unfold lookS; rw [if_pos (Or.inl h1)]; rfl, rfl⟩
  · by_cases h2 : 1152921504606846976 < at_
    · go_enter Tryz.func76, Tryz.ntmps76
      go_wp2_with (fail)
      go_ret
      exact ⟨by unfold lookS; rw [if_pos (Or.inr h2)]; rfl, rfl⟩
    · by_cases h3 : at_ < last
      · go_enter Tryz.func76, Tryz.ntmps76
        go_wp2_with (fail)
        go_ret
        exact ⟨by unfold lookS; rw [if_neg (by omega), if_pos h3]; rfl, rfl⟩
      · go_enter Tryz.func76, Tryz.ntmps76
        go_wp2_with (fail)
        go_ret
        exact ⟨by unfold lookS; rw [if_neg (by omega), if_neg (by omega)]; rfl, rfl⟩
structure ShapeS where
  W : Int
  B : Int
  R : Int
  C : Int
  seed : Int
def ShapeS.c (h : ShapeS) : Array Value := #[.int .i64 h.W, .int .i64 h.B, .int .i64 h.R, .int .i64 h.C, .int .u64 h.seed]
structure ShapeOk (h : ShapeS) (b : Int) : Prop where
  W1 : 1 ≤ h.W
  W2 : h.W ≤ 1099511627776
  B1 : 1 ≤ h.B
  B2 : h.B ≤ 60
  R1 : 1 ≤ h.R
  R2 : h.R ≤ 8
  C1 : 1 ≤ h.C
  C2 : h.C ≤ 4096
  bW : h.W = b * h.B
  b1 : 1 ≤ b
  s0 : 0 ≤ h.seed
  s1 : h.seed ≤ 18446744073709551615
theorem ShapeOk.div {h : ShapeS} {b : Int} (k : ShapeOk h b) : h.W.tdiv h.B = b := by
  rw [k.bW]; exact Int.mul_tdiv_cancel _ (by have := k.B1; omega)
theorem ShapeOk.bW' {h : ShapeS} {b : Int} (k : ShapeOk h b) : b ≤ h.W := by
  rw [k.bW]
  have := Int.mul_le_mul_of_nonneg_left k.B1 (show 0 ≤ b by have := k.b1; omega)
  omega
set_option maxHeartbeats 1600000 in
theorem skbegin_any (h : ShapeS) (b at_ : Int) (hb : ShapeOk h b) (a0 : 0 ≤ at_) (a1 : at_ ≤ 9223372036854775807) (w : World) :
    Calls Tryz.prog 77 #[.agg h.c, .int .i64 at_] w fun e w' => e = .returned (.int .i64 (beginS b at_)) ∧ Below w.heap.size w w' := by
  have hdiv := hb.div
  have hb1 := hb.b1
  have hb2 : b ≤ 1099511627776 := by have := hb.bW'; have := hb.W2; omega
  have hm0 : 0 ≤ at_ % b := Int.emod_nonneg _ (by omega)
  have hm1 : at_ % b ≤ at_ := by have := Int.mul_ediv_add_emod at_ b; have := Int.mul_nonneg (show 0 ≤ b by omega) (Int.ediv_nonneg a0 (show 0 ≤ b by omega)); omega
  obtain ⟨M, hM⟩ : ∃ M, at_ % b = M := ⟨_, rfl⟩
  rw [hM] at hm0 hm1
  have hB := Lib.hid (show beginS b at_ = at_ - M by unfold beginS; rw [hM])
  obtain ⟨W1, W2, B1, B2, R1, R2, C1, C2, bW, _, _, _⟩ := hb
  obtain ⟨W, B, R, C, seed⟩ := h
  unfold ShapeS.c
  dsimp only at *
  clear bW
  go_enter Tryz.func77, Tryz.ntmps77
  go_wp2_with (fail)
  go_ret
  exact ⟨by rw [hB.out]; rfl, (Below.refl _ _).alloc (Nat.le_refl _) _⟩
end Go.Proofs.YtemlafbkkaloiaaGreat
namespace Go.Proofs.YtemlafbkkaloiaaGreat
open Go.RowKit
theorem u64_bd (x : Int) : 0 ≤ IntKind.u64.wrap x ∧ IntKind.u64.wrap x ≤ 18446744073709551615 := by
  rw [IntKind.wrap_u64]; omega
def xorU (a b : Int) : Int := bits BinOp.xor IntKind.u64 a b
theorem xorU_bd (a b : Int) : 0 ≤ xorU a b ∧ xorU a b ≤ 18446744073709551615 := u64_bd _
def hashF (H : Int) (c : UInt8) : Int := IntKind.u64.wrap (xorU H (c.toNat : Int) * 1099511628211)
def hashL (l : List UInt8) : Int := l.foldl hashF 14695981039346656037
def hashS (s : ByteArray) : Int := hashL s.data.toList
theorem hashL_snoc (l : List UInt8) (c : UInt8) : hashL (l ++ [c]) = hashF (hashL l) c := by simp [hashL, List.foldl_append]
theorem hashL_bd : ∀ (l : List UInt8) {H : Int}, 0 ≤ H → H ≤ 18446744073709551615 → 0 ≤ l.foldl hashF H ∧ l.foldl hashF H ≤ 18446744073709551615
  | [], H, h0, h1 => ⟨h0, h1⟩
  | c :: l, H, h0, h1 => by
    have := u64_bd (xorU H (c.toNat : Int) * 1099511628211)
    exact hashL_bd l this.1 this.2
theorem hashS_bd (s : ByteArray) : 0 ≤ hashS s ∧ hashS s ≤ 18446744073709551615 := hashL_bd _ (by omega) (by omega)
theorem takeS_snoc (s : ByteArray) (k : Nat) (h : k < s.size) : s.data.toList.take (k + 1) = s.data.toList.take k ++ [s[k]] := by
  rw [List.take_succ_eq_append_getElem (by simpa using h)]; rfl
set_option maxHeartbeats 1600000 in
theorem skhash_any (s : ByteArray) (hs : s.size ≤ maxLen) (w : World) : Calls Tryz.prog 104 #[.string s] w fun e w' => e = .returned (.int .u64 (hashS s)) ∧ w' = w := by
  have hsz : (s.size : Int) ≤ 9223372036854775807 := by simp only [maxLen] at hs; omega
  go_enter Tryz.func104, Tryz.ntmps104
  go_wp2_with (fail)
  go_loop [3, 4, 7] (fun h x i => ∃ (k : Nat) (H : Int), k ≤ s.size ∧ i = .int .i64 k ∧ h = .int .u64 H ∧ 0 ≤ H ∧ H ≤ 18446744073709551615 ∧ Hid (H = hashL (s.data.toList.take k))) (fun _ _ i => s.size - (intOf i).toNat)
  case atStart => exact ⟨0, _, Nat.zero_le _, rfl, rfl, by omega, by omega, rfl⟩
  case round =>
    obtain ⟨k, H, hk, rfl, rfl, h0, h1, HH⟩ := hrel
    by_cases hlt : k < s.size
    · have k0 : (0 : Int) ≤ k := by omega
      have k1 : (k : Int) < s.size := by omega
      have hs1 := Lib.hid (hashL_snoc (s.data.toList.take k) s[k])
      have hs2 := Lib.hid (takeS_snoc s k hlt)
      go_wp2_with (fail)
      have hc : IntKind.u64.wrap (s[k].toNat : Int) = (s[k].toNat : Int) := IntWalk.u64_in _ (by have := s[k].toNat_lt; omega)
      rw [hc]
      have hb := u64_bd (bits BinOp.xor IntKind.u64 H (s[k].toNat : Int) * 1099511628211)
      exact ⟨⟨k + 1, _, by omega, by go_num, rfl, hb.1, hb.2, by
        show _ = _
        rw [hs2.out, hs1.out, ← HH.out]; rfl⟩, by first | (simp [intOf]; done) | (simp [intOf]; omega)⟩
    · go_wp2_with (fail)
      go_ret
      refine ⟨?_, rfl⟩
      have := HH.out
      rw [List.take_of_length_le (by have : s.data.toList.length = s.size := rfl; omega)] at this
      rw [show hashS s = H from this.symm]; rfl
def mixU (x : Int) : Int :=
  xorU (IntKind.u64.wrap (xorU (IntKind.u64.wrap (xorU x (x / 1073741824) * 13787848793156543929)) (IntKind.u64.wrap (xorU x (x / 1073741824) * 13787848793156543929) / 134217728) * 10723151780598845931))
    (IntKind.u64.wrap (xorU (IntKind.u64.wrap (xorU x (x / 1073741824) * 13787848793156543929)) (IntKind.u64.wrap (xorU x (x / 1073741824) * 13787848793156543929) / 134217728) * 10723151780598845931) / 2147483648)
theorem mixU_bd (x : Int) : 0 ≤ mixU x ∧ mixU x ≤ 18446744073709551615 := xorU_bd _ _
set_option maxHeartbeats 1600000 in
theorem skmix_any (x : Int) (h0 : 0 ≤ x) (h1 : x ≤ 18446744073709551615) (w : World) : Calls Tryz.prog 103 #[.int .u64 x] w fun e w' => e = .returned (.int .u64 (mixU x)) ∧ w' = w := by
  have H : Hid (mixU x = _) := (rfl : mixU x = mixU x)
  go_enter Tryz.func103, Tryz.ntmps103
  go_wp2_with (fail)
  go_ret
  exact ⟨rfl, rfl⟩
def argU (seed row H : Int) : Int := IntKind.u64.wrap (IntKind.u64.wrap (H + seed) + IntKind.u64.wrap (11400714819323198485 * (row + 1)))
def colS (h : ShapeS) (row : Int) (key : ByteArray) : Int := mixU (argU h.seed row (hashS key)) % h.C
theorem colS_bd {h : ShapeS} {b : Int} (k : ShapeOk h b) (row : Int) (key : ByteArray) : 0 ≤ colS h row key ∧ colS h row key < h.C :=
  ⟨Int.emod_nonneg _ (by have := k.C1; omega), Int.emod_lt_of_pos _ (by have := k.C1; omega)⟩
end Go.Proofs.YtemlafbkkaloiaaGreat
namespace Go.Proofs.YtemlafbkkaloiaaGreat
open Go.RowKit
theorem below_drewS {n : Nat} {a w : World} (h : Below n a w) (q : Nat) : Below n a (w.drewN q) := ⟨h.os, h.tape, h.output, h.size, h.block⟩
set_option maxHeartbeats 1600000 in
theorem skcolumn_any (h : ShapeS) (b row : Int) (hb : ShapeOk h b) (r0 : 0 ≤ row) (r1 : row ≤ 64) (key : ByteArray) (hk : key.size ≤ maxLen) (w : World) :
    Calls Tryz.prog 81 #[.agg h.c, .int .i64 row, .string key] w fun e w' => e = .returned (.int .i64 (colS h row key)) ∧ Below w.heap.size w w' := by
  obtain ⟨c0, c1⟩ := colS_bd hb row key
  obtain ⟨C, hC⟩ : ∃ C, colS h row key = C := ⟨_, rfl⟩
  rw [hC] at c0 c1 ⊢
  unfold colS at hC
  have hh := hashS_bd key
  have HH := Lib.hid (fun wx => skhash_any key hk wx)
  obtain ⟨X, hX⟩ : ∃ X, argU h.seed row (hashS key) = X := ⟨_, rfl⟩
  have hx := u64_bd (IntKind.u64.wrap (hashS key + h.seed) + IntKind.u64.wrap (11400714819323198485 * (row + 1)))
  rw [show IntKind.u64.wrap (IntKind.u64.wrap (hashS key + h.seed) + IntKind.u64.wrap (11400714819323198485 * (row + 1))) = X from hX] at hx
  rw [hX] at hC
  have HM := Lib.hid (fun wx => skmix_any X hx.1 hx.2 wx)
  have hm := mixU_bd X
  unfold argU at hX
  obtain ⟨W1, W2, B1, B2, R1, R2, C1, C2, bW, b1, s0, s1⟩ := hb
  obtain ⟨W, B, R, CC, seed⟩ := h
  unfold ShapeS.c
  dsimp only at *
  generalize hashS key = H at *
  generalize mixU X = M at *
  have e1 : IntKind.i64.wrap (row + 1) = row + 1 := IntWalk.i64_in _ (by omega)
  have e2 : IntKind.u64.wrap CC = CC := IntWalk.u64_in _ (by omega)
  have e3 : M.tmod CC = M % CC := Int.tmod_eq_emod_of_nonneg hm.1
  have e4 : IntKind.i64.wrap C = C := IntWalk.i64_in _ (by omega)
  have e5 : IntKind.u64.wrap C = C := IntWalk.u64_in _ (by omega)
  have hne : (CC == 0) = false := by rw [beq_eq_false_iff_ne]; omega
  clear bW b1 s0 s1 W1 W2 B1 B2 R1 R2 hk
  go_enter Tryz.func81, Tryz.ntmps81
  go_wp2_with (fail)
  go_quiet (first | (go_at_call 104; exact Calls.quiet_of_same (HH.out _)) | (go_at_call 103; exact Calls.quiet_of_same (HM.out _)))
  go_wp2_with (fail)
  go_ret
  exact ⟨rfl, below_drewS ((Below.refl _ _).alloc (Nat.le_refl _) _) _⟩
end Go.Proofs.YtemlafbkkaloiaaGreat
