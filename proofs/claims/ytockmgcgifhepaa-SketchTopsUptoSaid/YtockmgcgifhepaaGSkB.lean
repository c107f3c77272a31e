/- Texts of one chain, one behind the other: SkB, SkB2. -/
import Derived.Test.YtockmgcgifhepaaGSkA

/- sketch: a key's hash, its column. -/
namespace Go.Proofs.Ytockmgcgifhepaa
open Go.RowKit
set_option linter.unusedVariables false
set_option linter.unusedSimpArgs false

theorem u64_bd (x : Int) : 0 ≤ IntKind.u64.wrap x ∧ IntKind.u64.wrap x ≤ 18446744073709551615 := by
  rw [IntKind.wrap_u64]; omega
def xorU (a b : Int) : Int := bits BinOp.xor IntKind.u64 a b
theorem xorU_bd (a b : Int) : 0 ≤ xorU a b ∧ xorU a b ≤ 18446744073709551615 := u64_bd _
def hashF (H : Int) (c : UInt8) : Int := IntKind.u64.wrap (xorU H (c.toNat : Int) * 1099511628211)
def hashL (l : List UInt8) : Int := l.foldl hashF 14695981039346656037
def hashS (s : ByteArray) : Int := hashL s.data.toList
theorem hashL_snoc (l : List UInt8) (c : UInt8) : hashL (l ++ [c]) = hashF (hashL l) c := by simp [hashL, List.foldl_append]
theorem hashL_bd : ∀ (l : List UInt8) {H : Int}, 0 ≤ H → H ≤ 18446744073709551615 → 0 ≤ l.foldl hashF H ∧ l.foldl hashF H ≤ 18446744073709551615
  | [], H, h0, h1 => ⟨h0, h1⟩
  | c :: l, H, h0, h1 => by
    have := u64_bd (xorU H (c.toNat : Int) * 1099511628211)
    exact hashL_bd l this.1 this.2
theorem hashS_bd (s : ByteArray) : 0 ≤ hashS s ∧ hashS s ≤ 18446744073709551615 := hashL_bd _ (by omega) (by omega)
theorem takeS_snoc (s : ByteArray) (k : Nat) (h : k < s.size) : s.data.toList.take (k + 1) = s.data.toList.take k ++ [s[k]] := by
  rw [List.take_succ_eq_append_getElem (by simpa using h)]; rfl

set_option maxHeartbeats 1600000 in
theorem skhash_any (s : ByteArray) (hs : s.size ≤ maxLen) (w : World) : Calls Try.prog 15 #[.string s] w fun e w' => e = .returned (.int .u64 (hashS s)) ∧ w' = w := by
  have hsz : (s.size : Int) ≤ 9223372036854775807 := by simp only [maxLen] at hs; omega
  go_enter Try.func15, Try.ntmps15
  go_wp2_with (fail)
  go_loop [3, 4, 7] (fun h x i => ∃ (k : Nat) (H : Int), k ≤ s.size ∧ i = .int .i64 k ∧ h = .int .u64 H ∧ 0 ≤ H ∧ H ≤ 18446744073709551615 ∧ Hid (H = hashL (s.data.toList.take k))) (fun _ _ i => s.size - (intOf i).toNat)
  case atStart => exact ⟨0, _, Nat.zero_le _, rfl, rfl, by omega, by omega, rfl⟩
  case round =>
    obtain ⟨k, H, hk, rfl, rfl, h0, h1, HH⟩ := hrel
    by_cases hlt : k < s.size
    · have k0 : (0 : Int) ≤ k := by omega
      have k1 : (k : Int) < s.size := by omega
      have hs1 := Lib.hid (hashL_snoc (s.data.toList.take k) s[k])
      have hs2 := Lib.hid (takeS_snoc s k hlt)
      go_wp2_with (fail)
      have hc : IntKind.u64.wrap (s[k].toNat : Int) = (s[k].toNat : Int) := IntWalk.u64_in _ (by have := s[k].toNat_lt; omega)
      rw [hc]
      have hb := u64_bd (bits BinOp.xor IntKind.u64 H (s[k].toNat : Int) * 1099511628211)
      exact ⟨⟨k + 1, _, by omega, by go_num, rfl, hb.1, hb.2, by
        show _ = _
        rw [hs2.out, hs1.out, ← HH.out]; rfl⟩, by first | (simp [intOf]; done) | (simp [intOf]; omega)⟩
    · go_wp2_with (fail)
      go_ret
      refine ⟨?_, rfl⟩
      have := HH.out
      rw [List.take_of_length_le (by have : s.data.toList.length = s.size := rfl; omega)] at this
      rw [show hashS s = H from this.symm]; rfl

def mixU (x : Int) : Int :=
  xorU (IntKind.u64.wrap (xorU (IntKind.u64.wrap (xorU x (x / 1073741824) * 13787848793156543929)) (IntKind.u64.wrap (xorU x (x / 1073741824) * 13787848793156543929) / 134217728) * 10723151780598845931))
    (IntKind.u64.wrap (xorU (IntKind.u64.wrap (xorU x (x / 1073741824) * 13787848793156543929)) (IntKind.u64.wrap (xorU x (x / 1073741824) * 13787848793156543929) / 134217728) * 10723151780598845931) / 2147483648)
theorem mixU_bd (x : Int) : 0 ≤ mixU x ∧ mixU x ≤ 18446744073709551615 := xorU_bd _ _
set_option maxHeartbeats 1600000 in
theorem skmix_any (x : Int) (h0 : 0 ≤ x) (h1 : x ≤ 18446744073709551615) (w : World) : Calls Try.prog 55 #[.int .u64 x] w fun e w' => e = .returned (.int .u64 (mixU x)) ∧ w' = w := by
  have H : Hid (mixU x = _) := (rfl : mixU x = mixU x)
  go_enter Try.func55, Try.ntmps55
  go_wp2_with (fail)
  go_ret
  exact ⟨rfl, rfl⟩

/-- A key's column in a row. -/
def argU (seed row H : Int) : Int := IntKind.u64.wrap (IntKind.u64.wrap (H + seed) + IntKind.u64.wrap (11400714819323198485 * (row + 1)))
def colS (h : ShapeS) (row : Int) (key : ByteArray) : Int := mixU (argU h.seed row (hashS key)) % h.C
theorem colS_bd {h : ShapeS} {b : Int} (k : ShapeOk h b) (row : Int) (key : ByteArray) : 0 ≤ colS h row key ∧ colS h row key < h.C :=
  ⟨Int.emod_nonneg _ (by have := k.C1; omega), Int.emod_lt_of_pos _ (by have := k.C1; omega)⟩

end Go.Proofs.Ytockmgcgifhepaa

/- sketch: a key's column. -/
namespace Go.Proofs.Ytockmgcgifhepaa
open Go.RowKit
set_option linter.unusedVariables false
set_option linter.unusedSimpArgs false

theorem below_drewS {n : Nat} {a w : World} (h : Below n a w) (q : Nat) : Below n a (w.drewN q) := ⟨h.os, h.tape, h.output, h.size, h.block⟩
set_option maxHeartbeats 1600000 in
theorem skcolumn_any (h : ShapeS) (b row : Int) (hb : ShapeOk h b) (r0 : 0 ≤ row) (r1 : row ≤ 64) (key : ByteArray) (hk : key.size ≤ maxLen) (w : World) :
    Calls Try.prog 33 #[.agg h.c, .int .i64 row, .string key] w fun e w' => e = .returned (.int .i64 (colS h row key)) ∧ Below w.heap.size w w' := by
  obtain ⟨c0, c1⟩ := colS_bd hb row key
  obtain ⟨C, hC⟩ : ∃ C, colS h row key = C := ⟨_, rfl⟩
  rw [hC] at c0 c1 ⊢
  unfold colS at hC
  have hh := hashS_bd key
  have HH := Lib.hid (fun wx => skhash_any key hk wx)
  obtain ⟨X, hX⟩ : ∃ X, argU h.seed row (hashS key) = X := ⟨_, rfl⟩
  have hx := u64_bd (IntKind.u64.wrap (hashS key + h.seed) + IntKind.u64.wrap (11400714819323198485 * (row + 1)))
  rw [show IntKind.u64.wrap (IntKind.u64.wrap (hashS key + h.seed) + IntKind.u64.wrap (11400714819323198485 * (row + 1))) = X from hX] at hx
  rw [hX] at hC
  have HM := Lib.hid (fun wx => skmix_any X hx.1 hx.2 wx)
  have hm := mixU_bd X
  unfold argU at hX
  obtain ⟨W1, W2, B1, B2, R1, R2, C1, C2, bW, b1, s0, s1⟩ := hb
  obtain ⟨W, B, R, CC, seed⟩ := h
  unfold ShapeS.c
  dsimp only at *
  generalize hashS key = H at *
  generalize mixU X = M at *
  have e1 : IntKind.i64.wrap (row + 1) = row + 1 := IntWalk.i64_in _ (by omega)
  have e2 : IntKind.u64.wrap CC = CC := IntWalk.u64_in _ (by omega)
  have e3 : M.tmod CC = M % CC := Int.tmod_eq_emod_of_nonneg hm.1
  have e4 : IntKind.i64.wrap C = C := IntWalk.i64_in _ (by omega)
  have e5 : IntKind.u64.wrap C = C := IntWalk.u64_in _ (by omega)
  have hne : (CC == 0) = false := by rw [beq_eq_false_iff_ne]; omega
  clear bW b1 s0 s1 W1 W2 B1 B2 R1 R2 hk
  go_enter Try.func33, Try.ntmps33
  go_wp2_with (fail)
  go_quiet (first | (go_at_call 15; exact Calls.quiet_of_same (HH.out _)) | (go_at_call 55; exact Calls.quiet_of_same (HM.out _)))
  go_wp2_with (fail)
  go_ret
  exact ⟨rfl, below_drewS ((Below.refl _ _).alloc (Nat.le_refl _) _) _⟩
end Go.Proofs.Ytockmgcgifhepaa
