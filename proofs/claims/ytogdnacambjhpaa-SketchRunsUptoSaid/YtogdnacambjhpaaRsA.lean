/- the reference's sketch: hash, mix, column. -/
import Derived.Test.YtogdnacambjhpaaSkB2
namespace Go.Proofs.Ytogdnacambjhpaa
open Go.RowKit
set_option linter.unusedVariables false
set_option linter.unusedSimpArgs false

set_option maxHeartbeats 1600000 in
theorem r6hash_any (s : ByteArray) (hs : s.size ≤ maxLen) (w : World) : Calls Try.prog 32 #[.string s] w fun e w' => e = .returned (.int .u64 (hashS s)) ∧ w' = w := by
  have hsz : (s.size : Int) ≤ 9223372036854775807 := by simp only [maxLen] at hs; omega
  go_enter Try.func32, Try.ntmps32
  go_wp2_with (fail)
  go_loop [3, 4] (fun h i => ∃ (k : Nat) (H : Int), k ≤ s.size ∧ i = .int .i64 k ∧ h = .int .u64 H ∧ 0 ≤ H ∧ H ≤ 18446744073709551615 ∧ Hid (H = hashL (s.data.toList.take k))) (fun _ i => s.size - (intOf i).toNat)
  case atStart => exact ⟨0, _, Nat.zero_le _, rfl, rfl, by omega, by omega, rfl⟩
  case round =>
    obtain ⟨k, H, hk, rfl, rfl, h0, h1, HH⟩ := hrel
    by_cases hlt : k < s.size
    · have k0 : (0 : Int) ≤ k := by omega
      have k1 : (k : Int) < s.size := by omega
      have hs1 := Lib.hid (hashL_snoc (s.data.toList.take k) s[k])
      have hs2 := Lib.hid (takeS_snoc s k hlt)
      go_wp2_with (fail)
      have hc : IntKind.u64.wrap (s[k].toNat : Int) = (s[k].toNat : Int) := IntWalk.u64_in _ (by have := s[k].toNat_lt; omega)
      try rw [hc]
      have hb := u64_bd (bits BinOp.xor IntKind.u64 H (s[k].toNat : Int) * 1099511628211)
      exact ⟨⟨k + 1, _, by omega, by go_num, rfl, hb.1, hb.2, by
        show _ = _
        rw [hs2.out, hs1.out, ← HH.out]; rfl⟩, by first | (simp [intOf]; done) | (simp [intOf]; omega)⟩
    · go_wp2_with (fail)
      go_ret
      refine ⟨?_, rfl⟩
      have := HH.out
      rw [List.take_of_length_le (by have : s.data.toList.length = s.size := rfl; omega)] at this
      rw [show hashS s = H from this.symm]; rfl
set_option maxHeartbeats 1600000 in
theorem r2mix_any (x : Int) (h0 : 0 ≤ x) (h1 : x ≤ 18446744073709551615) (w : World) : Calls Try.prog 70 #[.int .u64 x] w fun e w' => e = .returned (.int .u64 (mixU x)) ∧ w' = w := by
  have H : Hid (mixU x = _) := (rfl : mixU x = mixU x)
  go_enter Try.func70, Try.ntmps70
  go_wp2_with (fail)
  go_ret
  exact ⟨rfl, rfl⟩
set_option maxHeartbeats 1600000 in
theorem r6column_any (h : ShapeS) (b row : Int) (hb : ShapeOk h b) (r0 : 0 ≤ row) (r1 : row ≤ 64) (key : ByteArray) (hk : key.size ≤ maxLen) (q : Nat) (w : World) (q3 : w.cell? ⟨q, 3, none⟩ = some (.int .i64 h.C)) (q4 : w.cell? ⟨q, 4, none⟩ = some (.int .u64 h.seed)) :
    Calls Try.prog 55 #[.pointer (some ⟨q, 0, none⟩), .int .i64 row, .string key] w fun e w' => e = .returned (.int .i64 (colS h row key)) ∧ ∃ m, w' = w.drewN m := by
  obtain ⟨c0, c1⟩ := colS_bd hb row key
  obtain ⟨C, hC⟩ : ∃ C, colS h row key = C := ⟨_, rfl⟩
  rw [hC] at c0 c1 ⊢
  unfold colS at hC
  have hh := hashS_bd key
  have HH := Lib.hid (fun wx => r6hash_any key hk wx)
  obtain ⟨X, hX⟩ : ∃ X, argU h.seed row (hashS key) = X := ⟨_, rfl⟩
  have hx := u64_bd (IntKind.u64.wrap (hashS key + h.seed) + IntKind.u64.wrap (11400714819323198485 * (row + 1)))
  rw [show IntKind.u64.wrap (IntKind.u64.wrap (hashS key + h.seed) + IntKind.u64.wrap (11400714819323198485 * (row + 1))) = X from hX] at hx
  rw [hX] at hC
  have HM := Lib.hid (fun wx => r2mix_any X hx.1 hx.2 wx)
  have hm := mixU_bd X
  unfold argU at hX
  obtain ⟨W1, W2, B1, B2, R1, R2, C1, C2, bW, b1, s0, s1⟩ := hb
  obtain ⟨W, B, R, CC, seed⟩ := h
  dsimp only at *
  generalize hashS key = H at *
  generalize mixU X = M at *
  have e1 : IntKind.i64.wrap (row + 1) = row + 1 := IntWalk.i64_in _ (by omega)
  have e2 : IntKind.u64.wrap CC = CC := IntWalk.u64_in _ (by omega)
  have e3 : M.tmod CC = M % CC := Int.tmod_eq_emod_of_nonneg hm.1
  have e4 : IntKind.i64.wrap C = C := IntWalk.i64_in _ (by omega)
  have e5 : IntKind.u64.wrap C = C := IntWalk.u64_in _ (by omega)
  have hne : (CC == 0) = false := by rw [beq_eq_false_iff_ne]; omega
  clear bW b1 s0 s1 W1 W2 B1 B2 R1 R2 hk
  go_enter Try.func55, Try.ntmps55
  go_wp2_with (fail)
  go_quiet (first | (go_at_call 32; exact Calls.quiet_of_same (HH.out _)) | (go_at_call 70; exact Calls.quiet_of_same (HM.out _)))
  have HBd := Lib.hid (show ∃ m, w.drewN nq = w.drewN m from ⟨nq, rfl⟩)
  have q3d : (w.drewN nq).cell? ⟨q, 3, none⟩ = some (.int .i64 CC) := q3
  clear q3 q4
  generalize w.drewN nq = w2 at *
  go_wp2_with (fail)
  go_quiet (first | (go_at_call 32; exact Calls.quiet_of_same (HH.out _)) | (go_at_call 70; exact Calls.quiet_of_same (HM.out _)))
  go_wp2_with (fail)
  go_ret
  obtain ⟨m, hm⟩ := HBd.out
  exact ⟨rfl, m + nq, by rw [hm, World.drewN_drewN]⟩
end Go.Proofs.Ytogdnacambjhpaa
