import Derived.Deep.RegionHeld3
import Derived.Test.YtemlafbkkaloiaaGreatGS0
import Derived.Test.YtemlafbkkaloiaaGreatGGSkA
import Derived.Test.YtemlafbkkaloiaaGreatGGGLay2
import Derived.Test.YtemlafbkkaloiaaGreatGGSkF
set_option linter.unusedVariables false
set_option linter.unusedSimpArgs false
namespace Go.Proofs.YtemlafbkkaloiaaGreat
open Go.RowKit
set_option maxHeartbeats 1600000 in
theorem r6hash_any (s : ByteArray) (hs : s.size ≤ maxLen) (w : World) : Calls Tryz.prog 119 #[.string s] w fun e w' => e = .returned (.int .u64 (hashS s)) ∧ w' = w := by
  have hsz : (s.size : Int) ≤ 9223372036854775807 := by simp only [maxLen] at hs; omega
  go_enter Tryz.func119, Tryz.ntmps119
  go_wp2_with (fail)
  go_loop [3, 4] (fun h i => ∃ (k : Nat) (H : Int), k ≤ s.size ∧ i = .int .i64 k ∧ h = .int .u64 H ∧ 0 ≤ H ∧ H ≤ 18446744073709551615 ∧ Hid (H = hashL (s.data.toList.take k))) (fun _ i => s.size - (intOf i).toNat)
  case atStart => exact ⟨0, _, Nat.zero_le _, rfl, rfl, by omega, by omega, rfl⟩
  case round =>
    obtain ⟨k, H, hk, rfl, rfl, h0, h1, HH⟩ := hrel
    by_cases hlt : k < s.size
    · have k0 : (0 : Int) ≤ k := by omega
      have k1 : (k : Int) < s.size := by omega
      have hs1 := Lib.hid (hashL_snoc (s.data.toList.take k) s[k])
      have hs2 := Lib.hid (takeS_snoc s k hlt)
      go_wp2_with (fail)
      have hc : IntKind.u64.wrap (s[k].toNat : Int) = (s[k].toNat : Int) := IntWalk.u64_in _ (by have := s[k].toNat_lt; omega)
      try rw [hc]
      have hb := u64_bd (bits BinOp.xor IntKind.u64 H (s[k].toNat : Int) * 1099511628211)
      exact ⟨⟨k + 1, _, by omega, by go_num, rfl, hb.1, hb.2, by
        show _ = _
        rw [hs2.out, hs1.out, ← HH.out]; rfl⟩, by first | (simp [intOf]; done) | (simp [intOf]; omega)⟩
    · go_wp2_with (fail)
      go_ret
      refine ⟨?_, rfl⟩
      have := HH.out
      rw [List.take_of_length_le (by have : s.data.toList.length = s.size := rfl; omega)] at this
      rw [show hashS s = H from this.symm]; rfl
set_option maxHeartbeats 1600000 in
theorem r2mix_any (x : Int) (h0 : 0 ≤ x) (h1 : x ≤ 18446744073709551615) (w : World) : Calls Tryz.prog 120 #[.int .u64 x] w fun e w' => e = .returned (.int .u64 (mixU x)) ∧ w' = w := by
  have H : Hid (mixU x = _) := (rfl : mixU x = mixU x)
  go_enter Tryz.func120, Tryz.ntmps120
  go_wp2_with (fail)
  go_ret
  exact ⟨rfl, rfl⟩
set_option maxHeartbeats 1600000 in
theorem r6column_any (h : ShapeS) (b row : Int) (hb : ShapeOk h b) (r0 : 0 ≤ row) (r1 : row ≤ 64) (key : ByteArray) (hk : key.size ≤ maxLen) (q : Nat) (w : World) (q3 : w.cell? ⟨q, 3, none⟩ = some (.int .i64 h.C)) (q4 : w.cell? ⟨q, 4, none⟩ = some (.int .u64 h.seed)) :
    Calls Tryz.prog 106 #[.pointer (some ⟨q, 0, none⟩), .int .i64 row, .string key] w fun e w' => e = .returned (.int .i64 (colS h row key)) ∧ ∃ m, w' = w.drewN m := by
  obtain ⟨c0, c1⟩ := colS_bd hb row key
  obtain ⟨C, hC⟩ : ∃ C, colS h row key = C := ⟨_, rfl⟩
  rw [hC] at c0 c1 ⊢
  unfold colS at hC
  have hh := hashS_bd key
  have HH := Lib.hid (fun wx => r6hash_any key hk wx)
  obtain ⟨X, hX⟩ : ∃ X, argU h.seed row (hashS key) = X := ⟨_, rfl⟩
  have hx := u64_bd (IntKind.u64.wrap (hashS key + h.seed) + IntKind.u64.wrap (11400714819323198485 * (row + 1)))
  rw [show IntKind.u64.wrap (IntKind.u64.wrap (hashS key + h.seed) + IntKind.u64.wrap (11400714819323198485 * (row + 1))) = X from hX] at hx
  rw [hX] at hC
  have HM := Lib.hid (fun wx => r2mix_any X hx.1 hx.2 wx)
  have hm := mixU_bd X
  unfold argU at hX
  obtain ⟨W1, W2, B1, B2, R1, R2, C1, C2, bW, b1, s0, s1⟩ := hb
  obtain ⟨W, B, R, CC, seed⟩ := h
  dsimp only at *
  generalize hashS key = H at *
  generalize mixU X = M at *
  have e1 : IntKind.i64.wrap (row + 1) = row + 1 := IntWalk.i64_in _ (by omega)
  have e2 : IntKind.u64.wrap CC = CC := IntWalk.u64_in _ (by omega)
  have e3 : M.tmod CC = M % CC := Int.tmod_eq_emod_of_nonneg hm.1
  have e4 : IntKind.i64.wrap C = C := IntWalk.i64_in _ (by omega)
  have e5 : IntKind.u64.wrap C = C := IntWalk.u64_in _ (by omega)
  have hne : (CC == 0) = false := by rw [beq_eq_false_iff_ne]; omega
  clear bW b1 s0 s1 W1 W2 B1 B2 R1 R2 hk
  go_enter Tryz.func106, Tryz.ntmps106
  go_wp2_with (fail)
  go_quiet (first | (go_at_call 119; exact Calls.quiet_of_same (HH.out _)) | (go_at_call 120; exact Calls.quiet_of_same (HM.out _)))
  have HBd := Lib.hid (show ∃ m, w.drewN nq = w.drewN m from ⟨nq, rfl⟩)
  have q3d : (w.drewN nq).cell? ⟨q, 3, none⟩ = some (.int .i64 CC) := q3
  clear q3 q4
  generalize w.drewN nq = w2 at *
  go_wp2_with (fail)
  go_quiet (first | (go_at_call 119; exact Calls.quiet_of_same (HH.out _)) | (go_at_call 120; exact Calls.quiet_of_same (HM.out _)))
  go_wp2_with (fail)
  go_ret
  obtain ⟨m, hm⟩ := HBd.out
  exact ⟨rfl, m + nq, by rw [hm, World.drewN_drewN]⟩
end Go.Proofs.YtemlafbkkaloiaaGreat
namespace Go.Proofs.YtemlafbkkaloiaaGreat
open Go.RowKit
def timeR (x : Int) : Bool := decide (0 ≤ x ∧ x ≤ 1152921504606846976)
set_option maxHeartbeats 800000 in
theorem r6time_any (x : Int) (w : World) : Calls Tryz.prog 110 #[.int .i64 x] w fun e w' => e = .returned (.bool (timeR x)) ∧ w' = w := by
  unfold timeR
  by_cases h0 : 0 ≤ x
  · by_cases h1 : x ≤ 1152921504606846976
    · rw [decide_eq_true (And.intro h0 h1)]
      go_enter Tryz.func110, Tryz.ntmps110
      go_wp2_with (fail)
      go_ret
      exact ⟨rfl, rfl⟩
    · rw [decide_eq_false (fun h => h1 h.2)]
      go_enter Tryz.func110, Tryz.ntmps110
      go_wp2_with (fail)
      go_ret
      exact ⟨rfl, rfl⟩
  · rw [decide_eq_false (fun h => h0 h.1)]
    go_enter Tryz.func110, Tryz.ntmps110
    go_wp2_with (fail)
    go_ret
    exact ⟨rfl, rfl⟩
set_option maxHeartbeats 1600000 in
theorem r6wrong_any (q : Nat) (last at_ : Int) (w : World) (q6 : w.cell? ⟨q, 6, none⟩ = some (.int .i64 last)) :
    Calls Tryz.prog 91 #[.pointer (some ⟨q, 0, none⟩), .int .i64 at_] w fun e w' => e = .returned (.int .i64 (lookS last at_)) ∧ w' = w := by
  have HT := Lib.hid (r6time_any at_ w)
  unfold lookS
  by_cases h0 : at_ < 0 ∨ 1152921504606846976 < at_
  · have ht : timeR at_ = false := decide_eq_false (by omega)
    rw [if_pos h0]
    rw [ht] at HT
    go_enter Tryz.func91, Tryz.ntmps91
    go_wp2_with (fail)
    refine HT.out.mono ?_
    rintro e w2 ⟨rfl, hq⟩
    have hq := hq.symm
    subst hq
    go_wp2_with (fail)
    go_ret
    exact ⟨rfl, rfl⟩
  · have ht : timeR at_ = true := decide_eq_true (by omega)
    rw [if_neg h0]
    rw [ht] at HT
    by_cases h1 : at_ < last
    · rw [if_pos h1]
      go_enter Tryz.func91, Tryz.ntmps91
      go_wp2_with (fail)
      refine HT.out.mono ?_
      rintro e w2 ⟨rfl, hq⟩
      have hq := hq.symm
      subst hq
      go_wp2_with (fail)
      go_ret
      exact ⟨rfl, rfl⟩
    · rw [if_neg h1]
      go_enter Tryz.func91, Tryz.ntmps91
      go_wp2_with (fail)
      refine HT.out.mono ?_
      rintro e w2 ⟨rfl, hq⟩
      have hq := hq.symm
      subst hq
      go_wp2_with (fail)
      go_ret
      exact ⟨rfl, rfl⟩
def inRs (b B at_ t : Int) : Bool := decide (t / b ≤ at_ / b) && decide (at_ / b - B < t / b)
set_option maxHeartbeats 1600000 in
theorem r6in_any (h : ShapeS) (b : Int) (hb : ShapeOk h b) (q : Nat) (t at_ : Int) (t0 : 0 ≤ t) (t1 : t ≤ 1152921504606846976) (a0 : 0 ≤ at_) (a1 : at_ ≤ 1152921504606846976) (w : World) (q0 : w.cell? ⟨q, 0, none⟩ = some (.int .i64 h.W)) (q1 : w.cell? ⟨q, 1, none⟩ = some (.int .i64 h.B)) :
    Calls Tryz.prog 107 #[.pointer (some ⟨q, 0, none⟩), .int .i64 t, .int .i64 at_] w fun e w' => e = .returned (.bool (inRs b h.B at_ t)) ∧ ∃ m, w' = w.drewN m := by
  obtain ⟨W1, W2, B1, B2, R1, R2, C1, C2, bW, b1, s0, s1⟩ := hb
  obtain ⟨W, B, R, CC, seed⟩ := h
  dsimp only at *
  unfold inRs
  obtain ⟨T, hT⟩ : ∃ T, t / b = T := ⟨_, rfl⟩
  obtain ⟨A, hA⟩ : ∃ A, at_ / b = A := ⟨_, rfl⟩
  obtain ⟨D, hD⟩ : ∃ D, A - B = D := ⟨_, rfl⟩
  have T0 : 0 ≤ T := by rw [← hT]; exact Int.ediv_nonneg t0 (by omega)
  have T1 : T ≤ t := by rw [← hT]; exact Int.ediv_le_self _ t0
  have A0 : 0 ≤ A := by rw [← hA]; exact Int.ediv_nonneg a0 (by omega)
  have A1 : A ≤ at_ := by rw [← hA]; exact Int.ediv_le_self _ a0
  have hb1 : W / B = b := by rw [bW]; exact Int.mul_ediv_cancel _ (by omega)
  have hbW : b ≤ W := by rw [← hb1]; exact Int.ediv_le_self _ (by omega)
  have e1 : IntKind.i64.wrap (W.tdiv B) = b := by rw [Int.tdiv_eq_ediv_of_nonneg (by omega), hb1]; exact IntWalk.i64_in _ (by omega)
  have e2 : IntKind.i64.wrap (t.tdiv b) = T := by rw [Int.tdiv_eq_ediv_of_nonneg t0, hT]; exact IntWalk.i64_in _ (by omega)
  have e3 : IntKind.i64.wrap (at_.tdiv b) = A := by rw [Int.tdiv_eq_ediv_of_nonneg a0, hA]; exact IntWalk.i64_in _ (by omega)
  have e4 : IntKind.i64.wrap (A - B) = D := by rw [hD]; exact IntWalk.i64_in _ (by omega)
  have n1 : (B == 0) = false := by rw [beq_eq_false_iff_ne]; omega
  have n2 : (b == 0) = false := by rw [beq_eq_false_iff_ne]; omega
  rw [hT, hA, hD]
  clear hT hA hb1 bW
  by_cases h1 : T ≤ A
  · have d1 : decide (T ≤ A) = true := decide_eq_true h1
    rw [d1]
    by_cases h2 : D < T
    · have d2 : decide (D < T) = true := decide_eq_true h2
      rw [d2]
      go_enter Tryz.func107, Tryz.ntmps107
      go_wp2_with (fail)
      go_quiet (fail)
      have HB2 := Lib.hid (show ∃ m, w.drewN nq = w.drewN m from ⟨nq, rfl⟩)
      have q1 : (w.drewN nq).cell? ⟨q, 1, none⟩ = some (.int .i64 B) := q1
      have q0 : (w.drewN nq).cell? ⟨q, 0, none⟩ = some (.int .i64 W) := q0
      generalize w.drewN nq = w2 at *
      go_wp2_with (fail)
      go_quiet (fail)
      go_wp2_with (fail)
      go_ret
      exact ⟨rfl, by obtain ⟨m, hm⟩ := HB2.out; exact ⟨m + nq, by rw [hm, World.drewN_drewN]⟩⟩
    · have d2 : decide (D < T) = false := decide_eq_false h2
      rw [d2]
      go_enter Tryz.func107, Tryz.ntmps107
      go_wp2_with (fail)
      go_quiet (fail)
      have HB2 := Lib.hid (show ∃ m, w.drewN nq = w.drewN m from ⟨nq, rfl⟩)
      have q1 : (w.drewN nq).cell? ⟨q, 1, none⟩ = some (.int .i64 B) := q1
      have q0 : (w.drewN nq).cell? ⟨q, 0, none⟩ = some (.int .i64 W) := q0
      generalize w.drewN nq = w2 at *
      go_wp2_with (fail)
      go_quiet (fail)
      go_wp2_with (fail)
      go_ret
      exact ⟨rfl, by obtain ⟨m, hm⟩ := HB2.out; exact ⟨m + nq, by rw [hm, World.drewN_drewN]⟩⟩
  · have d1 : decide (T ≤ A) = false := decide_eq_false h1
    rw [d1]
    go_enter Tryz.func107, Tryz.ntmps107
    go_wp2_with (fail)
    go_quiet (fail)
    have HB2 := Lib.hid (show ∃ m, w.drewN nq = w.drewN m from ⟨nq, rfl⟩)
    have q1 : (w.drewN nq).cell? ⟨q, 1, none⟩ = some (.int .i64 B) := q1
    have q0 : (w.drewN nq).cell? ⟨q, 0, none⟩ = some (.int .i64 W) := q0
    generalize w.drewN nq = w2 at *
    go_wp2_with (fail)
    go_quiet (fail)
    go_wp2_with (fail)
    go_ret
    exact ⟨rfl, by obtain ⟨m, hm⟩ := HB2.out; exact ⟨m + nq, by rw [hm, World.drewN_drewN]⟩⟩
end Go.Proofs.YtemlafbkkaloiaaGreat
namespace Go.Proofs.YtemlafbkkaloiaaGreat
open Go.RowKit
def NoteS.vals (x : NoteS) : List Value := [.int .i64 x.at_, .int .i64 x.n, .string x.key]
def flatR (ns : List NoteS) : List Value := ns.flatMap NoteS.vals
theorem flatR_len : ∀ ns : List NoteS, (flatR ns).length = ns.length * 3
  | [] => rfl
  | x :: ns => by simp only [flatR, List.flatMap_cons, List.length_append, List.length_cons]; rw [show (ns.flatMap NoteS.vals).length = ns.length * 3 from flatR_len ns]; simp [NoteS.vals]; omega
theorem flatR_get : ∀ {ns : List NoteS} {j : Nat} {x : NoteS}, ns[j]? = some x → ∀ k, k < 3 → (flatR ns)[j * 3 + k]? = x.vals[k]?
  | y :: ns, 0, x, h, k, hk => by
    obtain rfl : y = x := by simpa using h
    show (y.vals ++ flatR ns)[0 * 3 + k]? = _
    rw [Nat.zero_mul, Nat.zero_add, List.getElem?_append_left (by simp [NoteS.vals]; omega)]
  | y :: ns, j + 1, x, h, k, hk => by
    have ih := flatR_get (ns := ns) (j := j) (x := x) (by simpa using h) k hk
    show (y.vals ++ flatR ns)[(j + 1) * 3 + k]? = _
    rw [List.getElem?_append_right (by simp [NoteS.vals]; omega), show (j + 1) * 3 + k - y.vals.length = j * 3 + k by simp [NoteS.vals]; omega]
    exact ih
structure R6At (w : World) (q : Nat) (h : ShapeS) (last : Int) (v : Value) (ns : List NoteS) : Prop where
  head : w.heap[q]? = some (.cells #[.int .i64 h.W, .int .i64 h.B, .int .i64 h.R, .int .i64 h.C, .int .u64 h.seed, v, .int .i64 last] 134)
  row : w.ownsRow 0 172 3 v ns.length (flatR ns)
  apart : v.ownBlock ≠ some q
  fine : ∀ x, x ∈ ns → 0 ≤ x.at_ ∧ x.at_ ≤ last ∧ 0 ≤ x.n ∧ x.n ≤ 1099511627776 ∧ x.key.size ≤ maxLen
  l0 : 0 ≤ last
  l1 : last ≤ 1152921504606846976
  few : ns.length ≤ 4611686018427387904
theorem R6At.cells {w : World} {q : Nat} {h : ShapeS} {last : Int} {v : Value} {ns : List NoteS} (k : R6At w q h last v ns) : w.cell? ⟨q, 0, none⟩ = some (.int .i64 h.W) ∧ w.cell? ⟨q, 1, none⟩ = some (.int .i64 h.B) ∧ w.cell? ⟨q, 2, none⟩ = some (.int .i64 h.R) ∧ w.cell? ⟨q, 3, none⟩ = some (.int .i64 h.C) ∧ w.cell? ⟨q, 4, none⟩ = some (.int .u64 h.seed) ∧ w.cell? ⟨q, 5, none⟩ = some v ∧ w.cell? ⟨q, 6, none⟩ = some (.int .i64 last) := by
  have h := k.head
  refine ⟨?_, ?_, ?_, ?_, ?_, ?_, ?_⟩ <;> simp [World.cell?, h]
theorem R6At.get {w : World} {q : Nat} {h : ShapeS} {last : Int} {v : Value} {ns : List NoteS} (k : R6At w q h last v ns) {j : Nat} {x : NoteS} (hx : ns[j]? = some x) : ∃ g cap, v = .slice (some ⟨g, 0, none⟩) ns.length cap ∧ g < w.heap.size ∧ w.cell? ⟨g, j * 3, none⟩ = some (.int .i64 x.at_) ∧ w.cell? ⟨g, j * 3 + 1, none⟩ = some (.int .i64 x.n) ∧ w.cell? ⟨g, j * 3 + 2, none⟩ = some (.string x.key) := by
  have hjl := (List.getElem?_eq_some_iff.1 hx).1
  have hr := k.row
  rcases hr.2 with ⟨_, hz⟩ | ⟨g, cp, cur, hh, _, hgg, _⟩
  · omega
  · subst hh
    refine ⟨g, cp, rfl, (Array.getElem?_eq_some_iff.1 hgg).1, (hr.cellAt (j * 3) (by omega)).trans (flatR_get hx 0 (by omega)), (hr.cellAt (j * 3 + 1) (by omega)).trans (flatR_get hx 1 (by omega)), (hr.cellAt (j * 3 + 2) (by omega)).trans (flatR_get hx 2 (by omega))⟩
theorem R6At.slice {w : World} {q : Nat} {h : ShapeS} {last : Int} {v : Value} {ns : List NoteS} (k : R6At w q h last v ns) : ∃ a cap, v = .slice a ns.length cap := by
  rcases k.row.2 with ⟨hh, hz⟩ | ⟨g, cp, cur, hh, _⟩
  · exact ⟨none, 0, by rw [hz]; exact hh⟩
  · exact ⟨_, _, hh⟩
theorem R6At.kept {w w' : World} {q : Nat} {h : ShapeS} {last : Int} {v : Value} {ns : List NoteS} (k : R6At w q h last v ns) (hk : ∀ i, i = q ∨ v.ownBlock = some i → w'.heap[i]? = w.heap[i]?) : R6At w' q h last v ns := by
  refine ⟨(hk q (Or.inl rfl)).trans k.head, ?_, k.apart, k.fine, k.l0, k.l1, k.few⟩
  obtain ⟨h1, h2⟩ := k.row
  refine ⟨h1, ?_⟩
  rcases h2 with h2 | ⟨g, cap, cur, rfl, hb, hg, hrest⟩
  · exact Or.inl h2
  · exact Or.inr ⟨g, cap, cur, rfl, hb, (hk g (Or.inr rfl)).trans hg, hrest⟩
theorem beginS_mul {b : Int} (t : Int) : beginS b t = b * (t / b) := by
  unfold beginS
  have := Int.mul_ediv_add_emod t b
  omega
theorem inR_eq {b B W t at_ : Int} (hb : 1 ≤ b) (hW : W = b * B) (h : t ≤ at_) : inRs b B at_ t = decide (beginS b at_ - W < beginS b t) := by
  unfold inRs
  have h1 : t / b ≤ at_ / b := Int.ediv_le_ediv (by omega) h
  rw [decide_eq_true h1, Bool.true_and, beginS_mul, beginS_mul, hW, ← Int.mul_sub]
  by_cases e : at_ / b - B < t / b
  · rw [decide_eq_true e, decide_eq_true (Int.mul_lt_mul_of_pos_left e (by omega))]
  · rw [decide_eq_false e, decide_eq_false (fun h => e (Int.lt_of_mul_lt_mul_left h (by omega)))]
theorem sumP_take1 (p : NoteS → Bool) : ∀ {ns : List NoteS} {k : Nat} {x : NoteS}, ns[k]? = some x → sumP p (ns.take (k + 1)) = sumP p (ns.take k) + if p x then x.n else 0
  | y :: ns, 0, x, h => by
    obtain rfl : y = x := by simpa using h
    simp [sumP]
  | y :: ns, k + 1, x, h => by
    have ih := sumP_take1 p (ns := ns) (k := k) (x := x) (by simpa using h)
    rw [List.take_succ_cons, List.take_succ_cons, sumP, sumP, ih]; omega
set_option maxHeartbeats 6400000 in
set_option maxRecDepth 100000 in
theorem r6est_any {w : World} {q : Nat} {h : ShapeS} {b last : Int} {v : Value} {ns : List NoteS} (k : R6At w q h last v ns) (hb : ShapeOk h b) (at_ : Int) (key : ByteArray) (hk : key.size ≤ maxLen) :
    Calls Tryz.prog 83 #[.pointer (some ⟨q, 0, none⟩), .int .i64 at_, .string key] w fun e w' => e = .returned (.tuple #[.int .i64 (if lookS last at_ = 0 then estN h b at_ key ns else 0), .int .i64 (lookS last at_)]) ∧ ∃ m, w' = w.drewN m := by
  obtain ⟨c0, c1, c2, c3, c4, c5, c6⟩ := k.cells
  have HWR := Lib.hid (r6wrong_any q last at_ w c6)
  have K := Lib.hid k
  by_cases hE : lookS last at_ = 0
  · obtain ⟨a0, a1, a2⟩ := lookS_ok hE
    rw [hE] at HWR ⊢
    rw [if_pos rfl]
    obtain ⟨aS, capS', hv⟩ := k.slice
    obtain ⟨nB, hnB⟩ : ∃ nB, ns.length = nB := ⟨_, rfl⟩
    rw [hnB] at hv
    subst hv
    have HNB := Lib.hid hnB
    have HCO := Lib.hid (fun (wx : World) (row : Int) (r0 : 0 ≤ row) (r1 : row ≤ 64) (key : ByteArray) (hk : key.size ≤ maxLen) => r6column_any h b row hb r0 r1 key hk q wx)
    have HIN := Lib.hid (fun (wx : World) (t : Int) (t0 : 0 ≤ t) (t1 : t ≤ 1152921504606846976) => r6in_any h b hb q t at_ t0 t1 a0 a1 wx)
    have hR1 := hb.R1
    have hR2 := hb.R2
    have HB := Lib.hid hb
    obtain ⟨f, hf⟩ : ∃ f : Int → Int, (fun r => capS (sumP (fun y => decide (beginS b at_ - h.W < beginS b y.at_) && decide (colS h r y.key = colS h r key)) ns)) = f := ⟨_, rfl⟩
    have HF := Lib.hid hf
    obtain ⟨RN, hRN⟩ : ∃ RN : Nat, h.R.toNat = RN := ⟨_, rfl⟩
    have hRI : h.R = RN := by omega
    have HEST := Lib.hid (show estN h b at_ key ns = leastS f RN by unfold estN; rw [hf, hRN])
    rw [hRI] at c2
    have HRI := Lib.hid hRI
    have hRN8 : RN ≤ 8 := by omega
    have hLB : ∀ r : Nat, leastS f r ≤ 4611686018427387904 ∧ 0 ≤ leastS f r := by
      intro r
      have hf0 : ∀ x, 0 ≤ f x := fun x => by
        rw [← hf]
        exact capS_nonneg (sumP_nonneg (fun y hy => (k.fine y hy).2.2.1))
      induction r with
      | zero => exact ⟨Int.le_refl _, by unfold leastS; omega⟩
      | succ r ih => have := hf0 r; rw [leastS]; omega
    have HLB := Lib.hid hLB
    clear hE hnB hb hf hRN hRI hLB hR1 hR2
    have HC := Lib.hid (And.intro c0 (And.intro c1 (And.intro c2 (And.intro c3 (And.intro c4 c5)))))
    go_enter Tryz.func83, Tryz.ntmps83
    go_wp2_with (fail)
    refine HWR.out.mono ?_
    rintro e w2 ⟨rfl, hq⟩
    have hq := hq.symm
    subst hq
    go_wp2_with (fail)
    go_loopw [9, 10, 11, 12, 13] (fun x9 x10 _ _ _ wr => ∃ (r : Nat), r ≤ RN ∧ x10 = .int .i64 r ∧ x9 = .int .i64 (leastS f r) ∧ Hid (∃ m, wr = w.drewN m)) (fun _ x10 _ _ _ _ => RN - (intOf x10).toNat)
    case atStart => exact ⟨0, Nat.zero_le _, rfl, rfl, Lib.hid ⟨0, rfl⟩⟩
    case round =>
      rename World => wr
      obtain ⟨r, hr, rfl, rfl, HM⟩ := hrel
      have d2 : wr.cell? ⟨q, 2, none⟩ = some (.int .i64 RN) := by obtain ⟨m, rfl⟩ := HM.out; exact HC.out.2.2.1
      by_cases hlt : r < RN
      · have r0 : (0 : Int) ≤ r := by omega
        have r1 : (r : Int) < RN := by omega
        have d3 : wr.cell? ⟨q, 3, none⟩ = some (.int .i64 h.C) := by obtain ⟨m, rfl⟩ := HM.out; exact HC.out.2.2.2.1
        have d4 : wr.cell? ⟨q, 4, none⟩ = some (.int .u64 h.seed) := by obtain ⟨m, rfl⟩ := HM.out; exact HC.out.2.2.2.2.1
        have HC1 := Lib.hid (HCO.out wr r (by omega) (by omega) key hk d3 d4)
        go_wp2_with (fail)
        refine HC1.out.mono ?_
        rintro e w3 ⟨rfl, hm3⟩
        have HM3 : Hid (∃ m, w3 = w.drewN m) := Lib.hid (by obtain ⟨m, rfl⟩ := HM.out; obtain ⟨m2, rfl⟩ := hm3; exact ⟨m + m2, by rw [World.drewN_drewN]⟩)
        obtain ⟨CK, hCK⟩ : ∃ CK, colS h r key = CK := ⟨_, rfl⟩
        obtain ⟨p, hp⟩ : ∃ p : NoteS → Bool, (fun y => decide (beginS b at_ - h.W < beginS b y.at_) && decide (colS h r y.key = colS h r key)) = p := ⟨_, rfl⟩
        have HFR := Lib.hid (show f r = capS (sumP p ns) by rw [← HF.out, ← hp])
        rw [hCK] at hp ⊢
        have HP := Lib.hid hp
        clear hm3 d2 d3 d4 HC1 hCK hp HM
        go_wp2_with (fail)
        go_loopw [12, 13] (fun x12 x13 wy => ∃ (i : Nat), i ≤ nB ∧ x13 = .int .i64 i ∧ x12 = .int .i64 (capS (sumP p (ns.take i))) ∧ Hid (∃ m, wy = w.drewN m)) (fun _ x13 _ => nB - (intOf x13).toNat)
        case atStart => exact ⟨0, Nat.zero_le _, rfl, by simp [sumP, capS_zero], HM3⟩
        case round =>
          rename World => wy
          clear HM3
          obtain ⟨i, hi, rfl, rfl, HM⟩ := hrel
          have d5 : wy.cell? ⟨q, 5, none⟩ = some (.slice aS nB capS') := by obtain ⟨m, rfl⟩ := HM.out; exact HC.out.2.2.2.2.2
          by_cases hli : i < nB
          · have i0 : (0 : Int) ≤ i := by omega
            have i1 : (i : Int) < nB := by omega
            have i9 : nB ≤ 4611686018427387904 := by rw [← HNB.out]; exact K.out.few
            obtain ⟨x, hx⟩ : ∃ x, ns[i]? = some x := ⟨_, List.getElem?_eq_getElem (by rw [HNB.out]; exact hli)⟩
            obtain ⟨g, cp, hvg, hgl, e0, e1, e2⟩ := K.out.get hx
            injection hvg with hag hvl hvc
            subst hag
            clear hvl hvc
            obtain ⟨xf0, xf1, xf2, xf3, xf4⟩ := K.out.fine x (List.mem_of_getElem? hx)
            have d0 : wy.cell? ⟨q, 0, none⟩ = some (.int .i64 h.W) := by obtain ⟨m, rfl⟩ := HM.out; exact HC.out.1
            have d1 : wy.cell? ⟨q, 1, none⟩ = some (.int .i64 h.B) := by obtain ⟨m, rfl⟩ := HM.out; exact HC.out.2.1
            have d3 : wy.cell? ⟨q, 3, none⟩ = some (.int .i64 h.C) := by obtain ⟨m, rfl⟩ := HM.out; exact HC.out.2.2.2.1
            have d4 : wy.cell? ⟨q, 4, none⟩ = some (.int .u64 h.seed) := by obtain ⟨m, rfl⟩ := HM.out; exact HC.out.2.2.2.2.1
            have e0 : wy.cell? ⟨g, i * 3, none⟩ = some (.int .i64 x.at_) := by obtain ⟨m, rfl⟩ := HM.out; exact e0
            have e1 : wy.cell? ⟨g, i * 3 + 1, none⟩ = some (.int .i64 x.n) := by obtain ⟨m, rfl⟩ := HM.out; exact e1
            have e2 : wy.cell? ⟨g, i * 3 + 2, none⟩ = some (.string x.key) := by obtain ⟨m, rfl⟩ := HM.out; exact e2
            have HINX := Lib.hid (HIN.out wy x.at_ xf0 (by omega) d0 d1)
            have HHX := Lib.hid hx
            have HE1 := Lib.hid e1
            have HE2 := Lib.hid e2
            have HPX := Lib.hid (show p x = (inRs b h.B at_ x.at_ && decide (colS h r x.key = CK)) by rw [← HP.out, inR_eq HB.out.b1 HB.out.bW (by omega)])
            have hT := sumP_take1 p hx
            have HT := Lib.hid hT
            have hs0 : 0 ≤ sumP p (ns.take i) := sumP_nonneg (fun y hy => (K.out.fine y (List.mem_of_mem_take hy)).2.2.1)
            have HS0 := Lib.hid hs0
            clear hx hT hs0 hli
            generalize hII : inRs b h.B at_ x.at_ = II at *
            clear hII
            go_wp2_with (fail)
            refine HINX.out.mono ?_
            rintro e w4 ⟨rfl, hm4⟩
            have HM4 : Hid (∃ m, w4 = w.drewN m) := Lib.hid (by obtain ⟨m, rfl⟩ := HM.out; obtain ⟨m2, rfl⟩ := hm4; exact ⟨m + m2, by rw [World.drewN_drewN]⟩)
            have HD4 := Lib.hid (show w4.cell? ⟨q, 3, none⟩ = some (.int .i64 h.C) ∧ w4.cell? ⟨q, 4, none⟩ = some (.int .u64 h.seed) ∧ w4.cell? ⟨q, 5, none⟩ = some (.slice (some ⟨g, 0, none⟩) nB capS') ∧ w4.cell? ⟨g, i * 3 + 1, none⟩ = some (.int .i64 x.n) ∧ w4.cell? ⟨g, i * 3 + 2, none⟩ = some (.string x.key) from by obtain ⟨m2, rfl⟩ := hm4; exact ⟨d3, d4, d5, e1, e2⟩)
            clear hm4 HM d0 d1 d3 d4 d5 e0 e1 e2 HINX
            cases II with
            | false =>
             as_aux_lemma =>
              have HTK := Lib.hid (show sumP p (ns.take (i + 1)) = sumP p (ns.take i) by rw [HT.out, HPX.out]; simp)
              clear HT HPX
              go_wp2_with (fail)
              exact ⟨⟨i + 1, by omega, by go_num, by rw [HTK.out], HM4⟩, by first | (simp [intOf]; done) | (simp [intOf]; omega)⟩
            | true =>
              obtain ⟨d3, d4, d5, e1, e2⟩ := HD4.out
              have HCX := Lib.hid (HCO.out w4 r (by omega) (by omega) x.key xf4 d3 d4)
              generalize hCC : colS h r x.key = CC at *
              clear hCC
              go_wp2_with (fail)
              refine HCX.out.mono ?_
              rintro e w5 ⟨rfl, hm5⟩
              have HM5 : Hid (∃ m, w5 = w.drewN m) := Lib.hid (by obtain ⟨m, rfl⟩ := HM4.out; obtain ⟨m2, rfl⟩ := hm5; exact ⟨m + m2, by rw [World.drewN_drewN]⟩)
              have d5 : w5.cell? ⟨q, 5, none⟩ = some (.slice (some ⟨g, 0, none⟩) nB capS') := by obtain ⟨m2, rfl⟩ := hm5; exact d5
              have e1 : w5.cell? ⟨g, i * 3 + 1, none⟩ = some (.int .i64 x.n) := by obtain ⟨m2, rfl⟩ := hm5; exact e1
              clear hm5 d3 d4 e2 HCX HM4 HD4
              by_cases hcc : CC = CK
              · as_aux_lemma =>
                have HTK := Lib.hid (show capS (sumP p (ns.take (i + 1))) = plusS (capS (sumP p (ns.take i))) x.n by
                  have hcx : capS x.n = x.n := capS_small (by omega)
                  have h1 := plusS_cap HS0.out xf2
                  rw [hcx] at h1
                  rw [h1, HT.out, HPX.out, decide_eq_true hcc]; simp)
                have hcd : (CC == CK) = true := by rw [hcc]; simp
                have hsc : 0 ≤ capS (sumP p (ns.take i)) ∧ capS (sumP p (ns.take i)) ≤ 4611686018427387904 := ⟨capS_nonneg HS0.out, capS_le _⟩
                generalize capS (sumP p (ns.take i)) = SM at *
                have HPL := Lib.hid (rplusS_any SM x.n hsc.1 hsc.2 xf2 (by omega) w5)
                clear HT HPX hcc hsc
                go_wp2_with (fail)
                refine HPL.out.mono ?_
                rintro e w6 ⟨rfl, hq6⟩
                have hq6 := hq6.symm
                subst hq6
                go_wp2_with (fail)
                exact ⟨⟨i + 1, by omega, by go_num, by rw [HTK.out], HM5⟩, by first | (simp [intOf]; done) | (simp [intOf]; omega)⟩
              · as_aux_lemma =>
                have HTK := Lib.hid (show sumP p (ns.take (i + 1)) = sumP p (ns.take i) by rw [HT.out, HPX.out, decide_eq_false hcc]; simp)
                have hcd : (CC == CK) = false := by rw [beq_eq_false_iff_ne]; exact hcc
                clear HT HPX hcc
                go_wp2_with (fail)
                exact ⟨⟨i + 1, by omega, by go_num, by rw [HTK.out], HM5⟩, by first | (simp [intOf]; done) | (simp [intOf]; omega)⟩
          · have i1 : ¬ (i : Int) < nB := by omega
            rw [List.take_of_length_le (by rw [HNB.out]; omega)]
            rw [← HFR.out]
            have HLR := Lib.hid (show leastS f (r + 1) = min (leastS f r) (f r) from rfl)
            clear HFR HP hli
            by_cases hlf : f r < leastS f r
            · as_aux_lemma =>
              go_wp2_with (fail)
              exact ⟨⟨r + 1, by omega, by go_num, by rw [HLR.out, Int.min_eq_right (by omega)], HM⟩, by first | (simp [intOf]; done) | (simp [intOf]; omega)⟩
            · as_aux_lemma =>
              go_wp2_with (fail)
              exact ⟨⟨r + 1, by omega, by go_num, by rw [HLR.out, Int.min_eq_left (by omega)], HM⟩, by first | (simp [intOf]; done) | (simp [intOf]; omega)⟩
      · have r1 : ¬ (r : Int) < RN := by omega
        have hrr : r = RN := by omega
        subst hrr
        go_wp2_with (fail)
        go_ret2
        exact ⟨by rw [HEST.out]; rfl, HM.out⟩
  · rw [if_neg hE]
    generalize lookS last at_ = E at *
    have hne : (E != 0) = true := by simpa using hE
    clear hE k
    go_enter Tryz.func83, Tryz.ntmps83
    go_wp2_with (fail)
    refine HWR.out.mono ?_
    rintro e w2 ⟨rfl, hq⟩
    have hq := hq.symm
    subst hq
    go_wp2_with (fail)
    go_ret2
    exact ⟨rfl, 0, rfl⟩
end Go.Proofs.YtemlafbkkaloiaaGreat
namespace Go.Proofs.YtemlafbkkaloiaaGreat
open Go.RowKit
end Go.Proofs.YtemlafbkkaloiaaGreat
namespace Go.Proofs.YtemlafbkkaloiaaGreat
open Go.RowKit
def r6Obj (h : ShapeS) : Obj := .cells #[.int .i64 h.W, .int .i64 h.B, .int .i64 h.R, .int .i64 h.C, .int .u64 h.seed, .slice none 0 0, .int .i64 0] 134
theorem r6_made (w : World) (h : ShapeS) : R6At (w.alloc (r6Obj h)) w.heap.size h 0 (.slice none 0 0) [] :=
  ⟨new_blockS w _, World.ownsRow_nil _ _ _ _, by simp [Value.ownBlock], by simp, Int.le_refl _, by omega, by simp⟩
set_option maxHeartbeats 3200000 in
theorem r6new_any (h : ShapeS) (w : World) : Calls Tryz.prog 27 #[.int .i64 h.W, .int .i64 h.B, .int .i64 h.R, .int .i64 h.C, .int .u64 h.seed] w fun e w' =>
    (newE h ≠ 0 → e = .returned (.tuple #[.pointer none, .int .i64 (newE h)]) ∧ w' = w) ∧ (newE h = 0 → e = .returned (.tuple #[.pointer (some ⟨w.heap.size, 0, none⟩), .int .i64 0]) ∧ w' = w.alloc (r6Obj h)) := by
  obtain ⟨W, B, R, C, seed⟩ := h
  unfold newE r6Obj
  dsimp only
  by_cases hs : (1 ≤ W ∧ W ≤ 1099511627776) ∧ (1 ≤ B ∧ B ≤ 60) ∧ (1 ≤ R ∧ R ≤ 8) ∧ (1 ≤ C ∧ C ≤ 4096)
  · have hb : shapeB ⟨W, B, R, C, seed⟩ = true := by
      simp only [shapeB, Bool.and_eq_true, inB_iff]; exact hs
    rw [if_pos hb]
    obtain ⟨⟨w1, w2⟩, ⟨b1, b2⟩, ⟨r1, r2⟩, ⟨c1, c2⟩⟩ := hs
    have hne : (B == 0) = false := by rw [beq_eq_false_iff_ne]; omega
    have et : W.tmod B = W % B := Int.tmod_eq_emod_of_nonneg (by omega)
    have em0 : 0 ≤ W % B := Int.emod_nonneg _ (by omega)
    have em1 : W % B < B := Int.emod_lt_of_pos _ (by omega)
    obtain ⟨M, hM⟩ : ∃ M, W % B = M := ⟨_, rfl⟩
    rw [hM] at et em0 em1 ⊢
    have e1 : IntKind.i64.wrap M = M := IntWalk.i64_in _ (by omega)
    clear hb hM
    by_cases hz : M = 0
    · subst hz
      rw [if_pos rfl]
      go_enter Tryz.func27, Tryz.ntmps27
      go_wp2_with (fail)
      go_ret2
      exact ⟨fun h => absurd rfl h, fun _ => ⟨rfl, rfl⟩⟩
    · rw [if_neg hz]
      have hnz : (M != 0) = true := by simpa using hz
      go_enter Tryz.func27, Tryz.ntmps27
      go_wp2_with (fail)
      go_ret2
      exact ⟨fun _ => ⟨rfl, rfl⟩, fun h => absurd h (by decide)⟩
  · have hb : ¬ shapeB ⟨W, B, R, C, seed⟩ = true := by
      simp only [shapeB, Bool.and_eq_true, inB_iff]; exact hs
    rw [if_neg hb]
    clear hb
    go_enter Tryz.func27, Tryz.ntmps27
    go_wp2_with (fail)
    all_goals first
      | (exfalso; omega)
      | (go_ret2; first | exact ⟨rfl, rfl⟩ | rfl | exact ⟨fun _ => ⟨rfl, rfl⟩, fun h => absurd h (by decide)⟩)
end Go.Proofs.YtemlafbkkaloiaaGreat
namespace Go.Proofs.YtemlafbkkaloiaaGreat
open Go.RowKit
theorem skAt_push2 {w wB wN : World} {s : Nat} {h : ShapeS} {last : Int} {v v' : Value} {bs : List BkS} (k : SkAt w s h last v bs) (hb : Below w.heap.size w wB) {m : Nat} {T : Int} {C : Int → Int → Int} (hm : CntAt wB m C) (hm0 : w.heap.size ≤ m) {G : Int} (g0 : 0 ≤ G) (g1 : G ≤ 1152921504606846976)
    (t0 : 0 ≤ T) (t1 : T ≤ 4611686018427387904)
    (hf : bs.length + 1 ≤ 9223372036854775807)
    (hr : wN.ownsRow 0 139 3 v' (bs.length + 1) (flatB bs ++ [.int .i64 G, .int .i64 T, .map (some m)])) (hg : wB.grownBy wN v.ownBlock) (hv : v'.ownBlock = v.ownBlock ∨ v'.ownBlock = some wB.heap.size) :
    SkAt (wN.setCell ⟨s, 5, none⟩ v') s h last v' (bs ++ [⟨G, T, m, C⟩]) ∧ Off (SkOwn s v bs) w (wN.setCell ⟨s, 5, none⟩ v') ∧ (∀ i, SkOwn s v' (bs ++ [⟨G, T, m, C⟩]) i → SkOwn s v bs i ∨ w.heap.size ≤ i) := by
  have hap := k.apart
  rw [List.nodup_cons, List.nodup_append] at hap
  obtain ⟨ap1, ap2, ap3, ap4⟩ := hap
  have kB := k.below hb
  have hvl : ∀ g, v.ownBlock = some g → g < w.heap.size := fun g e => k.lt (by simp [SkOwn, e])
  have hsl : s < w.heap.size := k.lt (by simp [SkOwn])
  have hz := hb.size
  have hml := hm.lt
  have hsv : ¬ v.ownBlock = some s := fun e => ap1 (by simp [e])
  have hsv' : ¬ v'.ownBlock = some s := fun e => by
    rcases hv with h1 | h1
    · exact hsv (h1.symm.trans e)
    · rw [h1] at e; injection e with e; omega
  have h2 : ∀ i, i ≠ s → (wN.setCell ⟨s, 5, none⟩ v').heap[i]? = wN.heap[i]? := fun i hi => heap_setCell_other wN _ i _ hi
  have hold : ∀ x, x ∈ bs → x.m < w.heap.size ∧ x.m ≠ s ∧ some x.m ≠ v.ownBlock := fun x hx => by
    have hxm : x.m ∈ bs.map (·.m) := List.mem_map.2 ⟨x, hx, rfl⟩
    exact ⟨(k.maps x hx).lt, fun e => ap1 (by rw [← e]; simp only [List.mem_append]; exact Or.inr hxm), fun e => ap4 x.m (by simp [← e]) x.m hxm rfl⟩
  have hms : m ≠ s := by omega
  have hmv : some m ≠ v.ownBlock := fun e => by have := hvl m e.symm; omega
  have hfl : flatB (bs ++ [⟨G, T, m, C⟩]) = flatB bs ++ [.int .i64 G, .int .i64 T, .map (some m)] := by simp [flatB, BkS.vals]
  refine ⟨⟨?_, ?_, ?_, ?_, ?_, ?_, k.l0, k.l1⟩, ?_, ?_⟩
  · exact heap_setCell_same wN s 5 _ _ _ ((hg.block s (by omega) (fun e => hsv e.symm)).trans kB.head)
  · have hr2 : RowB wN v' (bs ++ [⟨G, T, m, C⟩]) := by
      unfold RowB
      rw [hfl, show (bs ++ [(⟨G, T, m, C⟩ : BkS)]).length = bs.length + 1 by simp]
      exact hr
    exact hr2.kept (fun g hg => h2 g (fun e => hsv' (by rw [← e]; exact hg)))
  · intro x hx
    rcases List.mem_append.1 hx with hx | hx
    · obtain ⟨e1, e2, e3⟩ := hold x hx
      exact ((kB.maps x hx).kept (hg.block x.m (by omega) e3)).kept (h2 _ e2)
    · obtain rfl := List.mem_singleton.1 hx
      exact (hm.kept (hg.block m hml hmv)).kept (h2 _ hms)
  · rw [List.nodup_cons, List.nodup_append]
    refine ⟨?_, by cases v'.ownBlock <;> simp, ?_, ?_⟩
    · intro e
      simp only [List.mem_append, Option.mem_toList, List.map_append, List.map_cons, List.map_nil, List.mem_singleton] at e
      rcases e with e | e | e
      · exact hsv' e
      · obtain ⟨x, hx, e⟩ := List.mem_map.1 e
        exact (hold x hx).2.1 e
      · exact hms e.symm
    · rw [List.map_append, List.nodup_append]
      refine ⟨ap3, by simp, fun a ha b hb' e => ?_⟩
      obtain ⟨x, hx, rfl⟩ := List.mem_map.1 ha
      have hb2 : b = m := by simpa using hb'
      have := (hold x hx).1
      omega
    · intro a ha b hb' e
      subst e
      have ha2 : v'.ownBlock = some a := by simpa using ha
      simp only [List.map_append, List.mem_append, List.map_cons, List.map_nil, List.mem_singleton] at hb'
      rcases hv with h1 | h1
      · rcases hb' with e | e
        · obtain ⟨x, hx, rfl⟩ := List.mem_map.1 e
          exact (hold x hx).2.2 (by rw [← h1]; exact ha2.symm)
        · subst e; exact hmv (by rw [← h1]; exact ha2.symm)
      · rw [h1] at ha2
        injection ha2 with ha2
        rcases hb' with e | e
        · obtain ⟨x, hx, e⟩ := List.mem_map.1 e
          have := (hold x hx).1
          omega
        · omega
  · simpa using hf
  · intro x hx
    rcases List.mem_append.1 hx with hx | hx
    · exact k.tots x hx
    · obtain rfl := List.mem_singleton.1 hx
      exact ⟨g0, g1, t0, t1⟩
  · refine Off.setCell (p := ⟨s, 5, none⟩) ?_ (fun _ => by simp [SkOwn]) _
    refine (Off.ofBelow (S := SkOwn s v bs) hb).trans (S' := fun i => v.ownBlock = some i) ⟨hg.os, hg.tape, hg.output, hg.size, fun i hi hn => hg.block i hi (fun e => hn e.symm)⟩ (fun i _ e => by simp [SkOwn, e])
  · intro i hi
    unfold SkOwn at hi
    simp only [List.mem_cons, List.mem_append, Option.mem_toList, List.map_append, List.map_cons, List.map_nil, List.not_mem_nil, or_false] at hi
    rcases hi with hi | hi | hi | hi
    · exact Or.inl (by simp [SkOwn, hi])
    · rcases hv with h1 | h1
      · exact Or.inl (by rw [h1] at hi; simp [SkOwn, hi])
      · right; rw [h1] at hi; injection hi with hi; omega
    · exact Or.inl (by unfold SkOwn; simp only [List.mem_cons, List.mem_append]; exact Or.inr (Or.inr hi))
    · right; omega
theorem CntAt.congr {w : World} {m : Nat} {c d : Int → Int → Int} (h : CntAt w m c) (e : ∀ r k, 0 ≤ r → r < 8 → 0 ≤ k → k < 4096 → c r k = d r k) (hd : ∀ r k, 0 ≤ d r k ∧ d r k ≤ 4611686018427387904) : CntAt w m d := by
  obtain ⟨f, n, h1, h2, h3, _⟩ := h
  exact ⟨f, n, h1, fun r k a b x y => by rw [h2 r k a b x y, e r k a b x y], h3, hd⟩
structure FkI (w3 wz : World) (m r m2 : Nat) (cnt : Int → Int → Int) (n : Nat) : Prop where
  src : ∃ f k todo, RangeV wz 141 m r f k todo n ∧ (∀ key v, f key = some v → ∃ a b : Nat, a < 8 ∧ b < 4096 ∧ key = cellV a b ∧ v = .int .i64 (cnt a b)) ∧
    ∃ c2, CntAt wz m2 c2 ∧ ∀ a b, 0 ≤ a → a < 8 → 0 ≤ b → b < 4096 → c2 a b = if todo (cellV a b) then 0 else cnt a b
  off : Off (fun i => i = r ∨ i = m2) w3 wz
theorem cnt_of {cnt : Int → Int → Int} {f : Value → Option Value} (h2 : ∀ r c, 0 ≤ r → r < 8 → 0 ≤ c → c < 4096 → (f (cellV r c)).getD (.int .i64 0) = .int .i64 (cnt r c)) (h3 : ∀ key, (f key).isSome = true → ∃ r c : Nat, r < 8 ∧ c < 4096 ∧ key = cellV r c) :
    ∀ key v, f key = some v → ∃ a b : Nat, a < 8 ∧ b < 4096 ∧ key = cellV a b ∧ v = .int .i64 (cnt a b) := fun key v hv => by
  obtain ⟨a, b, ha, hb, rfl⟩ := h3 key (by rw [hv]; rfl)
  refine ⟨a, b, ha, hb, rfl, ?_⟩
  have := h2 a b (by omega) (by omega) (by omega) (by omega)
  rw [hv] at this
  exact this
def skObjL (h : ShapeS) (last : Int) : Obj := .cells #[.int .i64 h.W, .int .i64 h.B, .int .i64 h.R, .int .i64 h.C, .int .u64 h.seed, .slice none 0 0, .int .i64 last] 127
theorem skAt_made2 (w : World) (h : ShapeS) {last : Int} (l0 : 0 ≤ last) (l1 : last ≤ 1152921504606846976) : SkAt (w.alloc (skObjL h last)) w.heap.size h last (.slice none 0 0) [] :=
  ⟨new_blockS w _, ⟨by simp [maxLen, flatB], Or.inl ⟨rfl, rfl⟩⟩, by simp, by simp [Value.ownBlock], by simp, by simp, l0, l1⟩
theorem boxed2q {wx : World} {bx : Nat} {x y : Value} {o : Obj} (h : wx.cell? ⟨bx, 0, none⟩ = some x ∧ wx.cell? ⟨bx, 1, none⟩ = some y) : (wx.alloc o).cell? ⟨bx, 0, none⟩ = some x ∧ (wx.alloc o).cell? ⟨bx, 1, none⟩ = some y :=
  ⟨(World.cell?_alloc_lt wx o _ (World.block_lt_of_cell? _ _ h.1)).trans h.1, (World.cell?_alloc_lt wx o _ (World.block_lt_of_cell? _ _ h.2)).trans h.2⟩
theorem boxed2s {wx : World} {bx s o : Nat} {x y u : Value} (h : wx.cell? ⟨bx, 0, none⟩ = some x ∧ wx.cell? ⟨bx, 1, none⟩ = some y) (hne : s ≠ bx) : (wx.setCell ⟨s, o, none⟩ u).cell? ⟨bx, 0, none⟩ = some x ∧ (wx.setCell ⟨s, o, none⟩ u).cell? ⟨bx, 1, none⟩ = some y :=
  ⟨cell_far h.1 (fun e => by injection e with e1 _; exact hne e1), cell_far h.2 (fun e => by injection e with e1 _; exact hne e1)⟩
theorem grown_alloc (w : World) (o : Obj) : w.grownBy (w.alloc o) none := by
  have hb : Below w.heap.size w (w.alloc o) := (Below.refl _ _).alloc (Nat.le_refl _) _
  exact ⟨hb.os, hb.tape, hb.output, hb.size, fun i hi _ => hb.block i hi⟩
theorem FkI.step {w3 wz wn wd : World} {m r m2 : Nat} {cnt : Int → Int → Int} {f : Value → Option Value} {k n' : Nat} {todo : Value → Bool} {c2 : Int → Int → Int} {a b : Nat} {o : Obj} (hr : RangeV wn 141 m r f k (strikeV todo (cellV a b)) n') (hf : ∀ key v, f key = some v → ∃ a b : Nat, a < 8 ∧ b < 4096 ∧ key = cellV a b ∧ v = .int .i64 (cnt a b))
    (hc : CntAt wd m2 (setC c2 a b (cnt a b))) (h2 : ∀ a b, 0 ≤ a → a < 8 → 0 ≤ b → b < 4096 → c2 a b = if todo (cellV a b) then 0 else cnt a b)
    (ho : Off (fun i => i = r ∨ i = m2) w3 wz) (hg1 : wz.grownBy wn (some r)) (hg2 : (wn.alloc o).grownBy wd (some m2)) (hmm : m ≠ m2) (hrm : r ≠ m2) : FkI w3 wd m r m2 cnt n' := by
  refine ⟨⟨f, k, _, (hr.kept (grown_alloc wn o) (by simp) (by simp)).kept hg2 (by simpa using hmm) (by simpa using hrm), hf, _, hc, fun x y x0 x1 y0 y1 => ?_⟩, ((ho.grown hg1 (fun _ => Or.inl rfl)).alloc o).grown hg2 (fun _ => Or.inr rfl)⟩
  unfold setC
  by_cases e : x = a ∧ y = b
  · obtain ⟨rfl, rfl⟩ := e
    rw [if_pos ⟨rfl, rfl⟩, strikeV_same]; rfl
  · rw [if_neg e, strikeV_other _ (fun he => e (cellV_inj he)), h2 x y x0 x1 y0 y1]
set_option maxHeartbeats 12800000 in
set_option maxRecDepth 100000 in
theorem skfork_any {w : World} {s : Nat} {h : ShapeS} {last : Int} {v : Value} {bs : List BkS} (k : SkAt w s h last v bs) (hfew : bs.length ≤ 1099511627777) :
    Calls Tryz.prog 29 #[.pointer (some ⟨s, 0, none⟩)] w fun e w' => ∃ s' v' bs', e = .returned (.pointer (some ⟨s', 0, none⟩)) ∧ SkAt w' s' h last v' bs' ∧ bs'.map BkS.a = bs.map BkS.a ∧ Below w.heap.size w w' ∧ ∀ i, SkOwn s' v' bs' i → w.heap.size ≤ i := by
  obtain ⟨c0, c1, c2, c3, c4, c5, c6⟩ := k.headCells
  have K := Lib.hid k
  have hsl : s < w.heap.size := k.lt (by simp [SkOwn])
  obtain ⟨aS, capS', hvS, hcs⟩ := k.row.slice
  subst hvS
  have hmk : ∀ wx : World, (Instr.makeMap 137 none).run Tryz.prog wx = .ok (.map (some wx.heap.size)) (wx.alloc (.map #[] 0)) := fun wx => run_makeMap _ wx
  have HMK := Lib.hid hmk
  have HMD := Lib.hid (skAt_made2 w h k.l0 k.l1)
  have HAL := Lib.hid (show Below w.heap.size w (w.alloc (skObjL h last)) from (Below.refl _ _).alloc (Nat.le_refl _) _)
  unfold skObjL at HMD HAL
  obtain ⟨nB, hnB⟩ : ∃ nB, bs.length = nB := ⟨_, rfl⟩
  have HNB := Lib.hid hnB
  rw [hnB] at c5 hcs hfew
  have a5 : (w.alloc (.cells #[.int .i64 h.W, .int .i64 h.B, .int .i64 h.R, .int .i64 h.C, .int .u64 h.seed, .slice none 0 0, .int .i64 last] 127)).cell? ⟨s, 5, none⟩ = some (.slice aS nB capS') := (World.cell?_alloc_lt w _ _ hsl).trans c5
  clear k hmk hnB hcs
  go_enter Tryz.func29, Tryz.ntmps29
  go_wp2_with (fail)
  go_region
  go_wp2_with (fail)
  have HK0 := Lib.hid HMD.out.drew
  have HB0 := Lib.hid HAL.out.drew
  generalize (w.alloc (.cells #[.int .i64 h.W, .int .i64 h.B, .int .i64 h.R, .int .i64 h.C, .int .u64 h.seed, .slice none 0 0, .int .i64 last] 127)).drew = w1 at *
  obtain ⟨s2, hs2⟩ : ∃ s2, w.heap.size = s2 := ⟨_, rfl⟩
  simp only [hs2] at HK0 ⊢
  have HS2 := Lib.hid hs2
  clear HMD HAL a5 c0 c1 c2 c3 c4 c5 c6 hs2
  go_loopw [5, 6, 7, 8, 26] (fun _ _ _ _ x26 wr => ∃ (k : Nat) (v2 : Value) (bs2 : List BkS), k ≤ nB ∧ x26 = .int .i64 k ∧ Hid (SkAt wr s2 h last v2 bs2) ∧ Hid (bs2.map BkS.a = (bs.take k).map BkS.a) ∧ Hid (Below w.heap.size w wr) ∧ Hid (∀ i, SkOwn s2 v2 bs2 i → w.heap.size ≤ i)) (fun _ _ _ _ x26 _ => nB - (intOf x26).toNat)
  case atStart => exact ⟨0, _, [], Nat.zero_le _, rfl, HK0, Lib.hid rfl, HB0, Lib.hid (fun i hi => by have := HS2.out; unfold SkOwn at hi; simp [Value.ownBlock] at hi; omega)⟩
  case round =>
    rename World => wr
    clear HK0 HB0
    obtain ⟨k, v2, bs2, hk, rfl, HKR, HMP, HBR, HOW⟩ := hrel
    by_cases hlt : k < nB
    · have hkl : k < bs.length := by rw [HNB.out]; exact hlt
      obtain ⟨X, hX⟩ : ∃ X, bs[k]? = some X := ⟨_, List.getElem?_eq_getElem hkl⟩
      have hne : bs ≠ [] := by intro e; rw [e] at hkl; simp at hkl
      obtain ⟨g, cp, hvg, _, _, hgl, hcell⟩ := K.out.row.cells hne
      injection hvg with hag _ hcap
      subst hcap
      subst hag
      obtain ⟨e0, e1, e2⟩ := hcell k X hX
      have e0 := (HBR.out.cell (p := ⟨g, k * 3, none⟩) hgl).trans e0
      have e1 := (HBR.out.cell (p := ⟨g, k * 3 + 1, none⟩) hgl).trans e1
      have e2 := (HBR.out.cell (p := ⟨g, k * 3 + 2, none⟩) hgl).trans e2
      have HTK := Lib.hid (show bs.take (k + 1) = bs.take k ++ [X] by rw [List.take_add_one, hX]; rfl)
      have HCS := Lib.hid (K.out.maps X (List.mem_of_getElem? hX))
      have HTT := Lib.hid (K.out.tots X (List.mem_of_getElem? hX))
      obtain ⟨xa, xt, m, cnt⟩ := X
      dsimp only at e0 e1 e2 HCS HTT
      have k0 : (0 : Int) ≤ k := by omega
      have k1 : (k : Int) < nB := by omega
      have halb : Below wr.heap.size wr (wr.alloc (.cells #[.int .i64 xa, .int .i64 xt, .map (some m)] 139)) := (Below.refl _ _).alloc (Nat.le_refl _) _
      have halm : Below wr.heap.size wr ((wr.alloc (.cells #[.int .i64 xa, .int .i64 xt, .map (some m)] 139)).alloc (.map #[] 0)) := halb.alloc halb.size _
      have hzb : (wr.alloc (.cells #[.int .i64 xa, .int .i64 xt, .map (some m)] 139)).heap.size = wr.heap.size + 1 := by simp
      have hzm : ((wr.alloc (.cells #[.int .i64 xa, .int .i64 xt, .map (some m)] 139)).alloc (.map #[] 0)).heap.size = wr.heap.size + 2 := by simp
      have hnb := (Below.heap_alloc (wr.alloc (.cells #[.int .i64 xa, .int .i64 xt, .map (some m)] 139)) (.map #[] 0) wr.heap.size (by omega)).trans (new_blockS wr _)
      have hc0 := cntAt_made (wr.alloc (.cells #[.int .i64 xa, .int .i64 xt, .map (some m)] 139))
      rw [hzb] at hc0
      have hcs := HCS.out.kept ((halm.block m (Nat.lt_of_lt_of_le HCS.out.lt HBR.out.size)).trans (HBR.out.block m HCS.out.lt))
      have hmk := HMK.out
      obtain ⟨f, nf, hmv, hf2, hf3, hbd⟩ := hcs
      obtain ⟨w3, hrun, hrg, hg3, hz3⟩ := hmv.range cellKeyed Tryz.underlying137
      rw [hzm] at hrun hrg
      have hml := HCS.out.lt
      have hwz := HBR.out.size
      have HFK := Lib.hid (show FkI w3 w3 m (wr.heap.size + 2) (wr.heap.size + 1) cnt nf from
        ⟨⟨f, nf, _, hrg, cnt_of hf2 hf3, _, hc0.kept (hg3.block _ (by omega) (by simp)), fun a b a0 a1 b0 b1 => by
          have h1 := hf2 a b a0 a1 b0 b1
          cases hfc : f (cellV a b) with
          | none => rw [hfc] at h1; simp only [Option.getD_none, Value.int.injEq, true_and] at h1; simp [h1]
          | some u => simp⟩, Off.refl _ _⟩)
      have HW3 := Lib.hid (show Below wr.heap.size wr w3 from halm.trans ⟨hg3.os, hg3.tape, hg3.output, hg3.size, fun i hi => hg3.block i (by omega) (by simp)⟩)
      have hn3 := (hg3.block wr.heap.size (by omega) (by simp)).trans hnb
      have HN3 := Lib.hid (And.intro hn3 (show w3.heap.size = wr.heap.size + 3 by omega))
      have HBD := Lib.hid hbd
      clear hnb hc0 hmv hf2 hf3 hbd hrg hg3 hz3 halb hzb hX hne hgl hkl halm hcell
      go_wp2_with (fail)
      obtain ⟨wr0, hwr0⟩ : ∃ wr0, wr.heap.size = wr0 := ⟨_, rfl⟩
      have HML := Lib.hid (show m < wr0 by omega)
      rw [hwr0] at HFK HN3
      simp only [hwr0]
      obtain ⟨m2, hm2⟩ : ∃ m2, wr0 + 1 = m2 := ⟨_, rfl⟩
      simp only [hm2] at HFK ⊢
      have HM2E := Lib.hid hm2
      clear hrun hm2
      go_loopw [7, 8] (fun _ _ wr => ∃ n', Hid (FkI w3 wr m (wr0 + 2) m2 cnt n')) (fun _ _ wr => wr.rangeLeft m (wr0 + 2))
      case atStart => exact ⟨nf, HFK⟩
      case round =>
        rename World => wz
        obtain ⟨n', HF⟩ := hrel
        obtain ⟨⟨f2, kf, todo, hrv, hfv, c2, hc2, hcc⟩, hoff⟩ := HF.out
        have hn3z := hoff.block wr0 (by have := HN3.out.2; omega) (by intro h; have := HM2E.out; omega)
        have hbz := hn3z.trans HN3.out.1
        have bx0 : wz.cell? ⟨wr0, 0, none⟩ = some (.int .i64 xa) := by simp only [World.cell?, hbz]; rfl
        have bx1 : wz.cell? ⟨wr0, 1, none⟩ = some (.int .i64 xt) := by simp only [World.cell?, hbz]; rfl
        rcases hrv.next cellKeyed 0 with ⟨hn0, hall, hnx⟩ | ⟨key, val, kl, wn, cnt', hkl, htd, hfk, hnx, hrn, hltn, hgn, hsn, hen⟩
        · have hcm : CntAt wz m2 cnt := by
            exact hc2.congr (fun a b a0 a1 b0 b1 => by
              obtain ⟨kl, hkl⟩ := keyOf_cell (wf_small a0 (by omega)) (wf_small b0 (by omega))
              rw [hcc a b a0 a1 b0 b1, hall _ kl hkl]; rfl) HBD.out
          have hbw : Below wr.heap.size wr wz := HW3.out.trans (hoff.below (B := wr.heap.size) HW3.out.size (fun i hi h => by have := HM2E.out; omega))
          obtain ⟨aD, capD, hv2, hcd2⟩ := HKR.out.row.slice
          obtain ⟨n2, hn2⟩ : ∃ n2, bs2.length = n2 := ⟨_, rfl⟩
          rw [hn2] at hv2 hcd2
          subst hv2
          have HN2 := Lib.hid hn2
          have hn2k : n2 ≤ 1099511627777 := by
            have h1 := congrArg List.length HMP.out
            rw [List.length_map, List.length_map, List.length_take, hn2] at h1
            omega
          have hkz := HKR.out.below hbw
          have hs2l : s2 < wr0 := by rw [← hwr0]; exact HKR.out.lt (by simp [SkOwn])
          have hz03 : wr0 + 3 ≤ wz.heap.size := by have := hoff.size; have := HN3.out.2; omega
          have c5 : wz.cell? ⟨s2, 5, none⟩ = some (.slice aD n2 capD) := by have := hkz.head; simp only [World.cell?, this]; rfl
          have c5B : ∀ o, (wz.alloc o).cell? ⟨s2, 5, none⟩ = some (.slice aD n2 capD) := fun o => (World.cell?_alloc_lt wz o _ (World.block_lt_of_cell? _ _ c5)).trans c5
          have hala : Below wz.heap.size wz (wz.alloc (.cells #[.int .i64 xa, .int .i64 xt, .map (some m2)] 139)).drew := ((Below.refl _ _).alloc (Nat.le_refl _) _).drew
          have HBW := Lib.hid (hbw.trans (hala.mono hbw.size))
          have HROW := Lib.hid (show (wz.alloc (.cells #[.int .i64 xa, .int .i64 xt, .map (some m2)] 139)).drew.ownsRow 0 139 3 (.slice aD n2 capD) n2 (flatB bs2) by
            have h1 := rowB_below HKR.out HBW.out
            rw [HN2.out] at h1
            exact h1)
          have HTC := Lib.hid (show ∀ j u, ([.int .i64 xa, .int .i64 xt, .map (some m2)] : List Value)[j]? = some u → (wz.alloc (.cells #[.int .i64 xa, .int .i64 xt, .map (some m2)] 139)).drew.cell? ((⟨wz.heap.size, 0, none⟩ : Addr).add j) = some u from fun j u hu => three_cells wz (.int .i64 xa) (.int .i64 xt) (.map (some m2)) 139 j u hu)
          have HCN := Lib.hid (hcm.kept (hala.block m2 hcm.lt))
          have HM2 := Lib.hid (show wr.heap.size ≤ m2 by have := HM2E.out; omega)
          have HXA := Lib.hid (show (0 ≤ xa ∧ xa ≤ 1152921504606846976 ∧ 0 ≤ xt ∧ xt ≤ 4611686018427387904) from HTT.out)
          have HHW := Lib.hid ((hala.block s2 (by omega)).trans hkz.head)
          have HSW := Lib.hid (show s2 < (wz.alloc (.cells #[.int .i64 xa, .int .i64 xt, .map (some m2)] 139)).drew.heap.size from by have := hala.size; omega)
          have hvo : ∀ i, (Value.slice aD n2 capD).ownBlock = some i → i < wr0 ∧ i ≠ s2 := fun i e => ⟨by rw [← hwr0]; exact HKR.out.lt (by simp [SkOwn, e]), fun e2 => by
            have hap := HKR.out.apart
            rw [List.nodup_cons] at hap
            exact hap.1 (by rw [← e2]; simp [e])⟩
          have HVS := Lib.hid (show ¬ (Value.slice aD n2 capD).ownBlock = some s2 from fun e => (hvo s2 e).2 rfl)
          have HVB := Lib.hid (show ¬ (Value.slice aD n2 capD).ownBlock = some wr0 from fun e => by have := (hvo _ e).1; omega)
          have HNE := Lib.hid (show s2 ≠ wr0 by omega)
          have HBXA := Lib.hid (show wr0 < (wz.alloc (.cells #[.int .i64 xa, .int .i64 xt, .map (some m2)] 139)).drew.heap.size ∧ (wz.alloc (.cells #[.int .i64 xa, .int .i64 xt, .map (some m2)] 139)).drew.heap[wr0]? = some (.cells #[.int .i64 xa, .int .i64 xt, .map (some m)] 139) from ⟨by have := hala.size; omega, (hala.block wr0 (by omega)).trans hbz⟩)
          have HWR := Lib.hid hwr0
          obtain ⟨i0, hi, hz0, hz1, hz2⟩ := info_parts info_bk
          clear hvo hala hkz hs2l hz03 hcm hbw hc2 hcc hrv hfv hoff hn3z hbz hn0 hall hn2 hwr0
          go_wp2_with (fail)
          refine wp_region_noPanic ?_
          refine wp_region_held_drew (S := (fun wx => wx.cell? ⟨wr0, 0, none⟩ = some (.int .i64 xa) ∧ wx.cell? ⟨wr0, 1, none⟩ = some (.int .i64 xt))) (by kernel_rfl) ?_ (fun hHeld => ?_)
          · exact ⟨bx0, bx1⟩
          refine wpAnyH_take (i := 0) (v := ?_) rfl (by kernel_rfl) (by kernel_rfl) (by kernel_rfl) (fun _ _ _ h => h) (Or.inl ⟨by rfl, ?hy⟩) (by assumption) ?_
          case hy => intro w hSw; (try dsimp only at hSw); go_simp; try with_reducible rfl
          try simp only [Act.put, szA, szB, szC, szD, szE, szF]
          refine wpAnyH_take (i := 1) (v := ?_) rfl (by kernel_rfl) (by kernel_rfl) (by kernel_rfl) (fun _ _ _ h => h) (Or.inl ⟨by rfl, ?hy⟩) (by assumption) ?_
          case hy => intro w hSw; (try dsimp only at hSw); go_simp; try with_reducible rfl
          try simp only [Act.put, szA, szB, szC, szD, szE, szF]
          refine wpAnyH_take (i := 2) (v := ?_) rfl (by kernel_rfl) (by kernel_rfl) (by kernel_rfl) (fun _ _ _ h => h) (Or.inl ⟨by rfl, ?hy⟩) (by assumption) ?_
          case hy => intro w hSw; (try dsimp only at hSw); go_simp; try with_reducible rfl
          try simp only [Act.put, szA, szB, szC, szD, szE, szF]
          refine wpAnyH_take (i := 3) (v := ?_) rfl (by kernel_rfl) (by kernel_rfl) (by kernel_rfl) (fun _ _ _ h => h) (Or.inl ⟨by rfl, ?hy⟩) (by assumption) ?_
          case hy => intro w hSw; (try dsimp only at hSw); go_simp; try with_reducible rfl
          try simp only [Act.put, szA, szB, szC, szD, szE, szF]
          refine wpAnyH_take (i := 5) (v := ?_) rfl (by kernel_rfl) (by kernel_rfl) (by kernel_rfl) (fun _ _ _ h => h) (Or.inl ⟨by rfl, ?hy⟩) (by assumption) ?_
          case hy => intro w hSw; (try dsimp only at hSw); go_simp; try with_reducible rfl
          try simp only [Act.put, szA, szB, szC, szD, szE, szF]
          refine wpAnyH_take (i := 6) (v := ?_) rfl (by kernel_rfl) (by kernel_rfl) (by kernel_rfl) (fun _ _ _ h => h) (Or.inl ⟨by rfl, ?hy⟩) (by assumption) ?_
          case hy => intro w hSw; (try dsimp only at hSw); go_simp; try with_reducible rfl
          try simp only [Act.put, szA, szB, szC, szD, szE, szF]
          refine wpAnyH_take (i := 7) (v := ?_) rfl (by kernel_rfl) (by kernel_rfl) (by kernel_rfl) (fun _ _ _ h => h) (Or.inl ⟨by rfl, ?hy⟩) (by assumption) ?_
          case hy => intro w hSw; (try dsimp only at hSw); go_simp; try with_reducible rfl
          try simp only [Act.put, szA, szB, szC, szD, szE, szF]
          refine wpAnyH_take (i := 8) (v := ?_) rfl (by kernel_rfl) (by kernel_rfl) (by kernel_rfl) (fun _ _ _ h => h) (Or.inl ⟨by rfl, ?hy⟩) (by assumption) ?_
          case hy => intro w hSw; (try dsimp only at hSw); go_simp; try with_reducible rfl
          try simp only [Act.put, szA, szB, szC, szD, szE, szF]
          refine wpAnyH_take (i := 9) (v := ?_) rfl (by kernel_rfl) (by kernel_rfl) (by kernel_rfl) (fun _ _ _ h => h) (Or.inl ⟨by rfl, ?hy⟩) (by assumption) ?_
          case hy => intro w hSw; (try dsimp only at hSw); go_simp; try with_reducible rfl
          try simp only [Act.put, szA, szB, szC, szD, szE, szF]
          refine wpAnyH_take (i := 10) (v := ?_) rfl (by kernel_rfl) (by kernel_rfl) (by kernel_rfl) (fun _ _ _ h => h) (Or.inl ⟨by rfl, ?hy⟩) (by assumption) ?_
          case hy => intro w hSw; (try dsimp only at hSw); go_simp; try with_reducible rfl
          try simp only [Act.put, szA, szB, szC, szD, szE, szF]
          refine wpAnyH_ready (rs := [4, 11]) (by kernel_rfl) (by simp) (AllReadyH.cons rfl (fun K hK => ?_) (AllReadyH.cons rfl (fun K hK => ?_) AllReadyH.nil))
          · go_simp
            try (go_wp2_with fail)
            refine hK.out _ _ ?_ (fun hHeld => ?_)
            · exact hHeld
            clear hK K
            try simp only [Act.put, szA, szB, szC, szD, szE, szF]
            refine wpAnyH_ready (rs := [11]) (by kernel_rfl) (by simp) (AllReadyH.cons rfl (fun K hK => ?_) AllReadyH.nil)
            go_simp
            skip
            try (go_wp2_with fail)
            refine hK.out _ _ ?_ (fun hHeld => ?_)
            · exact boxed2q hHeld
            clear hK K
            try simp only [Act.put, szA, szB, szC, szD, szE, szF]
            refine wpAnyH_ready (rs := [12]) (by kernel_rfl) (by simp) (AllReadyH.cons rfl (fun K hK => ?_) AllReadyH.nil)
            rw [if_pos (by rfl)]
            refine wp_append_at _ (.tmp 46) (.tmp 53) 125 rfl 0 139 i0 (.agg zB.toArray) 3 24 Tryz.underlying125 hi hz0 hz1 hz2 rfl (by decide) (.slice aD n2 capD) n2 (flatB bs2) rfl HROW.out ⟨wz.heap.size, 0, none⟩ 1 1 [.int .i64 xa, .int .i64 xt, .map (some m2)] rfl rfl HTC.out (by intro u hu; simp at hu; rcases hu with rfl | rfl | rfl <;> rfl) (by unfold maxLen; omega) (by omega) (Nat.zero_le _) (by decide) ?_
            intro v3 w3 hown3 hg3 hk3
            obtain ⟨g3, cap3, rfl⟩ : ∃ g c, v3 = .slice (some ⟨g, 0, none⟩) (n2 + 1) c := by
              rcases hown3.2 with ⟨_, hz⟩ | ⟨g, c, cur, hz, _⟩
              · omega
              · exact ⟨g, c, hz⟩
            have HPUSH := Lib.hid (skAt_push2 HKR.out HBW.out HCN.out HM2.out HXA.out.1 HXA.out.2.1 HXA.out.2.2.1 HXA.out.2.2.2 (by rw [HN2.out]; omega) (by rw [HN2.out]; exact hown3) hg3 hk3)
            have hs3 := (hg3.block s2 HSW.out (fun e => HVS.out e.symm)).trans HHW.out
            have c3s : w3.cell? ⟨s2, 5, none⟩ = some (.slice aD n2 capD) := by simp only [World.cell?, hs3]; rfl
            have f3s : w3.frozen? ⟨s2, 5, none⟩ = false := by simp only [World.frozen?, hs3]; simp
            have hb3 := (hg3.block wr0 HBXA.out.1 (fun e => HVB.out e.symm)).trans HBXA.out.2
            have hHB : w3.cell? ⟨wr0, 0, none⟩ = some (.int .i64 xa) ∧ w3.cell? ⟨wr0, 1, none⟩ = some (.int .i64 xt) := by constructor <;> (simp only [World.cell?, hb3]; rfl)
            have HHB := Lib.hid hHB
            clear hown3 hg3 hk3 hs3 hb3 hHB
            refine hK.out _ _ HHB.out (fun hHeld => ?_)
            clear hK K
            try simp only [Act.put, szA, szB, szC, szD, szE, szF]
            refine wpAnyH_take (i := 13) (v := ?_) rfl (by kernel_rfl) (by kernel_rfl) (by kernel_rfl) (fun _ _ _ h => h) (Or.inl ⟨by rfl, ?hy⟩) (by assumption) ?_
            case hy => intro w hSw; (try dsimp only at hSw); go_simp; try with_reducible rfl
            try simp only [Act.put, szA, szB, szC, szD, szE, szF]
            refine wpAnyH_take (i := 14) (v := ?_) rfl (by kernel_rfl) (by kernel_rfl) (by kernel_rfl) (fun _ _ _ h => h) (Or.inl ⟨by rfl, ?hy⟩) (by assumption) ?_
            case hy => intro w hSw; (try dsimp only at hSw); go_simp; try with_reducible rfl
            try simp only [Act.put, szA, szB, szC, szD, szE, szF]
            refine wpAnyH_ready (rs := [15]) (by kernel_rfl) (by simp) (AllReadyH.cons rfl (fun K hK => ?_) AllReadyH.nil)
            go_simp
            skip
            try (go_wp2_with fail)
            refine hK.out _ _ ?_ (fun hHeld => ?_)
            · exact boxed2s hHeld HNE.out
            clear hK K
            try simp only [Act.put, szA, szB, szC, szD, szE, szF]
            refine wpAnyH_done (by kernel_rfl) ?_ _
            refine NoPanic.normal ?_
            have HW0 := HWR.out
            go_wp2_with (fail)
            refine ⟨⟨k + 1, _, _, by omega, by go_num, HPUSH.out.1, Lib.hid ?_, Lib.hid ?_, Lib.hid (fun i hi => ?_)⟩, by first | (simp [intOf]; done) | (simp [intOf]; omega)⟩
            · rw [List.map_append, HMP.out, HTK.out, List.map_append]; rfl
            · exact HBR.out.trans (HPUSH.out.2.1.below (B := w.heap.size) HBR.out.size (fun i hi h => by have := HOW.out i h; omega))
            · rcases HPUSH.out.2.2 i hi with h1 | h1
              · exact HOW.out i h1
              · have := HBR.out.size; omega
          · go_simp
            try (go_wp2_with fail)
            refine hK.out _ _ ?_ (fun hHeld => ?_)
            · exact boxed2q hHeld
            clear hK K
            try simp only [Act.put, szA, szB, szC, szD, szE, szF]
            refine wpAnyH_ready (rs := [4]) (by kernel_rfl) (by simp) (AllReadyH.cons rfl (fun K hK => ?_) AllReadyH.nil)
            go_simp
            skip
            try (go_wp2_with fail)
            refine hK.out _ _ ?_ (fun hHeld => ?_)
            · exact hHeld
            clear hK K
            try simp only [Act.put, szA, szB, szC, szD, szE, szF]
            refine wpAnyH_ready (rs := [12]) (by kernel_rfl) (by simp) (AllReadyH.cons rfl (fun K hK => ?_) AllReadyH.nil)
            rw [if_pos (by rfl)]
            refine wp_append_at _ (.tmp 46) (.tmp 53) 125 rfl 0 139 i0 (.agg zB.toArray) 3 24 Tryz.underlying125 hi hz0 hz1 hz2 rfl (by decide) (.slice aD n2 capD) n2 (flatB bs2) rfl HROW.out ⟨wz.heap.size, 0, none⟩ 1 1 [.int .i64 xa, .int .i64 xt, .map (some m2)] rfl rfl HTC.out (by intro u hu; simp at hu; rcases hu with rfl | rfl | rfl <;> rfl) (by unfold maxLen; omega) (by omega) (Nat.zero_le _) (by decide) ?_
            intro v3 w3 hown3 hg3 hk3
            obtain ⟨g3, cap3, rfl⟩ : ∃ g c, v3 = .slice (some ⟨g, 0, none⟩) (n2 + 1) c := by
              rcases hown3.2 with ⟨_, hz⟩ | ⟨g, c, cur, hz, _⟩
              · omega
              · exact ⟨g, c, hz⟩
            have HPUSH := Lib.hid (skAt_push2 HKR.out HBW.out HCN.out HM2.out HXA.out.1 HXA.out.2.1 HXA.out.2.2.1 HXA.out.2.2.2 (by rw [HN2.out]; omega) (by rw [HN2.out]; exact hown3) hg3 hk3)
            have hs3 := (hg3.block s2 HSW.out (fun e => HVS.out e.symm)).trans HHW.out
            have c3s : w3.cell? ⟨s2, 5, none⟩ = some (.slice aD n2 capD) := by simp only [World.cell?, hs3]; rfl
            have f3s : w3.frozen? ⟨s2, 5, none⟩ = false := by simp only [World.frozen?, hs3]; simp
            have hb3 := (hg3.block wr0 HBXA.out.1 (fun e => HVB.out e.symm)).trans HBXA.out.2
            have hHB : w3.cell? ⟨wr0, 0, none⟩ = some (.int .i64 xa) ∧ w3.cell? ⟨wr0, 1, none⟩ = some (.int .i64 xt) := by constructor <;> (simp only [World.cell?, hb3]; rfl)
            have HHB := Lib.hid hHB
            clear hown3 hg3 hk3 hs3 hb3 hHB
            refine hK.out _ _ HHB.out (fun hHeld => ?_)
            clear hK K
            try simp only [Act.put, szA, szB, szC, szD, szE, szF]
            refine wpAnyH_take (i := 13) (v := ?_) rfl (by kernel_rfl) (by kernel_rfl) (by kernel_rfl) (fun _ _ _ h => h) (Or.inl ⟨by rfl, ?hy⟩) (by assumption) ?_
            case hy => intro w hSw; (try dsimp only at hSw); go_simp; try with_reducible rfl
            try simp only [Act.put, szA, szB, szC, szD, szE, szF]
            refine wpAnyH_take (i := 14) (v := ?_) rfl (by kernel_rfl) (by kernel_rfl) (by kernel_rfl) (fun _ _ _ h => h) (Or.inl ⟨by rfl, ?hy⟩) (by assumption) ?_
            case hy => intro w hSw; (try dsimp only at hSw); go_simp; try with_reducible rfl
            try simp only [Act.put, szA, szB, szC, szD, szE, szF]
            refine wpAnyH_ready (rs := [15]) (by kernel_rfl) (by simp) (AllReadyH.cons rfl (fun K hK => ?_) AllReadyH.nil)
            go_simp
            skip
            try (go_wp2_with fail)
            refine hK.out _ _ ?_ (fun hHeld => ?_)
            · exact boxed2s hHeld HNE.out
            clear hK K
            try simp only [Act.put, szA, szB, szC, szD, szE, szF]
            refine wpAnyH_done (by kernel_rfl) ?_ _
            refine NoPanic.normal ?_
            have HW0 := HWR.out
            go_wp2_with (fail)
            refine ⟨⟨k + 1, _, _, by omega, by go_num, HPUSH.out.1, Lib.hid ?_, Lib.hid ?_, Lib.hid (fun i hi => ?_)⟩, by first | (simp [intOf]; done) | (simp [intOf]; omega)⟩
            · rw [List.map_append, HMP.out, HTK.out, List.map_append]; rfl
            · exact HBR.out.trans (HPUSH.out.2.1.below (B := w.heap.size) HBR.out.size (fun i hi h => by have := HOW.out i h; omega))
            · rcases HPUSH.out.2.2 i hi with h1 | h1
              · exact HOW.out i h1
              · have := HBR.out.size; omega
        · obtain ⟨a, b, ha, hb, rfl, rfl⟩ := hfv key val hfk
          obtain ⟨wd, hup, hcd, hgd, hzd⟩ := (hc2.kept (w' := wn.alloc (.cells #[.int .i64 a, .int .i64 b] 141)) (((Below.heap_alloc wn _ _ (by have := hc2.lt; omega))).trans (hgn.block _ hc2.lt (by have := HM2E.out; simp; omega)))).update (r := a) (c := b) (by omega) (by omega) (by omega) (by omega) (HBD.out a b).1 (HBD.out a b).2
          have HFD := Lib.hid (FkI.step (o := .cells #[.int .i64 a, .int .i64 b] 141) hrn hfv hcd hcc hoff hgn hgd (by have := HML.out; have := HM2E.out; omega) (by have := HM2E.out; omega))
          have HLT := Lib.hid (And.intro hltn (And.intro hrv.left_eq HFD.out.src))
          unfold cellV at hnx hen
          clear hcd hgd hzd hc2 hcc hrn hsn hgn hltn hkl htd hfk hrv hfv hoff hn3z hbz bx0 bx1
          go_wp2_with (fail)
          refine ⟨⟨cnt', HFD⟩, ?_⟩
          obtain ⟨q1, q2, f3, k3, t3, q3, _⟩ := HLT.out
          have := q3.left_eq
          omega
    · have k1 : ¬ (k : Int) < nB := by omega
      go_wp2_with (fail)
      go_ret
      exact ⟨s2, rfl, v2, bs2, HKR.out, by rw [HMP.out, List.take_of_length_le (by rw [HNB.out]; omega)], HBR.out, HOW.out⟩
end Go.Proofs.YtemlafbkkaloiaaGreat
namespace Go.Proofs.YtemlafbkkaloiaaGreat
open Go.RowKit
def R6Own (q : Nat) (v : Value) (i : Nat) : Prop := i = q ∨ v.ownBlock = some i
structure R6Mid (w : World) (q : Nat) (h : ShapeS) (last at_ : Int) (v : Value) (ns : List NoteS) : Prop where
  head : w.heap[q]? = some (.cells #[.int .i64 h.W, .int .i64 h.B, .int .i64 h.R, .int .i64 h.C, .int .u64 h.seed, v, .int .i64 last] 134)
  row : w.ownsRow 0 172 3 v ns.length (flatR ns)
  apart : v.ownBlock ≠ some q
  fine : ∀ x, x ∈ ns → 0 ≤ x.at_ ∧ x.at_ ≤ at_ ∧ 0 ≤ x.n ∧ x.n ≤ 1099511627776 ∧ x.key.size ≤ maxLen
theorem r6_row {w w' : World} {base size n : Nat} {e : TypeId} {v : Value} {xs : List Value} (h : w.ownsRow base e size v n xs) (hk : ∀ g, v.ownBlock = some g → w'.heap[g]? = w.heap[g]?) : w'.ownsRow base e size v n xs := by
  obtain ⟨h1, h2⟩ := h
  refine ⟨h1, ?_⟩
  rcases h2 with h2 | ⟨g, cap, cur, rfl, hb, hg, hrest⟩
  · exact Or.inl h2
  · exact Or.inr ⟨g, cap, cur, rfl, hb, (hk g rfl).trans hg, hrest⟩
theorem R6Mid.slice {w : World} {q : Nat} {h : ShapeS} {last at_ : Int} {v : Value} {ns : List NoteS} (k : R6Mid w q h last at_ v ns) : ∃ a cap, v = .slice a ns.length cap := by
  rcases k.row.2 with ⟨hh, hz⟩ | ⟨g, cp, cur, hh, _⟩
  · exact ⟨none, 0, by rw [hz]; exact hh⟩
  · exact ⟨_, _, hh⟩
theorem R6At.lt {w : World} {q : Nat} {h : ShapeS} {last : Int} {v : Value} {ns : List NoteS} (k : R6At w q h last v ns) : q < w.heap.size := (Array.getElem?_eq_some_iff.1 k.head).1
theorem r6_boxed {wx : World} {p : Addr} {x : Value} {o : Obj} (h : wx.cell? p = some x) : (wx.alloc o).cell? p = some x :=
  (World.cell?_alloc_lt wx o _ (World.block_lt_of_cell? _ _ h)).trans h
theorem info_note6 : (Tryz.prog.info? 172).map (fun i => (i.zero, i.size, i.bytes)) = some (some (.agg #[.int .i64 0, .int .i64 0, .string ⟨#[]⟩]), 3, 32) := by kernel_rfl
theorem r6_push {w wz w3 : World} {q : Nat} {h : ShapeS} {last at_ n : Int} {key : ByteArray} {v v2 v3 : Value} {NS : List NoteS} {o : Obj} (k : R6Mid wz q h last at_ v2 NS) (ho : Off (R6Own q v) w wz) (how : ∀ i, R6Own q v2 i → R6Own q v i ∨ w.heap.size ≤ i)
    (hr : w3.ownsRow 0 172 3 v3 (NS.length + 1) (flatR NS ++ [.int .i64 at_, .int .i64 n, .string key])) (hg : (wz.alloc o).drew.grownBy w3 v2.ownBlock) (hv : v3.ownBlock = v2.ownBlock ∨ v3.ownBlock = some (wz.alloc o).drew.heap.size)
    (hx : 0 ≤ at_ ∧ 0 ≤ n ∧ n ≤ 1099511627776 ∧ key.size ≤ maxLen) (hql : q < w.heap.size) :
    R6Mid (w3.setCell ⟨q, 5, none⟩ v3) q h last at_ v3 (NS ++ [⟨at_, n, key⟩]) ∧ Off (R6Own q v) w (w3.setCell ⟨q, 5, none⟩ v3) ∧ ∀ i, R6Own q v3 i → R6Own q v i ∨ w.heap.size ≤ i := by
  have hal : Below wz.heap.size wz (wz.alloc o).drew := ((Below.refl _ _).alloc (Nat.le_refl _) _).drew
  have hz1 := hal.size
  have hz0 := ho.size
  have hk : ∀ i, i < wz.heap.size → v2.ownBlock ≠ some i → w3.heap[i]? = wz.heap[i]? := fun i h1 h2 => (hg.block i (by omega) (fun e => h2 e.symm)).trans (hal.block i h1)
  have hq3 := (hk q (by omega) k.apart).trans k.head
  have hap : v3.ownBlock ≠ some q := by
    rcases hv with h | h
    · rw [h]; exact k.apart
    · rw [h]; intro e; injection e with e; omega
  refine ⟨⟨heap_setCell_same _ _ 5 _ _ _ hq3, ?_, hap, fun x hxm => ?_⟩, ?_, fun i hi => ?_⟩
  · rw [List.length_append, List.length_singleton, show flatR (NS ++ [(⟨at_, n, key⟩ : NoteS)]) = flatR NS ++ [.int .i64 at_, .int .i64 n, .string key] by simp [flatR, NoteS.vals]]
    exact r6_row hr (fun g e => heap_setCell_other _ _ _ _ (fun e2 => hap (by rw [e, e2])))
  · rcases List.mem_append.1 hxm with h | h
    · exact k.fine x h
    · obtain rfl := List.mem_singleton.1 h
      exact ⟨hx.1, Int.le_refl _, hx.2.1, hx.2.2.1, hx.2.2.2⟩
  · refine ⟨(hg.os.trans hal.os).trans ho.os, (hg.tape.trans hal.tape).trans ho.tape, (hg.output.trans hal.output).trans ho.output, by simp [World.setCell]; have := hg.size; omega, fun i hi hn => ?_⟩
    rw [heap_setCell_other _ _ _ _ (show i ≠ q from fun e => hn (Or.inl e))]
    refine (hk i (by omega) (fun e => ?_)).trans (ho.block i hi hn)
    rcases how i (Or.inr e) with h | h
    · exact hn h
    · omega
  · rcases hi with h | h
    · exact Or.inl (Or.inl h)
    · rcases hv with h2 | h2
      · exact how i (Or.inr (h2.symm.trans h))
      · rw [h2] at h; injection h with h; right; omega
structure R6Add (w w' : World) (q : Nat) (h : ShapeS) (v : Value) (last at_ : Int) (ns : List NoteS) (e : Ending) (nn : List Int) (key : ByteArray) : Prop where
  err : e = .returned (.int .i64 (addE last at_ nn))
  no : addE last at_ nn ≠ 0 → ∃ m, w' = w.drewN m
  yes : addE last at_ nn = 0 → ∃ v', R6At w' q h at_ v' (ns ++ newNotes at_ key nn) ∧ Off (R6Own q v) w w' ∧ ∀ i, R6Own q v' i → R6Own q v i ∨ w.heap.size ≤ i
set_option maxHeartbeats 6400000 in
set_option maxRecDepth 100000 in
theorem r6add_any {w : World} {q : Nat} {h : ShapeS} {b last : Int} {v : Value} {ns : List NoteS} (k : R6At w q h last v ns) (hb : ShapeOk h b) (at_ : Int) (key : ByteArray) (hk : key.size ≤ maxLen)
    (a : Option Addr) (len cap : Nat) (nn : List Int) (hl : nn.length = len) (hm : len ≤ 9223372036854775807) (hn : IntsAt w a nn) (hap : nn ≠ [] → ∀ g off, a = some ⟨g, off, none⟩ → ¬ R6Own q v g) (hroom : ns.length + len ≤ 1099511627776) :
    Calls Tryz.prog 50 #[.pointer (some ⟨q, 0, none⟩), .int .i64 at_, .string key, .slice a len cap] w fun e w' => R6Add w w' q h v last at_ ns e nn key := by
  obtain ⟨c0, c1, c2, c3, c4, c5, c6⟩ := k.cells
  have HWR := Lib.hid (fun (wx : World) (hx : wx.cell? ⟨q, 6, none⟩ = some (.int .i64 last)) => r6wrong_any q last at_ wx hx)
  have K := Lib.hid k
  have HN := Lib.hid hn
  have HL := Lib.hid hl
  have HAP := Lib.hid hap
  have HROOM := Lib.hid hroom
  have HC := Lib.hid (And.intro c5 c6)
  clear k hb hn hl hap hroom c0 c1 c2 c3 c4 c5 c6
  go_enter Tryz.func50, Tryz.ntmps50
  go_wp2_with (fail)
  go_loopw [9] (fun x9 wr => ∃ (i : Nat), i ≤ len ∧ x9 = .int .i64 i ∧ Hid (∀ j, j < i → badS (nn.getD j 0) = false) ∧ Hid (∃ m, wr = w.drewN m)) (fun x9 _ => len - (intOf x9).toNat)
  case atStart => exact ⟨0, Nat.zero_le _, rfl, Lib.hid (by intro j hj; omega), Lib.hid ⟨0, rfl⟩⟩
  case round =>
    rename World => wr
    obtain ⟨i, hi, rfl, HB, HM⟩ := hrel
    by_cases hlt : i < len
    · have i0 : (0 : Int) ≤ i := by omega
      have i1 : (i : Int) < len := by omega
      have hne : nn ≠ [] := by intro e; have := HL.out; rw [e] at this; simp at this; omega
      obtain ⟨gb, off, rfl, hgl, hcell⟩ : ∃ gb off, a = some ⟨gb, off, none⟩ ∧ gb < w.heap.size ∧ ∀ j, j < nn.length → w.cell? ⟨gb, off + j, none⟩ = some (.int .i64 (nn.getD j 0)) := by
        rcases HN.out with h | h
        · exact absurd h hne
        · exact h
      have e0 : wr.cell? ⟨gb, off + i, none⟩ = some (.int .i64 (nn.getD i 0)) := by obtain ⟨m, rfl⟩ := HM.out; exact hcell i (by rw [HL.out]; exact hlt)
      have hmem : nn.getD i 0 ∈ nn := by
        rw [List.getD_eq_getElem?_getD, List.getElem?_eq_getElem (by rw [HL.out]; exact hlt)]
        exact List.getElem_mem _
      have HBAD := Lib.hid (show badS (nn.getD i 0) = true → addE last at_ nn = 2 from fun hb => by
        unfold addE
        rw [show nn.any badS = true from List.any_eq_true.2 ⟨_, hmem, hb⟩]
        split <;> simp)
      have HGD := Lib.hid (show badS (nn.getD i 0) = false → ∀ j, j < i + 1 → badS (nn.getD j 0) = false from fun hb j hj => by
        by_cases e : j = i
        · subst e; exact hb
        · exact HB.out j (by omega))
      have HBE := Lib.hid (show badS (nn.getD i 0) = (decide (nn.getD i 0 < 0) || decide (1099511627776 < nn.getD i 0)) from rfl)
      clear hne hcell hmem hlt
      generalize nn.getD i 0 = n at *
      by_cases hb0 : n < 0
      · have hE2 := HBAD.out (by rw [HBE.out, decide_eq_true hb0]; rfl)
        have HE2 := Lib.hid hE2
        clear hE2
        go_wp2_with (fail)
        go_ret
        exact ⟨by rw [HE2.out]; rfl, fun _ => HM.out, fun h => absurd (HE2.out.symm.trans h) (by decide)⟩
      · by_cases hb1 : 1099511627776 < n
        · have hE2 := HBAD.out (by rw [HBE.out, decide_eq_true hb1, Bool.or_true])
          have HE2 := Lib.hid hE2
          clear hE2
          go_wp2_with (fail)
          go_ret
          exact ⟨by rw [HE2.out]; rfl, fun _ => HM.out, fun h => absurd (HE2.out.symm.trans h) (by decide)⟩
        · have HG2 := Lib.hid (HGD.out (by rw [HBE.out, decide_eq_false hb0, decide_eq_false hb1]; rfl))
          clear HGD HBAD HBE
          go_wp2_with (fail)
          exact ⟨⟨i + 1, by omega, by go_num, HG2, HM⟩, by first | (simp [intOf]; done) | (simp [intOf]; omega)⟩
    · have i1 : ¬ (i : Int) < len := by omega
      have HANY := Lib.hid (show addE last at_ nn = lookS last at_ by
        have h1 : nn.any badS = false := by
          rw [List.any_eq_false]
          intro x hx
          obtain ⟨j, hj, rfl⟩ := List.getElem_of_mem hx
          have := HB.out j (by rw [HL.out] at hj; omega)
          rw [List.getD_eq_getElem?_getD, List.getElem?_eq_getElem hj] at this
          simpa using this
        unfold addE
        rw [h1]
        split
        · rename_i h; exact h.symm
        · simp)
      have d6 : wr.cell? ⟨q, 6, none⟩ = some (.int .i64 last) := by obtain ⟨m, rfl⟩ := HM.out; exact HC.out.2
      have HW := Lib.hid (HWR.out wr d6)
      clear d6
      by_cases hE : lookS last at_ = 0
      · have HE := Lib.hid hE
        rw [hE] at HW HANY
        clear hE
        go_wp2_with (fail)
        refine HW.out.mono ?_
        rintro e w2 ⟨rfl, hq⟩
        have hq := hq.symm
        subst hq
        go_wp2_with (fail)
        have HMID := Lib.hid (show R6Mid wr q h last at_ v (ns ++ newNotes at_ key (nn.take 0)) from by
          obtain ⟨m, rfl⟩ := HM.out
          have k := K.out.kept (w' := w.drewN m) (fun i _ => rfl)
          simp only [List.take_zero, newNotes, List.map_nil, List.append_nil]
          exact ⟨k.head, k.row, k.apart, fun x hx => by obtain ⟨x1, x2, x3⟩ := k.fine x hx; obtain ⟨_, _, h3⟩ := lookS_ok HE.out; exact ⟨x1, by omega, x3⟩⟩)
        have HOF := Lib.hid (show Off (R6Own q v) w wr from by obtain ⟨m, rfl⟩ := HM.out; exact Off.ofBelow (below_drewS (Below.refl _ _) m))
        go_wp2_with (fail)
        go_loopw [11] (fun x11 wz => ∃ (j : Nat) (v2 : Value), j ≤ len ∧ x11 = .int .i64 j ∧ Hid (R6Mid wz q h last at_ v2 (ns ++ newNotes at_ key (nn.take j))) ∧ Hid (Off (R6Own q v) w wz) ∧ Hid (∀ i, R6Own q v2 i → R6Own q v i ∨ w.heap.size ≤ i)) (fun x11 _ => len - (intOf x11).toNat)
        case atStart => exact ⟨0, v, Nat.zero_le _, rfl, HMID, HOF, Lib.hid (fun i hi => Or.inl hi)⟩
        case round =>
          rename World => wz
          clear HMID HOF
          obtain ⟨j, v2, hj, rfl, HMID, HOF, HOW⟩ := hrel
          by_cases hlj : j < len
          · have j0 : (0 : Int) ≤ j := by omega
            have j1 : (j : Int) < len := by omega
            have hne : nn ≠ [] := by intro e; have := HL.out; rw [e] at this; simp at this; omega
            obtain ⟨gb, off, rfl, hgl, hcell⟩ : ∃ gb off, a = some ⟨gb, off, none⟩ ∧ gb < w.heap.size ∧ ∀ j, j < nn.length → w.cell? ⟨gb, off + j, none⟩ = some (.int .i64 (nn.getD j 0)) := by
              rcases HN.out with h | h
              · exact absurd h hne
              · exact h
            have hnq : ¬ R6Own q v gb := HAP.out hne gb off rfl
            have e0 : wz.cell? ⟨gb, off + j, none⟩ = some (.int .i64 (nn.getD j 0)) := HOF.out.cell (hcell j (by rw [HL.out]; exact hlj)) hnq
            have hbad := HB.out j (by omega)
            have htk : nn.take (j + 1) = nn.take j ++ [nn.getD j 0] := by
              rw [List.take_add_one, List.getElem?_eq_getElem (by rw [HL.out]; exact hlj), List.getD_eq_getElem?_getD, List.getElem?_eq_getElem (by rw [HL.out]; exact hlj)]; rfl
            have HTK := Lib.hid (show ns ++ newNotes at_ key (nn.take (j + 1)) = (ns ++ newNotes at_ key (nn.take j)) ++ [⟨at_, nn.getD j 0, key⟩] by rw [htk]; simp [newNotes])
            generalize nn.getD j 0 = n at *
            obtain ⟨NS, hNS⟩ : ∃ NS, ns ++ newNotes at_ key (nn.take j) = NS := ⟨_, rfl⟩
            have hnl : NS.length ≤ ns.length + len := by
              rw [← hNS]; simp only [newNotes, List.length_append, List.length_map, List.length_take]; have := HL.out; omega
            rw [hNS] at HMID HTK
            obtain ⟨l1, l2, l3⟩ := lookS_ok HE.out
            have HX := Lib.hid (show 0 ≤ at_ ∧ 0 ≤ n ∧ n ≤ 1099511627776 ∧ key.size ≤ maxLen from by
              unfold badS at hbad
              simp only [Bool.or_eq_false_iff, decide_eq_false_iff_not] at hbad
              exact ⟨by omega, by omega, by omega, hk⟩)
            have hroom := HROOM.out
            obtain ⟨aD, capD, hvD⟩ := HMID.out.slice
            obtain ⟨n2, hn2⟩ : ∃ n2, NS.length = n2 := ⟨_, rfl⟩
            rw [hn2] at hvD hnl
            subst hvD
            have HN2 := Lib.hid hn2
            have hql : q < w.heap.size := K.out.lt
            have hqz : q < wz.heap.size := Nat.lt_of_lt_of_le hql HOF.out.size
            have HQL := Lib.hid hql
            have hala : Below wz.heap.size wz (wz.alloc (.cells #[.int .i64 at_, .int .i64 n, .string key] 172)).drew := ((Below.refl _ _).alloc (Nat.le_refl _) _).drew
            have HQW := Lib.hid (show q < (wz.alloc (.cells #[.int .i64 at_, .int .i64 n, .string key] 172)).drew.heap.size from by have := hala.size; omega)
            have HHW := Lib.hid ((hala.block q hqz).trans HMID.out.head)
            have HROW := Lib.hid (show (wz.alloc (.cells #[.int .i64 at_, .int .i64 n, .string key] 172)).drew.ownsRow 0 172 3 (.slice aD n2 capD) n2 (flatR NS) by
              have h1 := HMID.out.row
              rw [hn2] at h1
              exact r6_row h1 (fun g e => hala.block g (h1.lt g e).2))
            have HTC := Lib.hid (show ∀ j u, ([.int .i64 at_, .int .i64 n, .string key] : List Value)[j]? = some u → (wz.alloc (.cells #[.int .i64 at_, .int .i64 n, .string key] 172)).drew.cell? ((⟨wz.heap.size, 0, none⟩ : Addr).add j) = some u from fun j u hu => three_cells wz (.int .i64 at_) (.int .i64 n) (.string key) 172 j u hu)
            have HGB := Lib.hid (show gb < (wz.alloc (.cells #[.int .i64 at_, .int .i64 n, .string key] 172)).drew.heap.size ∧ ¬ (Value.slice aD n2 capD).ownBlock = some gb from ⟨by have := hala.size; have := HOF.out.size; omega, fun e => by
              rcases HOW.out gb (Or.inr e) with h | h
              · exact hnq h
              · omega⟩)
            have HGC := Lib.hid (show ∀ o : Obj, (wz.alloc o).drew.cell? ⟨gb, off + j, none⟩ = some (.int .i64 n) from fun o => (World.cell?_alloc_lt wz o _ (World.block_lt_of_cell? _ _ e0)).trans e0)
            have HNE := Lib.hid (show (⟨q, 5, none⟩ : Addr) ≠ ⟨gb, off + j, none⟩ from fun e => by injection e with e1 _; exact hnq (Or.inl e1.symm))
            have c5 : wz.cell? ⟨q, 5, none⟩ = some (.slice aD n2 capD) := by have := HMID.out.head; simp only [World.cell?, this]; rfl
            have c5B : ∀ o, (wz.alloc o).cell? ⟨q, 5, none⟩ = some (.slice aD n2 capD) := fun o => (World.cell?_alloc_lt wz o _ (World.block_lt_of_cell? _ _ c5)).trans c5
            obtain ⟨i0, hi, hz0, hz1, hz2⟩ := info_parts info_note6
            clear hne hcell hnq hbad htk hNS hn2 hala hql hqz l1 l2 l3 hlj
            go_wp2_with (fail)
            refine wp_region_noPanic ?_
            refine wp_region_held_drew (S := (fun wx => wx.cell? ⟨gb, off + j, none⟩ = some (.int .i64 n))) (by kernel_rfl) ?_ (fun hHeld => ?_)
            · exact e0
            refine wpAnyH_take (i := 0) (v := ?_) rfl (by kernel_rfl) (by kernel_rfl) (by kernel_rfl) (fun _ _ _ h => h) (Or.inl ⟨by rfl, ?hy⟩) (by assumption) ?_
            case hy => intro w hSw; (try dsimp only at hSw); go_simp; try with_reducible rfl
            try simp only [Act.put, szA, szB, szC, szD, szE, szF]
            refine wpAnyH_take (i := 1) (v := ?_) rfl (by kernel_rfl) (by kernel_rfl) (by kernel_rfl) (fun _ _ _ h => h) (Or.inl ⟨by rfl, ?hy⟩) (by assumption) ?_
            case hy => intro w hSw; (try dsimp only at hSw); go_simp; try with_reducible rfl
            try simp only [Act.put, szA, szB, szC, szD, szE, szF]
            refine wpAnyH_take (i := 2) (v := ?_) rfl (by kernel_rfl) (by kernel_rfl) (by kernel_rfl) (fun _ _ _ h => h) (Or.inl ⟨by rfl, ?hy⟩) (by assumption) ?_
            case hy => intro w hSw; (try dsimp only at hSw); go_simp; try with_reducible rfl
            try simp only [Act.put, szA, szB, szC, szD, szE, szF]
            refine wpAnyH_take (i := 3) (v := ?_) rfl (by kernel_rfl) (by kernel_rfl) (by kernel_rfl) (fun _ _ _ h => h) (Or.inl ⟨by rfl, ?hy⟩) (by assumption) ?_
            case hy => intro w hSw; (try dsimp only at hSw); go_simp; try with_reducible rfl
            try simp only [Act.put, szA, szB, szC, szD, szE, szF]
            refine wpAnyH_take (i := 5) (v := ?_) rfl (by kernel_rfl) (by kernel_rfl) (by kernel_rfl) (fun _ _ _ h => h) (Or.inl ⟨by rfl, ?hy⟩) (by assumption) ?_
            case hy => intro w hSw; (try dsimp only at hSw); go_simp; try with_reducible rfl
            try simp only [Act.put, szA, szB, szC, szD, szE, szF]
            refine wpAnyH_take (i := 6) (v := ?_) rfl (by kernel_rfl) (by kernel_rfl) (by kernel_rfl) (fun _ _ _ h => h) (Or.inl ⟨by rfl, ?hy⟩) (by assumption) ?_
            case hy => intro w hSw; (try dsimp only at hSw); go_simp; try with_reducible rfl
            try simp only [Act.put, szA, szB, szC, szD, szE, szF]
            refine wpAnyH_take (i := 7) (v := ?_) rfl (by kernel_rfl) (by kernel_rfl) (by kernel_rfl) (fun _ _ _ h => h) (Or.inl ⟨by rfl, ?hy⟩) (by assumption) ?_
            case hy => intro w hSw; (try dsimp only at hSw); go_simp; try with_reducible rfl
            try simp only [Act.put, szA, szB, szC, szD, szE, szF]
            refine wpAnyH_take (i := 8) (v := ?_) rfl (by kernel_rfl) (by kernel_rfl) (by kernel_rfl) (fun _ _ _ h => h) (Or.inl ⟨by rfl, ?hy⟩) (by assumption) ?_
            case hy => intro w hSw; (try dsimp only at hSw); go_simp; try with_reducible rfl
            try simp only [Act.put, szA, szB, szC, szD, szE, szF]
            refine wpAnyH_take (i := 9) (v := ?_) rfl (by kernel_rfl) (by kernel_rfl) (by kernel_rfl) (fun _ _ _ h => h) (Or.inl ⟨by rfl, ?hy⟩) (by assumption) ?_
            case hy => intro w hSw; (try dsimp only at hSw); go_simp; try with_reducible rfl
            try simp only [Act.put, szA, szB, szC, szD, szE, szF]
            refine wpAnyH_take (i := 10) (v := ?_) rfl (by kernel_rfl) (by kernel_rfl) (by kernel_rfl) (fun _ _ _ h => h) (Or.inl ⟨by rfl, ?hy⟩) (by assumption) ?_
            case hy => intro w hSw; (try dsimp only at hSw); go_simp; try with_reducible rfl
            try simp only [Act.put, szA, szB, szC, szD, szE, szF]
            refine wpAnyH_take (i := 11) (v := ?_) rfl (by kernel_rfl) (by kernel_rfl) (by kernel_rfl) (fun _ _ _ h => h) (Or.inl ⟨by rfl, ?hy⟩) (by assumption) ?_
            case hy => intro w hSw; (try dsimp only at hSw); go_simp; try with_reducible rfl
            try simp only [Act.put, szA, szB, szC, szD, szE, szF]
            refine wpAnyH_ready (rs := [4, 12]) (by kernel_rfl) (by simp) (AllReadyH.cons rfl (fun K hK => ?_) (AllReadyH.cons rfl (fun K hK => ?_) AllReadyH.nil))
            · go_simp
              try (go_wp2_with fail)
              refine hK.out _ _ ?_ (fun hHeld => ?_)
              · exact hHeld
              clear hK K
              try simp only [Act.put, szA, szB, szC, szD, szE, szF]
              refine wpAnyH_ready (rs := [12]) (by kernel_rfl) (by simp) (AllReadyH.cons rfl (fun K hK => ?_) AllReadyH.nil)
              go_simp
              skip
              try (go_wp2_with fail)
              refine hK.out _ _ ?_ (fun hHeld => ?_)
              · exact r6_boxed hHeld
              clear hK K
              try simp only [Act.put, szA, szB, szC, szD, szE, szF]
              refine wpAnyH_ready (rs := [13]) (by kernel_rfl) (by simp) (AllReadyH.cons rfl (fun K hK => ?_) AllReadyH.nil)
              rw [if_pos (by rfl)]
              refine wp_append_at _ (.tmp 48) (.tmp 56) 132 rfl 0 172 i0 (.agg #[.int .i64 0, .int .i64 0, .string ⟨#[]⟩]) 3 32 Tryz.underlying132 hi hz0 hz1 hz2 rfl (by decide) (.slice aD n2 capD) n2 (flatR NS) rfl HROW.out ⟨wz.heap.size, 0, none⟩ 1 1 [.int .i64 at_, .int .i64 n, .string key] rfl rfl HTC.out (by intro u hu; simp at hu; rcases hu with rfl | rfl | rfl <;> rfl) (by unfold maxLen; omega) (by omega) (Nat.zero_le _) (by decide) ?_
              intro v3 w3 hown3 hg3 hk3
              obtain ⟨g3, cap3, rfl⟩ : ∃ g c, v3 = .slice (some ⟨g, 0, none⟩) (n2 + 1) c := by
                rcases hown3.2 with ⟨_, hz⟩ | ⟨g, c, cur, hz, _⟩
                · omega
                · exact ⟨g, c, hz⟩
              have HPUSH := Lib.hid (r6_push HMID.out HOF.out HOW.out (by rw [HN2.out]; exact hown3) hg3 hk3 HX.out HQL.out)
              have hs3 := (hg3.block q HQW.out (fun e => HMID.out.apart e.symm)).trans (show (wz.alloc (.cells #[.int .i64 at_, .int .i64 n, .string key] 172)).drew.heap[q]? = _ from HHW.out)
              have c3s : w3.cell? ⟨q, 5, none⟩ = some (.slice aD n2 capD) := by simp only [World.cell?, hs3]; rfl
              have f3s : w3.frozen? ⟨q, 5, none⟩ = false := by simp only [World.frozen?, hs3]; simp
              have HHB := Lib.hid (show w3.cell? ⟨gb, off + j, none⟩ = some (.int .i64 n) from (World.cell?_of_block (a := ⟨gb, off + j, none⟩) (hg3.block gb HGB.out.1 (fun e => HGB.out.2 e.symm))).trans (HGC.out _))
              clear hown3 hg3 hk3 hs3
              refine hK.out _ _ HHB.out (fun hHeld => ?_)
              clear hK K
              try simp only [Act.put, szA, szB, szC, szD, szE, szF]
              refine wpAnyH_take (i := 14) (v := ?_) rfl (by kernel_rfl) (by kernel_rfl) (by kernel_rfl) (fun _ _ _ h => h) (Or.inl ⟨by rfl, ?hy⟩) (by assumption) ?_
              case hy => intro w hSw; (try dsimp only at hSw); go_simp; try with_reducible rfl
              try simp only [Act.put, szA, szB, szC, szD, szE, szF]
              refine wpAnyH_take (i := 15) (v := ?_) rfl (by kernel_rfl) (by kernel_rfl) (by kernel_rfl) (fun _ _ _ h => h) (Or.inl ⟨by rfl, ?hy⟩) (by assumption) ?_
              case hy => intro w hSw; (try dsimp only at hSw); go_simp; try with_reducible rfl
              try simp only [Act.put, szA, szB, szC, szD, szE, szF]
              refine wpAnyH_ready (rs := [16]) (by kernel_rfl) (by simp) (AllReadyH.cons rfl (fun K hK => ?_) AllReadyH.nil)
              go_simp
              skip
              try (go_wp2_with fail)
              refine hK.out _ _ ?_ (fun hHeld => ?_)
              · exact cell_far hHeld HNE.out
              clear hK K
              try simp only [Act.put, szA, szB, szC, szD, szE, szF]
              refine wpAnyH_done (by kernel_rfl) ?_ _
              refine NoPanic.normal ?_
              go_wp2_with (fail)
              exact ⟨⟨j + 1, _, by omega, by go_num, by rw [HTK.out]; exact Lib.hid HPUSH.out.1, Lib.hid HPUSH.out.2.1, Lib.hid HPUSH.out.2.2⟩, by first | (simp [intOf]; done) | (simp [intOf]; omega)⟩
            · go_simp
              try (go_wp2_with fail)
              refine hK.out _ _ ?_ (fun hHeld => ?_)
              · exact r6_boxed hHeld
              clear hK K
              try simp only [Act.put, szA, szB, szC, szD, szE, szF]
              refine wpAnyH_ready (rs := [4]) (by kernel_rfl) (by simp) (AllReadyH.cons rfl (fun K hK => ?_) AllReadyH.nil)
              go_simp
              skip
              try (go_wp2_with fail)
              refine hK.out _ _ ?_ (fun hHeld => ?_)
              · exact hHeld
              clear hK K
              try simp only [Act.put, szA, szB, szC, szD, szE, szF]
              refine wpAnyH_ready (rs := [13]) (by kernel_rfl) (by simp) (AllReadyH.cons rfl (fun K hK => ?_) AllReadyH.nil)
              rw [if_pos (by rfl)]
              refine wp_append_at _ (.tmp 48) (.tmp 56) 132 rfl 0 172 i0 (.agg #[.int .i64 0, .int .i64 0, .string ⟨#[]⟩]) 3 32 Tryz.underlying132 hi hz0 hz1 hz2 rfl (by decide) (.slice aD n2 capD) n2 (flatR NS) rfl HROW.out ⟨wz.heap.size, 0, none⟩ 1 1 [.int .i64 at_, .int .i64 n, .string key] rfl rfl HTC.out (by intro u hu; simp at hu; rcases hu with rfl | rfl | rfl <;> rfl) (by unfold maxLen; omega) (by omega) (Nat.zero_le _) (by decide) ?_
              intro v3 w3 hown3 hg3 hk3
              obtain ⟨g3, cap3, rfl⟩ : ∃ g c, v3 = .slice (some ⟨g, 0, none⟩) (n2 + 1) c := by
                rcases hown3.2 with ⟨_, hz⟩ | ⟨g, c, cur, hz, _⟩
                · omega
                · exact ⟨g, c, hz⟩
              have HPUSH := Lib.hid (r6_push HMID.out HOF.out HOW.out (by rw [HN2.out]; exact hown3) hg3 hk3 HX.out HQL.out)
              have hs3 := (hg3.block q HQW.out (fun e => HMID.out.apart e.symm)).trans (show (wz.alloc (.cells #[.int .i64 at_, .int .i64 n, .string key] 172)).drew.heap[q]? = _ from HHW.out)
              have c3s : w3.cell? ⟨q, 5, none⟩ = some (.slice aD n2 capD) := by simp only [World.cell?, hs3]; rfl
              have f3s : w3.frozen? ⟨q, 5, none⟩ = false := by simp only [World.frozen?, hs3]; simp
              have HHB := Lib.hid (show w3.cell? ⟨gb, off + j, none⟩ = some (.int .i64 n) from (World.cell?_of_block (a := ⟨gb, off + j, none⟩) (hg3.block gb HGB.out.1 (fun e => HGB.out.2 e.symm))).trans (HGC.out _))
              clear hown3 hg3 hk3 hs3
              refine hK.out _ _ HHB.out (fun hHeld => ?_)
              clear hK K
              try simp only [Act.put, szA, szB, szC, szD, szE, szF]
              refine wpAnyH_take (i := 14) (v := ?_) rfl (by kernel_rfl) (by kernel_rfl) (by kernel_rfl) (fun _ _ _ h => h) (Or.inl ⟨by rfl, ?hy⟩) (by assumption) ?_
              case hy => intro w hSw; (try dsimp only at hSw); go_simp; try with_reducible rfl
              try simp only [Act.put, szA, szB, szC, szD, szE, szF]
              refine wpAnyH_take (i := 15) (v := ?_) rfl (by kernel_rfl) (by kernel_rfl) (by kernel_rfl) (fun _ _ _ h => h) (Or.inl ⟨by rfl, ?hy⟩) (by assumption) ?_
              case hy => intro w hSw; (try dsimp only at hSw); go_simp; try with_reducible rfl
              try simp only [Act.put, szA, szB, szC, szD, szE, szF]
              refine wpAnyH_ready (rs := [16]) (by kernel_rfl) (by simp) (AllReadyH.cons rfl (fun K hK => ?_) AllReadyH.nil)
              go_simp
              skip
              try (go_wp2_with fail)
              refine hK.out _ _ ?_ (fun hHeld => ?_)
              · exact cell_far hHeld HNE.out
              clear hK K
              try simp only [Act.put, szA, szB, szC, szD, szE, szF]
              refine wpAnyH_done (by kernel_rfl) ?_ _
              refine NoPanic.normal ?_
              go_wp2_with (fail)
              exact ⟨⟨j + 1, _, by omega, by go_num, by rw [HTK.out]; exact Lib.hid HPUSH.out.1, Lib.hid HPUSH.out.2.1, Lib.hid HPUSH.out.2.2⟩, by first | (simp [intOf]; done) | (simp [intOf]; omega)⟩
          · have j1 : ¬ (j : Int) < len := by omega
            have e5 : wz.cell? ⟨q, 6, none⟩ = some (.int .i64 last) := by have := HMID.out.head; simp only [World.cell?, this]; rfl
            have f5 : wz.frozen? ⟨q, 6, none⟩ = false := by have := HMID.out.head; simp only [World.frozen?, this]; simp
            have htk : nn.take j = nn := List.take_of_length_le (by rw [HL.out]; omega)
            rw [htk] at HMID
            have hm := HMID.out
            obtain ⟨l1, l2, l3⟩ := lookS_ok HE.out
            have HFIN := Lib.hid (show R6At (wz.setCell ⟨q, 6, none⟩ (.int .i64 at_)) q h at_ v2 (ns ++ newNotes at_ key nn) from
              ⟨heap_setCell_same _ _ 6 _ _ _ hm.head, r6_row hm.row (fun g e => heap_setCell_other _ _ _ _ (fun e2 => hm.apart (by rw [e, e2]))), hm.apart, hm.fine, l1, l2, by
                simp only [newNotes, List.length_append, List.length_map]; have := HROOM.out; have := HL.out; omega⟩)
            have HOF2 := Lib.hid (HOF.out.setCell (p := ⟨q, 6, none⟩) (fun _ => Or.inl rfl) (.int .i64 at_))
            clear htk hm
            go_wp2_with (fail)
            go_ret
            exact ⟨by rw [HANY.out]; rfl, fun h => absurd HANY.out h, fun _ => ⟨v2, HFIN.out, HOF2.out, HOW.out⟩⟩
      · generalize lookS last at_ = E at *
        have hne : (E != 0) = true := by simpa using hE
        have HE := Lib.hid hE
        clear hE
        go_wp2_with (fail)
        refine HW.out.mono ?_
        rintro e w2 ⟨rfl, hq⟩
        have hq := hq.symm
        subst hq
        go_wp2_with (fail)
        go_ret
        exact ⟨by rw [HANY.out]; rfl, fun _ => HM.out, fun h => absurd (HANY.out.symm.trans h) HE.out⟩
end Go.Proofs.YtemlafbkkaloiaaGreat
namespace Go.Proofs.YtemlafbkkaloiaaGreat
open Go.RowKit
theorem flatR_one (ns : List NoteS) : ∀ u ∈ flatR ns, u.oneCell' = true := by
  intro u hu
  obtain ⟨x, _, hx⟩ := List.mem_flatMap.1 hu
  simp only [NoteS.vals, List.mem_cons, List.not_mem_nil, or_false] at hx
  rcases hx with rfl | rfl | rfl <;> rfl
theorem r6_forkNil {w : World} {q : Nat} {h : ShapeS} {last : Int} {v : Value} (k : R6At w q h last v []) :
    R6At ((w.alloc (.cells #[.int .i64 h.W, .int .i64 h.B, .int .i64 h.R, .int .i64 h.C, .int .u64 h.seed, .slice (some ⟨w.heap.size + 1, 0, none⟩) 0 0, .int .i64 last] 134)).alloc (.cells #[] 172)) w.heap.size h last (.slice (some ⟨w.heap.size + 1, 0, none⟩) 0 0) [] ∧
    Below w.heap.size w ((w.alloc (.cells #[.int .i64 h.W, .int .i64 h.B, .int .i64 h.R, .int .i64 h.C, .int .u64 h.seed, .slice (some ⟨w.heap.size + 1, 0, none⟩) 0 0, .int .i64 last] 134)).alloc (.cells #[] 172)) ∧ ∀ i, R6Own w.heap.size (.slice (some ⟨w.heap.size + 1, 0, none⟩) 0 0) i → w.heap.size ≤ i := by
  have hz : (w.alloc (.cells #[.int .i64 h.W, .int .i64 h.B, .int .i64 h.R, .int .i64 h.C, .int .u64 h.seed, .slice (some ⟨w.heap.size + 1, 0, none⟩) 0 0, .int .i64 last] 134)).heap.size = w.heap.size + 1 := by simp
  have hal : Below w.heap.size w (w.alloc (.cells #[.int .i64 h.W, .int .i64 h.B, .int .i64 h.R, .int .i64 h.C, .int .u64 h.seed, .slice (some ⟨w.heap.size + 1, 0, none⟩) 0 0, .int .i64 last] 134)) := (Below.refl _ _).alloc (Nat.le_refl _) _
  refine ⟨⟨(Below.heap_alloc _ _ w.heap.size (by rw [hz]; omega)).trans (new_blockS w _), ?_, by simp [Value.ownBlock], by simp, k.l0, k.l1, by simp⟩, hal.alloc hal.size _, fun i hi => ?_⟩
  · have := World.ownsRow_lit (base := 0) (e := 172) (size := 3) (w.alloc (.cells #[.int .i64 h.W, .int .i64 h.B, .int .i64 h.R, .int .i64 h.C, .int .u64 h.seed, .slice (some ⟨w.heap.size + 1, 0, none⟩) 0 0, .int .i64 last] 134)) #[] 0 (Nat.zero_le _) (by unfold maxLen; omega) rfl
    rw [hz] at this
    exact this
  · rcases hi with h | h
    · omega
    · simp [Value.ownBlock] at h; omega
theorem r6_forkEnd {w w3 : World} {q : Nat} {h : ShapeS} {last : Int} {v v' : Value} {ns : List NoteS} (k : R6At w q h last v ns) (hd : w3.heap[w.heap.size]? = some (.cells #[.int .i64 h.W, .int .i64 h.B, .int .i64 h.R, .int .i64 h.C, .int .u64 h.seed, v, .int .i64 last] 134))
    (hr : w3.ownsRow (w.heap.size + 1) 172 3 v' ns.length (flatR ns)) (hb : Below w.heap.size w w3) :
    R6At (w3.setCell ⟨w.heap.size, 5, none⟩ v') w.heap.size h last v' ns ∧ Below w.heap.size w (w3.setCell ⟨w.heap.size, 5, none⟩ v') ∧ ∀ i, R6Own w.heap.size v' i → w.heap.size ≤ i := by
  have hap : v'.ownBlock ≠ some w.heap.size := fun e => by have := (hr.lt _ e).1; omega
  refine ⟨⟨heap_setCell_same _ _ 5 _ _ _ hd, ?_, hap, k.fine, k.l0, k.l1, k.few⟩, hb.setCell (Nat.le_refl _) _, fun i hi => ?_⟩
  · have h1 := r6_row hr (w' := w3.setCell ⟨w.heap.size, 5, none⟩ v') (fun g e => heap_setCell_other _ _ _ _ (fun e2 => hap (by rw [e, e2])))
    obtain ⟨a, b⟩ := h1
    refine ⟨a, ?_⟩
    rcases b with b | ⟨g, cap, cur, e, hbb, rest⟩
    · exact Or.inl b
    · exact Or.inr ⟨g, cap, cur, e, Nat.zero_le _, rest⟩
  · rcases hi with h | h
    · omega
    · have := (hr.lt i h).1; omega
set_option maxHeartbeats 6400000 in
set_option maxRecDepth 100000 in
theorem r6fork_any {w : World} {q : Nat} {h : ShapeS} {last : Int} {v : Value} {ns : List NoteS} (k : R6At w q h last v ns) (hroom : ns.length ≤ 1099511627776) :
    Calls Tryz.prog 32 #[.pointer (some ⟨q, 0, none⟩)] w fun e w' => ∃ v', e = .returned (.pointer (some ⟨w.heap.size, 0, none⟩)) ∧ R6At w' w.heap.size h last v' ns ∧ Below w.heap.size w w' ∧ ∀ i, R6Own w.heap.size v' i → w.heap.size ≤ i := by
  obtain ⟨c0, c1, c2, c3, c4, c5, c6⟩ := k.cells
  obtain ⟨aD, capD, hvD⟩ := k.slice
  obtain ⟨n2, hn2⟩ : ∃ n2, ns.length = n2 := ⟨_, rfl⟩
  rw [hn2] at hvD
  subst hvD
  have K := Lib.hid k
  have HN2 := Lib.hid hn2
  have hql := k.lt
  have c5B : (w.alloc (.cells #[.int .i64 h.W, .int .i64 h.B, .int .i64 h.R, .int .i64 h.C, .int .u64 h.seed, .slice aD n2 capD, .int .i64 last] 134)).cell? ⟨q, 5, none⟩ = some (.slice aD n2 capD) := (World.cell?_alloc_lt w _ _ hql).trans c5
  have hal : Below w.heap.size w (w.alloc (.cells #[.int .i64 h.W, .int .i64 h.B, .int .i64 h.R, .int .i64 h.C, .int .u64 h.seed, .slice aD n2 capD, .int .i64 last] 134)) := (Below.refl _ _).alloc (Nat.le_refl _) _
  have hzw : (w.alloc (.cells #[.int .i64 h.W, .int .i64 h.B, .int .i64 h.R, .int .i64 h.C, .int .u64 h.seed, .slice aD n2 capD, .int .i64 last] 134)).heap.size = w.heap.size + 1 := by simp
  have hnw := new_blockS w (.cells #[.int .i64 h.W, .int .i64 h.B, .int .i64 h.R, .int .i64 h.C, .int .u64 h.seed, .slice aD n2 capD, .int .i64 last] 134)
  have hr := k.row
  rcases hr.2 with ⟨hv, hz⟩ | ⟨g, cp, cur, hv, _, hgg, _⟩
  · have hns : ns = [] := List.length_eq_zero_iff.1 hz
    injection hv with e1 e2 e3
    subst e1 e2 e3
    have hown : ((w.alloc (.cells #[.int .i64 h.W, .int .i64 h.B, .int .i64 h.R, .int .i64 h.C, .int .u64 h.seed, .slice none 0 0, .int .i64 last] 134)).alloc (.cells #[] 172)).ownsRow (w.heap.size + 1) 172 3 (.slice (some ⟨w.heap.size + 1, 0, none⟩) 0 0) 0 [] := by
      have := World.ownsRow_lit (base := w.heap.size + 1) (e := 172) (size := 3) (w.alloc (.cells #[.int .i64 h.W, .int .i64 h.B, .int .i64 h.R, .int .i64 h.C, .int .u64 h.seed, .slice none 0 0, .int .i64 last] 134)) #[] 0 (by rw [hzw]; exact Nat.le_refl _) (by unfold maxLen; omega) rfl
      rw [hzw] at this
      exact this
    have hb2 := hal.alloc hal.size (.cells #[] 172)
    have hn2' := (Below.heap_alloc (w.alloc (.cells #[.int .i64 h.W, .int .i64 h.B, .int .i64 h.R, .int .i64 h.C, .int .u64 h.seed, .slice none 0 0, .int .i64 last] 134)) (.cells #[] 172) w.heap.size (by rw [hzw]; omega)).trans hnw
    subst hns
    have HEND := Lib.hid (r6_forkNil (v := .slice none 0 0) k)
    have a5 : ((w.alloc (.cells #[.int .i64 h.W, .int .i64 h.B, .int .i64 h.R, .int .i64 h.C, .int .u64 h.seed, .slice none 0 0, .int .i64 last] 134)).alloc (.cells #[] 172)).cell? ⟨w.heap.size, 5, none⟩ = some (.slice none 0 0) := by simp only [World.cell?, hn2']; rfl
    have f5 : ((w.alloc (.cells #[.int .i64 h.W, .int .i64 h.B, .int .i64 h.R, .int .i64 h.C, .int .u64 h.seed, .slice none 0 0, .int .i64 last] 134)).alloc (.cells #[] 172)).frozen? ⟨w.heap.size, 5, none⟩ = false := by simp only [World.frozen?, hn2']; simp
    have HOWN := Lib.hid hown
    clear k hn2 hal hzw hnw hr hb2 hn2' hown
    go_enter Tryz.func32, Tryz.ntmps32
    go_wp2_with (fail)
    go_ret
    exact ⟨_, rfl, HEND.out⟩
  · injection hv with e1 e2 e3
    subst e1 e3
    clear e2
    have hown : ((w.alloc (.cells #[.int .i64 h.W, .int .i64 h.B, .int .i64 h.R, .int .i64 h.C, .int .u64 h.seed, .slice (some ⟨g, 0, none⟩) n2 capD, .int .i64 last] 134)).alloc (.cells #[] 172)).ownsRow (w.heap.size + 1) 172 3 (.slice (some ⟨w.heap.size + 1, 0, none⟩) 0 0) 0 [] := by
      have := World.ownsRow_lit (base := w.heap.size + 1) (e := 172) (size := 3) (w.alloc (.cells #[.int .i64 h.W, .int .i64 h.B, .int .i64 h.R, .int .i64 h.C, .int .u64 h.seed, .slice (some ⟨g, 0, none⟩) n2 capD, .int .i64 last] 134)) #[] 0 (by rw [hzw]; exact Nat.le_refl _) (by unfold maxLen; omega) rfl
      rw [hzw] at this
      exact this
    have hb2 := hal.alloc hal.size (.cells #[] 172)
    have hn2' := (Below.heap_alloc (w.alloc (.cells #[.int .i64 h.W, .int .i64 h.B, .int .i64 h.R, .int .i64 h.C, .int .u64 h.seed, .slice (some ⟨g, 0, none⟩) n2 capD, .int .i64 last] 134)) (.cells #[] 172) w.heap.size (by rw [hzw]; omega)).trans hnw
    rw [hn2] at hr
    have hnews : ∀ j u, (flatR ns)[j]? = some u → ((w.alloc (.cells #[.int .i64 h.W, .int .i64 h.B, .int .i64 h.R, .int .i64 h.C, .int .u64 h.seed, .slice (some ⟨g, 0, none⟩) n2 capD, .int .i64 last] 134)).alloc (.cells #[] 172)).cell? ((⟨g, 0, none⟩ : Addr).add j) = some u := fun j u hu => by
      have hj := (List.getElem?_eq_some_iff.1 hu).1
      rw [flatR_len] at hj
      rw [Go.WideShapes.add_plain]
      refine (hb2.cell (p := ⟨g, 0 + j, none⟩) (Array.getElem?_eq_some_iff.1 hgg).1).trans ?_
      rw [Nat.zero_add]
      exact (hr.cellAt j (by rw [← hn2]; omega)).trans hu
    obtain ⟨i0, hi, hz0, hz1, hz2⟩ := info_parts info_note6
    have HALL := Lib.hid (And.intro hb2 (And.intro hn2' hzw))
    clear hn2 hal hzw hnw hr hb2 hn2' k
    go_enter Tryz.func32, Tryz.ntmps32
    go_wp2_with (at_builtin; go_must (refine wpList_append_own _ rfl _ _ 132 (by rfl) (w.heap.size + 1) 172 i0 (.agg #[.int .i64 0, .int .i64 0, .string ⟨#[]⟩]) 3 32 Tryz.underlying132 hi hz0 hz1 hz2 (by rfl) (by decide) (.slice (some ⟨w.heap.size + 1, 0, none⟩) 0 0) 0 [] (by rfl) hown ⟨g, 0, none⟩ n2 capD (flatR ns) (by rfl) (by rw [flatR_len, HN2.out]) hnews (flatR_one ns) (by unfold maxLen; rw [← HN2.out]; omega) (by rw [← HN2.out]; omega) (by rw [HALL.out.2.2.symm]; simp) ?_); go_loud (intro v' w3 hown3 hg3 _; obtain ⟨g3, cap3, rfl⟩ : ∃ g c, v' = .slice g (0 + n2) c := (by rcases hown3.2 with ⟨hh, hz⟩ | ⟨g', c', cur', hh, _⟩; (· exact ⟨none, 0, by rw [hz]; exact hh⟩); (· exact ⟨_, _, hh⟩)); obtain ⟨hb2, hn2x, hzw⟩ := HALL.out; have hn3 := (hg3.block w.heap.size (Array.getElem?_eq_some_iff.1 hn2x).1 (by simp [Value.ownBlock])).trans hn2x; have a5 : w3.cell? ⟨w.heap.size, 5, none⟩ = some (.slice (some ⟨g, 0, none⟩) n2 capD) := (by simp only [World.cell?, hn3]; rfl); have f5 : w3.frozen? ⟨w.heap.size, 5, none⟩ = false := (by simp only [World.frozen?, hn3]; simp); have HEND := Lib.hid (r6_forkEnd K.out hn3 (by rw [HN2.out, ← Nat.zero_add n2, ← List.nil_append (flatR ns)]; exact hown3) (hb2.grown hg3 hb2.size (fun k e => by simp [Value.ownBlock] at e; omega))); clear hown3 hg3 hb2 hn2x hn3))
    go_ret
    have hend := HEND.out
    rw [Nat.zero_add] at hend
    exact ⟨_, rfl, hend⟩
end Go.Proofs.YtemlafbkkaloiaaGreat
