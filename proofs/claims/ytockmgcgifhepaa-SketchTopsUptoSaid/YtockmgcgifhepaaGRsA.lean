/- Texts of one chain, one behind the other: RsA, RsB, RsC, RsD, RsE. -/
import Derived.Test.YtockmgcgifhepaaGSkB
import Derived.Test.YtockmgcgifhepaaGRecs

/- the reference's sketch: hash, mix, column. -/
namespace Go.Proofs.Ytockmgcgifhepaa
open Go.RowKit
set_option linter.unusedVariables false
set_option linter.unusedSimpArgs false

set_option maxHeartbeats 1600000 in
theorem r6hash_any (s : ByteArray) (hs : s.size ≤ maxLen) (w : World) : Calls Try.prog 16 #[.string s] w fun e w' => e = .returned (.int .u64 (hashS s)) ∧ w' = w := by
  have hsz : (s.size : Int) ≤ 9223372036854775807 := by simp only [maxLen] at hs; omega
  go_enter Try.func16, Try.ntmps16
  go_wp2_with (fail)
  go_loop [3, 4] (fun h i => ∃ (k : Nat) (H : Int), k ≤ s.size ∧ i = .int .i64 k ∧ h = .int .u64 H ∧ 0 ≤ H ∧ H ≤ 18446744073709551615 ∧ Hid (H = hashL (s.data.toList.take k))) (fun _ i => s.size - (intOf i).toNat)
  case atStart => exact ⟨0, _, Nat.zero_le _, rfl, rfl, by omega, by omega, rfl⟩
  case round =>
    obtain ⟨k, H, hk, rfl, rfl, h0, h1, HH⟩ := hrel
    by_cases hlt : k < s.size
    · have k0 : (0 : Int) ≤ k := by omega
      have k1 : (k : Int) < s.size := by omega
      have hs1 := Lib.hid (hashL_snoc (s.data.toList.take k) s[k])
      have hs2 := Lib.hid (takeS_snoc s k hlt)
      go_wp2_with (fail)
      have hc : IntKind.u64.wrap (s[k].toNat : Int) = (s[k].toNat : Int) := IntWalk.u64_in _ (by have := s[k].toNat_lt; omega)
      try rw [hc]
      have hb := u64_bd (bits BinOp.xor IntKind.u64 H (s[k].toNat : Int) * 1099511628211)
      exact ⟨⟨k + 1, _, by omega, by go_num, rfl, hb.1, hb.2, by
        show _ = _
        rw [hs2.out, hs1.out, ← HH.out]; rfl⟩, by first | (simp [intOf]; done) | (simp [intOf]; omega)⟩
    · go_wp2_with (fail)
      go_ret
      refine ⟨?_, rfl⟩
      have := HH.out
      rw [List.take_of_length_le (by have : s.data.toList.length = s.size := rfl; omega)] at this
      rw [show hashS s = H from this.symm]; rfl
set_option maxHeartbeats 1600000 in
theorem r2mix_any (x : Int) (h0 : 0 ≤ x) (h1 : x ≤ 18446744073709551615) (w : World) : Calls Try.prog 56 #[.int .u64 x] w fun e w' => e = .returned (.int .u64 (mixU x)) ∧ w' = w := by
  have H : Hid (mixU x = _) := (rfl : mixU x = mixU x)
  go_enter Try.func56, Try.ntmps56
  go_wp2_with (fail)
  go_ret
  exact ⟨rfl, rfl⟩
set_option maxHeartbeats 1600000 in
theorem r6column_any (h : ShapeS) (b row : Int) (hb : ShapeOk h b) (r0 : 0 ≤ row) (r1 : row ≤ 64) (key : ByteArray) (hk : key.size ≤ maxLen) (q : Nat) (w : World) (q3 : w.cell? ⟨q, 3, none⟩ = some (.int .i64 h.C)) (q4 : w.cell? ⟨q, 4, none⟩ = some (.int .u64 h.seed)) :
    Calls Try.prog 34 #[.pointer (some ⟨q, 0, none⟩), .int .i64 row, .string key] w fun e w' => e = .returned (.int .i64 (colS h row key)) ∧ ∃ m, w' = w.drewN m := by
  obtain ⟨c0, c1⟩ := colS_bd hb row key
  obtain ⟨C, hC⟩ : ∃ C, colS h row key = C := ⟨_, rfl⟩
  rw [hC] at c0 c1 ⊢
  unfold colS at hC
  have hh := hashS_bd key
  have HH := Lib.hid (fun wx => r6hash_any key hk wx)
  obtain ⟨X, hX⟩ : ∃ X, argU h.seed row (hashS key) = X := ⟨_, rfl⟩
  have hx := u64_bd (IntKind.u64.wrap (hashS key + h.seed) + IntKind.u64.wrap (11400714819323198485 * (row + 1)))
  rw [show IntKind.u64.wrap (IntKind.u64.wrap (hashS key + h.seed) + IntKind.u64.wrap (11400714819323198485 * (row + 1))) = X from hX] at hx
  rw [hX] at hC
  have HM := Lib.hid (fun wx => r2mix_any X hx.1 hx.2 wx)
  have hm := mixU_bd X
  unfold argU at hX
  obtain ⟨W1, W2, B1, B2, R1, R2, C1, C2, bW, b1, s0, s1⟩ := hb
  obtain ⟨W, B, R, CC, seed⟩ := h
  dsimp only at *
  generalize hashS key = H at *
  generalize mixU X = M at *
  have e1 : IntKind.i64.wrap (row + 1) = row + 1 := IntWalk.i64_in _ (by omega)
  have e2 : IntKind.u64.wrap CC = CC := IntWalk.u64_in _ (by omega)
  have e3 : M.tmod CC = M % CC := Int.tmod_eq_emod_of_nonneg hm.1
  have e4 : IntKind.i64.wrap C = C := IntWalk.i64_in _ (by omega)
  have e5 : IntKind.u64.wrap C = C := IntWalk.u64_in _ (by omega)
  have hne : (CC == 0) = false := by rw [beq_eq_false_iff_ne]; omega
  clear bW b1 s0 s1 W1 W2 B1 B2 R1 R2 hk
  go_enter Try.func34, Try.ntmps34
  go_wp2_with (fail)
  go_quiet (first | (go_at_call 16; exact Calls.quiet_of_same (HH.out _)) | (go_at_call 56; exact Calls.quiet_of_same (HM.out _)))
  have HBd := Lib.hid (show ∃ m, w.drewN nq = w.drewN m from ⟨nq, rfl⟩)
  have q3d : (w.drewN nq).cell? ⟨q, 3, none⟩ = some (.int .i64 CC) := q3
  clear q3 q4
  generalize w.drewN nq = w2 at *
  go_wp2_with (fail)
  go_quiet (first | (go_at_call 16; exact Calls.quiet_of_same (HH.out _)) | (go_at_call 56; exact Calls.quiet_of_same (HM.out _)))
  go_wp2_with (fail)
  go_ret
  obtain ⟨m, hm⟩ := HBd.out
  exact ⟨rfl, m + nq, by rw [hm, World.drewN_drewN]⟩
end Go.Proofs.Ytockmgcgifhepaa

/- the reference's sketch: its times. -/
namespace Go.Proofs.Ytockmgcgifhepaa
open Go.RowKit
set_option linter.unusedVariables false
set_option linter.unusedSimpArgs false

def timeR (x : Int) : Bool := decide (0 ≤ x ∧ x ≤ 1152921504606846976)
set_option maxHeartbeats 800000 in
theorem r6time_any (x : Int) (w : World) : Calls Try.prog 50 #[.int .i64 x] w fun e w' => e = .returned (.bool (timeR x)) ∧ w' = w := by
  unfold timeR
  by_cases h0 : 0 ≤ x
  · by_cases h1 : x ≤ 1152921504606846976
    · rw [decide_eq_true (And.intro h0 h1)]
      go_enter Try.func50, Try.ntmps50
      go_wp2_with (fail)
      go_ret
      exact ⟨rfl, rfl⟩
    · rw [decide_eq_false (fun h => h1 h.2)]
      go_enter Try.func50, Try.ntmps50
      go_wp2_with (fail)
      go_ret
      exact ⟨rfl, rfl⟩
  · rw [decide_eq_false (fun h => h0 h.1)]
    go_enter Try.func50, Try.ntmps50
    go_wp2_with (fail)
    go_ret
    exact ⟨rfl, rfl⟩
set_option maxHeartbeats 1600000 in
theorem r6wrong_any (q : Nat) (last at_ : Int) (w : World) (q6 : w.cell? ⟨q, 6, none⟩ = some (.int .i64 last)) :
    Calls Try.prog 23 #[.pointer (some ⟨q, 0, none⟩), .int .i64 at_] w fun e w' => e = .returned (.int .i64 (lookS last at_)) ∧ w' = w := by
  have HT := Lib.hid (r6time_any at_ w)
  unfold lookS
  by_cases h0 : at_ < 0 ∨ 1152921504606846976 < at_
  · have ht : timeR at_ = false := decide_eq_false (by omega)
    rw [if_pos h0]
    rw [ht] at HT
    go_enter Try.func23, Try.ntmps23
    go_wp2_with (fail)
    refine HT.out.mono ?_
    rintro e w2 ⟨rfl, hq⟩
    have hq := hq.symm
    subst hq
    go_wp2_with (fail)
    go_ret
    exact ⟨rfl, rfl⟩
  · have ht : timeR at_ = true := decide_eq_true (by omega)
    rw [if_neg h0]
    rw [ht] at HT
    by_cases h1 : at_ < last
    · rw [if_pos h1]
      go_enter Try.func23, Try.ntmps23
      go_wp2_with (fail)
      refine HT.out.mono ?_
      rintro e w2 ⟨rfl, hq⟩
      have hq := hq.symm
      subst hq
      go_wp2_with (fail)
      go_ret
      exact ⟨rfl, rfl⟩
    · rw [if_neg h1]
      go_enter Try.func23, Try.ntmps23
      go_wp2_with (fail)
      refine HT.out.mono ?_
      rintro e w2 ⟨rfl, hq⟩
      have hq := hq.symm
      subst hq
      go_wp2_with (fail)
      go_ret
      exact ⟨rfl, rfl⟩
def inRs (b B at_ t : Int) : Bool := decide (t / b ≤ at_ / b) && decide (at_ / b - B < t / b)
set_option maxHeartbeats 1600000 in
theorem r6in_any (h : ShapeS) (b : Int) (hb : ShapeOk h b) (q : Nat) (t at_ : Int) (t0 : 0 ≤ t) (t1 : t ≤ 1152921504606846976) (a0 : 0 ≤ at_) (a1 : at_ ≤ 1152921504606846976) (w : World) (q0 : w.cell? ⟨q, 0, none⟩ = some (.int .i64 h.W)) (q1 : w.cell? ⟨q, 1, none⟩ = some (.int .i64 h.B)) :
    Calls Try.prog 53 #[.pointer (some ⟨q, 0, none⟩), .int .i64 t, .int .i64 at_] w fun e w' => e = .returned (.bool (inRs b h.B at_ t)) ∧ ∃ m, w' = w.drewN m := by
  obtain ⟨W1, W2, B1, B2, R1, R2, C1, C2, bW, b1, s0, s1⟩ := hb
  obtain ⟨W, B, R, CC, seed⟩ := h
  dsimp only at *
  unfold inRs
  obtain ⟨T, hT⟩ : ∃ T, t / b = T := ⟨_, rfl⟩
  obtain ⟨A, hA⟩ : ∃ A, at_ / b = A := ⟨_, rfl⟩
  obtain ⟨D, hD⟩ : ∃ D, A - B = D := ⟨_, rfl⟩
  have T0 : 0 ≤ T := by rw [← hT]; exact Int.ediv_nonneg t0 (by omega)
  have T1 : T ≤ t := by rw [← hT]; exact Int.ediv_le_self _ t0
  have A0 : 0 ≤ A := by rw [← hA]; exact Int.ediv_nonneg a0 (by omega)
  have A1 : A ≤ at_ := by rw [← hA]; exact Int.ediv_le_self _ a0
  have hb1 : W / B = b := by rw [bW]; exact Int.mul_ediv_cancel _ (by omega)
  have hbW : b ≤ W := by rw [← hb1]; exact Int.ediv_le_self _ (by omega)
  have e1 : IntKind.i64.wrap (W.tdiv B) = b := by rw [Int.tdiv_eq_ediv_of_nonneg (by omega), hb1]; exact IntWalk.i64_in _ (by omega)
  have e2 : IntKind.i64.wrap (t.tdiv b) = T := by rw [Int.tdiv_eq_ediv_of_nonneg t0, hT]; exact IntWalk.i64_in _ (by omega)
  have e3 : IntKind.i64.wrap (at_.tdiv b) = A := by rw [Int.tdiv_eq_ediv_of_nonneg a0, hA]; exact IntWalk.i64_in _ (by omega)
  have e4 : IntKind.i64.wrap (A - B) = D := by rw [hD]; exact IntWalk.i64_in _ (by omega)
  have n1 : (B == 0) = false := by rw [beq_eq_false_iff_ne]; omega
  have n2 : (b == 0) = false := by rw [beq_eq_false_iff_ne]; omega
  rw [hT, hA, hD]
  clear hT hA hb1 bW
  by_cases h1 : T ≤ A
  · have d1 : decide (T ≤ A) = true := decide_eq_true h1
    rw [d1]
    by_cases h2 : D < T
    · have d2 : decide (D < T) = true := decide_eq_true h2
      rw [d2]
      go_enter Try.func53, Try.ntmps53
      go_wp2_with (fail)
      go_quiet (fail)
      have HB2 := Lib.hid (show ∃ m, w.drewN nq = w.drewN m from ⟨nq, rfl⟩)
      have q1 : (w.drewN nq).cell? ⟨q, 1, none⟩ = some (.int .i64 B) := q1
      have q0 : (w.drewN nq).cell? ⟨q, 0, none⟩ = some (.int .i64 W) := q0
      generalize w.drewN nq = w2 at *
      go_wp2_with (fail)
      go_quiet (fail)
      go_wp2_with (fail)
      go_ret
      exact ⟨rfl, by obtain ⟨m, hm⟩ := HB2.out; exact ⟨m + nq, by rw [hm, World.drewN_drewN]⟩⟩
    · have d2 : decide (D < T) = false := decide_eq_false h2
      rw [d2]
      go_enter Try.func53, Try.ntmps53
      go_wp2_with (fail)
      go_quiet (fail)
      have HB2 := Lib.hid (show ∃ m, w.drewN nq = w.drewN m from ⟨nq, rfl⟩)
      have q1 : (w.drewN nq).cell? ⟨q, 1, none⟩ = some (.int .i64 B) := q1
      have q0 : (w.drewN nq).cell? ⟨q, 0, none⟩ = some (.int .i64 W) := q0
      generalize w.drewN nq = w2 at *
      go_wp2_with (fail)
      go_quiet (fail)
      go_wp2_with (fail)
      go_ret
      exact ⟨rfl, by obtain ⟨m, hm⟩ := HB2.out; exact ⟨m + nq, by rw [hm, World.drewN_drewN]⟩⟩
  · have d1 : decide (T ≤ A) = false := decide_eq_false h1
    rw [d1]
    go_enter Try.func53, Try.ntmps53
    go_wp2_with (fail)
    go_quiet (fail)
    have HB2 := Lib.hid (show ∃ m, w.drewN nq = w.drewN m from ⟨nq, rfl⟩)
    have q1 : (w.drewN nq).cell? ⟨q, 1, none⟩ = some (.int .i64 B) := q1
    have q0 : (w.drewN nq).cell? ⟨q, 0, none⟩ = some (.int .i64 W) := q0
    generalize w.drewN nq = w2 at *
    go_wp2_with (fail)
    go_quiet (fail)
    go_wp2_with (fail)
    go_ret
    exact ⟨rfl, by obtain ⟨m, hm⟩ := HB2.out; exact ⟨m + nq, by rw [hm, World.drewN_drewN]⟩⟩
end Go.Proofs.Ytockmgcgifhepaa

/- the reference's sketch: estimate, total. -/
namespace Go.Proofs.Ytockmgcgifhepaa
open Go.RowKit
set_option linter.unusedVariables false
set_option linter.unusedSimpArgs false

def NoteS.vals (x : NoteS) : List Value := [.int .i64 x.at_, .int .i64 x.n, .string x.key]
def flatR (ns : List NoteS) : List Value := ns.flatMap NoteS.vals
theorem flatR_len : ∀ ns : List NoteS, (flatR ns).length = ns.length * 3
  | [] => rfl
  | x :: ns => by simp only [flatR, List.flatMap_cons, List.length_append, List.length_cons]; rw [show (ns.flatMap NoteS.vals).length = ns.length * 3 from flatR_len ns]; simp [NoteS.vals]; omega
theorem flatR_get : ∀ {ns : List NoteS} {j : Nat} {x : NoteS}, ns[j]? = some x → ∀ k, k < 3 → (flatR ns)[j * 3 + k]? = x.vals[k]?
  | y :: ns, 0, x, h, k, hk => by
    obtain rfl : y = x := by simpa using h
    show (y.vals ++ flatR ns)[0 * 3 + k]? = _
    rw [Nat.zero_mul, Nat.zero_add, List.getElem?_append_left (by simp [NoteS.vals]; omega)]
  | y :: ns, j + 1, x, h, k, hk => by
    have ih := flatR_get (ns := ns) (j := j) (x := x) (by simpa using h) k hk
    show (y.vals ++ flatR ns)[(j + 1) * 3 + k]? = _
    rw [List.getElem?_append_right (by simp [NoteS.vals]; omega), show (j + 1) * 3 + k - y.vals.length = j * 3 + k by simp [NoteS.vals]; omega]
    exact ih
/-- The reference's sketch in memory. -/
structure R6At (w : World) (q : Nat) (h : ShapeS) (last : Int) (v : Value) (ns : List NoteS) : Prop where
  head : w.heap[q]? = some (.cells #[.int .i64 h.W, .int .i64 h.B, .int .i64 h.R, .int .i64 h.C, .int .u64 h.seed, v, .int .i64 last] 68)
  row : w.ownsRow 0 72 3 v ns.length (flatR ns)
  apart : v.ownBlock ≠ some q
  fine : ∀ x, x ∈ ns → 0 ≤ x.at_ ∧ x.at_ ≤ last ∧ 0 ≤ x.n ∧ x.n ≤ 1099511627776 ∧ x.key.size ≤ maxLen
  l0 : 0 ≤ last
  l1 : last ≤ 1152921504606846976
  few : ns.length ≤ 4611686018427387904
theorem R6At.cells {w : World} {q : Nat} {h : ShapeS} {last : Int} {v : Value} {ns : List NoteS} (k : R6At w q h last v ns) : w.cell? ⟨q, 0, none⟩ = some (.int .i64 h.W) ∧ w.cell? ⟨q, 1, none⟩ = some (.int .i64 h.B) ∧ w.cell? ⟨q, 2, none⟩ = some (.int .i64 h.R) ∧ w.cell? ⟨q, 3, none⟩ = some (.int .i64 h.C) ∧ w.cell? ⟨q, 4, none⟩ = some (.int .u64 h.seed) ∧ w.cell? ⟨q, 5, none⟩ = some v ∧ w.cell? ⟨q, 6, none⟩ = some (.int .i64 last) := by
  have h := k.head
  refine ⟨?_, ?_, ?_, ?_, ?_, ?_, ?_⟩ <;> simp [World.cell?, h]
theorem R6At.get {w : World} {q : Nat} {h : ShapeS} {last : Int} {v : Value} {ns : List NoteS} (k : R6At w q h last v ns) {j : Nat} {x : NoteS} (hx : ns[j]? = some x) : ∃ g cap, v = .slice (some ⟨g, 0, none⟩) ns.length cap ∧ g < w.heap.size ∧ w.cell? ⟨g, j * 3, none⟩ = some (.int .i64 x.at_) ∧ w.cell? ⟨g, j * 3 + 1, none⟩ = some (.int .i64 x.n) ∧ w.cell? ⟨g, j * 3 + 2, none⟩ = some (.string x.key) := by
  have hjl := (List.getElem?_eq_some_iff.1 hx).1
  have hr := k.row
  rcases hr.2 with ⟨_, hz⟩ | ⟨g, cp, cur, hh, _, hgg, _⟩
  · omega
  · subst hh
    refine ⟨g, cp, rfl, (Array.getElem?_eq_some_iff.1 hgg).1, (hr.cellAt (j * 3) (by omega)).trans (flatR_get hx 0 (by omega)), (hr.cellAt (j * 3 + 1) (by omega)).trans (flatR_get hx 1 (by omega)), (hr.cellAt (j * 3 + 2) (by omega)).trans (flatR_get hx 2 (by omega))⟩
theorem R6At.slice {w : World} {q : Nat} {h : ShapeS} {last : Int} {v : Value} {ns : List NoteS} (k : R6At w q h last v ns) : ∃ a cap, v = .slice a ns.length cap := by
  rcases k.row.2 with ⟨hh, hz⟩ | ⟨g, cp, cur, hh, _⟩
  · exact ⟨none, 0, by rw [hz]; exact hh⟩
  · exact ⟨_, _, hh⟩
theorem R6At.kept {w w' : World} {q : Nat} {h : ShapeS} {last : Int} {v : Value} {ns : List NoteS} (k : R6At w q h last v ns) (hk : ∀ i, i = q ∨ v.ownBlock = some i → w'.heap[i]? = w.heap[i]?) : R6At w' q h last v ns := by
  refine ⟨(hk q (Or.inl rfl)).trans k.head, ?_, k.apart, k.fine, k.l0, k.l1, k.few⟩
  obtain ⟨h1, h2⟩ := k.row
  refine ⟨h1, ?_⟩
  rcases h2 with h2 | ⟨g, cap, cur, rfl, hb, hg, hrest⟩
  · exact Or.inl h2
  · exact Or.inr ⟨g, cap, cur, rfl, hb, (hk g (Or.inr rfl)).trans hg, hrest⟩
theorem beginS_mul {b : Int} (t : Int) : beginS b t = b * (t / b) := by
  unfold beginS
  have := Int.mul_ediv_add_emod t b
  omega
theorem inR_eq {b B W t at_ : Int} (hb : 1 ≤ b) (hW : W = b * B) (h : t ≤ at_) : inRs b B at_ t = decide (beginS b at_ - W < beginS b t) := by
  unfold inRs
  have h1 : t / b ≤ at_ / b := Int.ediv_le_ediv (by omega) h
  rw [decide_eq_true h1, Bool.true_and, beginS_mul, beginS_mul, hW, ← Int.mul_sub]
  by_cases e : at_ / b - B < t / b
  · rw [decide_eq_true e, decide_eq_true (Int.mul_lt_mul_of_pos_left e (by omega))]
  · rw [decide_eq_false e, decide_eq_false (fun h => e (Int.lt_of_mul_lt_mul_left h (by omega)))]
theorem sumP_take1 (p : NoteS → Bool) : ∀ {ns : List NoteS} {k : Nat} {x : NoteS}, ns[k]? = some x → sumP p (ns.take (k + 1)) = sumP p (ns.take k) + if p x then x.n else 0
  | y :: ns, 0, x, h => by
    obtain rfl : y = x := by simpa using h
    simp [sumP]
  | y :: ns, k + 1, x, h => by
    have ih := sumP_take1 p (ns := ns) (k := k) (x := x) (by simpa using h)
    rw [List.take_succ_cons, List.take_succ_cons, sumP, sumP, ih]; omega

set_option maxHeartbeats 6400000 in
set_option maxRecDepth 100000 in
theorem r6est_any {w : World} {q : Nat} {h : ShapeS} {b last : Int} {v : Value} {ns : List NoteS} (k : R6At w q h last v ns) (hb : ShapeOk h b) (at_ : Int) (key : ByteArray) (hk : key.size ≤ maxLen) :
    Calls Try.prog 30 #[.pointer (some ⟨q, 0, none⟩), .int .i64 at_, .string key] w fun e w' => e = .returned (.tuple #[.int .i64 (if lookS last at_ = 0 then estN h b at_ key ns else 0), .int .i64 (lookS last at_)]) ∧ ∃ m, w' = w.drewN m := by
  obtain ⟨c0, c1, c2, c3, c4, c5, c6⟩ := k.cells
  have HWR := Lib.hid (r6wrong_any q last at_ w c6)
  have K := Lib.hid k
  by_cases hE : lookS last at_ = 0
  · obtain ⟨a0, a1, a2⟩ := lookS_ok hE
    rw [hE] at HWR ⊢
    rw [if_pos rfl]
    obtain ⟨aS, capS', hv⟩ := k.slice
    obtain ⟨nB, hnB⟩ : ∃ nB, ns.length = nB := ⟨_, rfl⟩
    rw [hnB] at hv
    subst hv
    have HNB := Lib.hid hnB
    have HCO := Lib.hid (fun (wx : World) (row : Int) (r0 : 0 ≤ row) (r1 : row ≤ 64) (key : ByteArray) (hk : key.size ≤ maxLen) => r6column_any h b row hb r0 r1 key hk q wx)
    have HIN := Lib.hid (fun (wx : World) (t : Int) (t0 : 0 ≤ t) (t1 : t ≤ 1152921504606846976) => r6in_any h b hb q t at_ t0 t1 a0 a1 wx)
    have hR1 := hb.R1
    have hR2 := hb.R2
    have HB := Lib.hid hb
    obtain ⟨f, hf⟩ : ∃ f : Int → Int, (fun r => capS (sumP (fun y => decide (beginS b at_ - h.W < beginS b y.at_) && decide (colS h r y.key = colS h r key)) ns)) = f := ⟨_, rfl⟩
    have HF := Lib.hid hf
    obtain ⟨RN, hRN⟩ : ∃ RN : Nat, h.R.toNat = RN := ⟨_, rfl⟩
    have hRI : h.R = RN := by omega
    have HEST := Lib.hid (show estN h b at_ key ns = leastS f RN by unfold estN; rw [hf, hRN])
    rw [hRI] at c2
    have HRI := Lib.hid hRI
    have hRN8 : RN ≤ 8 := by omega
    have hLB : ∀ r : Nat, leastS f r ≤ 4611686018427387904 ∧ 0 ≤ leastS f r := by
      intro r
      have hf0 : ∀ x, 0 ≤ f x := fun x => by
        rw [← hf]
        exact capS_nonneg (sumP_nonneg (fun y hy => (k.fine y hy).2.2.1))
      induction r with
      | zero => exact ⟨Int.le_refl _, by unfold leastS; omega⟩
      | succ r ih => have := hf0 r; rw [leastS]; omega
    have HLB := Lib.hid hLB
    clear hE hnB hb hf hRN hRI hLB hR1 hR2
    have HC := Lib.hid (And.intro c0 (And.intro c1 (And.intro c2 (And.intro c3 (And.intro c4 c5)))))
    go_enter Try.func30, Try.ntmps30
    go_wp2_with (fail)
    refine HWR.out.mono ?_
    rintro e w2 ⟨rfl, hq⟩
    have hq := hq.symm
    subst hq
    go_wp2_with (fail)
    go_loopw [9, 10, 11, 12, 13] (fun x9 x10 _ _ _ wr => ∃ (r : Nat), r ≤ RN ∧ x10 = .int .i64 r ∧ x9 = .int .i64 (leastS f r) ∧ Hid (∃ m, wr = w.drewN m)) (fun _ x10 _ _ _ _ => RN - (intOf x10).toNat)
    case atStart => exact ⟨0, Nat.zero_le _, rfl, rfl, Lib.hid ⟨0, rfl⟩⟩
    case round =>
      rename World => wr
      obtain ⟨r, hr, rfl, rfl, HM⟩ := hrel
      have d2 : wr.cell? ⟨q, 2, none⟩ = some (.int .i64 RN) := by obtain ⟨m, rfl⟩ := HM.out; exact HC.out.2.2.1
      by_cases hlt : r < RN
      · have r0 : (0 : Int) ≤ r := by omega
        have r1 : (r : Int) < RN := by omega
        have d3 : wr.cell? ⟨q, 3, none⟩ = some (.int .i64 h.C) := by obtain ⟨m, rfl⟩ := HM.out; exact HC.out.2.2.2.1
        have d4 : wr.cell? ⟨q, 4, none⟩ = some (.int .u64 h.seed) := by obtain ⟨m, rfl⟩ := HM.out; exact HC.out.2.2.2.2.1
        have HC1 := Lib.hid (HCO.out wr r (by omega) (by omega) key hk d3 d4)
        go_wp2_with (fail)
        refine HC1.out.mono ?_
        rintro e w3 ⟨rfl, hm3⟩
        have HM3 : Hid (∃ m, w3 = w.drewN m) := Lib.hid (by obtain ⟨m, rfl⟩ := HM.out; obtain ⟨m2, rfl⟩ := hm3; exact ⟨m + m2, by rw [World.drewN_drewN]⟩)
        obtain ⟨CK, hCK⟩ : ∃ CK, colS h r key = CK := ⟨_, rfl⟩
        obtain ⟨p, hp⟩ : ∃ p : NoteS → Bool, (fun y => decide (beginS b at_ - h.W < beginS b y.at_) && decide (colS h r y.key = colS h r key)) = p := ⟨_, rfl⟩
        have HFR := Lib.hid (show f r = capS (sumP p ns) by rw [← HF.out, ← hp])
        rw [hCK] at hp ⊢
        have HP := Lib.hid hp
        clear hm3 d2 d3 d4 HC1 hCK hp HM
        go_wp2_with (fail)
        go_loopw [12, 13] (fun x12 x13 wy => ∃ (i : Nat), i ≤ nB ∧ x13 = .int .i64 i ∧ x12 = .int .i64 (capS (sumP p (ns.take i))) ∧ Hid (∃ m, wy = w.drewN m)) (fun _ x13 _ => nB - (intOf x13).toNat)
        case atStart => exact ⟨0, Nat.zero_le _, rfl, by simp [sumP, capS_zero], HM3⟩
        case round =>
          rename World => wy
          clear HM3
          obtain ⟨i, hi, rfl, rfl, HM⟩ := hrel
          have d5 : wy.cell? ⟨q, 5, none⟩ = some (.slice aS nB capS') := by obtain ⟨m, rfl⟩ := HM.out; exact HC.out.2.2.2.2.2
          by_cases hli : i < nB
          · have i0 : (0 : Int) ≤ i := by omega
            have i1 : (i : Int) < nB := by omega
            have i9 : nB ≤ 4611686018427387904 := by rw [← HNB.out]; exact K.out.few
            obtain ⟨x, hx⟩ : ∃ x, ns[i]? = some x := ⟨_, List.getElem?_eq_getElem (by rw [HNB.out]; exact hli)⟩
            obtain ⟨g, cp, hvg, hgl, e0, e1, e2⟩ := K.out.get hx
            injection hvg with hag hvl hvc
            subst hag
            clear hvl hvc
            obtain ⟨xf0, xf1, xf2, xf3, xf4⟩ := K.out.fine x (List.mem_of_getElem? hx)
            have d0 : wy.cell? ⟨q, 0, none⟩ = some (.int .i64 h.W) := by obtain ⟨m, rfl⟩ := HM.out; exact HC.out.1
            have d1 : wy.cell? ⟨q, 1, none⟩ = some (.int .i64 h.B) := by obtain ⟨m, rfl⟩ := HM.out; exact HC.out.2.1
            have d3 : wy.cell? ⟨q, 3, none⟩ = some (.int .i64 h.C) := by obtain ⟨m, rfl⟩ := HM.out; exact HC.out.2.2.2.1
            have d4 : wy.cell? ⟨q, 4, none⟩ = some (.int .u64 h.seed) := by obtain ⟨m, rfl⟩ := HM.out; exact HC.out.2.2.2.2.1
            have e0 : wy.cell? ⟨g, i * 3, none⟩ = some (.int .i64 x.at_) := by obtain ⟨m, rfl⟩ := HM.out; exact e0
            have e1 : wy.cell? ⟨g, i * 3 + 1, none⟩ = some (.int .i64 x.n) := by obtain ⟨m, rfl⟩ := HM.out; exact e1
            have e2 : wy.cell? ⟨g, i * 3 + 2, none⟩ = some (.string x.key) := by obtain ⟨m, rfl⟩ := HM.out; exact e2
            have HINX := Lib.hid (HIN.out wy x.at_ xf0 (by omega) d0 d1)
            have HHX := Lib.hid hx
            have HE1 := Lib.hid e1
            have HE2 := Lib.hid e2
            have HPX := Lib.hid (show p x = (inRs b h.B at_ x.at_ && decide (colS h r x.key = CK)) by rw [← HP.out, inR_eq HB.out.b1 HB.out.bW (by omega)])
            have hT := sumP_take1 p hx
            have HT := Lib.hid hT
            have hs0 : 0 ≤ sumP p (ns.take i) := sumP_nonneg (fun y hy => (K.out.fine y (List.mem_of_mem_take hy)).2.2.1)
            have HS0 := Lib.hid hs0
            clear hx hT hs0 hli
            generalize hII : inRs b h.B at_ x.at_ = II at *
            clear hII
            go_wp2_with (fail)
            refine HINX.out.mono ?_
            rintro e w4 ⟨rfl, hm4⟩
            have HM4 : Hid (∃ m, w4 = w.drewN m) := Lib.hid (by obtain ⟨m, rfl⟩ := HM.out; obtain ⟨m2, rfl⟩ := hm4; exact ⟨m + m2, by rw [World.drewN_drewN]⟩)
            have HD4 := Lib.hid (show w4.cell? ⟨q, 3, none⟩ = some (.int .i64 h.C) ∧ w4.cell? ⟨q, 4, none⟩ = some (.int .u64 h.seed) ∧ w4.cell? ⟨q, 5, none⟩ = some (.slice (some ⟨g, 0, none⟩) nB capS') ∧ w4.cell? ⟨g, i * 3 + 1, none⟩ = some (.int .i64 x.n) ∧ w4.cell? ⟨g, i * 3 + 2, none⟩ = some (.string x.key) from by obtain ⟨m2, rfl⟩ := hm4; exact ⟨d3, d4, d5, e1, e2⟩)
            clear hm4 HM d0 d1 d3 d4 d5 e0 e1 e2 HINX
            cases II with
            | false =>
             as_aux_lemma =>
              have HTK := Lib.hid (show sumP p (ns.take (i + 1)) = sumP p (ns.take i) by rw [HT.out, HPX.out]; simp)
              clear HT HPX
              go_wp2_with (fail)
              exact ⟨⟨i + 1, by omega, by go_num, by rw [HTK.out], HM4⟩, by first | (simp [intOf]; done) | (simp [intOf]; omega)⟩
            | true =>
              obtain ⟨d3, d4, d5, e1, e2⟩ := HD4.out
              have HCX := Lib.hid (HCO.out w4 r (by omega) (by omega) x.key xf4 d3 d4)
              generalize hCC : colS h r x.key = CC at *
              clear hCC
              go_wp2_with (fail)
              refine HCX.out.mono ?_
              rintro e w5 ⟨rfl, hm5⟩
              have HM5 : Hid (∃ m, w5 = w.drewN m) := Lib.hid (by obtain ⟨m, rfl⟩ := HM4.out; obtain ⟨m2, rfl⟩ := hm5; exact ⟨m + m2, by rw [World.drewN_drewN]⟩)
              have d5 : w5.cell? ⟨q, 5, none⟩ = some (.slice (some ⟨g, 0, none⟩) nB capS') := by obtain ⟨m2, rfl⟩ := hm5; exact d5
              have e1 : w5.cell? ⟨g, i * 3 + 1, none⟩ = some (.int .i64 x.n) := by obtain ⟨m2, rfl⟩ := hm5; exact e1
              clear hm5 d3 d4 e2 HCX HM4 HD4
              by_cases hcc : CC = CK
              · as_aux_lemma =>
                have HTK := Lib.hid (show capS (sumP p (ns.take (i + 1))) = plusS (capS (sumP p (ns.take i))) x.n by
                  have hcx : capS x.n = x.n := capS_small (by omega)
                  have h1 := plusS_cap HS0.out xf2
                  rw [hcx] at h1
                  rw [h1, HT.out, HPX.out, decide_eq_true hcc]; simp)
                have hcd : (CC == CK) = true := by rw [hcc]; simp
                have hsc : 0 ≤ capS (sumP p (ns.take i)) ∧ capS (sumP p (ns.take i)) ≤ 4611686018427387904 := ⟨capS_nonneg HS0.out, capS_le _⟩
                generalize capS (sumP p (ns.take i)) = SM at *
                have HPL := Lib.hid (rplusS_any SM x.n hsc.1 hsc.2 xf2 (by omega) w5)
                clear HT HPX hcc hsc
                go_wp2_with (fail)
                refine HPL.out.mono ?_
                rintro e w6 ⟨rfl, hq6⟩
                have hq6 := hq6.symm
                subst hq6
                go_wp2_with (fail)
                exact ⟨⟨i + 1, by omega, by go_num, by rw [HTK.out], HM5⟩, by first | (simp [intOf]; done) | (simp [intOf]; omega)⟩
              · as_aux_lemma =>
                have HTK := Lib.hid (show sumP p (ns.take (i + 1)) = sumP p (ns.take i) by rw [HT.out, HPX.out, decide_eq_false hcc]; simp)
                have hcd : (CC == CK) = false := by rw [beq_eq_false_iff_ne]; exact hcc
                clear HT HPX hcc
                go_wp2_with (fail)
                exact ⟨⟨i + 1, by omega, by go_num, by rw [HTK.out], HM5⟩, by first | (simp [intOf]; done) | (simp [intOf]; omega)⟩
          · have i1 : ¬ (i : Int) < nB := by omega
            rw [List.take_of_length_le (by rw [HNB.out]; omega)]
            rw [← HFR.out]
            have HLR := Lib.hid (show leastS f (r + 1) = min (leastS f r) (f r) from rfl)
            clear HFR HP hli
            by_cases hlf : f r < leastS f r
            · as_aux_lemma =>
              go_wp2_with (fail)
              exact ⟨⟨r + 1, by omega, by go_num, by rw [HLR.out, Int.min_eq_right (by omega)], HM⟩, by first | (simp [intOf]; done) | (simp [intOf]; omega)⟩
            · as_aux_lemma =>
              go_wp2_with (fail)
              exact ⟨⟨r + 1, by omega, by go_num, by rw [HLR.out, Int.min_eq_left (by omega)], HM⟩, by first | (simp [intOf]; done) | (simp [intOf]; omega)⟩
      · have r1 : ¬ (r : Int) < RN := by omega
        have hrr : r = RN := by omega
        subst hrr
        go_wp2_with (fail)
        go_ret2
        exact ⟨by rw [HEST.out]; rfl, HM.out⟩
  · rw [if_neg hE]
    generalize lookS last at_ = E at *
    have hne : (E != 0) = true := by simpa using hE
    clear hE k
    go_enter Try.func30, Try.ntmps30
    go_wp2_with (fail)
    refine HWR.out.mono ?_
    rintro e w2 ⟨rfl, hq⟩
    have hq := hq.symm
    subst hq
    go_wp2_with (fail)
    go_ret2
    exact ⟨rfl, 0, rfl⟩
end Go.Proofs.Ytockmgcgifhepaa

/- the reference's sketch: total. -/
namespace Go.Proofs.Ytockmgcgifhepaa
open Go.RowKit
set_option linter.unusedVariables false
set_option linter.unusedSimpArgs false

end Go.Proofs.Ytockmgcgifhepaa

/- the reference's sketch: New. -/
namespace Go.Proofs.Ytockmgcgifhepaa
open Go.RowKit
set_option linter.unusedVariables false
set_option linter.unusedSimpArgs false

def r6Obj (h : ShapeS) : Obj := .cells #[.int .i64 h.W, .int .i64 h.B, .int .i64 h.R, .int .i64 h.C, .int .u64 h.seed, .slice none 0 0, .int .i64 0] 68
theorem r6_made (w : World) (h : ShapeS) : R6At (w.alloc (r6Obj h)) w.heap.size h 0 (.slice none 0 0) [] :=
  ⟨new_blockS w _, World.ownsRow_nil _ _ _ _, by simp [Value.ownBlock], by simp, Int.le_refl _, by omega, by simp⟩
set_option maxHeartbeats 3200000 in
theorem r6new_any (h : ShapeS) (w : World) : Calls Try.prog 5 #[.int .i64 h.W, .int .i64 h.B, .int .i64 h.R, .int .i64 h.C, .int .u64 h.seed] w fun e w' =>
    (newE h ≠ 0 → e = .returned (.tuple #[.pointer none, .int .i64 (newE h)]) ∧ w' = w) ∧ (newE h = 0 → e = .returned (.tuple #[.pointer (some ⟨w.heap.size, 0, none⟩), .int .i64 0]) ∧ w' = w.alloc (r6Obj h)) := by
  obtain ⟨W, B, R, C, seed⟩ := h
  unfold newE r6Obj
  dsimp only
  by_cases hs : (1 ≤ W ∧ W ≤ 1099511627776) ∧ (1 ≤ B ∧ B ≤ 60) ∧ (1 ≤ R ∧ R ≤ 8) ∧ (1 ≤ C ∧ C ≤ 4096)
  · have hb : shapeB ⟨W, B, R, C, seed⟩ = true := by
      simp only [shapeB, Bool.and_eq_true, inB_iff]; exact hs
    rw [if_pos hb]
    obtain ⟨⟨w1, w2⟩, ⟨b1, b2⟩, ⟨r1, r2⟩, ⟨c1, c2⟩⟩ := hs
    have hne : (B == 0) = false := by rw [beq_eq_false_iff_ne]; omega
    have et : W.tmod B = W % B := Int.tmod_eq_emod_of_nonneg (by omega)
    have em0 : 0 ≤ W % B := Int.emod_nonneg _ (by omega)
    have em1 : W % B < B := Int.emod_lt_of_pos _ (by omega)
    obtain ⟨M, hM⟩ : ∃ M, W % B = M := ⟨_, rfl⟩
    rw [hM] at et em0 em1 ⊢
    have e1 : IntKind.i64.wrap M = M := IntWalk.i64_in _ (by omega)
    clear hb hM
    by_cases hz : M = 0
    · subst hz
      rw [if_pos rfl]
      go_enter Try.func5, Try.ntmps5
      go_wp2_with (fail)
      go_ret2
      exact ⟨fun h => absurd rfl h, fun _ => ⟨rfl, rfl⟩⟩
    · rw [if_neg hz]
      have hnz : (M != 0) = true := by simpa using hz
      go_enter Try.func5, Try.ntmps5
      go_wp2_with (fail)
      go_ret2
      exact ⟨fun _ => ⟨rfl, rfl⟩, fun h => absurd h (by decide)⟩
  · have hb : ¬ shapeB ⟨W, B, R, C, seed⟩ = true := by
      simp only [shapeB, Bool.and_eq_true, inB_iff]; exact hs
    rw [if_neg hb]
    clear hb
    go_enter Try.func5, Try.ntmps5
    go_wp2_with (fail)
    all_goals first
      | (exfalso; omega)
      | (go_ret2; first | exact ⟨rfl, rfl⟩ | rfl | exact ⟨fun _ => ⟨rfl, rfl⟩, fun h => absurd h (by decide)⟩)
end Go.Proofs.Ytockmgcgifhepaa
