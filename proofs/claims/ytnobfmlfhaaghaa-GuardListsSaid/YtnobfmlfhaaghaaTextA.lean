/- spillwaymem: text, HandTexts, SameTexts, KeptTexts. -/
import Derived.Test.YtnobfmlfhaaghaaHandB
import Derived.Laws.IdiomStrings
namespace Go.Proofs.Ytnobfmlfhaaghaa
open Go.RowKit
set_option linter.unusedVariables false
set_option linter.unusedSimpArgs false

def chr3 (a b c : Int) : ByteArray := ⟨#[109, 97, 114, 107, 32, UInt8.ofNat (97 + a).toNat, UInt8.ofNat (97 + b).toNat, UInt8.ofNat (97 + c).toNat]⟩
/-- The mark of a number. -/
def markT (n : Int) : ByteArray := chr3 (n.tmod 26) ((n.tdiv 26).tmod 26) ((n.tdiv 676).tmod 26)
theorem chr_cells (w : World) (a b c : Int) (ha : 0 ≤ a ∧ a < 26) (hb : 0 ≤ b ∧ b < 26) (hc : 0 ≤ c ∧ c < 26) :
    (convert 123 9 (.slice (some ⟨w.heap.size, 0, none⟩) 3 3)).run Try.prog (w.alloc (.cells #[.int .u8 (97 + a), .int .u8 (97 + b), .int .u8 (97 + c)] 5)) = .ok (.string ⟨#[UInt8.ofNat (97 + a).toNat, UInt8.ofNat (97 + b).toNat, UInt8.ofNat (97 + c).toNat]⟩) (w.alloc (.cells #[.int .u8 (97 + a), .int .u8 (97 + b), .int .u8 (97 + c)] 5)) := by
  have h := run_convert_bytes_back (P := Try.prog) (w.alloc (.cells #[.int .u8 (97 + a), .int .u8 (97 + b), .int .u8 (97 + c)] 5)) 123 9 5 ⟨w.heap.size, 0, none⟩ 3 [UInt8.ofNat (97 + a).toNat, UInt8.ofNat (97 + b).toNat, UInt8.ofNat (97 + c).toNat] Try.underlying123 Try.underlying5 Try.underlying9 (fun j hj => by
    have key : ∀ x : Int, 0 ≤ x ∧ x < 26 → ((UInt8.ofNat (97 + x).toNat).toNat : Int) = 97 + x := fun x hx => by
      rw [UInt8.toNat_ofNat']; omega
    match j, hj with
    | 0, _ => show _ = some (Value.int .u8 ((UInt8.ofNat (97 + a).toNat).toNat : Int)); rw [key a ha]; simp [go_sem, Addr.add]
    | 1, _ => show _ = some (Value.int .u8 ((UInt8.ofNat (97 + b).toNat).toNat : Int)); rw [key b hb]; simp [go_sem, Addr.add]
    | 2, _ => show _ = some (Value.int .u8 ((UInt8.ofNat (97 + c).toNat).toNat : Int)); rw [key c hc]; simp [go_sem, Addr.add]
    | j + 3, hj => simp at hj; omega)
  exact h

set_option maxHeartbeats 1600000 in
set_option maxRecDepth 100000 in
theorem text_any (n : Int) (n0 : 0 ≤ n) (n1 : n ≤ 9223372036854775807) (w : World) : Calls Try.prog 64 #[.int .i64 n] w fun e w' => e = .returned (.string (markT n)) ∧ Below w.heap.size w w' := by
  have hB : Below w.heap.size w (w.alloc (.cells #[.int .u8 (97 + n.tmod 26), .int .u8 (97 + (n.tdiv 26).tmod 26), .int .u8 (97 + (n.tdiv 676).tmod 26)] 5)) := (Below.refl _ _).alloc (Nat.le_refl _) _
  have bd : ∀ x : Int, 0 ≤ x → 0 ≤ x.tmod 26 ∧ x.tmod 26 < 26 := fun x hx => ⟨Int.tmod_nonneg _ hx, Int.tmod_lt_of_pos _ (by omega)⟩
  have p0 := bd n n0
  have p1 := bd (n.tdiv 26) (Int.tdiv_nonneg n0 (by omega))
  have p2 := bd (n.tdiv 676) (Int.tdiv_nonneg n0 (by omega))
  have w1 : IntKind.i64.wrap (n.tdiv 26) = n.tdiv 26 := by rw [IntKind.wrap_i64]; rw [Int.tdiv_eq_ediv_of_nonneg n0]; omega
  have w2 : IntKind.i64.wrap (n.tdiv 676) = n.tdiv 676 := by rw [IntKind.wrap_i64]; rw [Int.tdiv_eq_ediv_of_nonneg n0]; omega
  have HK := Lib.hid (chr_cells w _ _ _ p0 p1 p2)
  have HM := Lib.hid (show markT n = chr3 (n.tmod 26) ((n.tdiv 26).tmod 26) ((n.tdiv 676).tmod 26) from rfl)
  obtain ⟨D1, hD1⟩ : ∃ D, n.tdiv 26 = D := ⟨_, rfl⟩
  obtain ⟨D2, hD2⟩ : ∃ D, n.tdiv 676 = D := ⟨_, rfl⟩
  obtain ⟨A, hA⟩ : ∃ D, n.tmod 26 = D := ⟨_, rfl⟩
  rw [hD1] at w1 p1 HK HM hB
  rw [hD2] at w2 p2 HK HM hB
  obtain ⟨B, hBb⟩ : ∃ D, D1.tmod 26 = D := ⟨_, rfl⟩
  obtain ⟨C, hC⟩ : ∃ D, D2.tmod 26 = D := ⟨_, rfl⟩
  rw [hA] at p0 HK HM hB
  rw [hBb] at p1 HK HM hB
  rw [hC] at p2 HK HM hB
  have a1 : IntKind.i64.wrap A = A := by rw [IntKind.wrap_i64]; omega
  have b1 : IntKind.i64.wrap B = B := by rw [IntKind.wrap_i64]; omega
  have c1 : IntKind.i64.wrap C = C := by rw [IntKind.wrap_i64]; omega
  have a2 : IntKind.i64.wrap (97 + A) = 97 + A := by rw [IntKind.wrap_i64]; omega
  have b2 : IntKind.i64.wrap (97 + B) = 97 + B := by rw [IntKind.wrap_i64]; omega
  have c2 : IntKind.i64.wrap (97 + C) = 97 + C := by rw [IntKind.wrap_i64]; omega
  have HB := Lib.hid hB
  have hk := HK.out
  clear hB bd
  go_enter Try.func64, Try.ntmps64
  go_wp2_with (fail)
  trace_state
  go_ret
  exact ⟨by rw [HM.out]; rfl, HB.out⟩
end Go.Proofs.Ytnobfmlfhaaghaa
