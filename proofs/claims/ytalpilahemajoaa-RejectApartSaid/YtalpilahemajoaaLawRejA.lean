/- The laws of the layer reject: live. -/
import Derived.Test.YtalpilahemajoaaMineB
import Derived.Test.YtalpilahemajoaaPasses
namespace Go.Proofs.Ytalpilahemajoaa
open Go.RowKit
set_option linter.unusedVariables false
set_option linter.unusedSimpArgs false

theorem mine_call (a : Option Addr) (len cap : Nat) (fs : List FlowS) (c : CallS) (hargs : c.args.oneCell' = true) (w : World) (hl : fs.length = len) (hm : len * 8 ≤ 140737488351232) (hf : FlowsAt w a fs) :
    Calls Try.prog 9 #[.slice a len cap, c.v] w fun e W' => (∃ v, e = .returned v ∧ W'.ownsRow (w.heap.size + 4) 3 1 v (mineN fs c).length (intV (mineN fs c))) ∧ Below w.heap.size w W' :=
  callsIn_wide.1 (minel_any 4 (by decide) a len cap fs c hargs w hl hm hf)
theorem own_slice {w : World} {base : Nat} {e : TypeId} {size : Nat} {v : Value} {n : Nat} {xs : List Value} (h : w.ownsRow base e size v n xs) : ∃ a cap, v = .slice a n cap := by
  rcases h.2 with ⟨h, h2⟩ | ⟨g, cap, cur, h, _⟩
  · exact ⟨none, 0, by rw [h, h2]⟩
  · exact ⟨_, cap, h⟩

def liveR : FlowS := ⟨⟨#[97]⟩, ⟨#[100, 101, 102, 97, 117, 108, 116]⟩, false, 5, 1, ⟨#[98]⟩, 0, 0, 0, false, 0, false⟩
def liveC : CallS := ⟨0, ⟨#[97]⟩, ⟨#[109, 97, 105, 110]⟩, ⟨#[]⟩, false, 1, .slice none 0 0⟩

set_option maxHeartbeats 3200000 in
set_option maxRecDepth 100000 in
theorem rejlive_any (w : World) : Calls Try.prog 8 #[] w fun e w' => e = .returned (.bool true) ∧ Below w.heap.size w w' := by
  have Hw := Lib.hid (fun (w : World) => where_any liveR liveC rfl w)
  rw [show (whereL liveR liveC).v = .agg #[.string ⟨#[98]⟩, .string ⟨#[]⟩, .string ⟨#[]⟩, .bool false] by kernel_rfl] at Hw
  have Hp4 := Lib.hid (fun (w : World) => passes_any ⟨#[97]⟩ ⟨#[100, 101, 102, 97, 117, 108, 116]⟩ false 5 1 ⟨#[98]⟩ 0 0 0 false 0 false 4 0 1 w (by decide) (by decide) (by decide) (by decide) (by decide) (by decide))
  have Hp5 := Lib.hid (fun (w : World) => passes_any ⟨#[97]⟩ ⟨#[100, 101, 102, 97, 117, 108, 116]⟩ false 5 1 ⟨#[98]⟩ 0 0 0 false 0 false 5 0 1 w (by decide) (by decide) (by decide) (by decide) (by decide) (by decide))
  rw [show passB false 5 4 0 1 = true by decide] at Hp4
  rw [show passB false 5 5 0 1 = false by decide] at Hp5
  have Hm := Lib.hid (fun (w : World) (b : Nat) (h : FlowsAt w (some ⟨b, 0, none⟩) [liveR]) => mine_call (some ⟨b, 0, none⟩) 1 1 [liveR] liveC rfl w rfl (by decide) h)
  rw [show mineN [liveR] liveC = [0] by kernel_rfl] at Hm
  unfold liveC liveR CallS.v FlowS.v FlowS.cells at Hw
  unfold liveC CallS.v at Hm
  unfold flowV at Hp4 Hp5
  dsimp only at Hw Hm
  go_enter Try.func8, Try.ntmps8
  go_wp2_with (fail)
  obtain ⟨W2, hW2⟩ : ∃ v, (w.alloc (.cells #[.string ⟨#[97]⟩, .string ⟨#[100, 101, 102, 97, 117, 108, 116]⟩, .bool false, .int .i64 5, .int .u8 1, .string ⟨#[98]⟩, .int .u8 0, .int .i64 0, .int .i64 0, .bool false, .int .i64 0, .bool false] 25)).alloc (.cells #[.int .i64 0, .string ⟨#[97]⟩, .string ⟨#[109, 97, 105, 110]⟩, .string ⟨#[]⟩, .bool false, .int .i64 1, .slice none 0 0] 34) = v := ⟨_, rfl⟩
  have B2 : Below w.heap.size w W2 := by rw [← hW2]; exact ((Below.refl w.heap.size w).alloc (Nat.le_refl _) _).alloc (by simp) _
  have R2 : W2.heap[w.heap.size]? = some (.cells #[.string ⟨#[97]⟩, .string ⟨#[100, 101, 102, 97, 117, 108, 116]⟩, .bool false, .int .i64 5, .int .u8 1, .string ⟨#[98]⟩, .int .u8 0, .int .i64 0, .int .i64 0, .bool false, .int .i64 0, .bool false] 25) := by rw [← hW2, Below.heap_alloc _ _ _ (by simp)]; exact World.alloc_heap_new w _
  have C2 : W2.heap[w.heap.size + 1]? = some (.cells #[.int .i64 0, .string ⟨#[97]⟩, .string ⟨#[109, 97, 105, 110]⟩, .string ⟨#[]⟩, .bool false, .int .i64 1, .slice none 0 0] 34) := by
    rw [← hW2]
    have := World.alloc_heap_new (w.alloc (.cells #[.string ⟨#[97]⟩, .string ⟨#[100, 101, 102, 97, 117, 108, 116]⟩, .bool false, .int .i64 5, .int .u8 1, .string ⟨#[98]⟩, .int .u8 0, .int .i64 0, .int .i64 0, .bool false, .int .i64 0, .bool false] 25)) (.cells #[.int .i64 0, .string ⟨#[97]⟩, .string ⟨#[109, 97, 105, 110]⟩, .string ⟨#[]⟩, .bool false, .int .i64 1, .slice none 0 0] 34)
    rwa [World.size_alloc] at this
  have z2 : W2.heap.size = w.heap.size + 2 := by rw [← hW2]; simp
  rw [hW2]
  clear hW2
  refine (Hw.out _).mono ?_
  rintro e w1 ⟨rfl, hb1⟩
  have R3 := (hb1.block w.heap.size (by omega)).trans R2
  have C3 := (hb1.block (w.heap.size + 1) (by omega)).trans C2
  have B3 := B2.trans (hb1.mono B2.size)
  have z3 := hb1.size
  have r0 : w1.cell? ⟨w.heap.size, 0, none⟩ = some (.string ⟨#[97]⟩) := by simp only [World.cell?, R3]; rfl
  have r1 : w1.cell? ⟨w.heap.size, 1, none⟩ = some (.string ⟨#[100, 101, 102, 97, 117, 108, 116]⟩) := by simp only [World.cell?, R3]; rfl
  have r2 : w1.cell? ⟨w.heap.size, 2, none⟩ = some (.bool false) := by simp only [World.cell?, R3]; rfl
  have r3 : w1.cell? ⟨w.heap.size, 3, none⟩ = some (.int .i64 5) := by simp only [World.cell?, R3]; rfl
  have r4 : w1.cell? ⟨w.heap.size, 4, none⟩ = some (.int .u8 1) := by simp only [World.cell?, R3]; rfl
  have r5 : w1.cell? ⟨w.heap.size, 5, none⟩ = some (.string ⟨#[98]⟩) := by simp only [World.cell?, R3]; rfl
  have r6 : w1.cell? ⟨w.heap.size, 6, none⟩ = some (.int .u8 0) := by simp only [World.cell?, R3]; rfl
  have r7 : w1.cell? ⟨w.heap.size, 7, none⟩ = some (.int .i64 0) := by simp only [World.cell?, R3]; rfl
  have r8 : w1.cell? ⟨w.heap.size, 8, none⟩ = some (.int .i64 0) := by simp only [World.cell?, R3]; rfl
  have r9 : w1.cell? ⟨w.heap.size, 9, none⟩ = some (.bool false) := by simp only [World.cell?, R3]; rfl
  have r10 : w1.cell? ⟨w.heap.size, 10, none⟩ = some (.int .i64 0) := by simp only [World.cell?, R3]; rfl
  have r11 : w1.cell? ⟨w.heap.size, 11, none⟩ = some (.bool false) := by simp only [World.cell?, R3]; rfl
  go_wp2_with (fail)
  refine (Hp4.out _).mono ?_
  rintro e w2 ⟨rfl, hb2⟩
  have R4 := (hb2.block w.heap.size (by omega)).trans R3
  have C4 := (hb2.block (w.heap.size + 1) (by omega)).trans C3
  have B4 := B3.trans (hb2.mono B3.size)
  have z4 := hb2.size
  clear r0 r1 r2 r3 r4 r5 r6 r7 r8 r9 r10 r11
  have r0 : w2.cell? ⟨w.heap.size, 0, none⟩ = some (.string ⟨#[97]⟩) := by simp only [World.cell?, R4]; rfl
  have r1 : w2.cell? ⟨w.heap.size, 1, none⟩ = some (.string ⟨#[100, 101, 102, 97, 117, 108, 116]⟩) := by simp only [World.cell?, R4]; rfl
  have r2 : w2.cell? ⟨w.heap.size, 2, none⟩ = some (.bool false) := by simp only [World.cell?, R4]; rfl
  have r3 : w2.cell? ⟨w.heap.size, 3, none⟩ = some (.int .i64 5) := by simp only [World.cell?, R4]; rfl
  have r4 : w2.cell? ⟨w.heap.size, 4, none⟩ = some (.int .u8 1) := by simp only [World.cell?, R4]; rfl
  have r5 : w2.cell? ⟨w.heap.size, 5, none⟩ = some (.string ⟨#[98]⟩) := by simp only [World.cell?, R4]; rfl
  have r6 : w2.cell? ⟨w.heap.size, 6, none⟩ = some (.int .u8 0) := by simp only [World.cell?, R4]; rfl
  have r7 : w2.cell? ⟨w.heap.size, 7, none⟩ = some (.int .i64 0) := by simp only [World.cell?, R4]; rfl
  have r8 : w2.cell? ⟨w.heap.size, 8, none⟩ = some (.int .i64 0) := by simp only [World.cell?, R4]; rfl
  have r9 : w2.cell? ⟨w.heap.size, 9, none⟩ = some (.bool false) := by simp only [World.cell?, R4]; rfl
  have r10 : w2.cell? ⟨w.heap.size, 10, none⟩ = some (.int .i64 0) := by simp only [World.cell?, R4]; rfl
  have r11 : w2.cell? ⟨w.heap.size, 11, none⟩ = some (.bool false) := by simp only [World.cell?, R4]; rfl
  go_wp2_with (fail)
  refine (Hp5.out _).mono ?_
  rintro e w3 ⟨rfl, hb3⟩
  have R5 := (hb3.block w.heap.size (by omega)).trans R4
  have C5 := (hb3.block (w.heap.size + 1) (by omega)).trans C4
  have B5 := B4.trans (hb3.mono B4.size)
  have z5 := hb3.size
  clear r0 r1 r2 r3 r4 r5 r6 r7 r8 r9 r10 r11
  have r0 : w3.cell? ⟨w.heap.size, 0, none⟩ = some (.string ⟨#[97]⟩) := by simp only [World.cell?, R5]; rfl
  have r1 : w3.cell? ⟨w.heap.size, 1, none⟩ = some (.string ⟨#[100, 101, 102, 97, 117, 108, 116]⟩) := by simp only [World.cell?, R5]; rfl
  have r2 : w3.cell? ⟨w.heap.size, 2, none⟩ = some (.bool false) := by simp only [World.cell?, R5]; rfl
  have r3 : w3.cell? ⟨w.heap.size, 3, none⟩ = some (.int .i64 5) := by simp only [World.cell?, R5]; rfl
  have r4 : w3.cell? ⟨w.heap.size, 4, none⟩ = some (.int .u8 1) := by simp only [World.cell?, R5]; rfl
  have r5 : w3.cell? ⟨w.heap.size, 5, none⟩ = some (.string ⟨#[98]⟩) := by simp only [World.cell?, R5]; rfl
  have r6 : w3.cell? ⟨w.heap.size, 6, none⟩ = some (.int .u8 0) := by simp only [World.cell?, R5]; rfl
  have r7 : w3.cell? ⟨w.heap.size, 7, none⟩ = some (.int .i64 0) := by simp only [World.cell?, R5]; rfl
  have r8 : w3.cell? ⟨w.heap.size, 8, none⟩ = some (.int .i64 0) := by simp only [World.cell?, R5]; rfl
  have r9 : w3.cell? ⟨w.heap.size, 9, none⟩ = some (.bool false) := by simp only [World.cell?, R5]; rfl
  have r10 : w3.cell? ⟨w.heap.size, 10, none⟩ = some (.int .i64 0) := by simp only [World.cell?, R5]; rfl
  have r11 : w3.cell? ⟨w.heap.size, 11, none⟩ = some (.bool false) := by simp only [World.cell?, R5]; rfl
  have c0 : w3.cell? ⟨w.heap.size + 1, 0, none⟩ = some (.int .i64 0) := by simp only [World.cell?, C5]; rfl
  have c1 : w3.cell? ⟨w.heap.size + 1, 1, none⟩ = some (.string ⟨#[97]⟩) := by simp only [World.cell?, C5]; rfl
  have c2 : w3.cell? ⟨w.heap.size + 1, 2, none⟩ = some (.string ⟨#[109, 97, 105, 110]⟩) := by simp only [World.cell?, C5]; rfl
  have c3 : w3.cell? ⟨w.heap.size + 1, 3, none⟩ = some (.string ⟨#[]⟩) := by simp only [World.cell?, C5]; rfl
  have c4 : w3.cell? ⟨w.heap.size + 1, 4, none⟩ = some (.bool false) := by simp only [World.cell?, C5]; rfl
  have c5 : w3.cell? ⟨w.heap.size + 1, 5, none⟩ = some (.int .i64 1) := by simp only [World.cell?, C5]; rfl
  have c6 : w3.cell? ⟨w.heap.size + 1, 6, none⟩ = some (.slice none 0 0) := by simp only [World.cell?, C5]; rfl
  have l1 : w.heap.size < w3.heap.size := by omega
  have l2 : w.heap.size + 1 < w3.heap.size := by omega
  go_wp2_with (fail)
  have B6 := B5.alloc B5.size (.cells #[.string ⟨#[97]⟩, .string ⟨#[100, 101, 102, 97, 117, 108, 116]⟩, .bool false, .int .i64 5, .int .u8 1, .string ⟨#[98]⟩, .int .u8 0, .int .i64 0, .int .i64 0, .bool false, .int .i64 0, .bool false] 25)
  refine (Hm.out _ w3.heap.size (Or.inr ⟨w3.heap.size, 0, rfl, by simp, fun j f hj => ?_⟩)).mono ?_
  · have hj0 : j = 0 := by
      have := (List.getElem?_eq_some_iff.1 hj).1
      simp at this; omega
    subst hj0
    simp at hj
    subst hj
    unfold liveR
    exact ⟨by simp [go_sem], by simp [go_sem], by simp [go_sem], by simp [go_sem], by simp [go_sem], by simp [go_sem], by simp [go_sem], by simp [go_sem], by simp [go_sem], by simp [go_sem], by simp [go_sem], by simp [go_sem]⟩
  · rintro e w4 ⟨⟨v, rfl, hown⟩, hb4⟩
    obtain ⟨va, vc, rfl⟩ := own_slice hown
    have B7 := B6.trans (hb4.mono B6.size)
    clear hown hb4
    dsimp only [List.length_cons, List.length_nil]
    go_wp2_with (fail)
    go_ret
    exact ⟨rfl, B7⟩
end Go.Proofs.Ytalpilahemajoaa
