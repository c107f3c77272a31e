/- rules: live. -/
import Derived.Test.YtgkdpkpiejjfmaaRuH
namespace Go.Proofs.Ytgkdpkpiejjfmaa
open Go.RowKit
set_option linter.unusedVariables false
set_option linter.unusedSimpArgs false

def goodC : Obj := .cells #[.string ⟨#[97]⟩, .string ⟨#[100, 101, 102, 97, 117, 108, 116]⟩, .bool false, .int .i64 5, .int .u8 0, .string ⟨#[]⟩, .int .u8 0, .int .i64 0, .int .i64 0, .bool false, .int .i64 0, .bool false] 41
def badC : Obj := .cells #[.string ⟨#[97]⟩, .string ⟨#[100, 101, 102, 97, 117, 108, 116]⟩, .bool false, .int .i64 5, .int .u8 0, .string ⟨#[]⟩, .int .u8 1, .int .i64 0, .int .i64 0, .bool false, .int .i64 0, .bool false] 41
def twoC : Obj := .cells #[.string ⟨#[97]⟩, .string ⟨#[100, 101, 102, 97, 117, 108, 116]⟩, .bool false, .int .i64 5, .int .u8 0, .string ⟨#[]⟩, .int .u8 0, .int .i64 0, .int .i64 0, .bool false, .int .i64 0, .bool false, .string ⟨#[97]⟩, .string ⟨#[100, 101, 102, 97, 117, 108, 116]⟩, .bool false, .int .i64 5, .int .u8 0, .string ⟨#[]⟩, .int .u8 1, .int .i64 0, .int .i64 0, .bool false, .int .i64 0, .bool false] 41

theorem name_ab : nameB ⟨#[97, 32, 98]⟩ = false := by decide +kernel

set_option maxHeartbeats 3200000 in
theorem live_any (w : World) : Calls Try.prog 6 #[] w fun e w' => e = .returned (.bool true) ∧ Below w.heap.size w w' := by
  have hb : Below w.heap.size w (((w.alloc goodC).alloc badC).alloc twoC) := (((Below.refl _ _).alloc (Nat.le_refl _) _).alloc (by simp) _).alloc (by simp; omega) _
  have hg : (((w.alloc goodC).alloc badC).alloc twoC).heap[w.heap.size + 1 + 1]? = some twoC := by simp only [get_alloc, World.size_alloc, if_true]
  have h0 : (((w.alloc goodC).alloc badC).alloc twoC).heap[w.heap.size]? = some goodC := by
    simp only [get_alloc, World.size_alloc, if_true]
    rw [if_neg (by omega), if_neg (by omega)]
  have h1 : (((w.alloc goodC).alloc badC).alloc twoC).heap[w.heap.size + 1]? = some badC := by
    simp only [get_alloc, World.size_alloc, if_true]
    rw [if_neg (by omega)]
  have HW := Lib.hid (where_live (((w.alloc goodC).alloc badC).alloc twoC) (w.heap.size + 1 + 1) hg)
  have HG := Lib.hid (fun wx => flow_any goodF good_ok.1 good_ok.2.1 good_ok.2.2 wx)
  have HBD := Lib.hid (fun wx => flow_any badF bad_ok.1 bad_ok.2.1 bad_ok.2.2 wx)
  have HN := Lib.hid (fun wx => isname_any ⟨#[97, 32, 98]⟩ (by unfold maxLen; decide) wx)
  have HB := Lib.hid hb
  have hsz : (((w.alloc goodC).alloc badC).alloc twoC).heap.size = w.heap.size + 3 := by simp
  have HFB : Hid (∀ w2, Below (((w.alloc goodC).alloc badC).alloc twoC).heap.size (((w.alloc goodC).alloc badC).alloc twoC) w2 → FlowBox w2 w.heap.size goodF ∧ FlowBox w2 (w.heap.size + 1) badF) := fun w2 h => by
    have g0 := (h.block w.heap.size (by omega)).trans h0
    have g1 := (h.block (w.heap.size + 1) (by omega)).trans h1
    refine ⟨?_, ?_⟩
    · constructor <;> (simp only [World.cell?, g0]; rfl)
    · constructor <;> (simp only [World.cell?, g1]; rfl)
  clear hb hg h0 h1 hsz
  go_enter Try.func6, Try.ntmps6
  go_wp2_with (fail)
  refine HW.out.mono ?_
  rintro e w2 ⟨rfl, hb2⟩
  obtain ⟨hx, hy⟩ := HFB.out w2 hb2
  have HB2 := Lib.hid (HB.out.trans (hb2.mono HB.out.size))
  obtain ⟨d0, d1, d2, d3, d4, d5, d6, d7, d8, d9, d10, d11⟩ := hx
  have HY := Lib.hid hy
  clear hb2 hy HFB
  dsimp only [goodF] at d0 d1 d2 d3 d4 d5 d6 d7 d8 d9 d10 d11
  go_wp2_with (fail)
  refine (HG.out _).mono ?_
  rintro e w3 ⟨rfl, hb3⟩
  rw [good_e]
  obtain ⟨d0, d1, d2, d3, d4, d5, d6, d7, d8, d9, d10, d11⟩ := HY.out.below hb3
  have HB3 := Lib.hid (HB2.out.trans (hb3.mono HB2.out.size))
  clear hb3
  dsimp only [badF] at d0 d1 d2 d3 d4 d5 d6 d7 d8 d9 d10 d11
  go_wp2_with (fail)
  refine (HBD.out _).mono ?_
  rintro e w4 ⟨rfl, hb4⟩
  rw [bad_e]
  have HB4 := Lib.hid (HB3.out.trans (hb4.mono HB3.out.size))
  clear hb4
  go_wp2_with (fail)
  refine (HN.out _).mono ?_
  rintro e w5 ⟨rfl, rfl⟩
  rw [name_ab]
  go_wp2_with (fail)
  go_ret
  exact ⟨rfl, HB4.out⟩
end Go.Proofs.Ytgkdpkpiejjfmaa
