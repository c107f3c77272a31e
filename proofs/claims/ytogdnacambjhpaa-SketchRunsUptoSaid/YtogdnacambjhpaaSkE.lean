/- sketch: a new one. -/
import Derived.Test.YtogdnacambjhpaaSkD
namespace Go.Proofs.Ytogdnacambjhpaa
open Go.RowKit
set_option linter.unusedVariables false
set_option linter.unusedSimpArgs false

def inB (n most : Int) : Bool := decide (1 ≤ n) && decide (n ≤ most)
theorem inB_iff {n most : Int} : inB n most = true ↔ 1 ≤ n ∧ n ≤ most := by simp [inB]
theorem inB_no {n most : Int} (h : inB n most = false) : ¬ (1 ≤ n ∧ n ≤ most) := by
  intro h'; rw [inB_iff.2 h'] at h; cases h
set_option maxHeartbeats 800000 in
theorem skin_any (n most : Int) (w : World) : Calls Try.prog 35 #[.int .i64 n, .int .i64 most] w fun e w' => e = .returned (.bool (inB n most)) ∧ w' = w := by
  unfold inB
  by_cases h : 1 ≤ n
  · go_enter Try.func35, Try.ntmps35
    go_wp2_with (fail)
    go_ret
    exact ⟨by simp [h], rfl⟩
  · rw [decide_eq_false h, Bool.false_and]
    go_enter Try.func35, Try.ntmps35
    go_wp2_with (fail)
    go_ret
    exact ⟨rfl, rfl⟩

def shapeB (h : ShapeS) : Bool := inB h.W 1099511627776 && (inB h.B 60 && (inB h.R 8 && inB h.C 4096))
def newE (h : ShapeS) : Int := if shapeB h then (if h.W % h.B = 0 then 0 else 6) else 2
theorem newE_ok {h : ShapeS} (hE : newE h = 0) (s0 : 0 ≤ h.seed) (s1 : h.seed ≤ 18446744073709551615) : ShapeOk h (h.W / h.B) := by
  unfold newE at hE
  split at hE
  · rename_i hs
    split at hE
    · rename_i hm
      simp only [shapeB, Bool.and_eq_true, inB_iff] at hs
      obtain ⟨⟨a1, a2⟩, ⟨a3, a4⟩, ⟨a5, a6⟩, a7, a8⟩ := hs
      have e := Int.mul_ediv_add_emod h.W h.B
      rw [hm, Int.add_zero] at e
      refine ⟨a1, a2, a3, a4, a5, a6, a7, a8, ?_, ?_, s0, s1⟩
      · rw [Int.mul_comm]; exact e.symm
      · have h0 : 0 ≤ h.W / h.B := Int.ediv_nonneg (by omega) (by omega)
        have h1 : h.W / h.B ≠ 0 := fun e1 => by rw [e1, Int.mul_zero] at e; omega
        omega
    · cases hE
  · cases hE

def skObj (h : ShapeS) : Obj := .cells #[.int .i64 h.W, .int .i64 h.B, .int .i64 h.R, .int .i64 h.C, .int .u64 h.seed, .slice none 0 0, .int .i64 0] 87
theorem skAt_made (w : World) (h : ShapeS) : SkAt (w.alloc (skObj h)) w.heap.size h 0 (.slice none 0 0) [] :=
  ⟨new_blockS w _, ⟨by simp [maxLen, flatB], Or.inl ⟨rfl, rfl⟩⟩, by simp, by simp [Value.ownBlock], by simp, by simp, by omega, by omega⟩

/-- What New gives. -/
def NewPost (h : ShapeS) (w : World) (e : Ending) (w' : World) : Prop := (newE h ≠ 0 → e = .returned (.tuple #[.pointer none, .int .i64 (newE h)]) ∧ w' = w) ∧ (newE h = 0 → e = .returned (.tuple #[.pointer (some ⟨w.heap.size, 0, none⟩), .int .i64 0]) ∧ w' = w.alloc (skObj h))
theorem newPost_no {h : ShapeS} {w : World} {e : Ending} {x : Int} (hE : newE h = x) (hx : x ≠ 0) (he : e = .returned (.tuple #[.pointer none, .int .i64 x])) : NewPost h w e w :=
  ⟨fun _ => ⟨by rw [hE]; exact he, rfl⟩, fun h0 => absurd (hE.symm.trans h0) hx⟩
theorem newPost_yes {h : ShapeS} {w w' : World} {e : Ending} (hE : newE h = 0) (he : e = .returned (.tuple #[.pointer (some ⟨w.heap.size, 0, none⟩), .int .i64 0])) (hw : w' = w.alloc (skObj h)) : NewPost h w e w' :=
  ⟨fun h0 => absurd hE h0, fun _ => ⟨he, hw⟩⟩

set_option maxHeartbeats 3200000 in
theorem sknew_any (h : ShapeS) (w : World) : Calls Try.prog 10 #[.int .i64 h.W, .int .i64 h.B, .int .i64 h.R, .int .i64 h.C, .int .u64 h.seed] w (NewPost h w) := by
  have H1 := Lib.hid (fun wx => skin_any h.W 1099511627776 wx)
  have H2 := Lib.hid (fun wx => skin_any h.B 60 wx)
  have H3 := Lib.hid (fun wx => skin_any h.R 8 wx)
  have H4 := Lib.hid (fun wx => skin_any h.C 4096 wx)
  have HW := Lib.hid (inB_iff (n := h.W) (most := 1099511627776))
  have HB := Lib.hid (inB_iff (n := h.B) (most := 60))
  have HE := Lib.hid (show newE h = if (inB h.W 1099511627776 && (inB h.B 60 && (inB h.R 8 && inB h.C 4096))) then (if h.W % h.B = 0 then 0 else 6) else 2 from rfl)
  obtain ⟨W, B, R, C, seed⟩ := h
  dsimp only at *
  generalize inB W 1099511627776 = b1 at *
  generalize inB B 60 = b2 at *
  generalize inB R 8 = b3 at *
  generalize inB C 4096 = b4 at *
  go_enter Try.func10, Try.ntmps10
  go_wp2_with (fail)
  refine (H1.out _).mono ?_
  rintro e wq ⟨rfl, hq⟩
  subst hq
  cases b1
  case false =>
    go_wp2_with (fail)
    go_ret2
    exact newPost_no (x := 2) HE.out (by decide) rfl
  go_wp2_with (fail)
  refine (H2.out _).mono ?_
  rintro e wq ⟨rfl, hq⟩
  subst hq
  cases b2
  case false =>
    go_wp2_with (fail)
    go_ret2
    exact newPost_no (x := 2) HE.out (by decide) rfl
  go_wp2_with (fail)
  refine (H3.out _).mono ?_
  rintro e wq ⟨rfl, hq⟩
  subst hq
  cases b3
  case false =>
    go_wp2_with (fail)
    go_ret2
    exact newPost_no (x := 2) HE.out (by decide) rfl
  go_wp2_with (fail)
  refine (H4.out _).mono ?_
  rintro e wq ⟨rfl, hq⟩
  subst hq
  cases b4
  case false =>
    go_wp2_with (fail)
    go_ret2
    exact newPost_no (x := 2) HE.out (by decide) rfl
  obtain ⟨w1, w2⟩ := HW.out.1 trivial
  obtain ⟨b1, b2⟩ := HB.out.1 trivial
  have hne : (B == 0) = false := by rw [beq_eq_false_iff_ne]; omega
  by_cases hm : W % B = 0
  · have HE2 : Hid (newE ⟨W, B, R, C, seed⟩ = 0) := by
      have := HE.out
      rw [if_pos (by rfl), if_pos hm] at this
      exact this
    clear HE
    go_wp2_with (fail)
    go_ret2
    exact newPost_yes HE2.out rfl rfl
  · have hm2 : (W % B != 0) = true := by simpa using hm
    have HE2 : Hid (newE ⟨W, B, R, C, seed⟩ = 6) := by
      have := HE.out
      rw [if_pos (by rfl), if_neg hm] at this
      exact this
    clear HE
    go_wp2_with (fail)
    go_ret2
    exact newPost_no (x := 6) HE2.out (by decide) rfl
end Go.Proofs.Ytogdnacambjhpaa
