/- lru: Put, whole; live. -/
import Derived.Test.YtidcbjgiohkidaaLruH
namespace Go.Proofs.Ytidcbjgiohkidaa
open Go.RowKit
set_option linter.unusedVariables false
set_option linter.unusedSimpArgs false

theorem lput_any {w : World} {m mp most : Nat} {L : List LNode} (h : Lru w m mp most L) {s : ByteArray} (hs : s.size ≤ maxLen) (v : Int) :
    Calls Try.prog 7 #[.pointer (some ⟨m, 0, none⟩), .string s, .int .i64 v] w fun e w' => ∃ L', e = .returned (.tuple #[.string (goneA most (pr L) s), .bool (wentA most (pr L) s), .int .i64 0]) ∧ Lru w' m mp most L' ∧ pr L' = putA most (pr L) s v ∧ Off (Lown m mp L) w w' ∧ (∀ b, Lown m mp L' b → Lown m mp L b ∨ w.heap.size ≤ b) := by
  cases hlk : look L s with
  | some x =>
    obtain ⟨n1, _⟩ := hasA_yes hlk
    obtain ⟨hx, rfl⟩ := look_in hlk
    obtain ⟨A, C, rfl⟩ := split_at hx
    refine (lput_old h v).mono ?_
    rintro e w' ⟨rfl, h1, h2⟩
    refine ⟨A ++ C ++ [⟨x.b, x.k, v⟩], ?_, h1, ?_, h2, fun b hb => Or.inl (moved_own (x := x) (y := ⟨x.b, x.k, v⟩) rfl hb)⟩
    · simp [goneA, wentA, n1]
    · rw [putA, n1, if_pos rfl, ← del_pr h.body.keys]
      simp [pr]
  | none =>
    obtain ⟨n1, _⟩ := hasA_no hlk
    by_cases hf : L.length = most
    · cases L with
      | nil => have := h.big; simp at hf; omega
      | cons x C =>
        refine (lput_full h hs v hlk hf).mono ?_
        rintro e w' ⟨rfl, L', h1, h2, h3, h4⟩
        refine ⟨L', ?_, h1, ?_, h3, h4⟩
        · have hf' : (pr (x :: C)).length = most := by rw [pr_len]; exact hf
          rw [goneA, wentA, n1, hf']
          simp [pr]
        · have hf' : (pr (x :: C)).length = most := by rw [pr_len]; exact hf
          rw [putA, n1, hf', h2]
          simp [pr]
    · refine (lput_new h hs v hlk hf).mono ?_
      rintro e w' ⟨rfl, h1, h2⟩
      have hf' : (pr L).length ≠ most := by rw [pr_len]; exact hf
      refine ⟨_, ?_, h1, ?_, h2, fun b hb => ?_⟩
      · simp [goneA, wentA, n1, hf']
      · rw [putA, n1, if_neg (by simp), if_neg hf']
        simp [pr]
      · rcases hb with h | h | h
        · exact Or.inl (Or.inl h)
        · exact Or.inl (Or.inr (Or.inl h))
        · simp only [List.map_append, List.map_cons, List.map_nil, List.mem_append, List.mem_singleton] at h
          rcases h with h | h
          · exact Or.inl (Or.inr (Or.inr h))
          · right; omega

theorem below_off {B : Nat} {w a b : World} {S : Nat → Prop} (h : Below B w a) (hB : B ≤ a.heap.size) (k : Off S a b) (hS : ∀ i, S i → B ≤ i) : Below B w b :=
  h.trans (k.below hB (fun i hi hs => by have := hS i hs; omega))
theorem own_empty {m mp base : Nat} (h1 : base ≤ m) (h2 : base ≤ mp) : ∀ b, Lown m mp [] b → base ≤ b := by
  intro b hb
  rcases hb with h | h | h
  · omega
  · omega
  · simp at h
theorem own_next {m mp base : Nat} {L L' : List LNode} {w : World} (h : ∀ b, Lown m mp L b → base ≤ b) (hw : base ≤ w.heap.size) (hs : ∀ b, Lown m mp L' b → Lown m mp L b ∨ w.heap.size ≤ b) : ∀ b, Lown m mp L' b → base ≤ b := by
  intro b hb
  rcases hs b hb with h1 | h1
  · exact h b h1
  · omega

set_option maxHeartbeats 6400000 in
set_option maxRecDepth 100000 in
theorem llive_any (w : World) : Calls Try.prog 10 #[] w fun e w' => e = .returned (.bool true) ∧ Below w.heap.size w w' := by
  go_enter Try.func10, Try.ntmps10
  go_wp2_with (fail)
  refine (lnew_any w 2 (by omega)).mono ?_
  rintro e w1 ⟨rfl, h1, b1, z1⟩
  have H1 := Lib.hid (And.intro h1 (And.intro b1 z1))
  clear h1 b1 z1
  generalize hB : w.heap.size + 1 = B at H1
  generalize hM : w.heap.size = M at H1
  go_wp2_with (fail)
  refine (lput_any H1.out.1 (s := ⟨#[97]⟩) (by decide) 1).mono ?_
  rintro e w2 ⟨L2, rfl, h2, p2, o2, s2⟩
  have H2 := Lib.hid (And.intro h2 (And.intro p2 (And.intro o2 s2)))
  clear h2 p2 o2 s2
  go_wp2_with (fail)
  refine (lput_any H2.out.1 (s := ⟨#[98]⟩) (by decide) 2).mono ?_
  rintro e w3 ⟨L3, rfl, h3, p3, o3, s3⟩
  have H3 := Lib.hid (And.intro h3 (And.intro p3 (And.intro o3 s3)))
  clear h3 p3 o3 s3
  go_wp2_with (fail)
  refine (lget_any H3.out.1 (s := ⟨#[97]⟩) (by decide)).mono ?_
  rintro e w4 ⟨L4, rfl, h4, p4, o4, s4⟩
  have hq3 : pr L3 = [(⟨#[97]⟩, 1), (⟨#[98]⟩, 2)] := by rw [H3.out.2.1, H2.out.2.1]; rfl
  rw [hq3] at p4 ⊢
  have H4 := Lib.hid (And.intro h4 (And.intro p4 (And.intro o4 s4)))
  clear h4 p4 o4 s4
  go_wp2_with (fail)
  have hq4 : pr L4 = [(⟨#[98]⟩, 2), (⟨#[97]⟩, 1)] := by rw [H4.out.2.1]; rfl
  refine (lput_any H4.out.1 (s := ⟨#[99]⟩) (by decide) 3).mono ?_
  rintro e w5 ⟨L5, rfl, h5, p5, o5, s5⟩
  rw [hq4] at p5 ⊢
  rw [show goneA (Int.toNat 2) [(⟨#[98]⟩, 2), (⟨#[97]⟩, 1)] ⟨#[99]⟩ = ⟨#[98]⟩ from rfl, show wentA (Int.toNat 2) [(⟨#[98]⟩, 2), (⟨#[97]⟩, 1)] ⟨#[99]⟩ = true from rfl]
  rw [show valA [(⟨#[97]⟩, 1), (⟨#[98]⟩, 2)] ⟨#[97]⟩ = 1 from rfl, show hasA [(⟨#[97]⟩, 1), (⟨#[98]⟩, 2)] ⟨#[97]⟩ = true from rfl]
  have hlen : L5.length = 2 := by rw [← pr_len, p5]; rfl
  have H5 := Lib.hid (And.intro h5 (And.intro p5 (And.intro o5 s5)))
  have HN := Lib.hid hlen
  clear h5 p5 o5 s5 hlen
  go_wp2_with (fail)
  refine (llen_any H5.out.1.body).mono ?_
  rintro e w6 ⟨rfl, rfl⟩
  rw [HN.out]
  go_wp2_with (fail)
  go_ret
  have q1 := own_empty (m := B) (mp := M) (base := M) (by omega) (by omega)
  have z1 := H1.out.2.2
  have z2 := H2.out.2.2.1.size
  have z3 := H3.out.2.2.1.size
  have z4 := H4.out.2.2.1.size
  have q2 := own_next q1 (by omega) H2.out.2.2.2
  have q3 := own_next q2 (by omega) H3.out.2.2.2
  have q4 : ∀ b, Lown B M L4 b → M ≤ b := fun b hb => q3 b (H4.out.2.2.2 b hb)
  refine ⟨rfl, ?_⟩
  rw [hM]
  exact below_off (below_off (below_off (below_off H1.out.2.1 (by omega) H2.out.2.2.1 q1) (by omega) H3.out.2.2.1 q2) (by omega) H4.out.2.2.1 q3) (by omega) H5.out.2.2.1 q4
end Go.Proofs.Ytidcbjgiohkidaa
