/- The layer warmup: how a warm-up lies in memory; may, look, fill, rate. -/
import Derived.Test.YtoaggnponndlbaaWarmMath
namespace Go.Proofs.Ytoaggnponndlbaa
open Go.RowKit
set_option linter.unusedVariables false
set_option linter.unusedSimpArgs false

/-- A warm-up in memory. -/
structure WarmAt (w : World) (b : Nat) (s : WarmS) : Prop where
  c0 : w.cell? ⟨b, 0, none⟩ = some (.int .i64 s.count)
  c1 : w.cell? ⟨b, 1, none⟩ = some (.int .i64 s.seconds)
  c2 : w.cell? ⟨b, 2, none⟩ = some (.int .i64 (warnOf s))
  c3 : w.cell? ⟨b, 3, none⟩ = some (.int .i64 (allOf s))
  c4 : w.cell? ⟨b, 4, none⟩ = some (.int .i64 s.tokens)
  c5 : w.cell? ⟨b, 5, none⟩ = some (.int .i64 s.filled)
  c6 : w.cell? ⟨b, 6, none⟩ = some (.int .i64 s.last)
  fr : ∀ o, w.frozen? ⟨b, o, none⟩ = false
  lt : b < w.heap.size

theorem WarmAt.of_block {w w' : World} {b : Nat} {s : WarmS} (h : WarmAt w b s) (hb : w'.heap[b]? = w.heap[b]?) (hz : w.heap.size ≤ w'.heap.size) : WarmAt w' b s :=
  ⟨(World.cell?_of_block (a := ⟨b, 0, none⟩) hb).trans h.c0, (World.cell?_of_block (a := ⟨b, 1, none⟩) hb).trans h.c1, (World.cell?_of_block (a := ⟨b, 2, none⟩) hb).trans h.c2, (World.cell?_of_block (a := ⟨b, 3, none⟩) hb).trans h.c3, (World.cell?_of_block (a := ⟨b, 4, none⟩) hb).trans h.c4, (World.cell?_of_block (a := ⟨b, 5, none⟩) hb).trans h.c5, (World.cell?_of_block (a := ⟨b, 6, none⟩) hb).trans h.c6, fun o => (World.frozen?_of_block (a := ⟨b, o, none⟩) hb).trans (h.fr o), Nat.lt_of_lt_of_le h.lt hz⟩
theorem WarmAt.below {w w' : World} {b : Nat} {s : WarmS} (h : WarmAt w b s) (hb : Below w.heap.size w w') : WarmAt w' b s := h.of_block (hb.block b h.lt) hb.size
theorem WarmAt.grown {w w' : World} {b : Nat} {s : WarmS} {r : Option Nat} (h : WarmAt w b s) (hg : w.grownBy w' r) (hne : some b ≠ r) : WarmAt w' b s := h.of_block (hg.block b h.lt hne) hg.size

theorem grown_below {w w' : World} (h : Below w.heap.size w w') (r : Option Nat) : w.grownBy w' r := ⟨h.os, h.tape, h.output, h.size, fun k hk _ => h.block k hk⟩
theorem grown_trans {a b c : World} {r : Option Nat} (h : a.grownBy b r) (k : b.grownBy c r) : a.grownBy c r :=
  ⟨k.os.trans h.os, k.tape.trans h.tape, k.output.trans h.output, Nat.le_trans h.size k.size, fun i hi hne => (k.block i (Nat.lt_of_lt_of_le hi h.size) hne).trans (h.block i hi hne)⟩
theorem grown_set {a b : World} {g : Nat} (h : a.grownBy b (some g)) (o : Nat) (u : Value) : a.grownBy (b.setCell ⟨g, o, none⟩ u) (some g) :=
  ⟨h.os, h.tape, h.output, by simpa [World.setCell] using h.size, fun i hi hne => (Below.heap_setCell b ⟨g, o, none⟩ u i (fun e => hne (by rw [e]))).trans (h.block i hi hne)⟩
theorem below_of_own {w w1 w2 : World} {b : Nat} (h : Below w.heap.size w w1) (hb : w.heap.size ≤ b) (hg : w1.grownBy w2 (some b)) : Below w.heap.size w w2 :=
  h.grown hg h.size (fun k e => by cases e; exact hb)
theorem wf64 {n : Int} (h : (Lit.int .i64 n).wf = true) : -9223372036854775808 ≤ n ∧ n ≤ 9223372036854775807 := by
  simp only [Lit.wf, IntKind.min, IntKind.max, IntKind.signed, IntKind.bits, Bool.and_eq_true, decide_eq_true_eq, if_true] at h
  omega

theorem may_any (n : Int) (w : World) :
    Calls Try.prog 21 #[.int .i64 n] w fun e w' => e = .returned (.bool (mayB n)) ∧ w = w' := by
  by_cases h1 : n < 0
  · have e : mayB n = false := decide_eq_false (by omega)
    have h2 : ¬ 0 ≤ n := by omega
    rw [e]
    go_enter Try.func21, Try.ntmps21
    go_wp2_with (fail)
    go_ret
    exact ⟨rfl, rfl⟩
  · have h2 : 0 ≤ n := by omega
    by_cases h3 : n ≤ 4611686018427387904
    · have e : mayB n = true := decide_eq_true (by omega)
      rw [e]
      go_enter Try.func21, Try.ntmps21
      go_wp2_with (fail)
      go_ret
      exact ⟨rfl, rfl⟩
    · have e : mayB n = false := decide_eq_false (by omega)
      rw [e]
      go_enter Try.func21, Try.ntmps21
      go_wp2_with (fail)
      go_ret
      exact ⟨rfl, rfl⟩

theorem wlook_nil (x : Int) (v : Value) (w : World) :
    Calls Try.prog 18 #[.pointer none, .int .i64 x, v] w fun e w' => e = .returned (.int .i64 1) ∧ w = w' := by
  go_enter Try.func18, Try.ntmps18
  go_wp2_with (fail)
  go_ret
  exact ⟨rfl, rfl⟩

theorem all_take_step {ns : List Int} {k : Nat} (h : (ns.take k).all mayB = true) (hk : k < ns.length) (hm : mayB (ns.getD k 0) = true) : (ns.take (k + 1)).all mayB = true := by
  rw [take_snoc_getD ns k hk, List.all_append, h]
  simpa using hm
theorem all_no {ns : List Int} {k : Nat} (hk : k < ns.length) (hm : mayB (ns.getD k 0) = false) : ns.all mayB = false := by
  rw [List.all_eq_false]
  refine ⟨ns.getD k 0, ?_, by rw [hm]; decide⟩
  rw [List.getD_eq_getElem?_getD, List.getElem?_eq_getElem hk]
  exact List.getElem_mem hk

set_option maxHeartbeats 800000 in
theorem wlook_any (b : Nat) (s : WarmS) (x : Int) (bl off len cap : Nat) (ns : List Int) (w : World) (h : WarmAt w b s) (hl : ns.length = len) (hm : len ≤ 140737488351232) (hc : ∀ j, j < ns.length → w.cell? ⟨bl, off + j, none⟩ = some (.int .i64 (ns.getD j 0))) :
    Calls Try.prog 18 #[.pointer (some ⟨b, 0, none⟩), .int .i64 x, .slice (some ⟨bl, off, none⟩) len cap] w fun e w' => e = .returned (.int .i64 (lookE s x ns)) ∧ w = w' := by
  have c6 := h.c6
  clear h
  have Hc := Lib.hid hc
  have Hl := Lib.hid hl
  clear hc hl
  by_cases z0 : x < 0
  · have e1 : lookE s x ns = 2 := by unfold lookE; rw [if_pos (Or.inl z0)]
    rw [e1]; clear e1
    go_enter Try.func18, Try.ntmps18
    go_wp2_with (fail)
    go_ret
    exact ⟨rfl, rfl⟩
  by_cases z1 : 1152921504606846976 < x
  · have e1 : lookE s x ns = 2 := by unfold lookE; rw [if_pos (Or.inr z1)]
    rw [e1]; clear e1
    go_enter Try.func18, Try.ntmps18
    go_wp2_with (fail)
    go_ret
    exact ⟨rfl, rfl⟩
  have E2 := Lib.hid (fun (hh : ns.all mayB = false) => (show lookE s x ns = 2 by unfold lookE; rw [if_neg (by omega), hh]; rfl))
  have E7 := Lib.hid (fun (hh : ns.all mayB = true) (h7 : x < s.last) => (show lookE s x ns = 7 by unfold lookE; rw [if_neg (by omega), hh, if_pos rfl, if_pos h7]))
  have E0 := Lib.hid (fun (hh : ns.all mayB = true) (h7 : ¬ x < s.last) => (show lookE s x ns = 0 by unfold lookE; rw [if_neg (by omega), hh, if_pos rfl, if_neg h7]))
  generalize lookE s x ns = LE at *
  obtain ⟨s0, s1, s2, s3, SL⟩ := s
  dsimp only at c6 E7 E0
  go_enter Try.func18, Try.ntmps18
  go_wp2_with (fail)

  go_loop [19] (fun i => ∃ k : Nat, k ≤ len ∧ i = .int .i64 k ∧ Hid ((ns.take k).all mayB = true)) (fun i => len - (intOf i).toNat)
  case atStart => exact ⟨0, Nat.zero_le _, rfl, rfl⟩
  case round =>
    obtain ⟨k, hk, rfl, ha⟩ := hrel
    by_cases hlt : k < len
    · have hcell := Hc.out k (by rw [Hl.out]; exact hlt)
      have Hst := Lib.hid (fun hx => all_take_step (k := k) ha.out (by rw [Hl.out]; exact hlt) hx)
      have Hno := Lib.hid (fun hx => E2.out (all_no (k := k) (by rw [Hl.out]; exact hlt) hx))
      have Hmay := fun w => may_any (ns.getD k 0) w
      generalize ns.getD k 0 = X at *
      cases hx : mayB X with
      | true =>
        rw [hx] at Hmay
        have Hm2 := Lib.hid Hmay
        have Hx := Lib.hid hx
        clear Hmay hx
        go_wp2_with (fail)
        refine (Hm2.out _).mono ?_
        rintro e w' ⟨rfl, rfl⟩
        go_wp2_with (fail)
        go_round
        case rel => exact ⟨k + 1, by omega, by go_num, Hst.out Hx.out⟩
        case measure => simp [intOf]; omega
      | false =>
        rw [hx] at Hmay
        have Hm2 := Lib.hid Hmay
        have Hx := Lib.hid (Hno.out hx)
        clear Hmay hx
        go_wp2_with (fail)
        refine (Hm2.out _).mono ?_
        rintro e w' ⟨rfl, rfl⟩
        go_wp2_with (fail)
        go_ret
        exact ⟨ret_int Hx.out.symm, rfl⟩
    · have hkl : k = len := by omega
      subst hkl
      have hall : ns.all mayB = true := by have := ha.out; rwa [List.take_of_length_le (by rw [Hl.out]; exact Nat.le_refl _)] at this
      by_cases h7 : x < SL
      · have E := Lib.hid (E7.out hall h7)
        clear hall
        go_wp2_with (fail)
        go_ret
        exact ⟨ret_int E.out.symm, rfl⟩
      · have E := Lib.hid (E0.out hall (by omega))
        clear hall
        go_wp2_with (fail)
        go_ret
        exact ⟨ret_int E.out.symm, rfl⟩
end Go.Proofs.Ytoaggnponndlbaa
