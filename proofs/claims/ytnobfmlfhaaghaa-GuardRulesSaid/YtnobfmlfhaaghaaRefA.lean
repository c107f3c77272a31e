/- The reference of the layer num (spillwayref01), its leaves: size, Of, told, small, plus, product, Within: what each call returns; nothing that was there turns. -/
import Derived.Test.YtnobfmlfhaaghaaNumOps
namespace Go.Proofs.Ytnobfmlfhaaghaa
open Go.RowKit
set_option linter.unusedVariables false
set_option linter.unusedSimpArgs false

/-- A number of 128 bits of the reference's came back. -/
def RefW (v : Int) (w : World) (e : Ending) (w' : World) : Prop :=
  ∃ (b : Bool) (hi lo : Int), e = .returned (.agg #[.bool b, .int .u64 hi, .int .u64 lo]) ∧ 0 ≤ hi ∧ hi < 18446744073709551616 ∧ 0 ≤ lo ∧ lo < 18446744073709551616 ∧ sgn b (hi * 18446744073709551616 + lo) = v ∧ Below w.heap.size w w'

theorem rsize_any (n : Int) (w : World) (h0 : -9223372036854775808 ≤ n) (h1 : n ≤ 9223372036854775807) :
    Calls Try.prog 81 #[.int .i64 n] w fun e w' => e = .returned (.int .u64 ((n.natAbs : Nat) : Int)) ∧ w = w' := by
  by_cases h : n < 0
  · go_enter Try.func81, Try.ntmps81
    go_wp2
    go_ret
    exact ⟨ret_int (by simp only [IntKind.wrap_u64]; omega), rfl⟩
  · go_enter Try.func81, Try.ntmps81
    go_wp2
    go_ret
    exact ⟨ret_int (by omega), rfl⟩

theorem rtold_any (n : Int) (ok : Bool) (w : World) :
    Calls Try.prog 76 #[.int .i64 n, .bool ok] w fun e w' => e = .returned (.tuple #[.int .i64 (if ok then n else 0), .int .i64 (if ok then 0 else 8)]) ∧ w = w' := by
  cases ok
  all_goals
    go_enter Try.func76, Try.ntmps76
    go_wp2
    go_ret2
    exact ⟨by simp, rfl⟩


theorem of_any (n : Int) (w : World) (h0 : -9223372036854775808 ≤ n) (h1 : n ≤ 9223372036854775807) :
    Calls Try.prog 84 #[.int .i64 n] w fun e w' => e = .returned (.agg #[.bool (decide (n < 0)), .int .u64 0, .int .u64 ((n.natAbs : Nat) : Int)]) ∧ Below w.heap.size w w' := by
  go_enter Try.func84, Try.ntmps84
  go_wp2_with (go_at_call 81; refine (rsize_any _ _ (by omega) (by omega)).mono ?_; rintro e w' ⟨rfl, rfl⟩)
  exact bodyPost_ret (v := .agg #[.bool (decide (n < 0)), .int .u64 0, .int .u64 ((n.natAbs : Nat) : Int)]) (by simp [results, Try.results84, go_sem]) rfl ⟨rfl, by repeat (first | exact Below.refl _ _ | apply Below.alloc | apply Below.setCell | simp)⟩
theorem of_wide (n : Int) (w : World) (h0 : -9223372036854775808 ≤ n) (h1 : n ≤ 9223372036854775807) :
    Calls Try.prog 84 #[.int .i64 n] w (RefW n w) :=
  (of_any n w h0 h1).mono fun e w' ⟨he, hb⟩ => ⟨_, _, _, he, by omega, by omega, by omega, by omega, by
    by_cases h : n < 0
    · simp [sgn, h]; omega
    · simp [sgn, h]; omega, hb⟩

set_option maxHeartbeats 400000 in
theorem small_any (b : Bool) (hi lo : Int) (w : World) (h0 : 0 ≤ hi) (h1 : hi < 18446744073709551616) (h2 : 0 ≤ lo) (h3 : lo < 18446744073709551616) :
    Calls Try.prog 85 #[.agg #[.bool b, .int .u64 hi, .int .u64 lo]] w fun e w' => e = .returned (.tuple #[.int .i64 (fitN (sgn b (hi * 18446744073709551616 + lo))), .bool (fitB (sgn b (hi * 18446744073709551616 + lo)))]) ∧ Below w.heap.size w w' := by
  by_cases z : hi = 0
  · subst z
    by_cases z1 : lo < 9223372036854775808
    · cases b
      · have e1 := Lib.hid (fitB_yes (v := lo) (by omega) (by omega))
        have e2 := Lib.hid (fitN_yes e1.out)
        go_enter Try.func85, Try.ntmps85
        go_wp2
        all_goals
          go_ret2
          exact ⟨ret_ib (by simp [sgn]; rw [e2.out]) (by simp [sgn]; rw [e1.out]), (Below.refl _ _).alloc (Nat.le_refl _) _⟩
      · have e1 := Lib.hid (fitB_yes (v := -lo) (by omega) (by omega))
        have e2 := Lib.hid (fitN_yes e1.out)
        have e3 : IntKind.i64.wrap (IntKind.u64.wrap (-lo)) = -lo := by simp only [IntKind.wrap_u64, IntKind.wrap_i64]; omega
        have e4 : wrap64 (IntKind.u64.wrap (-lo)) = -lo := by simp only [wrap64, IntKind.wrap_u64]; omega
        go_enter Try.func85, Try.ntmps85
        go_wp2
        all_goals
          go_ret2
          exact ⟨ret_ib (by simp [sgn]; rw [e2.out]) (by simp [sgn]; rw [e1.out]), (Below.refl _ _).alloc (Nat.le_refl _) _⟩
    · by_cases z2 : lo = 9223372036854775808
      · subst z2
        have e4 : wrap64 (IntKind.u64.wrap (-9223372036854775808)) = -9223372036854775808 := by simp only [wrap64, IntKind.wrap_u64]; omega
        cases b
        all_goals
          go_enter Try.func85, Try.ntmps85
          go_wp2
          go_ret2
          exact ⟨by simp [fitN, fitB, sgn], (Below.refl _ _).alloc (Nat.le_refl _) _⟩
      · have hf := Lib.hid (show fitB (sgn b lo) = false from fitB_no (by cases b <;> simp [sgn] <;> omega))
        have z3 : 9223372036854775808 < lo := by omega
        go_enter Try.func85, Try.ntmps85
        go_wp2
        go_ret2
        exact ⟨ret_ib (by rw [fitN_no hf.out]) (by rw [hf.out]), (Below.refl _ _).alloc (Nat.le_refl _) _⟩
  · have hf := Lib.hid (show fitB (sgn b (hi * 18446744073709551616 + lo)) = false from fitB_no (by cases b <;> simp [sgn] <;> omega))
    have z3 : 0 < hi := by omega
    go_enter Try.func85, Try.ntmps85
    go_wp2
    go_ret2
    exact ⟨ret_ib (by rw [fitN_no hf.out]) (by rw [hf.out]), (Below.refl _ _).alloc (Nat.le_refl _) _⟩

theorem sub128 (ph pl qh ql : Int) (h0 : 0 ≤ ph) (h1 : ph < 18446744073709551616) (h2 : 0 ≤ pl) (h3 : pl < 18446744073709551616)
    (k0 : 0 ≤ qh) (k1 : qh < 18446744073709551616) (k2 : 0 ≤ ql) (k3 : ql < 18446744073709551616) (hle : qh * 18446744073709551616 + ql ≤ ph * 18446744073709551616 + pl) :
    ∃ x y x' : Int, (∀ w, (callFunc 91 #[.int .u64 pl, .int .u64 ql, .int .u64 0]).run Try.prog w = .ok (.value (.tuple #[.int .u64 x, .int .u64 y])) w) ∧
      (∃ y', ∀ w, (callFunc 91 #[.int .u64 ph, .int .u64 qh, .int .u64 y]).run Try.prog w = .ok (.value (.tuple #[.int .u64 x', .int .u64 y'])) w) ∧
      0 ≤ x ∧ x < 18446744073709551616 ∧ 0 ≤ x' ∧ x' < 18446744073709551616 ∧ x' * 18446744073709551616 + x = (ph * 18446744073709551616 + pl) - (qh * 18446744073709551616 + ql) := by
  have s1 := fun w => sub64 pl ql 0 h2 k2 k3 (by decide) (by decide) w
  by_cases hlt : pl < ql + 0
  · rw [if_pos hlt] at s1
    have s2 := fun w => sub64 ph qh 1 h0 k0 k1 (by decide) (by decide) w
    exact ⟨_, _, _, s1, ⟨_, s2⟩, by omega, by omega, by omega, by omega, by omega⟩
  · rw [if_neg hlt] at s1
    have s2 := fun w => sub64 ph qh 0 h0 k0 k1 (by decide) (by decide) w
    exact ⟨_, _, _, s1, ⟨_, s2⟩, by omega, by omega, by omega, by omega, by omega⟩

set_option maxHeartbeats 1600000 in
set_option maxRecDepth 100000 in
theorem plus_any (a : Bool) (ah al : Int) (b : Bool) (bh bl : Int) (w : World) (h0 : 0 ≤ ah) (h1 : ah < 18446744073709551616) (h2 : 0 ≤ al) (h3 : al < 18446744073709551616)
    (k0 : 0 ≤ bh) (k1 : bh < 18446744073709551616) (k2 : 0 ≤ bl) (k3 : bl < 18446744073709551616) (hs : ah + bh < 18446744073709551615) :
    Calls Try.prog 83 #[.agg #[.bool a, .int .u64 ah, .int .u64 al], .agg #[.bool b, .int .u64 bh, .int .u64 bl]] w (RefW (sgn a (ah * 18446744073709551616 + al) + sgn b (bh * 18446744073709551616 + bl)) w) := by
  by_cases hab : a = b
  · subst hab
    obtain ⟨x, y, ha, x0, x1, y0, y1, hxy⟩ : ∃ x y : Int, (∀ w, (callFunc 72 #[.int .u64 al, .int .u64 bl, .int .u64 0]).run Try.prog w = .ok (.value (.tuple #[.int .u64 x, .int .u64 y])) w) ∧ 0 ≤ x ∧ x < 18446744073709551616 ∧ 0 ≤ y ∧ y ≤ 1 ∧ y * 18446744073709551616 + x = al + bl := by
      refine ⟨(al + bl) % 18446744073709551616, (al + bl) / 18446744073709551616, fun w => ?_, by omega, by omega, by omega, by omega, by omega⟩
      simpa using add64 al bl 0 h2 k2 (by decide) (by decide) w
    obtain ⟨x', y', ha', x0', x1', hxy'⟩ : ∃ x' y' : Int, (∀ w, (callFunc 72 #[.int .u64 ah, .int .u64 bh, .int .u64 y]).run Try.prog w = .ok (.value (.tuple #[.int .u64 x', .int .u64 y'])) w) ∧ 0 ≤ x' ∧ x' < 18446744073709551616 ∧ x' = ah + bh + y := by
      refine ⟨(ah + bh + y) % 18446744073709551616, (ah + bh + y) / 18446744073709551616, fun w => ?_, by omega, by omega, by omega⟩
      exact add64 ah bh y h0 k0 y0 y1 w
    have fin : ∀ w', Below w.heap.size w w' → RefW (sgn a (ah * 18446744073709551616 + al) + sgn a (bh * 18446744073709551616 + bl)) w (.returned (.agg #[.bool a, .int .u64 x', .int .u64 x])) w' := fun w' hb =>
      ⟨a, x', x, rfl, x0', x1', x0, x1, by cases a <;> simp [sgn] <;> omega, hb⟩
    have Fin := Lib.hid fin
    clear hxy hxy' fin
    go_enter Try.func83, Try.ntmps83
    go_wp2
    exact bodyPost_ret (v := .agg #[.bool a, .int .u64 x', .int .u64 x]) (by simp [results, Try.results83, go_sem]) rfl (Fin.out _ (by repeat (first | exact Below.refl _ _ | apply Below.alloc | apply Below.setCell | omega | (focus (simp <;> omega)))))
  · have hbn : b = !a := by cases a <;> cases b <;> simp_all
    subst hbn
    by_cases lt : ah < bh
    · obtain ⟨x, y, x', hs1, ⟨y', hs2⟩, x0, x1, x0', x1', hx⟩ := sub128 bh bl ah al k0 k1 k2 k3 h0 h1 h2 h3 (by omega)
      have fin : ∀ (w' : World) (c : Bool), (c = ((!a) && (decide (0 < x') || decide (0 < x)))) → Below w.heap.size w w' → RefW (sgn a (ah * 18446744073709551616 + al) + sgn (!a) (bh * 18446744073709551616 + bl)) w (.returned (.agg #[.bool c, .int .u64 x', .int .u64 x])) w' := fun w' c hc hb =>
        ⟨c, x', x, rfl, x0', x1', x0, x1, by
          subst hc
          by_cases z : 0 < x' <;> by_cases z' : 0 < x <;> cases a <;> simp [sgn, z, z'] <;> omega, hb⟩
      have Fin := Lib.hid fin
      clear fin hx
      cases a
      · by_cases z : 0 < x'
        · go_enter Try.func83, Try.ntmps83
          go_wp2
          exact bodyPost_ret (v := .agg #[.bool true, .int .u64 x', .int .u64 x]) (by simp [results, Try.results83, go_sem] <;> omega) rfl (Fin.out _ _ (by simp [z]) (by repeat (first | exact Below.refl _ _ | apply Below.alloc | apply Below.setCell | omega | (focus (simp <;> omega)))))
        · by_cases z' : 0 < x
          · go_enter Try.func83, Try.ntmps83
            go_wp2
            exact bodyPost_ret (v := .agg #[.bool true, .int .u64 x', .int .u64 x]) (by simp [results, Try.results83, go_sem] <;> omega) rfl (Fin.out _ _ (by simp; omega) (by repeat (first | exact Below.refl _ _ | apply Below.alloc | apply Below.setCell | omega | (focus (simp <;> omega)))))
          · go_enter Try.func83, Try.ntmps83
            go_wp2
            exact bodyPost_ret (v := .agg #[.bool false, .int .u64 x', .int .u64 x]) (by simp [results, Try.results83, go_sem] <;> omega) rfl (Fin.out _ _ (by simp; omega) (by repeat (first | exact Below.refl _ _ | apply Below.alloc | apply Below.setCell | omega | (focus (simp <;> omega)))))
      · go_enter Try.func83, Try.ntmps83
        go_wp2
        exact bodyPost_ret (v := .agg #[.bool false, .int .u64 x', .int .u64 x]) (by simp [results, Try.results83, go_sem] <;> omega) rfl (Fin.out _ _ (by simp) (by repeat (first | exact Below.refl _ _ | apply Below.alloc | apply Below.setCell | omega | (focus (simp <;> omega)))))
    · by_cases eq : ah = bh
      · subst eq
        by_cases ll : al < bl
        · obtain ⟨x, y, x', hs1, ⟨y', hs2⟩, x0, x1, x0', x1', hx⟩ := sub128 ah bl ah al k0 k1 k2 k3 h0 h1 h2 h3 (by omega)
          have fin : ∀ (w' : World) (c : Bool), (c = ((!a) && (decide (0 < x') || decide (0 < x)))) → Below w.heap.size w w' → RefW (sgn a (ah * 18446744073709551616 + al) + sgn (!a) (ah * 18446744073709551616 + bl)) w (.returned (.agg #[.bool c, .int .u64 x', .int .u64 x])) w' := fun w' c hc hb =>
            ⟨c, x', x, rfl, x0', x1', x0, x1, by
              subst hc
              by_cases z : 0 < x' <;> by_cases z' : 0 < x <;> cases a <;> simp [sgn, z, z'] <;> omega, hb⟩
          have Fin := Lib.hid fin
          clear fin hx
          cases a
          · by_cases z : 0 < x'
            · go_enter Try.func83, Try.ntmps83
              go_wp2
              exact bodyPost_ret (v := .agg #[.bool true, .int .u64 x', .int .u64 x]) (by simp [results, Try.results83, go_sem] <;> omega) rfl (Fin.out _ _ (by simp [z]) (by repeat (first | exact Below.refl _ _ | apply Below.alloc | apply Below.setCell | omega | (focus (simp <;> omega)))))
            · by_cases z' : 0 < x
              · go_enter Try.func83, Try.ntmps83
                go_wp2
                exact bodyPost_ret (v := .agg #[.bool true, .int .u64 x', .int .u64 x]) (by simp [results, Try.results83, go_sem] <;> omega) rfl (Fin.out _ _ (by simp; omega) (by repeat (first | exact Below.refl _ _ | apply Below.alloc | apply Below.setCell | omega | (focus (simp <;> omega)))))
              · go_enter Try.func83, Try.ntmps83
                go_wp2
                exact bodyPost_ret (v := .agg #[.bool false, .int .u64 x', .int .u64 x]) (by simp [results, Try.results83, go_sem] <;> omega) rfl (Fin.out _ _ (by simp; omega) (by repeat (first | exact Below.refl _ _ | apply Below.alloc | apply Below.setCell | omega | (focus (simp <;> omega)))))
          · go_enter Try.func83, Try.ntmps83
            go_wp2
            exact bodyPost_ret (v := .agg #[.bool false, .int .u64 x', .int .u64 x]) (by simp [results, Try.results83, go_sem] <;> omega) rfl (Fin.out _ _ (by simp) (by repeat (first | exact Below.refl _ _ | apply Below.alloc | apply Below.setCell | omega | (focus (simp <;> omega)))))
        · obtain ⟨x, y, x', hs1, ⟨y', hs2⟩, x0, x1, x0', x1', hx⟩ := sub128 ah al ah bl h0 h1 h2 h3 k0 k1 k2 k3 (by omega)
          have fin : ∀ (w' : World) (c : Bool), (c = (a && (decide (0 < x') || decide (0 < x)))) → Below w.heap.size w w' → RefW (sgn a (ah * 18446744073709551616 + al) + sgn (!a) (ah * 18446744073709551616 + bl)) w (.returned (.agg #[.bool c, .int .u64 x', .int .u64 x])) w' := fun w' c hc hb =>
            ⟨c, x', x, rfl, x0', x1', x0, x1, by
              subst hc
              by_cases z : 0 < x' <;> by_cases z' : 0 < x <;> cases a <;> simp [sgn, z, z'] <;> omega, hb⟩
          have Fin := Lib.hid fin
          clear fin hx
          cases a
          · go_enter Try.func83, Try.ntmps83
            go_wp2
            exact bodyPost_ret (v := .agg #[.bool false, .int .u64 x', .int .u64 x]) (by simp [results, Try.results83, go_sem] <;> omega) rfl (Fin.out _ _ (by simp) (by repeat (first | exact Below.refl _ _ | apply Below.alloc | apply Below.setCell | omega | (focus (simp <;> omega)))))
          · by_cases z : 0 < x'
            · go_enter Try.func83, Try.ntmps83
              go_wp2
              exact bodyPost_ret (v := .agg #[.bool true, .int .u64 x', .int .u64 x]) (by simp [results, Try.results83, go_sem] <;> omega) rfl (Fin.out _ _ (by simp [z]) (by repeat (first | exact Below.refl _ _ | apply Below.alloc | apply Below.setCell | omega | (focus (simp <;> omega)))))
            · by_cases z' : 0 < x
              · go_enter Try.func83, Try.ntmps83
                go_wp2
                exact bodyPost_ret (v := .agg #[.bool true, .int .u64 x', .int .u64 x]) (by simp [results, Try.results83, go_sem] <;> omega) rfl (Fin.out _ _ (by simp; omega) (by repeat (first | exact Below.refl _ _ | apply Below.alloc | apply Below.setCell | omega | (focus (simp <;> omega)))))
              · go_enter Try.func83, Try.ntmps83
                go_wp2
                exact bodyPost_ret (v := .agg #[.bool false, .int .u64 x', .int .u64 x]) (by simp [results, Try.results83, go_sem] <;> omega) rfl (Fin.out _ _ (by simp; omega) (by repeat (first | exact Below.refl _ _ | apply Below.alloc | apply Below.setCell | omega | (focus (simp <;> omega)))))
      · obtain ⟨x, y, x', hs1, ⟨y', hs2⟩, x0, x1, x0', x1', hx⟩ := sub128 ah al bh bl h0 h1 h2 h3 k0 k1 k2 k3 (by omega)
        have fin : ∀ (w' : World) (c : Bool), (c = (a && (decide (0 < x') || decide (0 < x)))) → Below w.heap.size w w' → RefW (sgn a (ah * 18446744073709551616 + al) + sgn (!a) (bh * 18446744073709551616 + bl)) w (.returned (.agg #[.bool c, .int .u64 x', .int .u64 x])) w' := fun w' c hc hb =>
          ⟨c, x', x, rfl, x0', x1', x0, x1, by
            subst hc
            by_cases z : 0 < x' <;> by_cases z' : 0 < x <;> cases a <;> simp [sgn, z, z'] <;> omega, hb⟩
        have Fin := Lib.hid fin
        clear fin hx
        cases a
        · go_enter Try.func83, Try.ntmps83
          go_wp2
          exact bodyPost_ret (v := .agg #[.bool false, .int .u64 x', .int .u64 x]) (by simp [results, Try.results83, go_sem] <;> omega) rfl (Fin.out _ _ (by simp) (by repeat (first | exact Below.refl _ _ | apply Below.alloc | apply Below.setCell | omega | (focus (simp <;> omega)))))
        · by_cases z : 0 < x'
          · go_enter Try.func83, Try.ntmps83
            go_wp2
            exact bodyPost_ret (v := .agg #[.bool true, .int .u64 x', .int .u64 x]) (by simp [results, Try.results83, go_sem] <;> omega) rfl (Fin.out _ _ (by simp [z]) (by repeat (first | exact Below.refl _ _ | apply Below.alloc | apply Below.setCell | omega | (focus (simp <;> omega)))))
          · by_cases z' : 0 < x
            · go_enter Try.func83, Try.ntmps83
              go_wp2
              exact bodyPost_ret (v := .agg #[.bool true, .int .u64 x', .int .u64 x]) (by simp [results, Try.results83, go_sem] <;> omega) rfl (Fin.out _ _ (by simp; omega) (by repeat (first | exact Below.refl _ _ | apply Below.alloc | apply Below.setCell | omega | (focus (simp <;> omega)))))
            · go_enter Try.func83, Try.ntmps83
              go_wp2
              exact bodyPost_ret (v := .agg #[.bool false, .int .u64 x', .int .u64 x]) (by simp [results, Try.results83, go_sem] <;> omega) rfl (Fin.out _ _ (by simp; omega) (by repeat (first | exact Below.refl _ _ | apply Below.alloc | apply Below.setCell | omega | (focus (simp <;> omega)))))
end Go.Proofs.Ytnobfmlfhaaghaa
