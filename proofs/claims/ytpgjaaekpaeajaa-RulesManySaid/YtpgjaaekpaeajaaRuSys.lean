/- rules.System (as XGuC has it, for seats without the guard). -/
import Derived.Test.YtpgjaaekpaeajaaRRef
namespace Go.Proofs.Ytpgjaaekpaeajaa
open Go.RowKit
set_option linter.unusedVariables false
set_option linter.unusedSimpArgs false

/-- A system rule; what is so now. -/
structure SysS where
  qps : Int
  thr : Int
  rt : Int
  load : Int
  cpu : Int
structure NowS where
  qps : Int
  thr : Int
  rt : Int
  load : Int
  cpu : Int
  most : Int
  least : Int
def SysS.l (r : SysS) : List Int := [r.qps, r.thr, r.rt, r.load, r.cpu]
def NowS.l (n : NowS) : List Int := [n.qps, n.thr, n.rt, n.load, n.cpu, n.most, n.least]
def SysS.c (r : SysS) : Array Value := #[.int .i64 r.qps, .int .i64 r.thr, .int .i64 r.rt, .int .i64 r.load, .int .i64 r.cpu]
def NowS.c (n : NowS) : Array Value := #[.int .i64 n.qps, .int .i64 n.thr, .int .i64 n.rt, .int .i64 n.load, .int .i64 n.cpu, .int .i64 n.most, .int .i64 n.least]
def sysOne (n : Int) : Bool := decide (-1 ≤ n) && decide (n ≤ 1099511627776)
def sysOk (r : SysS) : Bool := r.l.all sysOne
def sysE (r : SysS) : Int := if sysOk r then 0 else 33
def nowOne (n : Int) : Bool := !(decide (n < 0) || decide (4611686018427387904 < n))
def allN (xs : List Int) : Bool := xs.all nowOne
def nowOk (n : NowS) : Bool := allN n.l

theorem all_step {p : Int → Bool} {xs : List Int} {k : Nat} (hk : k < xs.length) (h : (xs.take k).all p = true) : (xs.take (k + 1)).all p = p (xs.getD k 0) := by
  rw [List.take_add_one, List.getElem?_eq_getElem hk, Option.toList_some, List.all_append, h]
  simp [List.getD, List.getElem?_eq_getElem hk]
theorem all_false {p : Int → Bool} {xs : List Int} {k : Nat} (h : (xs.take k).all p = false) : xs.all p = false := by
  rw [← List.take_append_drop k xs, List.all_append, h]; rfl

set_option maxHeartbeats 3200000 in
theorem sysrule_any (r : SysS) (w : World) : Calls Try.prog 54 #[.agg r.c] w fun e w' => e = .returned (.int .i64 (sysE r)) ∧ Below w.heap.size w w' := by
  have HW := Lib.hid (fun n w => within_any n (-1) 1099511627776 w)
  have hL : r.l.length = 5 := rfl
  have hb : Below w.heap.size w ((w.alloc (.cells r.c 84)).alloc (.cells r.c 3)) := ((Below.refl _ _).alloc (Nat.le_refl _) _).alloc (by simp) _
  have HB := Lib.hid hb
  have hg : ((w.alloc (.cells r.c 84)).alloc (.cells r.c 3)).heap[w.heap.size + 1]? = some (.cells r.c 3) := by simp only [get_allocG, World.size_alloc, if_true]
  have hc : ∀ j, j < 5 → ((w.alloc (.cells r.c 84)).alloc (.cells r.c 3)).cell? ⟨w.heap.size + 1, j, none⟩ = some (.int .i64 (r.l.getD j 0)) := by
    intro j hj
    simp only [World.cell?, hg]
    match j, hj with
    | 0, _ => rfl
    | 1, _ => rfl
    | 2, _ => rfl
    | 3, _ => rfl
    | 4, _ => rfl
  have HC := Lib.hid hc
  have hOK : sysOk r = r.l.all sysOne := rfl
  have HOK := Lib.hid hOK
  obtain ⟨RC, hRC⟩ : ∃ RC, r.l = RC := ⟨_, rfl⟩
  rw [hRC] at HC HOK hL
  have HL := Lib.hid hL
  clear hb hg hc hOK hRC hL
  obtain ⟨q, t, rt, lo, cp⟩ := r
  unfold SysS.c at *
  dsimp only at *
  go_enter Try.func54, Try.ntmps54
  go_wp2_with (fail)
  go_loop [4, 17] (fun x i => ∃ k : Nat, k ≤ 5 ∧ i = .int .i64 k ∧ Hid ((RC.take k).all sysOne = true)) (fun _ i => 5 - (intOf i).toNat)
  case atStart => exact ⟨0, Nat.zero_le _, rfl, rfl⟩
  case round =>
    obtain ⟨k, hk, rfl, HA⟩ := hrel
    by_cases hlt : k < 5
    · have d1 := HC.out k hlt
      have hs := all_step (p := sysOne) (xs := RC) (k := k) (by rw [HL.out]; exact hlt) HA.out
      have k0 : (0 : Int) ≤ k := by omega
      have k1 : (k : Int) < 5 := by omega
      generalize RC.getD k 0 = X at d1 hs
      have HX := Lib.hid (HW.out X ((w.alloc (.cells #[.int .i64 q, .int .i64 t, .int .i64 rt, .int .i64 lo, .int .i64 cp] 84)).alloc (.cells #[.int .i64 q, .int .i64 t, .int .i64 rt, .int .i64 lo, .int .i64 cp] 3)))
      have hso : (decide (-1 ≤ X) && decide (X ≤ 1099511627776)) = sysOne X := rfl
      rw [hso] at HX
      clear hso
      cases hx : sysOne X
      · rw [hx] at HX hs
        have HF := Lib.hid (all_false hs)
        clear hs hx
        go_wp2_with (fail)
        refine HX.out.mono ?_
        rintro e wq ⟨rfl, hq⟩
        subst hq
        go_wp2_with (fail)
        go_ret
        exact ⟨by unfold sysE; rw [HOK.out, HF.out]; rfl, HB.out⟩
      · rw [hx] at HX hs
        have HS := Lib.hid hs
        clear hs hx
        go_wp2_with (fail)
        refine HX.out.mono ?_
        rintro e wq ⟨rfl, hq⟩
        subst hq
        go_wp2_with (fail)
        exact ⟨⟨k + 1, by omega, by go_num, HS⟩, by first | (simp [intOf]; done) | (simp [intOf]; omega)⟩
    · have hall : Hid (RC.all sysOne = true) := by
        have h1 := HA.out
        rw [List.take_of_length_le (by rw [HL.out]; omega)] at h1
        exact h1
      have k1 : ¬ (k : Int) < 5 := by omega
      clear HA
      go_wp2_with (fail)
      go_ret
      exact ⟨by unfold sysE; rw [HOK.out, hall.out]; rfl, HB.out⟩
def SysR.s (r : SysR) : SysS := ⟨r.q, r.t, r.r, r.l, r.c⟩
theorem sysE_r (r : SysR) : sysE r.s = sysRE r := by
  unfold sysE sysOk sysRE SysS.l SysR.s
  simp only [List.all_cons, List.all_nil, Bool.and_true]
  rw [show sysOne r.q = inZ r.q (-1) 1099511627776 from rfl, show sysOne r.t = inZ r.t (-1) 1099511627776 from rfl, show sysOne r.r = inZ r.r (-1) 1099511627776 from rfl, show sysOne r.l = inZ r.l (-1) 1099511627776 from rfl, show sysOne r.c = inZ r.c (-1) 1099511627776 from rfl]
  generalize inZ r.q (-1) 1099511627776 = a
  generalize inZ r.t (-1) 1099511627776 = b
  generalize inZ r.r (-1) 1099511627776 = c
  generalize inZ r.l (-1) 1099511627776 = d
  generalize inZ r.c (-1) 1099511627776 = e
  cases a <;> cases b <;> cases c <;> cases d <;> cases e <;> rfl
theorem rsys_any (r : SysR) (w : World) : Calls Try.prog 54 #[.agg #[.int .i64 r.q, .int .i64 r.t, .int .i64 r.r, .int .i64 r.l, .int .i64 r.c]] w fun e w' => e = .returned (.int .i64 (sysRE r)) ∧ Below w.heap.size w w' := by
  have h := sysrule_any r.s w
  rw [sysE_r] at h
  exact h
end Go.Proofs.Ytpgjaaekpaeajaa
