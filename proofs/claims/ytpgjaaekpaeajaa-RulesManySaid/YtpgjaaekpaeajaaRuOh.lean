/- rules.Of of any kind; the reference's Of. -/
import Derived.Test.YtpgjaaekpaeajaaRuOg
namespace Go.Proofs.Ytpgjaaekpaeajaa
open Go.RowKit
set_option linter.unusedVariables false
set_option linter.unusedSimpArgs false

set_option maxHeartbeats 6400000 in
set_option maxRecDepth 100000 in
theorem of4_any {w : World} {r : RulesS} (h : RulesAt w r) (res : ByteArray) :
    Calls Try.prog 14 #[r.v, .int .u8 4, .string res] w (OfPost w (ofFrom (fun _ => true) r.n3)) := by
  have hs := h.s3
  have HST := Lib.hid (fun W hW => ofI_start w res r.cs 28 W hW)
  have hv : r.v = .agg #[.slice r.a0 r.n0 r.c0, .slice r.a1 r.n1 r.c1, .slice r.a2 r.n2 r.c2, .slice r.a3 r.n3 r.c3, .slice r.a4 r.n4 r.c4] := rfl
  have hcs : r.cs = #[.slice r.a0 r.n0 r.c0, .slice r.a1 r.n1 r.c1, .slice r.a2 r.n2 r.c2, .slice r.a3 r.n3 r.c3, .slice r.a4 r.n4 r.c4] := rfl
  rw [hcs] at HST
  rw [hv]
  obtain ⟨n, hn⟩ : ∃ n, r.n3 = n := ⟨_, rfl⟩
  rw [hn] at hs HST ⊢
  clear h hv hcs hn
  go_enter Try.func14, Try.ntmps14
  go_wp2_with (fail)
  have HI0 := Lib.hid (HST.out _ rfl)
  generalize ((w.alloc _).alloc _).alloc _ = W at *
  go_loopw [15, 73] (fun _ i wr => ∃ k : Nat, k ≤ n ∧ i = .int .i64 k ∧ Hid (OfI w (w.heap.size + 3) (w.heap.size + 2) (w.heap.size + 1) res (ofFrom (fun _ => true) k) wr)) (fun _ i _ => n - (intOf i).toNat)
  case atStart => exact ⟨0, Nat.zero_le _, rfl, HI0⟩
  case round =>
    obtain ⟨k, hk, rfl, HI⟩ := hrel
    by_cases hlt : k < n
    · have HN := Lib.hid (note_any HI.out res k (by have := ofFrom_len (fun _ => true) k; omega))
      have HS := Lib.hid (show ofFrom (fun _ => true) (k + 1) = (if res.toList == res.toList then ofFrom (fun _ => true) k ++ [(k : Int)] else ofFrom (fun _ => true) k) by rw [ofFrom_step]; simp)
      have cr := HI.out.cr
      have k0 : (0 : Int) ≤ k := by omega
      have k1 : (k : Int) < n := by omega
      go_wp2_with (fail)
      refine HN.out.mono ?_
      rintro e w1 ⟨rfl, h1⟩
      rw [← HS.out] at h1
      have HI1 := Lib.hid h1
      clear h1
      go_wp2_with (fail)
      exact ⟨⟨k + 1, by omega, by go_num, HI1⟩, by first | (simp [intOf]; done) | (simp [intOf]; omega)⟩
    · have hkn : k = n := by omega
      subst hkn
      obtain ⟨v, hv1, hv2⟩ := HI.out.row
      have cv := box_one hv1
      have HB := Lib.hid hv1
      clear hv1 hv2
      obtain ⟨va, vc, rfl⟩ : ∃ va vc, v = .slice va (ofFrom (fun _ => true) k).length vc := by
        obtain ⟨v', h1, h2⟩ := HI.out.row
        obtain rfl : v' = v := by rw [HB.out] at h1; injection h1 with h1; injection h1 with h1; injection h1 with h1; injection h1 with h1; exact h1.symm
        obtain ⟨va, vc, e⟩ := own_sliceO h2
        exact ⟨va, vc, e⟩
      go_wp2_with (fail)
      go_ret
      exact HI.out.post HB.out

set_option maxHeartbeats 1600000 in
set_option maxRecDepth 100000 in
theorem of0_any {w : World} {r : RulesS} (kind : Int) (h1 : (kind == 1) = false) (h2 : (kind == 2) = false) (h3 : (kind == 3) = false) (h4 : (kind == 4) = false) (h5 : (kind == 5) = false) (res : ByteArray) :
    Calls Try.prog 14 #[r.v, .int .u8 kind, .string res] w (OfPost w []) := by
  have HST := Lib.hid (fun W hW => ofI_start w res r.cs 28 W hW)
  have hv : r.v = .agg #[.slice r.a0 r.n0 r.c0, .slice r.a1 r.n1 r.c1, .slice r.a2 r.n2 r.c2, .slice r.a3 r.n3 r.c3, .slice r.a4 r.n4 r.c4] := rfl
  have hcs : r.cs = #[.slice r.a0 r.n0 r.c0, .slice r.a1 r.n1 r.c1, .slice r.a2 r.n2 r.c2, .slice r.a3 r.n3 r.c3, .slice r.a4 r.n4 r.c4] := rfl
  rw [hcs] at HST
  rw [hv]
  clear hv hcs
  go_enter Try.func14, Try.ntmps14
  go_wp2_with (fail)
  go_ret
  exact ⟨_, rfl, World.ownsRow_nil _ _ _ _, (HST.out _ rfl).bel⟩

theorem of_any {w : World} {r : RulesS} (h : RulesAt w r) (kind : Int) (res : ByteArray) :
    Calls Try.prog 14 #[r.v, .int .u8 kind, .string res] w (OfPost w (ofR r kind res)) := by
  by_cases h1 : kind = 1
  · subst h1
    exact of1_any h res
  · by_cases h2 : kind = 2
    · subst h2; exact of2_any h res
    · by_cases h3 : kind = 3
      · subst h3; exact of3_any h res
      · by_cases h4 : kind = 4
        · subst h4; exact of4_any h res
        · by_cases h5 : kind = 5
          · subst h5; exact of5_any h res
          · have : ofR r kind res = [] := by unfold ofR cntR; rw [if_neg h1, if_neg h2, if_neg h3, if_neg h4, if_neg h5]; rfl
            rw [this]
            exact of0_any kind (beq_eq_false_iff_ne.2 h1) (beq_eq_false_iff_ne.2 h2) (beq_eq_false_iff_ne.2 h3) (beq_eq_false_iff_ne.2 h4) (beq_eq_false_iff_ne.2 h5) res

def boxR (r : RulesS) : Obj := .cells #[.slice r.a0 r.n0 r.c0, .slice r.a1 r.n1 r.c1, .slice r.a2 r.n2 r.c2, .slice r.a3 r.n3 r.c3, .slice r.a4 r.n4 r.c4] 28
set_option maxHeartbeats 1600000 in
set_option maxRecDepth 100000 in
theorem rcount_any (r : RulesS) (kind : Int) (w : World) :
    Calls Try.prog 26 #[r.v, .int .u8 kind] w fun e w' => e = .returned (.int .i64 (cntR r kind)) ∧ Below w.heap.size w w' := by
  have hv : r.v = .agg #[.slice r.a0 r.n0 r.c0, .slice r.a1 r.n1 r.c1, .slice r.a2 r.n2 r.c2, .slice r.a3 r.n3 r.c3, .slice r.a4 r.n4 r.c4] := rfl
  have HB := Lib.hid (show Below w.heap.size w (w.alloc (boxR r)) from (Below.refl _ _).alloc (Nat.le_refl _) _)
  unfold boxR at HB
  have hc : cntR r kind = if kind = 1 then r.n0 else if kind = 2 then r.n1 else if kind = 3 then r.n2 else if kind = 4 then r.n3 else if kind = 5 then r.n4 else 0 := rfl
  have HC := Lib.hid hc
  rw [hv]
  clear hv hc
  by_cases h1 : kind = 1
  · subst h1
    go_enter Try.func26, Try.ntmps26
    go_wp2_with (fail)
    go_ret
    exact ⟨rfl, HB.out⟩
  · have g1 := beq_eq_false_iff_ne.2 h1
    by_cases h2 : kind = 2
    · subst h2
      go_enter Try.func26, Try.ntmps26
      go_wp2_with (fail)
      go_ret
      exact ⟨rfl, HB.out⟩
    · have g2 := beq_eq_false_iff_ne.2 h2
      by_cases h3 : kind = 3
      · subst h3
        go_enter Try.func26, Try.ntmps26
        go_wp2_with (fail)
        go_ret
        exact ⟨rfl, HB.out⟩
      · have g3 := beq_eq_false_iff_ne.2 h3
        by_cases h4 : kind = 4
        · subst h4
          go_enter Try.func26, Try.ntmps26
          go_wp2_with (fail)
          go_ret
          exact ⟨rfl, HB.out⟩
        · have g4 := beq_eq_false_iff_ne.2 h4
          by_cases h5 : kind = 5
          · subst h5
            go_enter Try.func26, Try.ntmps26
            go_wp2_with (fail)
            go_ret
            exact ⟨rfl, HB.out⟩
          · have g5 := beq_eq_false_iff_ne.2 h5
            have hz : cntR r kind = 0 := by rw [HC.out, if_neg h1, if_neg h2, if_neg h3, if_neg h4, if_neg h5]
            rw [hz]
            clear h1 h2 h3 h4 h5 hz
            go_enter Try.func26, Try.ntmps26
            go_wp2_with (fail)
            go_ret
            exact ⟨rfl, HB.out⟩

set_option maxHeartbeats 1600000 in
set_option maxRecDepth 100000 in
theorem rres1_any {w : World} {r : RulesS} (h : RulesAt w r) (i : Nat) (x) (hi : r.fl[i]? = some x) :
    Calls Try.prog 33 #[r.v, .int .u8 1, .int .i64 i] w fun e w' => e = .returned (.string x.res) ∧ Below w.heap.size w w' := by
  have hv : r.v = .agg #[.slice r.a0 r.n0 r.c0, .slice r.a1 r.n1 r.c1, .slice r.a2 r.n2 r.c2, .slice r.a3 r.n3 r.c3, .slice r.a4 r.n4 r.c4] := rfl
  have HB := Lib.hid (show Below w.heap.size w (w.alloc (boxR r)) from (Below.refl _ _).alloc (Nat.le_refl _) _)
  have hil : i < r.n0 := by rw [← h.l0]; exact (List.getElem?_eq_some_iff.1 hi).1
  have hs := h.s0
  obtain ⟨b, off, hab, hbl, hfa⟩ := flowsAt_get h.fl hi
  have d0 := hfa.c0
  have d0' : (w.alloc (boxR r)).cell? ⟨b, off + i * 12, none⟩ = some (.string x.res) := (World.cell?_alloc_lt w _ _ hbl).trans d0
  unfold boxR at HB d0'
  rw [hv]
  rw [hab] at HB d0' ⊢
  generalize r.n0 = N at *
  have k0 : (0 : Int) ≤ i := by omega
  have k1 : (i : Int) < N := by omega
  clear hv h hab d0
  go_enter Try.func33, Try.ntmps33
  go_wp2_with (fail)
  go_ret
  exact ⟨rfl, HB.out⟩

set_option maxHeartbeats 1600000 in
set_option maxRecDepth 100000 in
theorem rres2_any {w : World} {r : RulesS} (h : RulesAt w r) (i : Nat) (x) (hi : r.br[i]? = some x) :
    Calls Try.prog 33 #[r.v, .int .u8 2, .int .i64 i] w fun e w' => e = .returned (.string x.res) ∧ Below w.heap.size w w' := by
  have hv : r.v = .agg #[.slice r.a0 r.n0 r.c0, .slice r.a1 r.n1 r.c1, .slice r.a2 r.n2 r.c2, .slice r.a3 r.n3 r.c3, .slice r.a4 r.n4 r.c4] := rfl
  have HB := Lib.hid (show Below w.heap.size w (w.alloc (boxR r)) from (Below.refl _ _).alloc (Nat.le_refl _) _)
  have hil : i < r.n1 := by rw [← h.l1]; exact (List.getElem?_eq_some_iff.1 hi).1
  have hs := h.s1
  obtain ⟨b, off, hab, hbl, hca⟩ := rowsAt_get h.br (j := i) (x := x.cs) (by rw [List.getElem?_map, hi]; rfl)
  have d0 : w.cell? ⟨b, off + i * 7, none⟩ = some (.string x.res) := hca 0 (.string x.res) (by decide) rfl
  have d0' : (w.alloc (boxR r)).cell? ⟨b, off + i * 7, none⟩ = some (.string x.res) := (World.cell?_alloc_lt w _ _ hbl).trans d0
  unfold boxR at HB d0'
  rw [hv]
  rw [hab] at HB d0' ⊢
  generalize r.n1 = N at *
  have k0 : (0 : Int) ≤ i := by omega
  have k1 : (i : Int) < N := by omega
  clear hv h hab d0
  go_enter Try.func33, Try.ntmps33
  go_wp2_with (fail)
  go_ret
  exact ⟨rfl, HB.out⟩

set_option maxHeartbeats 1600000 in
set_option maxRecDepth 100000 in
theorem rres3_any {w : World} {r : RulesS} (h : RulesAt w r) (i : Nat) (x) (hi : r.ho[i]? = some x) :
    Calls Try.prog 33 #[r.v, .int .u8 3, .int .i64 i] w fun e w' => e = .returned (.string x.res) ∧ Below w.heap.size w w' := by
  have hv : r.v = .agg #[.slice r.a0 r.n0 r.c0, .slice r.a1 r.n1 r.c1, .slice r.a2 r.n2 r.c2, .slice r.a3 r.n3 r.c3, .slice r.a4 r.n4 r.c4] := rfl
  have HB := Lib.hid (show Below w.heap.size w (w.alloc (boxR r)) from (Below.refl _ _).alloc (Nat.le_refl _) _)
  have hil : i < r.n2 := by rw [← h.l2]; exact (List.getElem?_eq_some_iff.1 hi).1
  have hs := h.s2
  obtain ⟨b, off, hab, hbl, hca⟩ := rowsAt_get h.ho (j := i) (x := x.cs) (by rw [List.getElem?_map, hi]; rfl)
  have d0 : w.cell? ⟨b, off + i * 5, none⟩ = some (.string x.res) := hca 0 (.string x.res) (by decide) rfl
  have d0' : (w.alloc (boxR r)).cell? ⟨b, off + i * 5, none⟩ = some (.string x.res) := (World.cell?_alloc_lt w _ _ hbl).trans d0
  unfold boxR at HB d0'
  rw [hv]
  rw [hab] at HB d0' ⊢
  generalize r.n2 = N at *
  have k0 : (0 : Int) ≤ i := by omega
  have k1 : (i : Int) < N := by omega
  clear hv h hab d0
  go_enter Try.func33, Try.ntmps33
  go_wp2_with (fail)
  go_ret
  exact ⟨rfl, HB.out⟩

set_option maxHeartbeats 1600000 in
set_option maxRecDepth 100000 in
theorem rres5_any {w : World} {r : RulesS} (h : RulesAt w r) (i : Nat) (x) (hi : r.au[i]? = some x) :
    Calls Try.prog 33 #[r.v, .int .u8 5, .int .i64 i] w fun e w' => e = .returned (.string x.res) ∧ Below w.heap.size w w' := by
  have hv : r.v = .agg #[.slice r.a0 r.n0 r.c0, .slice r.a1 r.n1 r.c1, .slice r.a2 r.n2 r.c2, .slice r.a3 r.n3 r.c3, .slice r.a4 r.n4 r.c4] := rfl
  have HB := Lib.hid (show Below w.heap.size w (w.alloc (boxR r)) from (Below.refl _ _).alloc (Nat.le_refl _) _)
  have hil : i < r.n4 := by rw [← h.l4]; exact (List.getElem?_eq_some_iff.1 hi).1
  have hs := h.s4
  obtain ⟨b, off, hab, hbl, hca⟩ := rowsAt_get h.au (j := i) (x := x.cs) (by rw [List.getElem?_map, hi]; rfl)
  have d0 : w.cell? ⟨b, off + i * 3, none⟩ = some (.string x.res) := hca 0 (.string x.res) (by decide) rfl
  have d0' : (w.alloc (boxR r)).cell? ⟨b, off + i * 3, none⟩ = some (.string x.res) := (World.cell?_alloc_lt w _ _ hbl).trans d0
  unfold boxR at HB d0'
  rw [hv]
  rw [hab] at HB d0' ⊢
  generalize r.n4 = N at *
  have k0 : (0 : Int) ≤ i := by omega
  have k1 : (i : Int) < N := by omega
  clear hv h hab d0
  go_enter Try.func33, Try.ntmps33
  go_wp2_with (fail)
  go_ret
  exact ⟨rfl, HB.out⟩

end Go.Proofs.Ytpgjaaekpaeajaa