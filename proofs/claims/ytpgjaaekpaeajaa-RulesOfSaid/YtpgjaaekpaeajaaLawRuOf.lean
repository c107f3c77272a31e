/- The laws of the layer rules: RulesOf. -/
import Derived.Test.YtpgjaaekpaeajaaRuOi
import Derived.Test.YtpgjaaekpaeajaaRuI
import Derived.Test.YtpgjaaekpaeajaaConcB
import Derived.Test.YtpgjaaekpaeajaaRConc
import Derived.Deep.RegionHeld3
import Derived.RangeFuncRecord
namespace Go.Proofs.Ytpgjaaekpaeajaa
open Go.RowKit
set_option linter.unusedVariables false
set_option linter.unusedSimpArgs false

set_option maxHeartbeats 1600000 in
set_option maxRecDepth 100000 in
theorem conc_bad (a : Option Addr) (len cap : Nat) (hm : len ≤ 140737488351232) (i : Int) (hi : ¬ (0 ≤ i ∧ i < len)) (origin : ByteArray) (w : World) :
    Calls Try.prog 12 #[.slice a len cap, .int .i64 i, .string origin] w fun e w' => e = .returned (.bool false) ∧ Below w.heap.size w w' := by
  have HB := Lib.hid (fun o => (Below.refl w.heap.size w).alloc (Nat.le_refl _) o)
  by_cases h0 : i < 0
  · go_enter Try.func12, Try.ntmps12
    go_wp2_with (fail)
    go_ret
    exact ⟨rfl, by exact (((Below.refl _ _).alloc (Nat.le_refl _) _).alloc (by simp) _).alloc (by simp; omega) _⟩
  · have h1 : ¬ i < len := by omega
    clear hi
    go_enter Try.func12, Try.ntmps12
    go_wp2_with (fail)
    go_ret
    exact ⟨rfl, by exact (((Below.refl _ _).alloc (Nat.le_refl _) _).alloc (by simp) _).alloc (by simp; omega) _⟩

set_option maxHeartbeats 1600000 in
set_option maxRecDepth 100000 in
theorem rconc_bad (a : Option Addr) (len cap : Nat) (hm : len ≤ 140737488351232) (i : Int) (hi : ¬ (0 ≤ i ∧ i < len)) (origin : ByteArray) (w : World) :
    Calls Try.prog 16 #[.slice a len cap, .int .i64 i, .string origin] w fun e w' => e = .returned (.bool false) ∧ Below w.heap.size w w' := by
  have HB := Lib.hid (fun o => (Below.refl w.heap.size w).alloc (Nat.le_refl _) o)
  by_cases h0 : i < 0
  · go_enter Try.func16, Try.ntmps16
    go_wp2_with (fail)
    go_ret
    exact ⟨rfl, by exact Below.refl _ _⟩
  · have h1 : ¬ i < len := by omega
    clear hi
    go_enter Try.func16, Try.ntmps16
    go_wp2_with (fail)
    go_ret
    exact ⟨rfl, by exact Below.refl _ _⟩

def concV (fs : List FlowS) (i : Int) (origin : ByteArray) : Bool := if 0 ≤ i then concB fs i.toNat origin else false
theorem concV_any {w : World} {r : RulesS} (h : RulesAt w r) (i : Int) (origin : ByteArray) :
    Calls Try.prog 12 #[.slice r.a0 r.n0 r.c0, .int .i64 i, .string origin] w fun e w' => e = .returned (.bool (concV r.fl i origin)) ∧ Below w.heap.size w w' := by
  have hs := h.s0
  by_cases hi : 0 ≤ i ∧ i < r.n0
  · obtain ⟨f, hf⟩ : ∃ f, r.fl[i.toNat]? = some f := ⟨_, List.getElem?_eq_getElem (by rw [h.l0]; omega)⟩
    obtain ⟨b, off, hab, hbl, _⟩ := flowsAt_get h.fl hf
    have hall : ∀ j g, r.fl[j]? = some g → FlowAt w b (off + j * 12) g := fun j g hg => by
      obtain ⟨b', off', hab', _, hx⟩ := flowsAt_get h.fl hg
      rw [hab] at hab'
      injection hab' with e; injection e with e1 e2
      subst e1 e2
      exact hx
    have hv : concV r.fl i origin = concF r.fl f origin := by unfold concV concB; rw [if_pos hi.1, hf]
    rw [hv, hab]
    have := concerns_any r.fl f origin i.toNat b off r.n0 r.c0 w h.l0 hf (by omega) hall hbl
    rwa [show ((i.toNat : Nat) : Int) = i by omega] at this
  · have hv : concV r.fl i origin = false := by
      unfold concV concB
      split
      · rw [List.getElem?_eq_none (by rw [h.l0]; omega)]
      · rfl
    rw [hv]
    exact conc_bad _ _ _ (by omega) i hi origin w
theorem rconcV_any {w : World} {r : RulesS} (h : RulesAt w r) (i : Int) (origin : ByteArray) :
    Calls Try.prog 16 #[.slice r.a0 r.n0 r.c0, .int .i64 i, .string origin] w fun e w' => e = .returned (.bool (concV r.fl i origin)) ∧ Below w.heap.size w w' := by
  have hs := h.s0
  by_cases hi : 0 ≤ i ∧ i < r.n0
  · obtain ⟨f, hf⟩ : ∃ f, r.fl[i.toNat]? = some f := ⟨_, List.getElem?_eq_getElem (by rw [h.l0]; omega)⟩
    obtain ⟨b, off, hab, hbl, _⟩ := flowsAt_get h.fl hf
    have hall : ∀ j g, r.fl[j]? = some g → FlowAt w b (off + j * 12) g := fun j g hg => by
      obtain ⟨b', off', hab', _, hx⟩ := flowsAt_get h.fl hg
      rw [hab] at hab'
      injection hab' with e; injection e with e1 e2
      subst e1 e2
      exact hx
    have hv : concV r.fl i origin = concF r.fl f origin := by unfold concV concB; rw [if_pos hi.1, hf]
    rw [hv, hab]
    have := rconcerns_any r.fl f origin i.toNat b off r.n0 r.c0 w h.l0 hf (by omega) hall hbl
    rwa [show ((i.toNat : Nat) : Int) = i by omega] at this
  · have hv : concV r.fl i origin = false := by
      unfold concV concB
      split
      · rw [List.getElem?_eq_none (by rw [h.l0]; omega)]
      · rfl
    rw [hv]
    exact rconc_bad _ _ _ (by omega) i hi origin w

set_option maxHeartbeats 6400000 in
set_option maxRecDepth 100000 in
theorem rulesof_law {w : World} (r : RulesS) (hr : RulesAt w r) (kind : Int) (wk : (Lit.int .u8 kind).wf = true) (res origin : ByteArray) (number : Int) (wn : (Lit.int .i64 number).wf = true) :
    Calls Try.prog 6 #[r.v, .agg #[.int .u8 kind, .string res, .string origin, .int .i64 number]] w fun e w' => e = .returned (.bool true) ∧ Below w.heap.size w w' := by
  have HLV := Lib.hid (fun (w : World) => live_any w)
  have hBA : Below w.heap.size w ((w.alloc (.cells #[.slice r.a0 r.n0 r.c0, .slice r.a1 r.n1 r.c1, .slice r.a2 r.n2 r.c2, .slice r.a3 r.n3 r.c3, .slice r.a4 r.n4 r.c4] 28)).alloc (.cells #[.int .u8 kind, .string res, .string origin, .int .i64 number] 46)) := ((Below.refl _ _).alloc (Nat.le_refl _) _).alloc (by simp) _
  have H0 : ((w.alloc (.cells #[.slice r.a0 r.n0 r.c0, .slice r.a1 r.n1 r.c1, .slice r.a2 r.n2 r.c2, .slice r.a3 r.n3 r.c3, .slice r.a4 r.n4 r.c4] 28)).alloc (.cells #[.int .u8 kind, .string res, .string origin, .int .i64 number] 46)).heap[w.heap.size]? = some (.cells #[.slice r.a0 r.n0 r.c0, .slice r.a1 r.n1 r.c1, .slice r.a2 r.n2 r.c2, .slice r.a3 r.n3 r.c3, .slice r.a4 r.n4 r.c4] 28) := by rw [get_allocB, if_neg (by simp), get_allocB, if_pos rfl]
  have H1 : ((w.alloc (.cells #[.slice r.a0 r.n0 r.c0, .slice r.a1 r.n1 r.c1, .slice r.a2 r.n2 r.c2, .slice r.a3 r.n3 r.c3, .slice r.a4 r.n4 r.c4] 28)).alloc (.cells #[.int .u8 kind, .string res, .string origin, .int .i64 number] 46)).heap[w.heap.size + 1]? = some (.cells #[.int .u8 kind, .string res, .string origin, .int .i64 number] 46) := by rw [get_allocB, if_pos (by simp)]
  have Z0 : ((w.alloc (.cells #[.slice r.a0 r.n0 r.c0, .slice r.a1 r.n1 r.c1, .slice r.a2 r.n2 r.c2, .slice r.a3 r.n3 r.c3, .slice r.a4 r.n4 r.c4] 28)).alloc (.cells #[.int .u8 kind, .string res, .string origin, .int .i64 number] 46)).heap.size = w.heap.size + 2 := by simp
  have hv : r.v = .agg #[.slice r.a0 r.n0 r.c0, .slice r.a1 r.n1 r.c1, .slice r.a2 r.n2 r.c2, .slice r.a3 r.n3 r.c3, .slice r.a4 r.n4 r.c4] := rfl
  have HR0 := Lib.hid hr
  rw [hv]
  clear hv hr wk wn
  go_enter Try.func6, Try.ntmps6
  go_wp2_with (fail)
  generalize ((w.alloc (.cells #[.slice r.a0 r.n0 r.c0, .slice r.a1 r.n1 r.c1, .slice r.a2 r.n2 r.c2, .slice r.a3 r.n3 r.c3, .slice r.a4 r.n4 r.c4] 28)).alloc (.cells #[.int .u8 kind, .string res, .string origin, .int .i64 number] 46)) = wa at *
  have SB := Lib.hid (show ∀ wx : World, Below wa.heap.size wa wx → (fun wx => (wx.cell? ⟨w.heap.size, 0, none⟩ = some (.slice r.a0 r.n0 r.c0) ∧ wx.cell? ⟨w.heap.size, 1, none⟩ = some (.slice r.a1 r.n1 r.c1) ∧ wx.cell? ⟨w.heap.size, 2, none⟩ = some (.slice r.a2 r.n2 r.c2) ∧ wx.cell? ⟨w.heap.size, 3, none⟩ = some (.slice r.a3 r.n3 r.c3) ∧ wx.cell? ⟨w.heap.size, 4, none⟩ = some (.slice r.a4 r.n4 r.c4) ∧ wx.cell? ⟨w.heap.size + 1, 0, none⟩ = some (.int .u8 kind) ∧ wx.cell? ⟨w.heap.size + 1, 1, none⟩ = some (.string res) ∧ wx.cell? ⟨w.heap.size + 1, 2, none⟩ = some (.string origin) ∧ wx.cell? ⟨w.heap.size + 1, 3, none⟩ = some (.int .i64 number)) ∧ Below wa.heap.size wa wx) wx from fun wx hb => by
    have g0 : wx.heap[w.heap.size]? = some (.cells #[.slice r.a0 r.n0 r.c0, .slice r.a1 r.n1 r.c1, .slice r.a2 r.n2 r.c2, .slice r.a3 r.n3 r.c3, .slice r.a4 r.n4 r.c4] 28) := (hb.block _ (by omega)).trans H0
    have g1 : wx.heap[w.heap.size + 1]? = some (.cells #[.int .u8 kind, .string res, .string origin, .int .i64 number] 46) := (hb.block _ (by omega)).trans H1
    refine ⟨?_, hb⟩
    simp only [World.cell?, g0, g1]
    repeat' apply And.intro
    all_goals rfl)
  have HS0 := Lib.hid (SB.out _ (Below.refl _ _).drew)
  have HRB : Hid (∀ wx, Below wa.heap.size wa wx → RulesAt wx r) := fun wx hb => HR0.out.below (Nat.le_refl _) (hBA.trans (hb.mono (by omega)))
  have HOF : Hid (∀ wx, Below wa.heap.size wa wx → Calls Try.prog 14 #[.agg #[.slice r.a0 r.n0 r.c0, .slice r.a1 r.n1 r.c1, .slice r.a2 r.n2 r.c2, .slice r.a3 r.n3 r.c3, .slice r.a4 r.n4 r.c4], .int .u8 kind, .string res] wx (OfPost wx (ofR r kind res))) := fun wx hb => of_any (HRB.out wx hb) kind res
  have HRF : Hid (∀ wx, Below wa.heap.size wa wx → Calls Try.prog 15 #[.agg #[.slice r.a0 r.n0 r.c0, .slice r.a1 r.n1 r.c1, .slice r.a2 r.n2 r.c2, .slice r.a3 r.n3 r.c3, .slice r.a4 r.n4 r.c4], .int .u8 kind, .string res] wx (OfPost wx (ofR r kind res))) := fun wx hb => rof_any (HRB.out wx hb) kind res
  have HCO : Hid (∀ wx, Below wa.heap.size wa wx → _) := fun wx hb => concV_any (HRB.out wx hb) number origin
  have HRC : Hid (∀ wx, Below wa.heap.size wa wx → _) := fun wx hb => rconcV_any (HRB.out wx hb) number origin
  have HSM : Hid ((ofR r kind res).length ≤ 9223372036854775807) := by have h1 := ofFrom_len (hitR r kind res) (cntR r kind); have h2 := cntR_le HR0.out kind; unfold ofR; exact Nat.le_trans h1 (by omega)
  have HBA := Lib.hid hBA
  generalize concV r.fl number origin = CV at *
  generalize ofR r kind res = OL at *
  clear H0 H1 Z0 hBA HRB HR0
  refine wp_region_held_drew (S := fun wx => (wx.cell? ⟨w.heap.size, 0, none⟩ = some (.slice r.a0 r.n0 r.c0) ∧ wx.cell? ⟨w.heap.size, 1, none⟩ = some (.slice r.a1 r.n1 r.c1) ∧ wx.cell? ⟨w.heap.size, 2, none⟩ = some (.slice r.a2 r.n2 r.c2) ∧ wx.cell? ⟨w.heap.size, 3, none⟩ = some (.slice r.a3 r.n3 r.c3) ∧ wx.cell? ⟨w.heap.size, 4, none⟩ = some (.slice r.a4 r.n4 r.c4) ∧ wx.cell? ⟨w.heap.size + 1, 0, none⟩ = some (.int .u8 kind) ∧ wx.cell? ⟨w.heap.size + 1, 1, none⟩ = some (.string res) ∧ wx.cell? ⟨w.heap.size + 1, 2, none⟩ = some (.string origin) ∧ wx.cell? ⟨w.heap.size + 1, 3, none⟩ = some (.int .i64 number)) ∧ Below wa.heap.size wa wx) (by kernel_rfl) ?_ (fun hHeld => ?_)
  · exact HS0.out
  refine wpAnyH_ready (rs := [0]) (by kernel_rfl) (by simp) (AllReadyH.cons rfl (fun K hK => ?_) AllReadyH.nil)
  go_simp
  go_at_call 11; refine (HLV.out _).mono ?_; rintro e wq ⟨rfl, hbq⟩; have HBQ := Lib.hid hbq; clear hbq
  try (go_wp2_with fail)
  refine hK.out _ _ ?_ (fun hHeld => ?_)
  · exact SB.out _ ((Below.refl _ _).drew.trans (HBQ.out.mono (by show wa.heap.size ≤ _; exact Nat.le_refl _)))
  clear hK K
  try simp only [Act.put, List.getElem_toArray, List.getElem_cons_succ, List.getElem_cons_zero, List.setIfInBounds_toArray, List.set_cons_zero, List.set_cons_succ]
  refine wpAnyH_take (i := 1) (v := ?_) rfl (by kernel_rfl) (by kernel_rfl) (by kernel_rfl) (fun _ _ _ h => h) (Or.inl ⟨by rfl, ?hy⟩) (by assumption) ?_
  case hy => intro w hSw; (try dsimp only at hSw); go_simp; try with_reducible rfl
  try simp only [Act.put, List.getElem_toArray, List.getElem_cons_succ, List.getElem_cons_zero, List.setIfInBounds_toArray, List.set_cons_zero, List.set_cons_succ]
  refine wpAnyH_take (i := 2) (v := ?_) rfl (by kernel_rfl) (by kernel_rfl) (by kernel_rfl) (fun _ _ _ h => h) (Or.inl ⟨by rfl, ?hy⟩) (by assumption) ?_
  case hy => intro w hSw; (try dsimp only at hSw); go_simp; try with_reducible rfl
  try simp only [Act.put, List.getElem_toArray, List.getElem_cons_succ, List.getElem_cons_zero, List.setIfInBounds_toArray, List.set_cons_zero, List.set_cons_succ]
  refine wpAnyH_take (i := 3) (v := ?_) rfl (by kernel_rfl) (by kernel_rfl) (by kernel_rfl) (fun _ _ _ h => h) (Or.inl ⟨by rfl, ?hy⟩) (by assumption) ?_
  case hy => intro w hSw; (try dsimp only at hSw); go_simp; try with_reducible rfl
  try simp only [Act.put, List.getElem_toArray, List.getElem_cons_succ, List.getElem_cons_zero, List.setIfInBounds_toArray, List.set_cons_zero, List.set_cons_succ]
  refine wpAnyH_take (i := 4) (v := ?_) rfl (by kernel_rfl) (by kernel_rfl) (by kernel_rfl) (fun _ _ _ h => h) (Or.inl ⟨by rfl, ?hy⟩) (by assumption) ?_
  case hy => intro w hSw; (try dsimp only at hSw); go_simp; try with_reducible rfl
  try simp only [Act.put, List.getElem_toArray, List.getElem_cons_succ, List.getElem_cons_zero, List.setIfInBounds_toArray, List.set_cons_zero, List.set_cons_succ]
  refine wpAnyH_take (i := 5) (v := ?_) rfl (by kernel_rfl) (by kernel_rfl) (by kernel_rfl) (fun _ _ _ h => h) (Or.inl ⟨by rfl, ?hy⟩) (by assumption) ?_
  case hy => intro w hSw; (try dsimp only at hSw); go_simp; try with_reducible rfl
  try simp only [Act.put, List.getElem_toArray, List.getElem_cons_succ, List.getElem_cons_zero, List.setIfInBounds_toArray, List.set_cons_zero, List.set_cons_succ]
  refine wpAnyH_take (i := 6) (v := ?_) rfl (by kernel_rfl) (by kernel_rfl) (by kernel_rfl) (fun _ _ _ h => h) (Or.inl ⟨by rfl, ?hy⟩) (by assumption) ?_
  case hy => intro w hSw; (try dsimp only at hSw); go_simp; try with_reducible rfl
  try simp only [Act.put, List.getElem_toArray, List.getElem_cons_succ, List.getElem_cons_zero, List.setIfInBounds_toArray, List.set_cons_zero, List.set_cons_succ]
  refine wpAnyH_take (i := 8) (v := ?_) rfl (by kernel_rfl) (by kernel_rfl) (by kernel_rfl) (fun _ _ _ h => h) (Or.inl ⟨by rfl, ?hy⟩) (by assumption) ?_
  case hy => intro w hSw; (try dsimp only at hSw); go_simp; try with_reducible rfl
  try simp only [Act.put, List.getElem_toArray, List.getElem_cons_succ, List.getElem_cons_zero, List.setIfInBounds_toArray, List.set_cons_zero, List.set_cons_succ]
  refine wpAnyH_take (i := 9) (v := ?_) rfl (by kernel_rfl) (by kernel_rfl) (by kernel_rfl) (fun _ _ _ h => h) (Or.inl ⟨by rfl, ?hy⟩) (by assumption) ?_
  case hy => intro w hSw; (try dsimp only at hSw); go_simp; try with_reducible rfl
  try simp only [Act.put, List.getElem_toArray, List.getElem_cons_succ, List.getElem_cons_zero, List.setIfInBounds_toArray, List.set_cons_zero, List.set_cons_succ]
  refine wpAnyH_take (i := 10) (v := ?_) rfl (by kernel_rfl) (by kernel_rfl) (by kernel_rfl) (fun _ _ _ h => h) (Or.inl ⟨by rfl, ?hy⟩) (by assumption) ?_
  case hy => intro w hSw; (try dsimp only at hSw); go_simp; try with_reducible rfl
  try simp only [Act.put, List.getElem_toArray, List.getElem_cons_succ, List.getElem_cons_zero, List.setIfInBounds_toArray, List.set_cons_zero, List.set_cons_succ]
  refine wpAnyH_take (i := 11) (v := ?_) rfl (by kernel_rfl) (by kernel_rfl) (by kernel_rfl) (fun _ _ _ h => h) (Or.inl ⟨by rfl, ?hy⟩) (by assumption) ?_
  case hy => intro w hSw; (try dsimp only at hSw); go_simp; try with_reducible rfl
  try simp only [Act.put, List.getElem_toArray, List.getElem_cons_succ, List.getElem_cons_zero, List.setIfInBounds_toArray, List.set_cons_zero, List.set_cons_succ]
  refine wpAnyH_take (i := 12) (v := ?_) rfl (by kernel_rfl) (by kernel_rfl) (by kernel_rfl) (fun _ _ _ h => h) (Or.inl ⟨by rfl, ?hy⟩) (by assumption) ?_
  case hy => intro w hSw; (try dsimp only at hSw); go_simp; try with_reducible rfl
  try simp only [Act.put, List.getElem_toArray, List.getElem_cons_succ, List.getElem_cons_zero, List.setIfInBounds_toArray, List.set_cons_zero, List.set_cons_succ]
  refine wpAnyH_ready (rs := [7]) (by kernel_rfl) (by simp) (AllReadyH.cons rfl (fun K hK => ?_) AllReadyH.nil)
  go_simp
  go_at_call 14; refine (HOF.out _ hHeld.2).mono ?_; rintro e wq1 ⟨v1, rfl, ho1, hbq⟩; obtain ⟨va1, vc1, rfl, hi1⟩ := ints_own ho1; have HI1 := Lib.hid hi1; clear hi1 ho1; have HBQ := Lib.hid hbq; clear hbq
  try (go_wp2_with fail)
  refine hK.out _ _ ?_ (fun hHeld => ?_)
  · exact SB.out _ (hHeld.2.trans (HBQ.out.mono hHeld.2.size))
  clear hK K
  try simp only [Act.put, List.getElem_toArray, List.getElem_cons_succ, List.getElem_cons_zero, List.setIfInBounds_toArray, List.set_cons_zero, List.set_cons_succ]
  refine wpAnyH_ready (rs := [13]) (by kernel_rfl) (by simp) (AllReadyH.cons rfl (fun K hK => ?_) AllReadyH.nil)
  go_simp
  go_at_call 15; refine (HRF.out _ hHeld.2).mono ?_; rintro e wq2 ⟨v2, rfl, ho2, hbq⟩; obtain ⟨va2, vc2, rfl, hi2⟩ := ints_own ho2; have HI2 := Lib.hid hi2; have HI1b := Lib.hid (HI1.out.belowO hbq); clear hi2 ho2; have HBQ := Lib.hid hbq; clear hbq
  try (go_wp2_with fail)
  refine hK.out _ _ ?_ (fun hHeld => ?_)
  · exact SB.out _ (hHeld.2.trans (HBQ.out.mono hHeld.2.size))
  clear hK K
  try simp only [Act.put, List.getElem_toArray, List.getElem_cons_succ, List.getElem_cons_zero, List.setIfInBounds_toArray, List.set_cons_zero, List.set_cons_succ]
  refine wpAnyH_ready (rs := [14]) (by kernel_rfl) (by simp) (AllReadyH.cons rfl (fun K hK => ?_) AllReadyH.nil)
  go_simp
  go_at_call 13; refine (sameints_any _ _ _ _ _ _ _ _ rfl rfl HSM.out HI1b.out HI2.out).mono ?_; rintro e wq ⟨rfl, hbq⟩; rw [decide_eq_true rfl]; have HBQ := Lib.hid hbq; clear hbq
  try (go_wp2_with fail)
  refine hK.out _ _ ?_ (fun hHeld => ?_)
  · exact SB.out _ (hHeld.2.trans (HBQ.out.mono hHeld.2.size))
  clear hK K
  try simp only [Act.put, List.getElem_toArray, List.getElem_cons_succ, List.getElem_cons_zero, List.setIfInBounds_toArray, List.set_cons_zero, List.set_cons_succ]
  refine wpAnyH_take (i := 15) (v := ?_) rfl (by kernel_rfl) (by kernel_rfl) (by kernel_rfl) (fun _ _ _ h => h) (Or.inl ⟨by rfl, ?hy⟩) (by assumption) ?_
  case hy => intro w hSw; (try dsimp only at hSw); go_simp; try with_reducible rfl
  try simp only [Act.put, List.getElem_toArray, List.getElem_cons_succ, List.getElem_cons_zero, List.setIfInBounds_toArray, List.set_cons_zero, List.set_cons_succ]
  refine wpAnyH_take (i := 16) (v := ?_) rfl (by kernel_rfl) (by kernel_rfl) (by kernel_rfl) (fun _ _ _ h => h) (Or.inl ⟨by rfl, ?hy⟩) (by assumption) ?_
  case hy => intro w hSw; (try dsimp only at hSw); go_simp; try with_reducible rfl
  try simp only [Act.put, List.getElem_toArray, List.getElem_cons_succ, List.getElem_cons_zero, List.setIfInBounds_toArray, List.set_cons_zero, List.set_cons_succ]
  refine wpAnyH_take (i := 17) (v := ?_) rfl (by kernel_rfl) (by kernel_rfl) (by kernel_rfl) (fun _ _ _ h => h) (Or.inl ⟨by rfl, ?hy⟩) (by assumption) ?_
  case hy => intro w hSw; (try dsimp only at hSw); go_simp; try with_reducible rfl
  try simp only [Act.put, List.getElem_toArray, List.getElem_cons_succ, List.getElem_cons_zero, List.setIfInBounds_toArray, List.set_cons_zero, List.set_cons_succ]
  refine wpAnyH_take (i := 18) (v := ?_) rfl (by kernel_rfl) (by kernel_rfl) (by kernel_rfl) (fun _ _ _ h => h) (Or.inl ⟨by rfl, ?hy⟩) (by assumption) ?_
  case hy => intro w hSw; (try dsimp only at hSw); go_simp; try with_reducible rfl
  try simp only [Act.put, List.getElem_toArray, List.getElem_cons_succ, List.getElem_cons_zero, List.setIfInBounds_toArray, List.set_cons_zero, List.set_cons_succ]
  refine wpAnyH_take (i := 19) (v := ?_) rfl (by kernel_rfl) (by kernel_rfl) (by kernel_rfl) (fun _ _ _ h => h) (Or.inl ⟨by rfl, ?hy⟩) (by assumption) ?_
  case hy => intro w hSw; (try dsimp only at hSw); go_simp; try with_reducible rfl
  try simp only [Act.put, List.getElem_toArray, List.getElem_cons_succ, List.getElem_cons_zero, List.setIfInBounds_toArray, List.set_cons_zero, List.set_cons_succ]
  refine wpAnyH_take (i := 20) (v := ?_) rfl (by kernel_rfl) (by kernel_rfl) (by kernel_rfl) (fun _ _ _ h => h) (Or.inl ⟨by rfl, ?hy⟩) (by assumption) ?_
  case hy => intro w hSw; (try dsimp only at hSw); go_simp; try with_reducible rfl
  try simp only [Act.put, List.getElem_toArray, List.getElem_cons_succ, List.getElem_cons_zero, List.setIfInBounds_toArray, List.set_cons_zero, List.set_cons_succ]
  refine wpAnyH_take (i := 21) (v := ?_) rfl (by kernel_rfl) (by kernel_rfl) (by kernel_rfl) (fun _ _ _ h => h) (Or.inl ⟨by rfl, ?hy⟩) (by assumption) ?_
  case hy => intro w hSw; (try dsimp only at hSw); go_simp; try with_reducible rfl
  try simp only [Act.put, List.getElem_toArray, List.getElem_cons_succ, List.getElem_cons_zero, List.setIfInBounds_toArray, List.set_cons_zero, List.set_cons_succ]
  refine wpAnyH_take (i := 22) (v := ?_) rfl (by kernel_rfl) (by kernel_rfl) (by kernel_rfl) (fun _ _ _ h => h) (Or.inl ⟨by rfl, ?hy⟩) (by assumption) ?_
  case hy => intro w hSw; (try dsimp only at hSw); go_simp; try with_reducible rfl
  try simp only [Act.put, List.getElem_toArray, List.getElem_cons_succ, List.getElem_cons_zero, List.setIfInBounds_toArray, List.set_cons_zero, List.set_cons_succ]
  refine wpAnyH_take (i := 24) (v := ?_) rfl (by kernel_rfl) (by kernel_rfl) (by kernel_rfl) (fun _ _ _ h => h) (Or.inl ⟨by rfl, ?hy⟩) (by assumption) ?_
  case hy => intro w hSw; (try dsimp only at hSw); go_simp; try with_reducible rfl
  try simp only [Act.put, List.getElem_toArray, List.getElem_cons_succ, List.getElem_cons_zero, List.setIfInBounds_toArray, List.set_cons_zero, List.set_cons_succ]
  refine wpAnyH_take (i := 25) (v := ?_) rfl (by kernel_rfl) (by kernel_rfl) (by kernel_rfl) (fun _ _ _ h => h) (Or.inl ⟨by rfl, ?hy⟩) (by assumption) ?_
  case hy => intro w hSw; (try dsimp only at hSw); go_simp; try with_reducible rfl
  try simp only [Act.put, List.getElem_toArray, List.getElem_cons_succ, List.getElem_cons_zero, List.setIfInBounds_toArray, List.set_cons_zero, List.set_cons_succ]
  refine wpAnyH_take (i := 26) (v := ?_) rfl (by kernel_rfl) (by kernel_rfl) (by kernel_rfl) (fun _ _ _ h => h) (Or.inl ⟨by rfl, ?hy⟩) (by assumption) ?_
  case hy => intro w hSw; (try dsimp only at hSw); go_simp; try with_reducible rfl
  try simp only [Act.put, List.getElem_toArray, List.getElem_cons_succ, List.getElem_cons_zero, List.setIfInBounds_toArray, List.set_cons_zero, List.set_cons_succ]
  refine wpAnyH_take (i := 27) (v := ?_) rfl (by kernel_rfl) (by kernel_rfl) (by kernel_rfl) (fun _ _ _ h => h) (Or.inl ⟨by rfl, ?hy⟩) (by assumption) ?_
  case hy => intro w hSw; (try dsimp only at hSw); go_simp; try with_reducible rfl
  try simp only [Act.put, List.getElem_toArray, List.getElem_cons_succ, List.getElem_cons_zero, List.setIfInBounds_toArray, List.set_cons_zero, List.set_cons_succ]
  refine wpAnyH_take (i := 28) (v := ?_) rfl (by kernel_rfl) (by kernel_rfl) (by kernel_rfl) (fun _ _ _ h => h) (Or.inl ⟨by rfl, ?hy⟩) (by assumption) ?_
  case hy => intro w hSw; (try dsimp only at hSw); go_simp; try with_reducible rfl
  try simp only [Act.put, List.getElem_toArray, List.getElem_cons_succ, List.getElem_cons_zero, List.setIfInBounds_toArray, List.set_cons_zero, List.set_cons_succ]
  refine wpAnyH_take (i := 29) (v := ?_) rfl (by kernel_rfl) (by kernel_rfl) (by kernel_rfl) (fun _ _ _ h => h) (Or.inl ⟨by rfl, ?hy⟩) (by assumption) ?_
  case hy => intro w hSw; (try dsimp only at hSw); go_simp; try with_reducible rfl
  try simp only [Act.put, List.getElem_toArray, List.getElem_cons_succ, List.getElem_cons_zero, List.setIfInBounds_toArray, List.set_cons_zero, List.set_cons_succ]
  refine wpAnyH_ready (rs := [23]) (by kernel_rfl) (by simp) (AllReadyH.cons rfl (fun K hK => ?_) AllReadyH.nil)
  go_simp
  go_at_call 12; refine (HCO.out _ hHeld.2).mono ?_; rintro e wq ⟨rfl, hbq⟩; have HBQ := Lib.hid hbq; clear hbq
  try (go_wp2_with fail)
  refine hK.out _ _ ?_ (fun hHeld => ?_)
  · exact SB.out _ (hHeld.2.trans (HBQ.out.mono hHeld.2.size))
  clear hK K
  try simp only [Act.put, List.getElem_toArray, List.getElem_cons_succ, List.getElem_cons_zero, List.setIfInBounds_toArray, List.set_cons_zero, List.set_cons_succ]
  refine wpAnyH_ready (rs := [30]) (by kernel_rfl) (by simp) (AllReadyH.cons rfl (fun K hK => ?_) AllReadyH.nil)
  go_simp
  go_at_call 16; refine (HRC.out _ hHeld.2).mono ?_; rintro e wq ⟨rfl, hbq⟩; have HBQ := Lib.hid hbq; clear hbq
  try (go_wp2_with fail)
  refine hK.out _ _ ?_ (fun hHeld => ?_)
  · exact SB.out _ (hHeld.2.trans (HBQ.out.mono hHeld.2.size))
  clear hK K
  try simp only [Act.put, List.getElem_toArray, List.getElem_cons_succ, List.getElem_cons_zero, List.setIfInBounds_toArray, List.set_cons_zero, List.set_cons_succ]
  refine wpAnyH_take (i := 31) (v := ?_) rfl (by kernel_rfl) (by kernel_rfl) (by kernel_rfl) (fun _ _ _ h => h) (Or.inl ⟨by rfl, ?hy⟩) (by assumption) ?_
  case hy => intro w hSw; (try dsimp only at hSw); go_simp; try with_reducible rfl
  try simp only [Act.put, List.getElem_toArray, List.getElem_cons_succ, List.getElem_cons_zero, List.setIfInBounds_toArray, List.set_cons_zero, List.set_cons_succ]
  refine wpAnyH_take (i := 32) (v := ?_) rfl (by kernel_rfl) (by kernel_rfl) (by kernel_rfl) (fun _ _ _ h => h) (Or.inl ⟨by rfl, ?hy⟩) (by assumption) ?_
  case hy => intro w hSw; (try dsimp only at hSw); go_simp; try with_reducible rfl
  try simp only [Act.put, List.getElem_toArray, List.getElem_cons_succ, List.getElem_cons_zero, List.setIfInBounds_toArray, List.set_cons_zero, List.set_cons_succ]
  refine wpAnyH_take (i := 33) (v := ?_) rfl (by kernel_rfl) (by kernel_rfl) (by kernel_rfl) (fun _ _ _ h => h) (Or.inl ⟨by rfl, ?hy⟩) (by assumption) ?_
  case hy => intro w hSw; (try dsimp only at hSw); go_simp; try with_reducible rfl
  try simp only [Act.put, List.getElem_toArray, List.getElem_cons_succ, List.getElem_cons_zero, List.setIfInBounds_toArray, List.set_cons_zero, List.set_cons_succ]
  refine wpAnyH_done (by kernel_rfl) ?_ _
  go_wp2_with (fail)
  go_ret
  exact ⟨rfl, HBA.out.trans (hHeld.2.mono HBA.out.size)⟩
end Go.Proofs.Ytpgjaaekpaeajaa
