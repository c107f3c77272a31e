/- The laws of the layer warmup: WarmRuns: a deed on both. -/
import Derived.Test.YtfcmacibblkdkaaWarmT
import Derived.Test.YtfcmacibblkdkaaGrown2
namespace Go.Proofs.Ytfcmacibblkdkaa
open Go.RowKit
set_option linter.unusedVariables false
set_option linter.unusedSimpArgs false

/-- Both stand alike. -/
structure BothAt (w : World) (b c : Nat) (s : WarmS) : Prop where
  p : WarmAt w b s
  r : RWarmAt w c s
  ok : WarmOk s
theorem BothAt.below {w w' : World} {b c : Nat} {s : WarmS} (h : BothAt w b c s) (k : Below w.heap.size w w') : BothAt w' b c s := ⟨h.p.below k, h.r.below k, h.ok⟩
theorem WarmAt.two {w w' : World} {g b c : Nat} {s : WarmS} (h : WarmAt w g s) (k : Grown2 w w' b c) (h1 : g ≠ b) (h2 : g ≠ c) : WarmAt w' g s := h.of_block (k.block g h.lt h1 h2) k.size
theorem RWarmAt.two {w w' : World} {g b c : Nat} {s : WarmS} (h : RWarmAt w g s) (k : Grown2 w w' b c) (h1 : g ≠ b) (h2 : g ≠ c) : RWarmAt w' g s := h.of_block (k.block g h.lt h1 h2) k.size
theorem BothAt.two {w w' : World} {g h b c : Nat} {s : WarmS} (q : BothAt w g h s) (k : Grown2 w w' b c) (h1 : g ≠ b) (h2 : g ≠ c) (h3 : h ≠ b) (h4 : h ≠ c) : BothAt w' g h s := ⟨q.p.two k h1 h2, q.r.two k h3 h4, q.ok⟩

set_option maxHeartbeats 1600000 in
theorem walike_any (b c : Nat) (s : WarmS) (w : World) (h : BothAt w b c s) :
    Calls Try.prog 22 #[.agg #[.pointer (some ⟨b, 0, none⟩), .pointer (some ⟨c, 0, none⟩)]] w fun e w' => e = .returned (.bool true) ∧ Below w.heap.size w w' := by
  have Hm := Lib.hid (fun (w : World) h => wmarks_any b s w h)
  have Hr := Lib.hid (fun (w : World) (hh : RWarmAt w c s) => rmarks_any c s w hh h.ok)
  have Ht := Lib.hid (fun (w : World) h => wtokens_any b s w h)
  have Hl := Lib.hid (fun (w : World) h => wlast_any b s w h)
  have H := Lib.hid h
  clear h
  generalize warnOf s = WA at *
  generalize allOf s = AL at *
  have eWA : (WA == WA) = true := by simp
  have eAL : (AL == AL) = true := by simp
  have eT : (s.tokens == s.tokens) = true := by simp
  have eL : (s.last == s.last) = true := by simp
  go_enter Try.func22, Try.ntmps22
  go_wp2_with (fail)
  have B1 := (Below.refl w.heap.size w).alloc (Nat.le_refl _) (.cells #[.pointer (some ⟨b, 0, none⟩), .pointer (some ⟨c, 0, none⟩)] 49)
  refine (Hm.out _ (H.out.p.below B1)).mono ?_
  rintro e w1 ⟨rfl, hb1⟩
  have L1 := B1.trans (hb1.mono B1.size)
  have z1 := hb1.size
  simp at z1
  have d0 : w1.cell? ⟨w.heap.size, 0, none⟩ = some (.pointer (some ⟨b, 0, none⟩)) := (hb1.cell (p := ⟨w.heap.size, 0, none⟩) (by simp)).trans (by simp [go_sem])
  have d1 : w1.cell? ⟨w.heap.size, 1, none⟩ = some (.pointer (some ⟨c, 0, none⟩)) := (hb1.cell (p := ⟨w.heap.size, 1, none⟩) (by simp)).trans (by simp [go_sem])
  go_wp2_with (fail)
  refine (Hr.out _ (H.out.r.below L1)).mono ?_
  rintro e w2 ⟨rfl, m, rfl⟩
  have L2 := below_drewN L1 m
  have P2 := Lib.hid (H.out.p.below L2)
  have c2 := (H.out.r.below L2).c2
  have c4 := (H.out.r.below L2).c4
  have d0' : (w1.drewN m).cell? ⟨w.heap.size, 0, none⟩ = some (.pointer (some ⟨b, 0, none⟩)) := d0
  have d1' : (w1.drewN m).cell? ⟨w.heap.size, 1, none⟩ = some (.pointer (some ⟨c, 0, none⟩)) := d1
  clear d0 d1
  generalize w1.drewN m = W2 at *
  go_wp2_with (fail)
  go_quiet (first
    | (go_at_call 13; refine Calls.quiet_of_same ((Ht.out _ (P2.out.below (below_drewN (Below.refl _ _) _))).mono fun e w' h => ⟨h.1, h.2.symm⟩))
    | (go_at_call 17; refine Calls.quiet_of_same ((Hl.out _ (P2.out.below (below_drewN (Below.refl _ _) _))).mono fun e w' h => ⟨h.1, h.2.symm⟩)))
  go_wp2_with (fail)
  go_ret
  exact ⟨rfl, below_drewN L2 _⟩
end Go.Proofs.Ytfcmacibblkdkaa
