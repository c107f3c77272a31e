/- The laws of the layer rules: RulesOrigins. -/
import Derived.Test.YtpgjaaekpaeajaaRuI
import Derived.Test.YtpgjaaekpaeajaaConcB
import Derived.Test.YtpgjaaekpaeajaaFlowsIn
namespace Go.Proofs.Ytpgjaaekpaeajaa
open Go.RowKit
set_option linter.unusedVariables false
set_option linter.unusedSimpArgs false

theorem any_take_next {p : FlowS → Bool} {fs : List FlowS} {k : Nat} {g : FlowS} (hg : fs[k]? = some g) : (fs.take (k + 1)).any p = ((fs.take k).any p || p g) := by
  rw [List.take_add_one, hg, Option.toList_some, List.any_append]
  simp

set_option maxHeartbeats 6400000 in
set_option maxRecDepth 100000 in
theorem origins_law (w : World) (fs : List FlowS) (a : Option Addr) (len cap : Nat) (hl : fs.length = len) (hm : len * 8 ≤ 140737488351232) (hf : FlowsAt w a fs) (origin : ByteArray) :
    Calls Try.prog 4 #[.slice a len cap, .string origin] w fun e w' => e = .returned (.bool true) ∧ Below w.heap.size w w' := by
  have Hl := Lib.hid hl
  have Hf := Lib.hid hf
  have HLV := Lib.hid (fun (w : World) => live_any w)
  clear hl hf
  go_enter Try.func4, Try.ntmps4
  go_wp2_with (fail)
  go_loopw [5, 6, 7, 8] (fun x x6 x7 x8 wr => ∃ i : Nat, i ≤ len ∧ x = .int .i64 i ∧ Below w.heap.size w wr) (fun x _ _ _ _ => len - (intOf x).toNat)
  case atStart => exact ⟨0, Nat.zero_le _, rfl, Below.refl _ _⟩
  case round =>
    rename World => wy
    obtain ⟨i, hi, rfl, hby⟩ := hrel
    by_cases hlt : i < len
    · rcases Hf.out with h | ⟨b, off, rfl, hbl, hc⟩
      · exfalso; have := Hl.out; subst h; simp at this; omega
      · obtain ⟨f, hfi⟩ : ∃ f, fs[i]? = some f := ⟨_, List.getElem?_eq_getElem (by rw [Hl.out]; exact hlt)⟩
        have i0 : (0 : Int) ≤ i := by omega
        have i1 : (i : Int) < len := by omega
        have HF := Lib.hid (hc i f hfi)
        have HC := Lib.hid hc
        have HI := Lib.hid hfi
        have HBY := Lib.hid hby
        have L4 := Lib.hid hbl
        clear hc hfi hby
        go_wp2_with (fail)
        go_loopw [6, 7] (fun x6 x7 wr => ∃ k : Nat, k ≤ len ∧ x7 = .int .i64 k ∧ x6 = .bool ((fs.take k).any (fun g => ownB g f.res origin)) ∧ Below w.heap.size w wr) (fun _ x _ => len - (intOf x).toNat)
        case atStart => exact ⟨0, Nat.zero_le _, rfl, rfl, HBY.out⟩
        case round =>
          rename World => wz
          obtain ⟨k, hk, rfl, rfl, hbz⟩ := hrel
          by_cases hlt2 : k < len
          · obtain ⟨g, hg⟩ : ∃ g, fs[k]? = some g := ⟨_, List.getElem?_eq_getElem (by rw [Hl.out]; exact hlt2)⟩
            obtain ⟨d0, d1, d2, d3, d4, d5, d6, d7, d8, d9, d10, d11⟩ := (HC.out k g hg).of_block (hbz.block b L4.out)
            obtain ⟨e0, e1, e2, e3, e4, e5, e6, e7, e8, e9, e10, e11⟩ := HF.out.of_block (hbz.block b L4.out)
            have Hst := Lib.hid (any_take_next (p := fun g => ownB g f.res origin) hg)
            have m0 : (0 : Int) ≤ k := by omega
            have m1 : (k : Int) < len := by omega
            clear hg
            clear d2 d3 d4 d5 d6 d7 d8 d9 d10 d11 e1 e2 e3 e4 e5 e6 e7 e8 e9 e10 e11
            unfold ownB at Hst
            rw [show defaultL = [100, 101, 102, 97, 117, 108, 116] from rfl, show otherL = [111, 116, 104, 101, 114] from rfl] at Hst
            have HOW := Lib.hid Hst.out
            clear Hst
            cases hown : (fs.take k).any (fun g => ownB g f.res origin)
            · unfold ownB at hown
              rw [show defaultL = [100, 101, 102, 97, 117, 108, 116] from rfl, show otherL = [111, 116, 104, 101, 114] from rfl] at hown
              rw [hown] at HOW
              clear hown
              unfold ownB
              rw [show defaultL = [100, 101, 102, 97, 117, 108, 116] from rfl, show otherL = [111, 116, 104, 101, 114] from rfl]
              cases g1 : (g.res.toList == f.res.toList)
              · rw [g1] at HOW
                go_wp2_with (fail)
                go_quiet (fail)
                go_wp2_with (fail)
                exact ⟨⟨k + 1, by omega, by go_num, by rw [HOW.out]; rfl, below_drewF hbz _⟩, by simp [intOf]; omega⟩
              · cases g2 : (g.org.toList == origin.toList)
                · rw [g1, g2] at HOW
                  go_wp2_with (fail)
                  go_quiet (fail)
                  go_wp2_with (fail)
                  exact ⟨⟨k + 1, by omega, by go_num, by rw [HOW.out]; rfl, below_drewF hbz _⟩, by simp [intOf]; omega⟩
                · cases g3 : (origin.toList == [100, 101, 102, 97, 117, 108, 116])
                  · cases g4 : (origin.toList == [111, 116, 104, 101, 114])
                    · rw [g1, g2, g3, g4] at HOW
                      go_wp2_with (fail)
                      go_quiet (fail)
                      go_wp2_with (fail)
                      exact ⟨⟨k + 1, by omega, by go_num, by rw [HOW.out]; rfl, below_drewF hbz _⟩, by simp [intOf]; omega⟩
                    · rw [g1, g2, g3, g4] at HOW
                      go_wp2_with (fail)
                      go_quiet (fail)
                      go_wp2_with (fail)
                      exact ⟨⟨k + 1, by omega, by go_num, by rw [HOW.out]; rfl, below_drewF hbz _⟩, by simp [intOf]; omega⟩
                  · rw [g1, g2, g3] at HOW
                    go_wp2_with (fail)
                    go_quiet (fail)
                    go_wp2_with (fail)
                    exact ⟨⟨k + 1, by omega, by go_num, by rw [HOW.out]; rfl, below_drewF hbz _⟩, by simp [intOf]; omega⟩
            · unfold ownB at hown
              rw [show defaultL = [100, 101, 102, 97, 117, 108, 116] from rfl, show otherL = [111, 116, 104, 101, 114] from rfl] at hown
              rw [hown] at HOW
              clear hown
              unfold ownB
              rw [show defaultL = [100, 101, 102, 97, 117, 108, 116] from rfl, show otherL = [111, 116, 104, 101, 114] from rfl]
              go_wp2_with (fail)
              go_quiet (fail)
              go_wp2_with (fail)
              exact ⟨⟨k + 1, by omega, by go_num, by rw [HOW.out]; rfl, below_drewF hbz _⟩, by simp [intOf]; omega⟩
          · have m1 : ¬ (k : Int) < len := by omega
            have hall : (fs.take k).any (fun g => ownB g f.res origin) = fs.any (fun g => ownB g f.res origin) := by rw [List.take_of_length_le (by rw [Hl.out]; omega)]
            rw [hall]
            have HX := Lib.hid (concerns_any fs f origin i b off len cap wz Hl.out HI.out (by omega) (fun j g hg => (HC.out j g hg).of_block (hbz.block b L4.out)) (Nat.lt_of_lt_of_le L4.out hbz.size))
            obtain ⟨e0, e1, e2, e3, e4, e5, e6, e7, e8, e9, e10, e11⟩ := HF.out.of_block (hbz.block b L4.out)
            unfold concF at HX
            rw [show defaultL = [100, 101, 102, 97, 117, 108, 116] from rfl, show otherL = [111, 116, 104, 101, 114] from rfl] at HX
            have HE := Lib.hid (fun w' (h : Below wz.heap.size wz w') => (World.cell?_of_block (a := ⟨b, off + i * 12 + 1, none⟩) (h.block b (Nat.lt_of_lt_of_le L4.out hbz.size))).trans e1)
            generalize fs.any (fun g => ownB g f.res origin) = OW at *
            clear e0 e2 e3 e4 e5 e6 e7 e8 e9 e10 e11 hall
            have HBZ := Lib.hid hbz
            clear hbz
            cases h1 : (f.org.toList == [100, 101, 102, 97, 117, 108, 116])
            · cases h3 : (f.org.toList == [111, 116, 104, 101, 114])
              · go_wp2_with (fail)
                refine HX.out.mono ?_
                rintro e wb ⟨rfl, hb⟩
                have e1 := HE.out wb hb
                have HB := Lib.hid (HBZ.out.trans (hb.mono HBZ.out.size))
                clear hb
                go_wp2_with (fail)
                exact ⟨⟨i + 1, by omega, by go_num, HB.out⟩, by simp [intOf]; omega⟩
              · cases h4 : (origin.toList == [111, 116, 104, 101, 114])
                · have h2 : (f.org.toList == origin.toList) = false := by
                    rw [beq_iff_eq.1 h3]
                    apply Bool.eq_false_iff.2
                    intro h
                    rw [← beq_iff_eq.1 h] at h4
                    simp at h4
                  rw [h1, h2, h3] at HX
                  cases OW
                  · go_wp2_with (fail)
                    refine HX.out.mono ?_
                    rintro e wb ⟨rfl, hb⟩
                    have e1 := HE.out wb hb
                    have HB := Lib.hid (HBZ.out.trans (hb.mono HBZ.out.size))
                    clear hb
                    go_wp2_with (fail)
                    exact ⟨⟨i + 1, by omega, by go_num, HB.out⟩, by simp [intOf]; omega⟩
                  · go_wp2_with (fail)
                    refine HX.out.mono ?_
                    rintro e wb ⟨rfl, hb⟩
                    have e1 := HE.out wb hb
                    have HB := Lib.hid (HBZ.out.trans (hb.mono HBZ.out.size))
                    clear hb
                    go_wp2_with (fail)
                    exact ⟨⟨i + 1, by omega, by go_num, HB.out⟩, by simp [intOf]; omega⟩
                · go_wp2_with (fail)
                  refine HX.out.mono ?_
                  rintro e wb ⟨rfl, hb⟩
                  have e1 := HE.out wb hb
                  have HB := Lib.hid (HBZ.out.trans (hb.mono HBZ.out.size))
                  clear hb
                  go_wp2_with (fail)
                  exact ⟨⟨i + 1, by omega, by go_num, HB.out⟩, by simp [intOf]; omega⟩
            · have h3 : (f.org.toList == [111, 116, 104, 101, 114]) = false := by rw [beq_iff_eq.1 h1]; rfl
              rw [h1] at HX
              go_wp2_with (fail)
              refine HX.out.mono ?_
              rintro e wb ⟨rfl, hb⟩
              have e1 := HE.out wb hb
              have HB := Lib.hid (HBZ.out.trans (hb.mono HBZ.out.size))
              clear hb
              go_wp2_with (fail)
              exact ⟨⟨i + 1, by omega, by go_num, HB.out⟩, by simp [intOf]; omega⟩
    · have i1 : ¬ (i : Int) < len := by omega
      have HX := Lib.hid (HLV.out wy)
      go_wp2_with (fail)
      refine HX.out.mono ?_
      rintro e wb ⟨rfl, hb⟩
      go_wp2_with (fail)
      go_ret
      exact ⟨rfl, hby.trans (hb.mono hby.size)⟩

theorem origins_walk (w : World) (a : Option Addr) (len cap : Nat) (V : Nat → Nat → Value) (hm : len ≤ 140737488351232) (hr : RecsAt w a 12 len V) (hB : len * 120 ≤ 140737488351232)
    (f0 : ∀ j, j < len → V j 0 = .string (strOf (V j 0))) (f1 : ∀ j, j < len → V j 1 = .string (strOf (V j 1))) (f2 : ∀ j, j < len → V j 2 = .bool (boolOf (V j 2)))
    (f3 : ∀ j, j < len → V j 3 = .int .i64 (intOf (V j 3)) ∧ (Lit.int .i64 (intOf (V j 3))).wf = true) (f4 : ∀ j, j < len → V j 4 = .int .u8 (intOf (V j 4)) ∧ (Lit.int .u8 (intOf (V j 4))).wf = true)
    (f5 : ∀ j, j < len → V j 5 = .string (strOf (V j 5))) (f6 : ∀ j, j < len → V j 6 = .int .u8 (intOf (V j 6)) ∧ (Lit.int .u8 (intOf (V j 6))).wf = true)
    (f7 : ∀ j, j < len → V j 7 = .int .i64 (intOf (V j 7)) ∧ (Lit.int .i64 (intOf (V j 7))).wf = true) (f8 : ∀ j, j < len → V j 8 = .int .i64 (intOf (V j 8)) ∧ (Lit.int .i64 (intOf (V j 8))).wf = true)
    (f9 : ∀ j, j < len → V j 9 = .bool (boolOf (V j 9))) (f10 : ∀ j, j < len → V j 10 = .int .i64 (intOf (V j 10)) ∧ (Lit.int .i64 (intOf (V j 10))).wf = true) (f11 : ∀ j, j < len → V j 11 = .bool (boolOf (V j 11)))
    (origin : ByteArray) (hz : origin.size ≤ maxLen) :
    Calls Try.prog 4 #[.slice a len cap, .string origin] w fun e w' => e = .returned (.bool true) ∧ Below w.heap.size w w' :=
  origins_law w (flowsOf V len) a len cap (flowsOf_length V len) (by omega) (flows_at hr f0 f1 f2 f3 f4 f5 f6 f7 f8 f9 f10 f11) origin
end Go.Proofs.Ytpgjaaekpaeajaa
