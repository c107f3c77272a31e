/- Concerns, by the document: the loop over the rules. -/
import Derived.Test.YtpgjaaekpaeajaaConcA
namespace Go.Proofs.Ytpgjaaekpaeajaa
open Go.RowKit
set_option linter.unusedVariables false
set_option linter.unusedSimpArgs false

set_option maxHeartbeats 6400000 in
set_option maxRecDepth 100000 in
theorem rconcerns_any (fs : List FlowS) (f : FlowS) (origin : ByteArray) (i b off len cap : Nat) (w : World) (hl : fs.length = len) (hlt : fs[i]? = some f) (hm : len ≤ 140737488351232)
    (hf : ∀ j g, fs[j]? = some g → FlowAt w b (off + j * 12) g) (l4 : b < w.heap.size) :
    Calls Try.prog 16 #[.slice (some ⟨b, off, none⟩) len cap, .int .i64 i, .string origin] w fun e w' => e = .returned (.bool (concF fs f origin)) ∧ Below w.heap.size w w' := by
  have hil : i < len := by
    rw [← hl]; exact (List.getElem?_eq_some_iff.1 hlt).1
  have HF := Lib.hid (hf i f hlt)
  have c1 := HF.out.c1
  have k0 : (0 : Int) ≤ i := by omega
  have k1 : (i : Int) < len := by omega
  have Hf := Lib.hid hf
  have Hl := Lib.hid hl
  have L4 := Lib.hid l4
  unfold concF
  rw [show defaultL = [100, 101, 102, 97, 117, 108, 116] from rfl, show otherL = [111, 116, 104, 101, 114] from rfl]
  clear hl hlt hf hil l4
  cases h1 : (f.org.toList == [100, 101, 102, 97, 117, 108, 116])
  · cases h2 : (f.org.toList == origin.toList)
    · cases h3 : (f.org.toList == [111, 116, 104, 101, 114])
      · go_enter Try.func16, Try.ntmps16
        go_wp2_with (fail)
        go_ret
        exact ⟨rfl, Below.refl _ _⟩
      · go_enter Try.func16, Try.ntmps16
        go_wp2_with (fail)
        go_loopw [7] (fun x wr => ∃ k : Nat, k ≤ len ∧ x = .int .i64 k ∧ Hid ((fs.take k).any (fun g => ownB g f.res origin) = false) ∧ Below w.heap.size w wr) (fun x _ => len - (intOf x).toNat)
        case atStart => exact ⟨0, Nat.zero_le _, rfl, rfl, Below.refl _ _⟩
        case round =>
          obtain ⟨k, hk, rfl, ha, hbr⟩ := hrel
          by_cases hlt : k < len
          · obtain ⟨g, hg⟩ : ∃ g, fs[k]? = some g := ⟨_, List.getElem?_eq_getElem (by rw [Hl.out]; exact hlt)⟩
            obtain ⟨d0, d1, d2, d3, d4, d5, d6, d7, d8, d9, d10, d11⟩ := (Hf.out k g hg).of_block (hbr.block b L4.out)
            obtain ⟨e0, e1, e2, e3, e4, e5, e6, e7, e8, e9, e10, e11⟩ := HF.out.of_block (hbr.block b L4.out)
            have Hst := Lib.hid (fun hp => any_take_step (p := fun g => ownB g f.res origin) ha.out hg hp)
            have Hhit := Lib.hid (fun hp => any_hit (p := fun g => ownB g f.res origin) hg hp)
            have m0 : (0 : Int) ≤ k := by omega
            have m1 : (k : Int) < len := by omega
            clear hg c1
            clear d2 d3 d4 d5 d6 d7 d8 d9 d10 d11 e1 e2 e3 e4 e5 e6 e7 e8 e9 e10 e11
            unfold ownB at Hst Hhit
            rw [show defaultL = [100, 101, 102, 97, 117, 108, 116] from rfl, show otherL = [111, 116, 104, 101, 114] from rfl] at Hst Hhit
            cases g1 : (g.res.toList == f.res.toList)
            · have HT := Hst.out (by simp only [g1]; rfl)
              have HT := Lib.hid HT
              clear Hst Hhit
              go_wp2_with (fail)
              go_quiet (fail)
              go_wp2_with (fail)
              exact ⟨⟨k + 1, by omega, by go_num, HT, below_drewF hbr _⟩, by simp [intOf]; omega⟩
            · cases g2 : (g.org.toList == origin.toList)
              · have HT := Hst.out (by simp only [g1, g2]; rfl)
                have HT := Lib.hid HT
                clear Hst Hhit
                go_wp2_with (fail)
                go_quiet (fail)
                go_wp2_with (fail)
                exact ⟨⟨k + 1, by omega, by go_num, HT, below_drewF hbr _⟩, by simp [intOf]; omega⟩
              · have ge : g.org.toList = origin.toList := beq_iff_eq.1 g2
                cases g3 : (g.org.toList == [100, 101, 102, 97, 117, 108, 116])
                · cases g4 : (g.org.toList == [111, 116, 104, 101, 114])
                  · have HT := Hhit.out (by simp only [g1, g2]; rw [← ge, g3, g4]; rfl)
                    have HT := Lib.hid HT
                    clear Hst Hhit ge
                    go_wp2_with (fail)
                    go_quiet (fail)
                    go_wp2_with (fail)
                    go_ret
                    unfold ownB
                    rw [show defaultL = [100, 101, 102, 97, 117, 108, 116] from rfl, show otherL = [111, 116, 104, 101, 114] from rfl]
                    exact ⟨by rw [HT.out]; rfl, below_drewF hbr _⟩
                  · have HT := Hst.out (by simp only [g1, g2]; rw [← ge, g3, g4]; rfl)
                    have HT := Lib.hid HT
                    clear Hst Hhit ge
                    go_wp2_with (fail)
                    go_quiet (fail)
                    go_wp2_with (fail)
                    exact ⟨⟨k + 1, by omega, by go_num, HT, below_drewF hbr _⟩, by simp [intOf]; omega⟩
                · have HT := Hst.out (by simp only [g1, g2]; rw [← ge, g3]; rfl)
                  have HT := Lib.hid HT
                  clear Hst Hhit ge
                  go_wp2_with (fail)
                  go_quiet (fail)
                  go_wp2_with (fail)
                  exact ⟨⟨k + 1, by omega, by go_num, HT, below_drewF hbr _⟩, by simp [intOf]; omega⟩
          · have hkl : k = len := by omega
            subst hkl
            have hall : Hid (fs.any (fun g => ownB g f.res origin) = false) := by have := ha.out; rwa [List.take_of_length_le (by rw [Hl.out]; exact Nat.le_refl _)] at this
            go_wp2_with (fail)
            go_ret
            exact ⟨by rw [hall.out]; rfl, hbr⟩
    · go_enter Try.func16, Try.ntmps16
      go_wp2_with (fail)
      go_ret
      exact ⟨rfl, Below.refl _ _⟩
  · go_enter Try.func16, Try.ntmps16
    go_wp2_with (fail)
    go_ret
    exact ⟨rfl, Below.refl _ _⟩
end Go.Proofs.Ytpgjaaekpaeajaa
