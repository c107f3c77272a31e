/- lru: Fork. -/
import Derived.Test.YtidcbjgiohkidaaLruY
namespace Go.Proofs.Ytidcbjgiohkidaa
open Go.RowKit
set_option linter.unusedVariables false
set_option linter.unusedSimpArgs false

theorem put_take {most : Nat} {A : List (ByteArray × Int)} (hn : (A.map (·.1)).Nodup) (hl : A.length ≤ most) {k : Nat} (hk : k < A.length) : putA most (A.take k) (A[k]'hk).1 (A[k]'hk).2 = A.take (k + 1) := by
  have hno : hasA (A.take k) (A[k]'hk).1 = false := by
    simp only [hasA, List.any_eq_false, decide_eq_true_eq]
    intro p hp e
    obtain ⟨j, hj, rfl⟩ := List.getElem_of_mem hp
    have hjk : j < k := by simp at hj; omega
    rw [List.getElem_take] at e
    have : (A.map (·.1))[j]'(by simp; omega) = (A.map (·.1))[k]'(by simpa using hk) := by simpa using e
    have := (List.getElem_inj hn).1 this
    omega
  have hlen : (A.take k).length ≠ most := by simp; omega
  rw [putA, hno, if_neg (by simp), if_neg hlen, List.take_add_one, List.getElem?_eq_getElem hk]
  rfl

set_option maxHeartbeats 6400000 in
set_option maxRecDepth 100000 in
theorem lfork_any {w : World} {m mp most : Nat} {L : List LNode} (h : Lru w m mp most L) :
    Calls Try.prog 12 #[.pointer (some ⟨m, 0, none⟩)] w fun e w' => e = .returned (.pointer (some ⟨w.heap.size + 1, 0, none⟩)) ∧ ∃ L', Lru w' (w.heap.size + 1) w.heap.size most L' ∧ pr L' = pr L ∧ Below w.heap.size w w' ∧ (∀ b, Lown (w.heap.size + 1) w.heap.size L' b → w.heap.size ≤ b) := by
  have hsm : L.length ≤ 4096 := by have := h.cap; have := h.big; omega
  have c0 := h.body.c0
  have hbig := h.big
  have hcap := h.cap
  have HS := Lib.hid h.body.small
  have hnd : ((pr L).map (·.1)).Nodup := by have := h.body.keys; simpa [pr, List.map_map, Function.comp_def] using this
  have HND := Lib.hid hnd
  have HL := Lib.hid h
  clear h hnd
  go_enter Try.func12, Try.ntmps12
  go_wp2_with (fail)
  refine (lnew_any w most (by omega)).mono ?_
  rintro e w1 ⟨rfl, hf1, hb1, z1⟩
  rw [show Int.toNat (most : Int) = most from rfl] at hf1
  have HF1 := Lib.hid hf1
  have HB1 := Lib.hid hb1
  have hown := own_empty (m := w.heap.size + 1) (mp := w.heap.size) (base := w.heap.size) (by omega) (by omega)
  have HP := Lib.hid (lpairs_any (HL.out.below hb1))
  have hlen := pr_len L
  clear hf1 hb1
  rw [← hlen] at HP hsm hcap
  have hsz : ∀ p, p ∈ pr L → p.1.size ≤ maxLen := by
    intro p hp
    obtain ⟨x, hx, rfl⟩ := List.mem_map.1 hp
    exact HS.out x hx
  have HSZ := Lib.hid hsz
  generalize hA : pr L = A at HP hsm hcap HND HSZ ⊢
  have HA := Lib.hid hA
  clear hsz hlen hA
  generalize hF : w.heap.size + 1 = F at HF1 hown ⊢
  generalize hM : w.heap.size = M at HF1 HB1 hown ⊢
  have HZ := Lib.hid hM
  have hz1 : w1.heap.size = M + 2 := by omega
  have hFM : F = M + 1 := by omega
  have HFM := Lib.hid hFM
  clear hM hF z1 hFM
  go_wp2_with (fail)
  refine HP.out.mono ?_
  rintro e w2 ⟨pv, rfl, hp2, hb2⟩
  obtain ⟨pa, pc, rfl, hpc⟩ := own_pairs hp2 rfl
  have HPC := Lib.hid hpc
  have hz2 := hb2.size
  have HF2 := Lib.hid (HF1.out.below hb2)
  have HB2 := Lib.hid (HB1.out.trans (hb2.mono (by omega)))
  clear hp2 hpc hb2
  go_wp2_with (fail)
  go_loopw [20] (fun i wr => ∃ (k : Nat) (L' : List LNode), k ≤ A.length ∧ i = .int .i64 k ∧ Hid (Lru wr F M most L') ∧ Hid (pr L' = A.take k) ∧ Hid (∀ b, Lown F M L' b → M ≤ b ∧ (b < M + 2 ∨ w2.heap.size ≤ b)) ∧ Off (fun b => b = F ∨ b = M) w2 wr) (fun i _ => A.length - (intOf i).toNat)
  case atStart => exact ⟨0, [], Nat.zero_le _, rfl, HF2, by show pr [] = List.take 0 A; simp [pr], fun b hb => by
      have hFM := HFM.out
      rcases hb with e | e | e
      · omega
      · omega
      · simp at e, Off.refl _ _⟩
  case round =>
    obtain ⟨k, L', hk, rfl, HL', Hp, Hown, hoff⟩ := hrel
    have k0 : (0 : Int) ≤ k := by omega
    have kl : (A.length : Int) ≤ 4096 := by omega
    by_cases hlt : k < A.length
    · have k1 : (k : Int) < A.length := by omega
      obtain ⟨g, rfl, hg0, hg1, d1, d2⟩ := HPC.out k hlt
      have d1 := hoff.cell d1 (by show ¬ (g = F ∨ g = M); have := HFM.out; omega)
      have d2 := hoff.cell d2 (by show ¬ (g = F ∨ g = M); have := HFM.out; omega)
      have hnext := put_take HND.out hcap hlt
      have hks := HSZ.out _ (List.getElem_mem hlt)
      have HN := Lib.hid hnext
      have HKS := Lib.hid hks
      generalize (A[k]'hlt).1 = key at d1 HN HKS
      generalize (A[k]'hlt).2 = val at d2 HN
      have hoffz := hoff.size
      have hba : Below wr.heap.size wr (wr.alloc (.cells #[.string key, .int .i64 val] 50)) := (Below.refl _ _).alloc (Nat.le_refl _) _
      have HBA := Lib.hid hba
      have HLA := Lib.hid (HL'.out.below hba)
      clear hnext hks hba
      go_wp2_with (fail)
      refine (lput_any HLA.out HKS.out val).mono ?_
      rintro e w4 ⟨L4, rfl, hl4, hp4, ho4, hs4⟩
      have H4 := Lib.hid (And.intro hl4 (And.intro hp4 (And.intro ho4 hs4)))
      clear hl4 hp4 ho4 hs4
      go_wp2_with (fail)
      have za := HBA.out.size
      refine ⟨⟨k + 1, L4, by omega, by go_num, H4.out.1, ?_, fun b hb => ?_, ?_⟩, by first | (simp [intOf]; done) | (simp [intOf]; omega)⟩
      · have e : pr L4 = A.take (k + 1) := by rw [H4.out.2.1, Hp.out, HN.out]
        exact e
      · rcases H4.out.2.2.2 b hb with e | e
        · exact Hown.out b e
        · omega
      · refine (hoff.trans (Off.ofBelow (S := fun b => b = F ∨ b = M) HBA.out) (fun _ _ e => e)).trans H4.out.2.2.1 (fun i hi e => ?_)
        have := Hown.out i e
        have := HFM.out
        show i = F ∨ i = M
        omega
    · go_wp2_with (fail)
      go_ret
      have hkk : A.take k = A := List.take_of_length_le (by omega)
      have e : pr L' = pr L := by rw [Hp.out, hkk, HA.out]
      have hf := HFM.out
      subst hf
      have hz := HZ.out
      subst hz
      refine ⟨rfl, L', HL'.out, e, ?_, fun b hb => (Hown.out b hb).1⟩
      exact HB2.out.trans (hoff.below (by omega) (fun i hi e => by have := HFM.out; rcases e with e | e <;> omega))
end Go.Proofs.Ytidcbjgiohkidaa
