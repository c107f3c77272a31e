/- The reference's Resources. -/
import Derived.Test.YtgkdpkpiejjfmaaRCpJ
namespace Go.Proofs.Ytgkdpkpiejjfmaa
open Go.RowKit
set_option linter.unusedVariables false
set_option linter.unusedSimpArgs false

theorem hasJ_take {ss : List ByteArray} {k : Nat} (hk : k < ss.length) {x : ByteArray} (h : Lib.containsS (ss.take k) x = false) : Lib.containsS (ss.take (k + 1)) x = ((ss.getD k ⟨#[]⟩).toList == x.toList) := by
  have hno : ¬ x ∈ ss.take k := fun e => by rw [(Lib.containsS_iff _ _).2 e] at h; cases h
  have hg : ss.getD k ⟨#[]⟩ = ss[k] := by simp [List.getD, hk]
  by_cases e : ss[k] = x
  · rw [(Lib.containsS_iff _ _).2 (by rw [List.take_succ_eq_append_getElem hk]; exact List.mem_append_right _ (by rw [e]; exact List.mem_singleton.2 rfl)), hg, e]
    simp
  · have h1 : Lib.containsS (ss.take (k + 1)) x = false := by
      cases hc : Lib.containsS (ss.take (k + 1)) x
      · rfl
      · rw [Lib.containsS_iff, List.take_succ_eq_append_getElem hk, List.mem_append] at hc
        rcases hc with hc | hc
        · exact absurd hc hno
        · exact absurd (List.mem_singleton.1 hc).symm e
    rw [h1, hg]
    rw [toList_decR, decide_eq_false e]

set_option maxHeartbeats 3200000 in
theorem has_any {w : World} (a : Option Addr) (n c : Nat) (ss : List ByteArray) (hl : ss.length = n) (hm : n ≤ 9223372036854775806) (hs : TextsAt w a ss) (x : ByteArray) :
    Calls Try.prog 31 #[.slice a n c, .string x] w fun e w' => e = .returned (.bool (Lib.containsS ss x)) ∧ w' = w := by
  have HS := Lib.hid hs
  have HL := Lib.hid hl
  clear hs hl
  go_enter Try.func31, Try.ntmps31
  go_wp2_with (fail)
  go_loopw [5] (fun s5 wr => ∃ k : Nat, k ≤ n ∧ s5 = .int .i64 k ∧ wr = w ∧ Hid (Lib.containsS (ss.take k) x = false)) (fun s5 _ => n - (intOf s5).toNat)
  case atStart => exact ⟨0, Nat.zero_le _, rfl, rfl, Lib.hid (by rw [List.take_zero]; cases hc : Lib.containsS ([] : List ByteArray) x; (· rfl); (· rw [Lib.containsS_iff] at hc; cases hc))⟩
  case round =>
    obtain ⟨k, hk, rfl, hq, HC⟩ := hrel
    subst hq
    rename World => wr
    by_cases hlt : k < n
    · have k0 : (0 : Int) ≤ k := by omega
      have k1 : (k : Int) < n := by omega
      have hne : ss ≠ [] := fun e => by have := HL.out; rw [e] at this; simp at this; omega
      obtain ⟨b, off, rfl, hbl, hcell⟩ : ∃ b off, a = some ⟨b, off, none⟩ ∧ b < wr.heap.size ∧ ∀ j, j < ss.length → wr.cell? ⟨b, off + j, none⟩ = some (.string (ss.getD j ⟨#[]⟩)) := by
        rcases HS.out with h | h
        · exact absurd h hne
        · exact h
      have d0 := hcell k (by rw [HL.out]; exact hlt)
      have HT := Lib.hid (hasJ_take (by rw [HL.out]; exact hlt) HC.out)
      obtain ⟨y, hy⟩ : ∃ y, ss.getD k ⟨#[]⟩ = y := ⟨_, rfl⟩
      rw [hy] at d0 HT
      clear hcell hne hy
      cases he : (y.toList == x.toList)
      · go_wp2_with (fail)
        exact ⟨⟨k + 1, by omega, by go_num, by first | trivial | rfl, Lib.hid (by rw [HT.out, he])⟩, by first | (simp [intOf]; done) | (simp [intOf]; omega)⟩
      · have HT2 := Lib.hid (show Lib.containsS ss x = true by
          have h1 := HT.out
          rw [he, Lib.containsS_iff] at h1
          exact (Lib.containsS_iff _ _).2 (List.mem_of_mem_take h1))
        go_wp2_with (fail)
        go_ret
        exact ⟨by rw [HT2.out]; rfl, rfl⟩
    · have hkn : k = n := by omega
      have HT2 := Lib.hid (show Lib.containsS ss x = false by
        have h1 := HC.out
        rwa [hkn, List.take_of_length_le (by rw [HL.out]; exact Nat.le_refl _)] at h1)
      go_wp2_with (fail)
      go_ret
      exact ⟨by rw [HT2.out]; rfl, rfl⟩
set_option maxHeartbeats 3200000 in
theorem sametexts_any {w : World} (a b : Option Addr) (n m c d : Nat) (ss : List ByteArray) (hl : ss.length = n) (hl2 : ss.length = m) (hm : n ≤ 9223372036854775806) (hs : TextsAt w a ss) (hs2 : TextsAt w b ss) :
    Calls Try.prog 10 #[.slice a n c, .slice b m d] w fun e w' => e = .returned (.bool true) ∧ Below w.heap.size w w' := by
  obtain rfl : n = m := hl.symm.trans hl2
  have HS := Lib.hid hs
  have HS2 := Lib.hid hs2
  have HL := Lib.hid hl
  clear hs hl hl2 hs2
  go_enter Try.func10, Try.ntmps10
  go_wp2_with (fail)
  go_loopw [5] (fun s5 wr => ∃ k : Nat, k ≤ n ∧ s5 = .int .i64 k ∧ Hid (Below w.heap.size w wr)) (fun s5 _ => n - (intOf s5).toNat)
  case atStart => exact ⟨0, Nat.zero_le _, rfl, Lib.hid (Below.refl _ _)⟩
  case round =>
    rename World => wr
    obtain ⟨k, hk, rfl, HB⟩ := hrel
    by_cases hlt : k < n
    · have k0 : (0 : Int) ≤ k := by omega
      have k1 : (k : Int) < n := by omega
      have hne : ss ≠ [] := fun e => by have := HL.out; rw [e] at this; simp at this; omega
      obtain ⟨g, off, rfl, hgl, hcell⟩ : ∃ b off, a = some ⟨b, off, none⟩ ∧ b < wr.heap.size ∧ ∀ j, j < ss.length → wr.cell? ⟨b, off + j, none⟩ = some (.string (ss.getD j ⟨#[]⟩)) := by
        rcases HS.out.below2 (Nat.le_refl _) HB.out with h | h
        · exact absurd h hne
        · exact h
      obtain ⟨g2, off2, rfl, hgl2, hcell2⟩ : ∃ b' off, b = some ⟨b', off, none⟩ ∧ b' < wr.heap.size ∧ ∀ j, j < ss.length → wr.cell? ⟨b', off + j, none⟩ = some (.string (ss.getD j ⟨#[]⟩)) := by
        rcases HS2.out.below2 (Nat.le_refl _) HB.out with h | h
        · exact absurd h hne
        · exact h
      have d0 := hcell k (by rw [HL.out]; exact hlt)
      have d1 := hcell2 k (by rw [HL.out]; exact hlt)
      obtain ⟨y, hy⟩ : ∃ y, ss.getD k ⟨#[]⟩ = y := ⟨_, rfl⟩
      rw [hy] at d0 d1
      clear hcell hne hcell2 hgl hgl2 hy
      go_wp2_with (fail)
      go_region
      go_wp2_with (fail)
      exact ⟨⟨k + 1, by omega, by go_num, Lib.hid (below_drewC HB.out 1)⟩, by first | (simp [intOf]; done) | (simp [intOf]; omega)⟩
    · have hkn : k = n := by omega
      go_wp2_with (fail)
      go_ret
      exact ⟨rfl, HB.out⟩

/-- All the names, in a row of the call's own. -/
structure AllI (w0 : World) (base : Nat) (v : Value) (ns : List ByteArray) (w : World) : Prop where
  bel : Below w0.heap.size w0 w
  b0 : w0.heap.size ≤ base
  bs : base ≤ w.heap.size
  row : w.ownsRow base 9 1 v ns.length (ns.map Value.string)
theorem AllI.app {w0 w w' : World} {base : Nat} {v v' : Value} {ns : List ByteArray} {s : ByteArray} {o : Obj} (h : AllI w0 base v ns w) (hown : w'.ownsRow base 9 1 v' (ns.length + 1) (ns.map Value.string ++ [.string s])) (hg : (w.alloc o).grownBy w' v.ownBlock) : AllI w0 base v' (ns ++ [s]) w' := by
  refine ⟨(h.bel.alloc h.bel.size _).grown hg (by have := h.bel.size; simp; omega) (fun k e => by have := h.row.lt k e; have := h.b0; have := (typeAt_own h.row e).2.1; omega), h.b0, ?_, ?_⟩
  · have h1 := hg.size; have h2 := h.bs; have h3 : (w.alloc o).heap.size = w.heap.size + 1 := (by simp); omega
  · rw [List.length_append, List.map_append]; exact hown
theorem AllI.below {w0 w w' : World} {base : Nat} {v : Value} {ns : List ByteArray} (h : AllI w0 base v ns w) (hb : Below w.heap.size w w') : AllI w0 base v ns w' :=
  ⟨h.bel.trans (hb.mono h.bel.size), h.b0, Nat.le_trans h.bs hb.size, h.row.kept (row := none) ⟨hb.os, hb.tape, hb.output, hb.size, fun k hk _ => hb.block k hk⟩ (by cases v.ownBlock <;> simp)⟩

set_option maxHeartbeats 12800000 in
set_option maxRecDepth 100000 in
theorem r7res_any {w : World} (r : RulesS) (hr : RulesAt w r) (q0 : r.n0 ≤ 1048576) (q1 : r.n1 ≤ 1048576) (q2 : r.n2 ≤ 1048576) (q4 : r.n4 ≤ 1048576) :
    Calls Try.prog 12 #[.agg r.cs] w (TextsP w (ded (allR r))) := by
  obtain ⟨i0, hi, hz0, hz1, hz2⟩ := info_partsO info_strJ
  have HR := Lib.hid hr
  obtain ⟨W1, hW1⟩ : ∃ W1, w.alloc (.cells r.cs 28) = W1 := ⟨_, rfl⟩
  have hz1' : W1.heap.size = w.heap.size + 1 := by rw [← hW1]; simp
  have hb1 : Below w.heap.size w W1 := by rw [← hW1]; exact (Below.refl _ _).alloc (Nat.le_refl _) _
  have g1 : W1.heap[w.heap.size]? = some (.cells r.cs 28) := by rw [← hW1, get_allocC, if_pos rfl]
  have HB1 := Lib.hid hb1
  have HIO : Hid (∀ wx, Below W1.heap.size W1 wx → ∀ b, b < w.heap.size → wx.heap[b]? = w.heap[b]?) := fun wx h b hb => (h.block b (by omega)).trans (hb1.block b hb)
  obtain ⟨base, hbase⟩ : ∃ base, W1.heap.size = base := ⟨_, rfl⟩
  have HST : Hid (AllI W1 base (.slice none 0 0) (pre1 r 0) W1) := by
    refine ⟨Below.refl _ _, by omega, by omega, ?_⟩
    have : pre1 r 0 = [] := by simp [pre1]
    rw [this]
    exact World.ownsRow_nil _ _ _ _
  have HZB := Lib.hid hbase
  have HZ1 := Lib.hid hz1'
  have hWC : ∀ wx, Below W1.heap.size W1 wx → wx.heap[w.heap.size]? = some (.cells r.cs 28) := fun wx h => (h.block w.heap.size (by omega)).trans g1
  unfold RulesS.cs at hW1 g1 hWC ⊢
  obtain ⟨n0, hn0⟩ : ∃ n, r.n0 = n := ⟨_, rfl⟩
  obtain ⟨n1, hn1⟩ : ∃ n, r.n1 = n := ⟨_, rfl⟩
  obtain ⟨n2, hn2⟩ : ∃ n, r.n2 = n := ⟨_, rfl⟩
  obtain ⟨n4, hn4⟩ : ∃ n, r.n4 = n := ⟨_, rfl⟩
  obtain ⟨a0, ha0⟩ : ∃ a, r.a0 = a := ⟨_, rfl⟩
  obtain ⟨a1, ha1⟩ : ∃ a, r.a1 = a := ⟨_, rfl⟩
  obtain ⟨a2, ha2⟩ : ∃ a, r.a2 = a := ⟨_, rfl⟩
  obtain ⟨a4, ha4⟩ : ∃ a, r.a4 = a := ⟨_, rfl⟩
  have HN0 := Lib.hid hn0
  have HN1 := Lib.hid hn1
  have HN2 := Lib.hid hn2
  have HN4 := Lib.hid hn4
  have HA0 := Lib.hid ha0
  have HA1 := Lib.hid ha1
  have HA2 := Lib.hid ha2
  have HA4 := Lib.hid ha4
  rw [hn0] at q0
  rw [hn1] at q1
  rw [hn2] at q2
  rw [hn4] at q4
  simp only [hn0, hn1, hn2, hn4, ha0, ha1, ha2, ha4] at hW1 g1 hWC ⊢
  have HE0 : Hid (∀ wx, Below W1.heap.size W1 wx → wx.cell? ⟨w.heap.size, 0, none⟩ = some (.slice a0 n0 r.c0)) := fun wx h => (get5J wx _ _ _ _ _ _ (hWC wx h)).1
  have HE1 : Hid (∀ wx, Below W1.heap.size W1 wx → wx.cell? ⟨w.heap.size, 1, none⟩ = some (.slice a1 n1 r.c1)) := fun wx h => (get5J wx _ _ _ _ _ _ (hWC wx h)).2.1
  have HE2 : Hid (∀ wx, Below W1.heap.size W1 wx → wx.cell? ⟨w.heap.size, 2, none⟩ = some (.slice a2 n2 r.c2)) := fun wx h => (get5J wx _ _ _ _ _ _ (hWC wx h)).2.2.1
  have HE4 : Hid (∀ wx, Below W1.heap.size W1 wx → wx.cell? ⟨w.heap.size, 4, none⟩ = some (.slice a4 n4 r.c4)) := fun wx h => (get5J wx _ _ _ _ _ _ (hWC wx h)).2.2.2.2
  clear hr hb1 g1 hWC hn0 hn1 hn2 hn4 ha0 ha1 ha2 ha4 hz1' hbase
  subst hW1
  go_enter Try.func12, Try.ntmps12
  go_wp2_with (fail)
  generalize w.alloc _ = W1 at *
  go_loopw [3, 4] (fun s3 i wr => ∃ k : Nat, k ≤ n0 ∧ i = .int .i64 k ∧ Hid (AllI W1 base s3 (pre1 r k) wr)) (fun _ i _ => n0 - (intOf i).toNat)
  case atStart => exact ⟨0, Nat.zero_le _, rfl, HST⟩
  case round =>
    rename World => wr
    obtain ⟨k, hk, rfl, HI⟩ := hrel
    obtain ⟨va, vc, rfl⟩ := own_sliceO HI.out.row
    have e0 := HE0.out _ HI.out.bel
    by_cases hlt : k < n0
    · obtain ⟨x, hx⟩ : ∃ x, r.fl[k]? = some x := ⟨_, List.getElem?_eq_getElem (by rw [HR.out.l0, HN0.out]; exact hlt)⟩
      obtain ⟨b, off, hab, hbl, hfa⟩ := flowsAt_get HR.out.fl hx
      obtain ⟨d0, -, -, -, -, d5, -, -, -, -, -, -⟩ := hfa.of_block (HIO.out _ HI.out.bel b hbl)
      have HX5 : Hid (∀ wx, Below W1.heap.size W1 wx → wx.cell? ⟨b, off + k * 12 + 5, none⟩ = some (.string x.ref)) := fun wx h => by
        obtain ⟨-, -, -, -, -, q5, -, -, -, -, -, -⟩ := hfa.of_block (HIO.out wx h b hbl)
        exact q5
      rw [HA0.out] at hab
      subst hab
      have HLN := Lib.hid (show (pre1 r k).length + 2 ≤ 8796093022208 from by have h2 := pre1_len r k; omega)
      have k0 : (0 : Int) ≤ k := by omega
      have k1 : (k : Int) < n0 := by omega
      have hnx := pre1_next hx
      cases hrf : (x.ref.toList == [])
      · have HS := Lib.hid (show pre1 r (k + 1) = (pre1 r k ++ [x.res]) ++ [x.ref] by rw [hnx]; unfold nmF; rw [hrf, if_neg (by decide)]; simp)
        clear hx hnx hbl hfa
        have HLM := Lib.hid (show (pre1 r k ++ [x.res]).length = (pre1 r k).length + 1 by simp)
        go_wp2_with (first | (at_builtin; refine wpList_append_own _ rfl (.tmp 17) (.tmp 24) 36 rfl base 9 i0 (.string ⟨#[]⟩) 1 16 Try.underlying36 hi hz0 hz1 hz2 rfl (by decide) (.slice va ((pre1 r k)).length vc) ((pre1 r k)).length (((pre1 r k)).map Value.string) rfl (HI.out.row.alloc _) ⟨wr.heap.size, 0, none⟩ 1 1 [.string x.res] rfl rfl (one_cellO _ _ _) (by simp [Value.oneCell']) (by have := HLN.out; unfold maxLen; omega) (by have := HLN.out; omega) (Nat.le_trans HI.out.bs (by simp)) ?_; intro v3 w3 hown hg _; obtain ⟨va3, vc3, rfl⟩ := own_sliceO hown; have HI3 := Lib.hid (HI.out.app hown hg); clear hown hg; have f3 := HE0.out _ HI3.out.bel; have x3 := HX5.out _ HI3.out.bel) | (at_builtin; refine wpList_append_own _ rfl (.tmp 33) (.tmp 40) 36 rfl base 9 i0 (.string ⟨#[]⟩) 1 16 Try.underlying36 hi hz0 hz1 hz2 rfl (by decide) (.slice va3 ((pre1 r k).length + 1) vc3) ((pre1 r k).length + 1) ((pre1 r k ++ [x.res]).map Value.string) rfl (by have h := HI3.out.row; rw [HLM.out] at h; exact h.alloc _) ⟨w3.heap.size, 0, none⟩ 1 1 [.string x.ref] rfl rfl (one_cellO _ _ _) (by simp [Value.oneCell']) (by have := HLN.out; unfold maxLen; omega) (by have := HLN.out; omega) (Nat.le_trans HI3.out.bs (by simp)) ?_; intro v4 w4 hown hg _; obtain ⟨va4, vc4, rfl⟩ := own_sliceO hown; have HI4 := Lib.hid (HI3.out.app (by rw [HLM.out]; exact hown) hg); clear hown hg))
        refine ⟨⟨k + 1, by omega, by go_num, Lib.hid ?_⟩, by first | (simp [intOf]; done) | (simp [intOf]; omega)⟩
        rw [HS.out]
        exact HI4.out
      · have HS := Lib.hid (show pre1 r (k + 1) = pre1 r k ++ [x.res] by rw [hnx]; unfold nmF; rw [hrf, if_pos rfl])
        clear hx hnx hbl hfa
        go_wp2_with (at_builtin; refine wpList_append_own _ rfl (.tmp 17) (.tmp 24) 36 rfl base 9 i0 (.string ⟨#[]⟩) 1 16 Try.underlying36 hi hz0 hz1 hz2 rfl (by decide) (.slice va ((pre1 r k)).length vc) ((pre1 r k)).length (((pre1 r k)).map Value.string) rfl (HI.out.row.alloc _) ⟨wr.heap.size, 0, none⟩ 1 1 [.string x.res] rfl rfl (one_cellO _ _ _) (by simp [Value.oneCell']) (by have := HLN.out; unfold maxLen; omega) (by have := HLN.out; omega) (Nat.le_trans HI.out.bs (by simp)) ?_; intro v3 w3 hown hg _; obtain ⟨va3, vc3, rfl⟩ := own_sliceO hown; have HI3 := Lib.hid (HI.out.app hown hg); clear hown hg; have f3 := HE0.out _ HI3.out.bel; have x3 := HX5.out _ HI3.out.bel)
        refine ⟨⟨k + 1, by omega, by go_num, Lib.hid ?_⟩, by first | (simp [intOf]; done) | (simp [intOf]; omega)⟩
        rw [HS.out]
        exact HI3.out
    · have hkn : k = n0 := by omega
      rw [hkn] at HI
      clear hkn
      have HIN2 : Hid (AllI W1 base (.slice va (pre1 r k).length vc) (pre2 r 0) wr) := Lib.hid (by rw [pre2_zero, HN0.out]; rw [show k = n0 by omega]; exact HI.out)
      clear HI
      go_wp2_with (fail)
      go_loopw [3, 5] (fun s3 i wr => ∃ k : Nat, k ≤ n1 ∧ i = .int .i64 k ∧ Hid (AllI W1 base s3 (pre2 r k) wr)) (fun _ i _ => n1 - (intOf i).toNat)
      case atStart => exact ⟨0, Nat.zero_le _, rfl, HIN2⟩
      case round =>
        rename World => wr
        obtain ⟨k, hk, rfl, HI⟩ := hrel
        obtain ⟨va, vc, rfl⟩ := own_sliceO HI.out.row
        have e1 := HE1.out _ HI.out.bel
        by_cases hlt : k < n1
        · obtain ⟨x, hx⟩ : ∃ x, r.br[k]? = some x := ⟨_, List.getElem?_eq_getElem (by rw [HR.out.l1, HN1.out]; exact hlt)⟩
          obtain ⟨b, off, hab, hbl, hca⟩ := rowsAt_get HR.out.br (j := k) (x := x.cs) (by rw [List.getElem?_map, hx]; rfl)
          have d0 : wr.cell? ⟨b, off + k * 7, none⟩ = some (.string x.res) := (World.cell?_of_block (a := ⟨b, off + k * 7 + 0, none⟩) (HIO.out _ HI.out.bel b hbl)).trans (hca 0 (.string x.res) (by decide) rfl)
          clear hca
          rw [HA1.out] at hab
          subst hab
          have HLN := Lib.hid (show (pre2 r k).length + 2 ≤ 8796093022208 from by have h2 := pre2_len r k; have := HN0.out; omega)
          have k0 : (0 : Int) ≤ k := by omega
          have k1 : (k : Int) < n1 := by omega
          have HS := Lib.hid (show pre2 r (k + 1) = pre2 r k ++ [x.res] from pre2_next hx)
          clear hx hbl
          go_wp2_with (at_builtin; refine wpList_append_own _ rfl (.tmp 49) (.tmp 56) 36 rfl base 9 i0 (.string ⟨#[]⟩) 1 16 Try.underlying36 hi hz0 hz1 hz2 rfl (by decide) (.slice va ((pre2 r k)).length vc) ((pre2 r k)).length (((pre2 r k)).map Value.string) rfl (HI.out.row.alloc _) ⟨wr.heap.size, 0, none⟩ 1 1 [.string x.res] rfl rfl (one_cellO _ _ _) (by simp [Value.oneCell']) (by have := HLN.out; unfold maxLen; omega) (by have := HLN.out; omega) (Nat.le_trans HI.out.bs (by simp)) ?_; intro v3 w3 hown hg _; obtain ⟨va3, vc3, rfl⟩ := own_sliceO hown; have HI3 := Lib.hid (HI.out.app hown hg); clear hown hg)
          refine ⟨⟨k + 1, by omega, by go_num, Lib.hid ?_⟩, by first | (simp [intOf]; done) | (simp [intOf]; omega)⟩
          rw [HS.out]
          exact HI3.out
        · have hkn : k = n1 := by omega
          rw [hkn] at HI
          clear hkn
          have HIN3 : Hid (AllI W1 base (.slice va (pre2 r k).length vc) (pre3 r 0) wr) := Lib.hid (by rw [pre3_zero, HN1.out]; rw [show k = n1 by omega]; exact HI.out)
          clear HI
          go_wp2_with (fail)
          go_loopw [3, 6] (fun s3 i wr => ∃ k : Nat, k ≤ n2 ∧ i = .int .i64 k ∧ Hid (AllI W1 base s3 (pre3 r k) wr)) (fun _ i _ => n2 - (intOf i).toNat)
          case atStart => exact ⟨0, Nat.zero_le _, rfl, HIN3⟩
          case round =>
            rename World => wr
            obtain ⟨k, hk, rfl, HI⟩ := hrel
            obtain ⟨va, vc, rfl⟩ := own_sliceO HI.out.row
            have e2 := HE2.out _ HI.out.bel
            by_cases hlt : k < n2
            · obtain ⟨x, hx⟩ : ∃ x, r.ho[k]? = some x := ⟨_, List.getElem?_eq_getElem (by rw [HR.out.l2, HN2.out]; exact hlt)⟩
              obtain ⟨b, off, hab, hbl, hca⟩ := rowsAt_get HR.out.ho (j := k) (x := x.cs) (by rw [List.getElem?_map, hx]; rfl)
              have d0 : wr.cell? ⟨b, off + k * 5, none⟩ = some (.string x.res) := (World.cell?_of_block (a := ⟨b, off + k * 5 + 0, none⟩) (HIO.out _ HI.out.bel b hbl)).trans (hca 0 (.string x.res) (by decide) rfl)
              clear hca
              rw [HA2.out] at hab
              subst hab
              have HLN := Lib.hid (show (pre3 r k).length + 2 ≤ 8796093022208 from by have h2 := pre3_len r k; have := HN0.out; have := HN1.out; omega)
              have k0 : (0 : Int) ≤ k := by omega
              have k1 : (k : Int) < n2 := by omega
              have HS := Lib.hid (show pre3 r (k + 1) = pre3 r k ++ [x.res] from pre3_next hx)
              clear hx hbl
              go_wp2_with (at_builtin; refine wpList_append_own _ rfl (.tmp 65) (.tmp 72) 36 rfl base 9 i0 (.string ⟨#[]⟩) 1 16 Try.underlying36 hi hz0 hz1 hz2 rfl (by decide) (.slice va ((pre3 r k)).length vc) ((pre3 r k)).length (((pre3 r k)).map Value.string) rfl (HI.out.row.alloc _) ⟨wr.heap.size, 0, none⟩ 1 1 [.string x.res] rfl rfl (one_cellO _ _ _) (by simp [Value.oneCell']) (by have := HLN.out; unfold maxLen; omega) (by have := HLN.out; omega) (Nat.le_trans HI.out.bs (by simp)) ?_; intro v3 w3 hown hg _; obtain ⟨va3, vc3, rfl⟩ := own_sliceO hown; have HI3 := Lib.hid (HI.out.app hown hg); clear hown hg)
              refine ⟨⟨k + 1, by omega, by go_num, Lib.hid ?_⟩, by first | (simp [intOf]; done) | (simp [intOf]; omega)⟩
              rw [HS.out]
              exact HI3.out
            · have hkn : k = n2 := by omega
              rw [hkn] at HI
              clear hkn
              have HIN4 : Hid (AllI W1 base (.slice va (pre3 r k).length vc) (pre4 r 0) wr) := Lib.hid (by rw [pre4_zero, HN2.out]; rw [show k = n2 by omega]; exact HI.out)
              clear HI
              go_wp2_with (fail)
              go_loopw [3, 7] (fun s3 i wr => ∃ k : Nat, k ≤ n4 ∧ i = .int .i64 k ∧ Hid (AllI W1 base s3 (pre4 r k) wr)) (fun _ i _ => n4 - (intOf i).toNat)
              case atStart => exact ⟨0, Nat.zero_le _, rfl, HIN4⟩
              case round =>
                rename World => wr
                obtain ⟨k, hk, rfl, HI⟩ := hrel
                obtain ⟨va, vc, rfl⟩ := own_sliceO HI.out.row
                have e4 := HE4.out _ HI.out.bel
                by_cases hlt : k < n4
                · obtain ⟨x, hx⟩ : ∃ x, r.au[k]? = some x := ⟨_, List.getElem?_eq_getElem (by rw [HR.out.l4, HN4.out]; exact hlt)⟩
                  obtain ⟨b, off, hab, hbl, hca⟩ := rowsAt_get HR.out.au (j := k) (x := x.cs) (by rw [List.getElem?_map, hx]; rfl)
                  have d0 : wr.cell? ⟨b, off + k * 3, none⟩ = some (.string x.res) := (World.cell?_of_block (a := ⟨b, off + k * 3 + 0, none⟩) (HIO.out _ HI.out.bel b hbl)).trans (hca 0 (.string x.res) (by decide) rfl)
                  clear hca
                  rw [HA4.out] at hab
                  subst hab
                  have HLN := Lib.hid (show (pre4 r k).length + 2 ≤ 8796093022208 from by have h2 := pre4_len r k; have := HN0.out; have := HN1.out; have := HN2.out; omega)
                  have k0 : (0 : Int) ≤ k := by omega
                  have k1 : (k : Int) < n4 := by omega
                  have HS := Lib.hid (show pre4 r (k + 1) = pre4 r k ++ [x.res] from pre4_next hx)
                  clear hx hbl
                  go_wp2_with (at_builtin; refine wpList_append_own _ rfl (.tmp 81) (.tmp 88) 36 rfl base 9 i0 (.string ⟨#[]⟩) 1 16 Try.underlying36 hi hz0 hz1 hz2 rfl (by decide) (.slice va ((pre4 r k)).length vc) ((pre4 r k)).length (((pre4 r k)).map Value.string) rfl (HI.out.row.alloc _) ⟨wr.heap.size, 0, none⟩ 1 1 [.string x.res] rfl rfl (one_cellO _ _ _) (by simp [Value.oneCell']) (by have := HLN.out; unfold maxLen; omega) (by have := HLN.out; omega) (Nat.le_trans HI.out.bs (by simp)) ?_; intro v3 w3 hown hg _; obtain ⟨va3, vc3, rfl⟩ := own_sliceO hown; have HI3 := Lib.hid (HI.out.app hown hg); clear hown hg)
                  refine ⟨⟨k + 1, by omega, by go_num, Lib.hid ?_⟩, by first | (simp [intOf]; done) | (simp [intOf]; omega)⟩
                  rw [HS.out]
                  exact HI3.out
                · have hkn : k = n4 := by omega
                  rw [hkn] at HI
                  clear hkn
                  have HAL : Hid (allR r = pre4 r n4) := Lib.hid (by unfold allR; rw [HN4.out])
                  have HAE := Lib.hid HI.out.bel
                  obtain ⟨hl1, hl2, hta⟩ := texts_own HI.out.row
                  have hml : (pre4 r n4).length ≤ 8796093022200 := by have h2 := pre4_len r n4; have := HN0.out; have := HN1.out; have := HN2.out; omega
                  rw [show (pre4 r k).length = (pre4 r n4).length by rw [show k = n4 by omega]]
                  generalize pre4 r n4 = al at *
                  obtain ⟨m, hm⟩ : ∃ m, al.length = m := ⟨_, rfl⟩
                  rw [hm] at hml ⊢
                  have HM := Lib.hid hm
                  have HTA := Lib.hid hta
                  have HI5 : Hid (AllI wr wr.heap.size (.slice none 0 0) (ded (al.take 0)) wr) := Lib.hid ⟨Below.refl _ _, Nat.le_refl _, Nat.le_refl _, by rw [List.take_zero]; exact World.ownsRow_nil _ _ _ _⟩
                  clear hl1 hl2 hta hm HI
                  go_wp2_with (fail)
                  go_loopw [8, 9] (fun s8 i wz => ∃ j : Nat, j ≤ m ∧ i = .int .i64 j ∧ Hid (AllI wr wr.heap.size s8 (ded (al.take j)) wz)) (fun _ i _ => m - (intOf i).toNat)
                  case atStart => exact ⟨0, Nat.zero_le _, rfl, HI5⟩
                  case round =>
                    rename World => wz
                    obtain ⟨j, hj, rfl, HO⟩ := hrel
                    obtain ⟨ua, uc, rfl⟩ := own_sliceO HO.out.row
                    by_cases hlt : j < m
                    · have j0 : (0 : Int) ≤ j := by omega
                      have j1 : (j : Int) < m := by omega
                      have hne : al ≠ [] := fun e => by have := HM.out; rw [e] at this; simp at this; omega
                      obtain ⟨g, off, rfl, hgl, hcell⟩ : ∃ b off, va = some ⟨b, off, none⟩ ∧ b < wz.heap.size ∧ ∀ j, j < al.length → wz.cell? ⟨b, off + j, none⟩ = some (.string (al.getD j ⟨#[]⟩)) := by
                        rcases HTA.out.below2 (Nat.le_refl _) HO.out.bel with h | h
                        · exact absurd h hne
                        · exact h
                      have d0 := hcell j (by rw [HM.out]; exact hlt)
                      have hsn : ded (al.take (j + 1)) = pushN (ded (al.take j)) (al.getD j ⟨#[]⟩) := by rw [List.take_succ_eq_append_getElem (by rw [HM.out]; exact hlt), ded_snoc]; simp [List.getD, HM.out, hlt]
                      obtain ⟨y, hy⟩ : ∃ y, al.getD j ⟨#[]⟩ = y := ⟨_, rfl⟩
                      rw [hy] at d0 hsn
                      obtain ⟨hl1, hl2, hta⟩ := texts_own HO.out.row
                      have hdl : (ded (al.take j)).length ≤ j := Nat.le_trans (ded_len _) (List.length_take_le _ _)
                      have HC := Lib.hid (has_any ua (ded (al.take j)).length uc (ded (al.take j)) hl1 (by omega) hta y)
                      have HSN := Lib.hid hsn
                      clear hcell hne hy hgl hsn hl1 hl2 hta
                      generalize ded (al.take j) = out at *
                      cases hs : Lib.containsS out y
                      · have HP := Lib.hid (show pushN out y = out ++ [y] by unfold pushN; rw [hs]; rfl)
                        go_wp2_with (fail)
                        refine HC.out.mono ?_
                        rintro e w6 ⟨rfl, hq⟩
                        subst hq
                        rw [hs]
                        go_wp2_with (at_builtin; refine wpList_append_own _ rfl (.tmp 103) (.tmp 108) 36 rfl wr.heap.size 9 i0 (.string ⟨#[]⟩) 1 16 Try.underlying36 hi hz0 hz1 hz2 rfl (by decide) (.slice ua out.length uc) out.length (out.map Value.string) rfl (HO.out.row.alloc _) ⟨_, 0, none⟩ 1 1 [.string y] rfl rfl (one_cellO _ _ _) (by simp [Value.oneCell']) (by unfold maxLen; omega) (by omega) (Nat.le_trans HO.out.bs (by simp)) ?_; intro v7 w7 hown hg _; obtain ⟨va7, vc7, rfl⟩ := own_sliceO hown; have HI7 := Lib.hid (HO.out.app hown hg); clear hown hg)
                        refine ⟨⟨j + 1, by omega, by go_num, Lib.hid ?_⟩, by first | (simp [intOf]; done) | (simp [intOf]; omega)⟩
                        rw [HSN.out, HP.out]
                        exact HI7.out
                      · have HP := Lib.hid (show pushN out y = out by unfold pushN; rw [hs]; rfl)
                        go_wp2_with (fail)
                        refine HC.out.mono ?_
                        rintro e w6 ⟨rfl, hq⟩
                        subst hq
                        rw [hs]
                        go_wp2_with (fail)
                        refine ⟨⟨j + 1, by omega, by go_num, Lib.hid ?_⟩, by first | (simp [intOf]; done) | (simp [intOf]; omega)⟩
                        rw [HSN.out, HP.out]
                        exact HO.out
                    · have hjm : j = m := by omega
                      have HD := Lib.hid (show al.take j = al by rw [hjm, ← HM.out]; exact List.take_length)
                      go_wp2_with (fail)
                      go_ret
                      rw [HAL.out]
                      have hx := HO.out
                      rw [HD.out] at hx ⊢
                      exact ⟨_, rfl, ownsG hx.row (by have := HAE.out.size; have := HZ1.out; omega), (HB1.out.trans (HAE.out.mono HB1.out.size)).trans (hx.bel.mono (Nat.le_trans HB1.out.size HAE.out.size))⟩
end Go.Proofs.Ytgkdpkpiejjfmaa
