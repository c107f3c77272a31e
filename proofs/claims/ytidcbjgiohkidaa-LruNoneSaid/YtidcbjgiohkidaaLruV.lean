/- lru's answer by the document: Drop, Keys; pointers into two blocks are two. -/
import Derived.Test.YtidcbjgiohkidaaLruU
import Derived.LaidEqlPtr
namespace Go.Proofs.Ytidcbjgiohkidaa
open Go.RowKit
set_option linter.unusedVariables false
set_option linter.unusedSimpArgs false

theorem dropA_nodup {A : List (ByteArray × Int)} (hn : (A.map (·.1)).Nodup) (ss : List ByteArray) : ((dropA A ss).1.map (·.1)).Nodup := by
  have key : ∀ (ss : List ByteArray) (q : List (ByteArray × Int) × Nat), (q.1.map (·.1)).Nodup → (((ss.foldl (fun q s => if hasA q.1 s then (delA q.1 s, q.2 + 1) else q) q).1).map (·.1)).Nodup := by
    intro ss
    induction ss with
    | nil => intro q h; exact h
    | cons s ss ih =>
      intro q h
      simp only [List.foldl_cons]
      refine ih _ ?_
      split
      · exact h.sublist (List.Sublist.map _ List.filter_sublist)
      · exact h
  exact key ss (A, 0) hn

set_option maxHeartbeats 6400000 in
set_option maxRecDepth 100000 in
theorem rdrop_any {w : World} {r most : Nat} {v : Value} {A : List (ByteArray × Int)} (h : RefM w r most v A) (hn : (A.map (·.1)).Nodup) (a : Option Addr) (len cap : Nat) (ss : List ByteArray) (hl : ss.length = len) (hm : len ≤ 9223372036854775807) (hs : StrsAt w a ss)
    (hsep : ∀ b off, a = some ⟨b, off, none⟩ → ss ≠ [] → ¬ Rown r v b) :
    Calls Try.prog 29 #[.pointer (some ⟨r, 0, none⟩), .slice a len cap] w fun e w' => e = .returned (.int .i64 (dropA A ss).2) ∧ ∃ v', RefM w' r most v' (dropA A ss).1 ∧ Off (Rown r v) w w' ∧ (∀ b, Rown r v' b → Rown r v b ∨ w.heap.size ≤ b) := by
  have HH := Lib.hid h
  have Hs := Lib.hid hs
  have Hsep := Lib.hid hsep
  have Hl := Lib.hid hl
  have Hn := Lib.hid hn
  clear h hs hsep hl hn
  go_enter Try.func29, Try.ntmps29
  go_wp2_with (fail)
  go_loopw [5, 6] (fun n i wr => ∃ (k : Nat) (v' : Value), k ≤ len ∧ i = .int .i64 k ∧ n = .int .i64 (dropA A (ss.take k)).2 ∧ Hid (RefM wr r most v' (dropA A (ss.take k)).1) ∧ Off (Rown r v) w wr ∧ Hid (∀ b, Rown r v' b → Rown r v b ∨ w.heap.size ≤ b)) (fun _ i _ => len - (intOf i).toNat)
  case atStart => exact ⟨0, v, Nat.zero_le _, rfl, rfl, HH, Off.refl _ _, fun _ h => Or.inl h⟩
  case round =>
    obtain ⟨k, v', hk, rfl, rfl, HR, hoff, Hsub⟩ := hrel
    have hdle := dropA_le A (ss.take k)
    have htl : (ss.take k).length ≤ k := by simp; omega
    by_cases hlt : k < len
    · rcases Hs.out with h | ⟨b, off, rfl, hbl, hcell⟩
      · exfalso; have := Hl.out; subst h; simp at this; omega
      · have d1w := hcell k (by rw [Hl.out]; exact hlt)
        have hkl : k < ss.length := by rw [Hl.out]; exact hlt
        have htake : ss.take (k + 1) = ss.take k ++ [ss.getD k ⟨#[]⟩] := by
          rw [List.take_add_one]; simp [List.getD, hkl]
        have HT := Lib.hid htake
        have hb := Hsep.out b off rfl (by intro e; rw [e] at hkl; simp at hkl)
        generalize ss.getD k ⟨#[]⟩ = s at *
        have d1 := hoff.cell d1w hb
        clear hcell d1w hb htake
        have k0 : (0 : Int) ≤ k := by omega
        have k1 : (k : Int) < len := by omega
        have hds : dropA A (ss.take (k + 1)) = if hasA (dropA A (ss.take k)).1 s then (delA (dropA A (ss.take k)).1 s, (dropA A (ss.take k)).2 + 1) else dropA A (ss.take k) := by rw [HT.out, dropA_snoc]
        have hnd := dropA_nodup Hn.out (ss.take k)
        have hpl := rplace_any HR.out s
        have hno := plA_no (A := (dropA A (ss.take k)).1) (s := s)
        have hyes := plA_yes (s := s) hnd
        generalize dropA A (ss.take k) = D at hds hnd hpl hno hyes hdle HR ⊢
        obtain ⟨A1, n1⟩ := D
        dsimp only at hds hnd hpl hno hyes hdle HR ⊢
        have n2 : (n1 : Int) < len := by omega
        have n0 : (0 : Int) ≤ n1 := by omega
        clear hdle htl
        cases hhas : hasA A1 s
        · rw [hno hhas] at hpl
          rw [hhas, if_neg (by simp)] at hds
          have HP := Lib.hid hpl
          have HD := Lib.hid hds
          clear hpl hds hno hyes
          go_wp2_with (fail)
          refine HP.out.mono ?_
          rintro e w1 ⟨rfl, rfl⟩
          go_wp2_with (fail)
          exact ⟨⟨k + 1, v', by omega, by go_num, by rw [HD.out], by rw [HD.out]; exact HR, hoff, Hsub⟩, by first | (simp [intOf]; done) | (simp [intOf]; omega)⟩
        · obtain ⟨X, y, C, rfl, rfl, hplx, hdel, _⟩ := hyes hhas
          rw [hplx] at hpl
          rw [hhas, if_pos rfl, hdel] at hds
          have HP := Lib.hid hpl
          have HD := Lib.hid hds
          have HO := Lib.hid (rout_any HR.out)
          have x0 : (0 : Int) ≤ (X.length : Int) := by omega
          clear hpl hds hno hyes hplx hdel
          go_wp2_with (fail)
          refine HP.out.mono ?_
          rintro e w1 ⟨rfl, rfl⟩
          go_wp2_with (fail)
          refine HO.out.mono ?_
          rintro e w2 ⟨rfl, v2, hk2, ho2, hb2⟩
          have HK2 := Lib.hid hk2
          have HO2 := Lib.hid ho2
          have HB2 := Lib.hid hb2
          clear hk2 ho2 hb2
          go_wp2_with (fail)
          refine ⟨⟨k + 1, v2, by omega, by go_num, ?_, by rw [HD.out]; exact HK2, hoff.trans HO2.out (fun i _ e => Or.inl e), fun b hb => ?_⟩, by first | (simp [intOf]; done) | (simp [intOf]; omega)⟩
          · rw [HD.out]
            dsimp only
            go_num
          · rcases hb with hb | hb
            · exact Or.inl (Or.inl hb)
            · right; have := HB2.out b hb; have := hoff.size; omega
    · go_wp2_with (fail)
      go_ret
      have hkk : ss.take k = ss := by rw [List.take_of_length_le]; rw [Hl.out]; omega
      rw [hkk] at HR
      exact ⟨by rw [hkk]; rfl, v', HR.out, hoff, Hsub.out⟩

set_option maxHeartbeats 6400000 in
set_option maxRecDepth 100000 in
theorem rkeys_any {w : World} {r most : Nat} {v : Value} {A : List (ByteArray × Int)} (h : RefM w r most v A) :
    Calls Try.prog 17 #[.pointer (some ⟨r, 0, none⟩)] w fun e w' => ∃ v', e = .returned v' ∧ w'.ownsRow w.heap.size 9 1 v' A.length ((A.map (·.1)).map Value.string) ∧ Below w.heap.size w w' := by
  obtain ⟨i0, hi, hz0, hz1, hz2⟩ := info_parts info_strK
  have hsm := h.small
  have HH := Lib.hid h
  obtain ⟨a0, cap0, rfl⟩ := own_sliceR h.row
  clear h
  go_enter Try.func17, Try.ntmps17
  go_wp2_with (fail)
  go_loopw [3, 4] (fun l i wr => ∃ k : Nat, k ≤ A.length ∧ i = .int .i64 k ∧ Hid (wr.ownsRow w.heap.size 9 1 l k (((A.take k).map (·.1)).map Value.string)) ∧ Below w.heap.size w wr) (fun _ i _ => A.length - (intOf i).toNat)
  case atStart => exact ⟨0, Nat.zero_le _, rfl, World.ownsRow_nil _ _ _ _, Below.refl _ _⟩
  case round =>
    obtain ⟨k, hk, rfl, hrow, hb⟩ := hrel
    obtain ⟨la, lc, rfl⟩ := own_sliceR hrow.out
    have HR := HH.out.below hb
    have c1 := HR.c1
    have k0 : (0 : Int) ≤ k := by omega
    have kl : (A.length : Int) ≤ 4096 := by omega
    by_cases hlt : k < A.length
    · have k1 : (k : Int) < A.length := by omega
      rcases HR.slice with ⟨_, h0⟩ | ⟨g, cap, hv, hcell⟩
      · exfalso; subst h0; simp at hlt
      · injection hv with e1 e2 e3
        subst e1
        obtain ⟨d1, _⟩ := hcell k hlt
        have hrow' := hrow.out
        have hbz := hb.size
        have hnext : ((A.take (k + 1)).map (·.1)).map Value.string = ((A.take k).map (·.1)).map Value.string ++ [.string (A[k]'hlt).1] := by
          rw [List.take_add_one, List.getElem?_eq_getElem hlt, List.map_append, List.map_append]; rfl
        have HN := Lib.hid hnext
        generalize (A[k]'hlt).1 = key at d1 HN
        clear hnext hcell HR
        go_wp2_with (at_builtin; refine wpList_append_own _ rfl (.tmp 18) (.tmp 27) 22 rfl w.heap.size 9 i0 (.string ⟨#[]⟩) 1 16 Try.underlying22 hi hz0 hz1 hz2 rfl (by decide) (.slice la k lc) k (((A.take k).map (·.1)).map Value.string) rfl (hrow'.alloc _) ⟨_, 0, none⟩ 1 1 [.string key] rfl rfl (kcell_one _ _ _) (by simp [Value.oneCell']) (by unfold maxLen; omega) (by omega) (by simp; omega) ?_; intro v3 w3 hown3 hg3 _; have hb3 := after_append (w3 := w) hrow' hbz hb hg3; clear hg3)
        exact ⟨⟨k + 1, by omega, by go_num, by rw [HN.out]; exact hown3, hb3⟩, by first | (simp [intOf]; done) | (simp [intOf]; omega)⟩
    · go_wp2_with (fail)
      go_ret
      have hkk : A.take k = A := List.take_of_length_le (by omega)
      have hke : k = A.length := by omega
      subst hke
      rw [hkk] at hrow
      exact ⟨_, rfl, hrow.out, hb⟩

theorem cells_of_cell {w : World} {a : Addr} {v : Value} (h : w.cell? a = some v) : ∃ c t f, w.heap[a.block]? = some (.cells c t f) := by
  unfold World.cell? at h
  split at h
  · rename_i c e f hb; exact ⟨c, e, f, hb⟩
  · simp at h
theorem run_sameAddr_far {P : Program} (w : World) {a b : Addr} {ca cb : Array Value} {ta tb : TypeId} {fa fb : Nat × Nat} (hne : a.block ≠ b.block) (ha : w.heap[a.block]? = some (.cells ca ta fa)) (hb : w.heap[b.block]? = some (.cells cb tb fb))
    (ga : ∀ o, w.frozen? ⟨a.block, o, none⟩ = false) (gb : ∀ o, w.frozen? ⟨b.block, o, none⟩ = false) : (sameAddr a b).run P w = .ok false w := by
  have e : ∀ (x : Addr), w.frozen? x = w.frozen? ⟨x.block, x.off, none⟩ := fun x => rfl
  have ea : w.frozen? a = false := (e a).trans (ga _)
  have eb : w.frozen? b = false := (e b).trans (gb _)
  have sa : w.shape? a.block = some (ta, ca.size) := by simp [World.shape?, ha]
  have sb : w.shape? b.block = some (tb, cb.size) := by simp [World.shape?, hb]
  simp [sameAddr, hne, ea, noView, viewAt, sa, sb, mayBeOne, stringish, eb, ga, gb]
theorem run_neq_ptr_far {P : Program} (w : World) {tp te : TypeId} {j : TypeInfo} {a b : Addr} {ca cb : Array Value} {ta tb : TypeId} {fa fb : Nat × Nat} (hp : P.underlying tp = some (.pointer te)) (hte : P.info? te = some j) (hsz : j.size ≠ 0)
    (hne : a.block ≠ b.block) (ha : w.heap[a.block]? = some (.cells ca ta fa)) (hb : w.heap[b.block]? = some (.cells cb tb fb)) (ga : ∀ o, w.frozen? ⟨a.block, o, none⟩ = false) (gb : ∀ o, w.frozen? ⟨b.block, o, none⟩ = false) :
    (binOp .neq tp (.pointer (some a)) (.pointer (some b))).run P w = .ok (.bool true) w := by
  have h : ∀ d : Nat, (Op.equalIn (d + 1) tp (.pointer (some a)) (.pointer (some b))).run P w = .ok false w := fun d => by
    simp [Op.equalIn, run_underlying hp, sizeOf, typeInfo, hte, hsz, run_sameAddr_far w hne ha hb ga gb]
  simp only [binOp]
  simp [Op.equal, Op.maxDepth, h 9999]
theorem run_neq_ptr_same {P : Program} (w : World) {tp te : TypeId} {j : TypeInfo} (a : Addr) (hp : P.underlying tp = some (.pointer te)) (hte : P.info? te = some j) :
    (binOp .neq tp (.pointer (some a)) (.pointer (some a))).run P w = .ok (.bool false) w := by
  have h : ∀ d : Nat, (Op.equalIn (d + 1) tp (.pointer (some a)) (.pointer (some a))).run P w = .ok true w := fun d => by
    simp [Op.equalIn, run_underlying hp, sizeOf, typeInfo, hte, run_sameAddr_same]
  simp only [binOp]
  simp [Op.equal, Op.maxDepth, h 9999]
end Go.Proofs.Ytidcbjgiohkidaa
