/- lru: Keys and Fork; sameTexts; nil ones. -/
import Derived.Test.YtidcbjgiohkidaaLruX
import Derived.Test.YtidcbjgiohkidaaLruK
namespace Go.Proofs.Ytidcbjgiohkidaa
open Go.RowKit
set_option linter.unusedVariables false
set_option linter.unusedSimpArgs false

theorem kcell_at (w : World) (u : Value) (t : TypeId) {b : Nat} (hb : b = w.heap.size) : ∀ j x, ([u] : List Value)[j]? = some x → (w.alloc (.cells #[u] t)).cell? ((⟨b, 0, none⟩ : Addr).add j) = some x := by
  subst hb
  exact kcell_one w u t

/-- Pairs in an own row, read. -/
theorem own_pairs {w : World} {base : Nat} {e : TypeId} {v : Value} {n : Nat} {A : List (ByteArray × Int)} (h : w.ownsRow base e 2 v n (flatP A)) (hn : n = A.length) :
    ∃ a cap, v = .slice a n cap ∧ ∀ k (hk : k < A.length), ∃ g, a = some ⟨g, 0, none⟩ ∧ base ≤ g ∧ g < w.heap.size ∧ w.cell? ⟨g, k * 2, none⟩ = some (.string (A[k]'hk).1) ∧ w.cell? ⟨g, k * 2 + 1, none⟩ = some (.int .i64 (A[k]'hk).2) := by
  obtain ⟨h1, h2⟩ := h
  rcases h2 with ⟨rfl, h2⟩ | ⟨g, cap, cur, rfl, hb, hg, hnc, hcm, hcs, htake⟩
  · exact ⟨none, 0, by rw [h2], fun k hk => by omega⟩
  · refine ⟨some ⟨g, 0, none⟩, cap, rfl, fun k hk => ⟨g, rfl, hb, (Array.getElem?_eq_some_iff.1 hg).1, ?_⟩⟩
    have hc := World.ownsRow.cells (w := w) (base := base) (e := e) (size := 2) (n := n) (xs := flatP A) ⟨h1, Or.inr ⟨g, cap, cur, rfl, hb, hg, hnc, hcm, hcs, htake⟩⟩ (g := g) rfl
    obtain ⟨e1, e2⟩ := flatP_get A k hk
    have r1 := hc _ _ e1
    have r2 := hc _ _ e2
    rw [WideShapes.add_plain, Nat.zero_add] at r1 r2
    exact ⟨r1, r2⟩

set_option maxHeartbeats 6400000 in
set_option maxRecDepth 100000 in
theorem lkeys_any {w : World} {m mp most : Nat} {L : List LNode} (h : Lru w m mp most L) :
    Calls Try.prog 16 #[.pointer (some ⟨m, 0, none⟩)] w fun e w' => ∃ v', e = .returned v' ∧ w'.ownsRow w.heap.size 9 1 v' L.length (((pr L).map (·.1)).map Value.string) ∧ Below w.heap.size w w' := by
  obtain ⟨i0, hi, hz0, hz1, hz2⟩ := info_parts info_strK
  have hsm : L.length ≤ 4096 := by have := h.cap; have := h.big; omega
  have HP := Lib.hid (lpairs_any h)
  have hlen := pr_len L
  rw [← hlen] at HP hsm ⊢
  generalize pr L = A at HP hsm ⊢
  clear h hlen
  go_enter Try.func16, Try.ntmps16
  go_wp2_with (fail)
  refine HP.out.mono ?_
  rintro e w1 ⟨pv, rfl, hp1, hb1⟩
  obtain ⟨pa, pc, rfl, hpc⟩ := own_pairs hp1 rfl
  have HPC := Lib.hid hpc
  have HB1 := Lib.hid hb1
  have hz1' := hb1.size
  clear hp1 hpc hb1
  go_wp2_with (fail)
  go_loopw [3, 11] (fun l i wr => ∃ k : Nat, k ≤ A.length ∧ i = .int .i64 k ∧ Hid (wr.ownsRow w1.heap.size 9 1 l k (((A.take k).map (·.1)).map Value.string)) ∧ Below w1.heap.size w1 wr) (fun _ i _ => A.length - (intOf i).toNat)
  case atStart => exact ⟨0, Nat.zero_le _, rfl, World.ownsRow_nil _ _ _ _, Below.refl _ _⟩
  case round =>
    obtain ⟨k, hk, rfl, hrow, hb⟩ := hrel
    obtain ⟨la, lc, rfl⟩ := own_sliceR hrow.out
    have k0 : (0 : Int) ≤ k := by omega
    have kl : (A.length : Int) ≤ 4096 := by omega
    by_cases hlt : k < A.length
    · have k1 : (k : Int) < A.length := by omega
      obtain ⟨g, rfl, hg0, hg1, d1, d2⟩ := HPC.out k hlt
      have d1 := (hb.cell (p := ⟨g, k * 2, none⟩) hg1).trans d1
      have d2 := (hb.cell (p := ⟨g, k * 2 + 1, none⟩) hg1).trans d2
      have hnext : ((A.take (k + 1)).map (·.1)).map Value.string = ((A.take k).map (·.1)).map Value.string ++ [.string (A[k]'hlt).1] := by
        rw [List.take_add_one, List.getElem?_eq_getElem hlt, List.map_append, List.map_append]; rfl
      have HN := Lib.hid hnext
      have hrow2 := (hrow.out).alloc (.cells #[.string (A[k]'hlt).1, .int .i64 (A[k]'hlt).2] 50)
      have hb2 : Below w1.heap.size w1 (wr.alloc (.cells #[.string (A[k]'hlt).1, .int .i64 (A[k]'hlt).2] 50)) := hb.alloc hb.size _
      generalize (A[k]'hlt).1 = key at d1 HN hrow2 hb2
      generalize (A[k]'hlt).2 = val at d2 hrow2 hb2
      have hbz := hb2.size
      clear hnext
      go_wp2_with (at_builtin; refine wpList_append_own _ rfl (.tmp 15) (.tmp 18) 22 rfl w1.heap.size 9 i0 (.string ⟨#[]⟩) 1 16 Try.underlying22 hi hz0 hz1 hz2 rfl (by decide) (.slice la k lc) k (((A.take k).map (·.1)).map Value.string) rfl (hrow2.alloc _) ⟨_, 0, none⟩ 1 1 [.string key] rfl rfl (kcell_at _ _ _ (by simp)) (by simp [Value.oneCell']) (by unfold maxLen; omega) (by omega) (by simp at hbz ⊢; omega) ?_; intro v3 w3 hown3 hg3 _; have hb3 := after_append (w3 := w1) hrow2 hbz hb2 hg3; clear hg3)
      exact ⟨⟨k + 1, by omega, by go_num, by rw [HN.out]; exact hown3, hb3⟩, by first | (simp [intOf]; done) | (simp [intOf]; omega)⟩
    · go_wp2_with (fail)
      go_ret
      have hkk : A.take k = A := List.take_of_length_le (by omega)
      have hke : k = A.length := by omega
      subst hke
      rw [hkk] at hrow
      exact ⟨_, rfl, ownsRow_mono hrow.out hz1', HB1.out.trans (hb.mono hz1')⟩

set_option maxHeartbeats 3200000 in
set_option maxRecDepth 100000 in
theorem same_any {w : World} (a b : Option Addr) (n ca cb : Nat) (ss : List ByteArray) (hl : ss.length = n) (hm : n ≤ 140737488351232) (ha : StrsAt w a ss) (hb : StrsAt w b ss) :
    Calls Try.prog 15 #[.slice a n ca, .slice b n cb] w fun e w' => e = .returned (.bool true) ∧ Below w.heap.size w w' := by
  have HA := Lib.hid ha
  have HB := Lib.hid hb
  have HN := Lib.hid hl
  clear ha hb hl
  go_enter Try.func15, Try.ntmps15
  go_wp2_with (fail)
  go_loopw [5] (fun i wr => ∃ k : Nat, k ≤ n ∧ i = .int .i64 k ∧ Below w.heap.size w wr) (fun i _ => n - (intOf i).toNat)
  case atStart => exact ⟨0, Nat.zero_le _, rfl, Below.refl _ _⟩
  case round =>
    obtain ⟨k, hk, rfl, hbl⟩ := hrel
    by_cases hlt : k < n
    · rcases HA.out with h | ⟨g, off, rfl, hg, hc⟩
      · exfalso; have := HN.out; subst h; simp at this; omega
      · rcases HB.out with h | ⟨g', off', rfl, hg', hc'⟩
        · exfalso; have := HN.out; subst h; simp at this; omega
        · have d1 := (hbl.cell (p := ⟨g, off + k, none⟩) hg).trans (hc k (by rw [HN.out]; exact hlt))
          have d2 := (hbl.cell (p := ⟨g', off' + k, none⟩) hg').trans (hc' k (by rw [HN.out]; exact hlt))
          generalize ss.getD k ⟨#[]⟩ = s at d1 d2
          have k0 : (0 : Int) ≤ k := by omega
          have k1 : (k : Int) < n := by omega
          clear hc hc'
          go_wp2_with (fail)
          go_quiet (fail)
          go_wp2_with (fail)
          exact ⟨⟨k + 1, by omega, by go_num, below_drewF hbl _⟩, by first | (simp [intOf]; done) | (simp [intOf]; omega)⟩
    · go_wp2_with (fail)
      go_ret
      exact ⟨rfl, hbl⟩

set_option maxHeartbeats 1600000 in
theorem lget_nil (s : ByteArray) (w : World) : Calls Try.prog 21 #[.pointer none, .string s] w fun e w' => e = .returned (.tuple #[.int .i64 0, .bool false]) ∧ w' = w := by
  have HP := Lib.hid (peek_nil s w)
  go_enter Try.func21, Try.ntmps21
  go_wp2_with (fail)
  refine HP.out.mono ?_
  rintro e w1 ⟨rfl, rfl⟩
  go_wp2_with (fail)
  go_ret2
  exact ⟨rfl, rfl⟩
set_option maxHeartbeats 1600000 in
theorem lkeys_nil (w : World) : Calls Try.prog 16 #[.pointer none] w fun e w' => e = .returned (.slice none 0 0) ∧ w' = w := by
  go_enter Try.func16, Try.ntmps16
  go_wp2_with (fail)
  go_ret
  exact ⟨rfl, rfl⟩
set_option maxHeartbeats 1600000 in
theorem llen_nil (w : World) : Calls Try.prog 8 #[.pointer none] w fun e w' => e = .returned (.int .i64 0) ∧ w' = w := by
  go_enter Try.func8, Try.ntmps8
  go_wp2_with (fail)
  go_ret
  exact ⟨rfl, rfl⟩
set_option maxHeartbeats 1600000 in
theorem lmost_nil (w : World) : Calls Try.prog 19 #[.pointer none] w fun e w' => e = .returned (.int .i64 0) ∧ w' = w := by
  go_enter Try.func19, Try.ntmps19
  go_wp2_with (fail)
  go_ret
  exact ⟨rfl, rfl⟩
set_option maxHeartbeats 1600000 in
theorem lfork_nil (w : World) : Calls Try.prog 12 #[.pointer none] w fun e w' => e = .returned (.pointer none) ∧ w' = w := by
  go_enter Try.func12, Try.ntmps12
  go_wp2_with (fail)
  go_ret
  exact ⟨rfl, rfl⟩
set_option maxHeartbeats 1600000 in
theorem rfork_nil (w : World) : Calls Try.prog 13 #[.pointer none] w fun e w' => e = .returned (.pointer none) ∧ w' = w := by
  go_enter Try.func13, Try.ntmps13
  go_wp2_with (fail)
  go_ret
  exact ⟨rfl, rfl⟩
set_option maxHeartbeats 3200000 in
theorem ldrop_nil1 (s : ByteArray) (w : World) (b : Nat) (h : w.cell? ⟨b, 0, none⟩ = some (.string s)) :
    Calls Try.prog 22 #[.pointer none, .slice (some ⟨b, 0, none⟩) 1 1] w fun e w' => e = .returned (.int .i64 0) ∧ w' = w := by
  have HP := Lib.hid (peek_nil s w)
  go_enter Try.func22, Try.ntmps22
  go_wp2_with (fail)
  go_loop [5, 12] (fun n i => n = .int .i64 0 ∧ (i = .int .i64 0 ∨ i = .int .i64 1)) (fun _ i => 1 - (intOf i).toNat)
  case atStart => exact ⟨rfl, Or.inl rfl⟩
  case round =>
    obtain ⟨rfl, rfl | rfl⟩ := hrel
    · go_wp2_with (fail)
      refine HP.out.mono ?_
      rintro e w1 ⟨rfl, rfl⟩
      go_wp2_with (fail)
      exact ⟨⟨rfl, Or.inr rfl⟩, by simp [intOf]⟩
    · go_wp2_with (fail)
      go_ret
      exact ⟨rfl, rfl⟩
end Go.Proofs.Ytidcbjgiohkidaa
