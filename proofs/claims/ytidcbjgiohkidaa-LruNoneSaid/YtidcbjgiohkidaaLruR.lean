/- lru's answer by the document: how it lies in memory; New, Len, Most, place, Peek. -/
import Derived.Test.YtidcbjgiohkidaaLruI
import Derived.Test.YtidcbjgiohkidaaOwn
import Derived.OwnWalk
namespace Go.Proofs.Ytidcbjgiohkidaa
open Go.RowKit
set_option linter.unusedVariables false
set_option linter.unusedSimpArgs false

theorem kcell_one (w : World) (u : Value) (t : TypeId) : ∀ j x, ([u] : List Value)[j]? = some x → (w.alloc (.cells #[u] t)).cell? ((⟨w.heap.size, 0, none⟩ : Addr).add j) = some x := by
  intro j x h
  match j with
  | 0 => simp at h; subst h; simp [Addr.add, go_sem]
  | j + 1 => simp at h
theorem krm_kept {wr wx : World} {base size n : Nat} {e : TypeId} {v : Value} {xs : List Value} (h : wr.ownsRow base e size v n xs) (hb : Below wr.heap.size wr wx) : wx.ownsRow base e size v n xs :=
  h.kept (row := none) ⟨hb.os, hb.tape, hb.output, hb.size, fun k hk _ => hb.block k hk⟩ (by cases v.ownBlock <;> simp)
theorem after_append {w3 wr w5 : World} {base size n : Nat} {e : TypeId} {v : Value} {xs : List Value} {o : Obj} (hrow : wr.ownsRow base e size v n xs) (hz : base ≤ wr.heap.size) (hb : Below base w3 wr) (hg : (wr.alloc o).grownBy w5 v.ownBlock) : Below base w3 w5 :=
  (hb.alloc hz o).grown hg (by simp; omega) (fun k e => (hrow.lt k e).1)
theorem info_strK : (Try.prog.info? 9).map (fun i => (i.zero, i.size, i.bytes)) = some (some (.string ⟨#[]⟩), 1, 16) := by kernel_rfl
def flatP (A : List (ByteArray × Int)) : List Value := A.flatMap (fun p => [.string p.1, .int .i64 p.2])
theorem flatP_len (A : List (ByteArray × Int)) : (flatP A).length = A.length * 2 := by
  induction A with
  | nil => rfl
  | cons p A ih => simp only [flatP, List.flatMap_cons, List.length_append, List.length_cons, List.length_nil] at ih ⊢; omega
theorem flatP_append (A B : List (ByteArray × Int)) : flatP (A ++ B) = flatP A ++ flatP B := by simp [flatP]
theorem flatP_get (A : List (ByteArray × Int)) (i : Nat) (hi : i < A.length) : (flatP A)[i * 2]? = some (.string (A[i]'hi).1) ∧ (flatP A)[i * 2 + 1]? = some (.int .i64 (A[i]'hi).2) := by
  have h : A = A.take i ++ A[i] :: A.drop (i + 1) := by rw [List.getElem_cons_drop, List.take_append_drop]
  have hl : (A.take i).length = i := by simp; omega
  have e : flatP A = flatP (A.take i) ++ (.string (A[i]'hi).1 :: .int .i64 (A[i]'hi).2 :: flatP (A.drop (i + 1))) := by
    conv => lhs; rw [h]
    rw [flatP_append]; rfl
  rw [e]
  have hfl : (flatP (A.take i)).length = i * 2 := by rw [flatP_len, hl]
  constructor
  · rw [List.getElem?_append_right (by omega), hfl]; simp
  · rw [List.getElem?_append_right (by omega), hfl, show i * 2 + 1 - i * 2 = 1 by omega]; rfl

structure RefM (w : World) (r : Nat) (most : Nat) (v : Value) (A : List (ByteArray × Int)) : Prop where
  c0 : w.cell? ⟨r, 0, none⟩ = some (.int .i64 most)
  c1 : w.cell? ⟨r, 1, none⟩ = some v
  row : w.ownsRow (r + 1) 64 2 v A.length (flatP A)
  fr : ∀ o, w.frozen? ⟨r, o, none⟩ = false
  small : A.length ≤ 4096
  big : 1 ≤ most ∧ most ≤ 4096

def Rown (r : Nat) (v : Value) (k : Nat) : Prop := k = r ∨ v.ownBlock = some k

theorem RefM.lt {w : World} {r most : Nat} {v : Value} {A : List (ByteArray × Int)} (h : RefM w r most v A) {k : Nat} (hk : Rown r v k) : k < w.heap.size ∧ r ≤ k := by
  rcases hk with rfl | hk
  · exact ⟨World.block_lt_of_cell? w _ h.c0, Nat.le_refl _⟩
  · have := h.row.lt k hk
    exact ⟨this.2, by omega⟩
theorem RefM.kept {w w' : World} {r most : Nat} {v : Value} {A : List (ByteArray × Int)} (h : RefM w r most v A) (hk : ∀ k, Rown r v k → w'.heap[k]? = w.heap[k]?) (hz : w.heap.size ≤ w'.heap.size) : RefM w' r most v A := by
  refine ⟨(World.cell?_of_block (w := w) (hk _ (Or.inl rfl))).trans h.c0, (World.cell?_of_block (w := w) (hk _ (Or.inl rfl))).trans h.c1, ?_, fun o => (World.frozen?_of_block (w := w) (a := ⟨r, o, none⟩) (hk _ (Or.inl rfl))).trans (h.fr o), h.small, h.big⟩
  obtain ⟨h1, h2⟩ := h.row
  refine ⟨h1, ?_⟩
  rcases h2 with h2 | ⟨g, cap, cur, rfl, hb, hg, hn⟩
  · exact Or.inl h2
  · exact Or.inr ⟨g, cap, cur, rfl, hb, (hk g (Or.inr rfl)).trans hg, hn⟩
theorem RefM.off {S : Nat → Prop} {w w' : World} {r most : Nat} {v : Value} {A : List (ByteArray × Int)} (h : RefM w r most v A) (ho : Off S w w') (hS : ∀ b, Rown r v b → ¬ S b) : RefM w' r most v A :=
  h.kept (fun b hb => ho.block b (h.lt hb).1 (hS b hb)) ho.size
theorem RefM.below {w w' : World} {r most : Nat} {v : Value} {A : List (ByteArray × Int)} (h : RefM w r most v A) (hb : Below w.heap.size w w') : RefM w' r most v A :=
  h.kept (fun b ho => hb.block b (h.lt ho).1) hb.size
/-- Its slice, and what it reads. -/
theorem RefM.slice {w : World} {r most : Nat} {v : Value} {A : List (ByteArray × Int)} (h : RefM w r most v A) : (v = .slice none 0 0 ∧ A = []) ∨ ∃ g cap, v = .slice (some ⟨g, 0, none⟩) A.length cap ∧
    ∀ i (hi : i < A.length), w.cell? ⟨g, i * 2, none⟩ = some (.string (A[i]'hi).1) ∧ w.cell? ⟨g, i * 2 + 1, none⟩ = some (.int .i64 (A[i]'hi).2) := by
  obtain ⟨h1, h2⟩ := h.row
  rcases h2 with ⟨rfl, h2⟩ | ⟨g, cap, cur, rfl, hb, hg, hnc, hcm, hcs, htake⟩
  · exact Or.inl ⟨rfl, by cases A; rfl; simp at h2⟩
  · refine Or.inr ⟨g, cap, rfl, fun i hi => ?_⟩
    have hc := World.ownsRow.cells (w := w) (base := r + 1) (e := 64) (size := 2) (n := A.length) (xs := flatP A) ⟨h1, Or.inr ⟨g, cap, cur, rfl, hb, hg, hnc, hcm, hcs, htake⟩⟩ (g := g) rfl
    obtain ⟨e1, e2⟩ := flatP_get A i hi
    have r1 := hc _ _ e1
    have r2 := hc _ _ e2
    rw [WideShapes.add_plain, Nat.zero_add] at r1 r2
    exact ⟨r1, r2⟩

set_option maxHeartbeats 1600000 in
theorem rnew_any (w : World) (most : Int) (h : 1 ≤ most ∧ most ≤ 4096) :
    Calls Try.prog 11 #[.int .i64 most] w fun e w' => e = .returned (.tuple #[.pointer (some ⟨w.heap.size, 0, none⟩), .int .i64 0]) ∧ RefM w' w.heap.size most.toNat (.slice none 0 0) [] ∧ Below w.heap.size w w' ∧ w'.heap.size = w.heap.size + 1 := by
  obtain ⟨h1, h2⟩ := h
  go_enter Try.func11, Try.ntmps11
  go_wp2_with (fail)
  go_ret2
  have hn : (most.toNat : Int) = most := by omega
  have hz : (w.alloc (.cells #[.int .i64 most, .slice none 0 0] 59)).heap[w.heap.size]? = some (.cells #[.int .i64 most, .slice none 0 0] 59) := by
    show (Array.push w.heap _)[_]? = _
    rw [Array.getElem?_push, if_pos rfl]
  refine ⟨rfl, ⟨by simp only [World.cell?, hz, hn]; rfl, by simp only [World.cell?, hz]; rfl, World.ownsRow_nil _ _ _ _, fun o => by simp only [World.frozen?, hz]; simp, by simp, by omega⟩, (Below.refl _ _).alloc (Nat.le_refl _) _, by simp⟩

set_option maxHeartbeats 1600000 in
theorem rnew_no (w : World) (most : Int) (h : ¬ (1 ≤ most ∧ most ≤ 4096)) :
    Calls Try.prog 11 #[.int .i64 most] w fun e w' => e = .returned (.tuple #[.pointer none, .int .i64 2]) ∧ w' = w := by
  by_cases h1 : most < 1
  · clear h
    go_enter Try.func11, Try.ntmps11
    go_wp2_with (fail)
    go_ret2
    exact ⟨rfl, rfl⟩
  · have h2 : 4096 < most := by omega
    clear h
    go_enter Try.func11, Try.ntmps11
    go_wp2_with (fail)
    go_ret2
    exact ⟨rfl, rfl⟩

set_option maxHeartbeats 1600000 in
theorem rlen_any {w : World} {r most : Nat} {v : Value} {A : List (ByteArray × Int)} (h : RefM w r most v A) :
    Calls Try.prog 18 #[.pointer (some ⟨r, 0, none⟩)] w fun e w' => e = .returned (.int .i64 A.length) ∧ w' = w := by
  have c1 := h.c1
  rcases h.slice with ⟨rfl, rfl⟩ | ⟨g, cap, rfl, _⟩
  · clear h
    go_enter Try.func18, Try.ntmps18
    go_wp2_with (fail)
    go_ret
    exact ⟨rfl, rfl⟩
  · clear h
    go_enter Try.func18, Try.ntmps18
    go_wp2_with (fail)
    go_ret
    exact ⟨rfl, rfl⟩

set_option maxHeartbeats 1600000 in
theorem rmost_any {w : World} {r most : Nat} {v : Value} {A : List (ByteArray × Int)} (h : RefM w r most v A) :
    Calls Try.prog 20 #[.pointer (some ⟨r, 0, none⟩)] w fun e w' => e = .returned (.int .i64 most) ∧ w' = w := by
  have c0 := h.c0
  clear h
  go_enter Try.func20, Try.ntmps20
  go_wp2_with (fail)
  go_ret
  exact ⟨rfl, rfl⟩

set_option maxHeartbeats 1600000 in
theorem lmost_any {w : World} {m mp most : Nat} {L : List LNode} (h : LBody w m mp most L) :
    Calls Try.prog 19 #[.pointer (some ⟨m, 0, none⟩)] w fun e w' => e = .returned (.int .i64 most) ∧ w' = w := by
  have c0 := h.c0
  clear h
  go_enter Try.func19, Try.ntmps19
  go_wp2_with (fail)
  go_ret
  exact ⟨rfl, rfl⟩

/-- The place of a key; -1: nowhere. -/
def plA (A : List (ByteArray × Int)) (s : ByteArray) : Int := match A.findIdx? (fun p => p.1.toList == s.toList) with | some i => (i : Int) | none => -1

set_option maxHeartbeats 3200000 in
set_option maxRecDepth 100000 in
theorem rplace_any {w : World} {r most : Nat} {v : Value} {A : List (ByteArray × Int)} (h : RefM w r most v A) (s : ByteArray) :
    Calls Try.prog 30 #[.pointer (some ⟨r, 0, none⟩), .string s] w fun e w' => e = .returned (.int .i64 (plA A s)) ∧ w' = w := by
  have c1 := h.c1
  have hsm := h.small
  rcases h.slice with ⟨rfl, rfl⟩ | ⟨g, cap, rfl, hcell⟩
  · clear h
    go_enter Try.func30, Try.ntmps30
    go_wp2_with (fail)
    go_loop [5] (fun i => i = .int .i64 0) (fun _ => 0)
    case atStart => rfl
    case round =>
      subst hrel
      go_wp2_with (fail)
      go_ret
      exact ⟨rfl, rfl⟩
  · have HC := Lib.hid hcell
    clear h hcell
    go_enter Try.func30, Try.ntmps30
    go_wp2_with (fail)
    go_loop [5] (fun i => ∃ k : Nat, k ≤ A.length ∧ i = .int .i64 k ∧ Hid (∀ j (hj : j < A.length), j < k → (A[j].1.toList == s.toList) = false)) (fun i => A.length - (intOf i).toNat)
    case atStart => exact ⟨0, Nat.zero_le _, rfl, fun j hj h => by omega⟩
    case round =>
      obtain ⟨k, hk, rfl, HN⟩ := hrel
      by_cases hlt : k < A.length
      · obtain ⟨d1, d2⟩ := HC.out k hlt
        have k0 : (0 : Int) ≤ k := by omega
        have k1 : (k : Int) < A.length := by omega
        have k2 : (A.length : Int) ≤ 4096 := by omega
        have HK := Lib.hid (show A[k].1 = A[k].1 from rfl)
        generalize hs : A[k].1 = key at d1
        clear d2
        cases heq : (key.toList == s.toList)
        · have HE := Lib.hid heq
          have HS := Lib.hid hs
          clear hs
          go_wp2_with (fail)
          refine ⟨⟨k + 1, by omega, by go_num, fun j hj hjk => ?_⟩, by first | (simp [intOf]; done) | (simp [intOf]; omega)⟩
          by_cases e : j = k
          · subst e; rw [HS.out]; exact HE.out
          · exact HN.out j hj (by omega)
        · have HE := Lib.hid heq
          have HS := Lib.hid hs
          clear hs
          go_wp2_with (fail)
          go_ret
          have hf : A.findIdx? (fun p => p.1.toList == s.toList) = some k := by
            rw [List.findIdx?_eq_some_iff_getElem]
            refine ⟨hlt, by rw [HS.out]; exact HE.out, fun j hj => by rw [HN.out j (by omega) hj]; simp⟩
          exact ⟨by rw [plA, hf]; rfl, rfl⟩
      · go_wp2_with (fail)
        go_ret
        have hf : A.findIdx? (fun p => p.1.toList == s.toList) = none := by
          rw [List.findIdx?_eq_none_iff]
          intro p hp
          obtain ⟨j, hj, rfl⟩ := List.getElem_of_mem hp
          exact HN.out j hj (by omega)
        exact ⟨by rw [plA, hf]; rfl, rfl⟩
end Go.Proofs.Ytidcbjgiohkidaa
