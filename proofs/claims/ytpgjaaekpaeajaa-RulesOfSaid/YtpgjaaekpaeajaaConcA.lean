/- rules.Concerns: the closure, and who looks for one by it. -/
import Derived.Test.YtpgjaaekpaeajaaFlow
namespace Go.Proofs.Ytpgjaaekpaeajaa
open Go.RowKit
set_option linter.unusedVariables false
set_option linter.unusedSimpArgs false

set_option maxHeartbeats 3200000 in
set_option maxRecDepth 100000 in
theorem own_any (g f : FlowS) (origin : ByteArray) (i : Nat) (bl bi bo b off len cap : Nat) (w : World)
    (hl : w.cell? ⟨bl, 0, none⟩ = some (.slice (some ⟨b, off, none⟩) len cap)) (hi : w.cell? ⟨bi, 0, none⟩ = some (.int .i64 i)) (ho : w.cell? ⟨bo, 0, none⟩ = some (.string origin)) (hlt : i < len) (hm : len ≤ 140737488351232) (hf : FlowAt w b (off + i * 12) f)
    (l1 : bl < w.heap.size) (l2 : bi < w.heap.size) (l3 : bo < w.heap.size) (l4 : b < w.heap.size) :
    Calls Try.prog 30 #[g.v, .pointer (some ⟨bl, 0, none⟩), .pointer (some ⟨bi, 0, none⟩), .pointer (some ⟨bo, 0, none⟩)] w fun e w' => e = .returned (.bool (ownB g f.res origin)) ∧ Below w.heap.size w w' := by
  have hc := hf.c0
  have k0 : (0 : Int) ≤ i := by omega
  have k1 : (i : Int) < len := by omega
  clear hf
  unfold FlowS.v FlowS.cells ownB
  have B1 := fun o => (Below.refl w.heap.size w).alloc (Nat.le_refl _) o
  rw [show defaultL = [100, 101, 102, 97, 117, 108, 116] from rfl, show otherL = [111, 116, 104, 101, 114] from rfl]
  cases h1 : (g.res.toList == f.res.toList)
  · go_enter Try.func30, Try.ntmps30
    go_wp2_with (fail)
    go_quiet (fail)
    go_wp2_with (fail)
    go_ret
    exact ⟨rfl, below_drewF (B1 _) _⟩
  · cases h2 : (g.org.toList == origin.toList)
    · go_enter Try.func30, Try.ntmps30
      go_wp2_with (fail)
      go_quiet (fail)
      go_wp2_with (fail)
      go_ret
      exact ⟨rfl, below_drewF (B1 _) _⟩
    · cases h3 : (origin.toList == [100, 101, 102, 97, 117, 108, 116])
      · cases h4 : (origin.toList == [111, 116, 104, 101, 114])
        all_goals
          go_enter Try.func30, Try.ntmps30
          go_wp2_with (fail)
          go_quiet (fail)
          go_wp2_with (fail)
          go_ret
          exact ⟨rfl, below_drewF (B1 _) _⟩
      · go_enter Try.func30, Try.ntmps30
        go_wp2_with (fail)
        go_quiet (fail)
        go_wp2_with (fail)
        go_ret
        exact ⟨rfl, below_drewF (B1 _) _⟩

/-- What an index of the first that holds is. -/
def idxF (p : FlowS → Bool) : List FlowS → Nat → Int
  | [], _ => -1
  | f :: fs, k => if p f then (k : Int) else idxF p fs (k + 1)
theorem idxF_no (p : FlowS → Bool) : ∀ (fs : List FlowS) (k : Nat), fs.any p = false → idxF p fs k = -1
  | [], _, _ => rfl
  | f :: fs, k, h => by
    simp only [List.any_cons, Bool.or_eq_false_iff] at h
    unfold idxF; rw [h.1]; exact idxF_no p fs (k + 1) h.2

theorem any_take_step {fs : List FlowS} {p : FlowS → Bool} {k : Nat} {f : FlowS} (h : (fs.take k).any p = false) (hk : fs[k]? = some f) (hp : p f = false) : (fs.take (k + 1)).any p = false := by
  rw [List.take_add_one, hk, List.any_append, h]; simp [hp]
theorem any_hit {fs : List FlowS} {p : FlowS → Bool} {k : Nat} {f : FlowS} (hk : fs[k]? = some f) (hp : p f = true) : fs.any p = true := by
  rw [List.any_eq_true]
  exact ⟨f, List.mem_of_getElem? hk, hp⟩

set_option maxHeartbeats 3200000 in
set_option maxRecDepth 100000 in
/-- Is there one of its own: by the closure. -/
theorem index_any (fs : List FlowS) (f : FlowS) (origin : ByteArray) (i : Nat) (bl bi bo b off len cap : Nat) (w : World) (hl : fs.length = len)
    (h1 : w.cell? ⟨bl, 0, none⟩ = some (.slice (some ⟨b, off, none⟩) len cap)) (h2 : w.cell? ⟨bi, 0, none⟩ = some (.int .i64 i)) (h3 : w.cell? ⟨bo, 0, none⟩ = some (.string origin)) (hlt : fs[i]? = some f) (hm : len ≤ 140737488351232)
    (hf : ∀ j g, fs[j]? = some g → FlowAt w b (off + j * 12) g)
    (l1 : bl < w.heap.size) (l2 : bi < w.heap.size) (l3 : bo < w.heap.size) (l4 : b < w.heap.size) :
    Calls Try.prog 72 #[.slice (some ⟨b, off, none⟩) len cap, .func (.func 30) #[] #[.pointer (some ⟨bl, 0, none⟩), .pointer (some ⟨bi, 0, none⟩), .pointer (some ⟨bo, 0, none⟩)]] w
      fun e w' => (∃ n, e = .returned (.int .i64 n) ∧ ((fs.any (fun g => ownB g f.res origin) = true ∧ 0 ≤ n) ∨ (fs.any (fun g => ownB g f.res origin) = false ∧ n = -1))) ∧ Below w.heap.size w w' := by
  have hil : i < len := by
    rw [← hl]; exact (List.getElem?_eq_some_iff.1 hlt).1
  have Hl := Lib.hid hl
  have Hf := Lib.hid hf
  have Hown := Lib.hid (fun (g : FlowS) (wx : World) (hb : Below w.heap.size w wx) => own_any g f origin i bl bi bo b off len cap wx ((hb.cell (p := ⟨bl, 0, none⟩) l1).trans h1) ((hb.cell (p := ⟨bi, 0, none⟩) l2).trans h2) ((hb.cell (p := ⟨bo, 0, none⟩) l3).trans h3) hil hm ((hf i f hlt).of_block (hb.block b l4)) (Nat.lt_of_lt_of_le l1 hb.size) (Nat.lt_of_lt_of_le l2 hb.size) (Nat.lt_of_lt_of_le l3 hb.size) (Nat.lt_of_lt_of_le l4 hb.size))
  have L4 := Lib.hid l4
  clear hl hf hlt h1 h2 h3 l1 l2 l3 l4 hil
  go_enter Try.func72, Try.ntmps72
  go_wp2_with (fail)
  go_loopw [8] (fun i wr => ∃ k : Nat, k ≤ len ∧ i = .int .i64 k ∧ Hid ((fs.take k).any (fun g => ownB g f.res origin) = false) ∧ Below w.heap.size w wr) (fun i _ => len - (intOf i).toNat)
  case atStart => exact ⟨0, Nat.zero_le _, rfl, rfl, Below.refl _ _⟩
  case round =>
    obtain ⟨k, hk, rfl, ha, hbr⟩ := hrel
    by_cases hlt : k < len
    · obtain ⟨g, hg⟩ : ∃ g, fs[k]? = some g := ⟨_, List.getElem?_eq_getElem (by rw [Hl.out]; exact hlt)⟩
      obtain ⟨c0, c1, c2, c3, c4, c5, c6, c7, c8, c9, c10, c11⟩ := (Hf.out k g hg).of_block (hbr.block b L4.out)
      have Hst := Lib.hid (fun hp => any_take_step (p := fun g => ownB g f.res origin) ha.out hg hp)
      have Hhit := Lib.hid (fun hp => any_hit (p := fun g => ownB g f.res origin) hg hp)
      have Hc := Lib.hid (Hown.out g)
      have Hr := Lib.hid (Hown.out g wr hbr)
      have k0 : (0 : Int) ≤ k := by omega
      have k1 : (k : Int) < len := by omega
      clear hg Hc
      unfold FlowS.v FlowS.cells at Hr
      cases hO : ownB g f.res origin with
      | true =>
        rw [hO] at Hr
        have HT := Lib.hid (Hhit.out hO)
        clear hO Hst Hhit
        go_wp2_with (fail)
        refine Hr.out.mono ?_
        rintro e w2 ⟨rfl, hb2⟩
        go_wp2_with (fail)
        go_ret
        exact ⟨⟨_, rfl, Or.inl ⟨HT.out, by omega⟩⟩, hbr.trans (hb2.mono hbr.size)⟩
      | false =>
        rw [hO] at Hr
        have HT := Lib.hid (Hst.out hO)
        clear hO Hst Hhit
        go_wp2_with (fail)
        refine Hr.out.mono ?_
        rintro e w2 ⟨rfl, hb2⟩
        clear c0 c1 c2 c3 c4 c5 c6 c7 c8 c9 c10 c11
        go_wp2_with (fail)
        exact ⟨⟨k + 1, by omega, by go_num, HT, hbr.trans (hb2.mono hbr.size)⟩, by simp [intOf]; omega⟩
    · have hkl : k = len := by omega
      subst hkl
      have hall : Hid (fs.any (fun g => ownB g f.res origin) = false) := by have := ha.out; rwa [List.take_of_length_le (by rw [Hl.out]; exact Nat.le_refl _)] at this
      go_wp2_with (fail)
      go_ret
      exact ⟨⟨_, rfl, Or.inr ⟨hall.out, rfl⟩⟩, hbr⟩
end Go.Proofs.Ytpgjaaekpaeajaa
