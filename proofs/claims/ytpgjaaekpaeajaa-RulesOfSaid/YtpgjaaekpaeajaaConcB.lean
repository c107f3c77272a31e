/- rules.Concerns. -/
import Derived.Test.YtpgjaaekpaeajaaConcA
namespace Go.Proofs.Ytpgjaaekpaeajaa
open Go.RowKit
set_option linter.unusedVariables false
set_option linter.unusedSimpArgs false

set_option maxHeartbeats 1600000 in
theorem contains_any (fs : List FlowS) (f : FlowS) (origin : ByteArray) (i : Nat) (bl bi bo b off len cap : Nat) (w : World) (hl : fs.length = len)
    (h1 : w.cell? ⟨bl, 0, none⟩ = some (.slice (some ⟨b, off, none⟩) len cap)) (h2 : w.cell? ⟨bi, 0, none⟩ = some (.int .i64 i)) (h3 : w.cell? ⟨bo, 0, none⟩ = some (.string origin)) (hlt : fs[i]? = some f) (hm : len ≤ 140737488351232)
    (hf : ∀ j g, fs[j]? = some g → FlowAt w b (off + j * 12) g)
    (l1 : bl < w.heap.size) (l2 : bi < w.heap.size) (l3 : bo < w.heap.size) (l4 : b < w.heap.size) :
    Calls Try.prog 31 #[.slice (some ⟨b, off, none⟩) len cap, .func (.func 30) #[] #[.pointer (some ⟨bl, 0, none⟩), .pointer (some ⟨bi, 0, none⟩), .pointer (some ⟨bo, 0, none⟩)]] w
      fun e w' => e = .returned (.bool (fs.any (fun g => ownB g f.res origin))) ∧ Below w.heap.size w w' := by
  have Hx := Lib.hid (index_any fs f origin i bl bi bo b off len cap w hl h1 h2 h3 hlt hm hf l1 l2 l3 l4)
  clear hl h1 h2 h3 hlt hm hf l1 l2 l3 l4
  generalize fs.any (fun g => ownB g f.res origin) = AN at *
  go_enter Try.func31, Try.ntmps31
  go_wp2_with (fail)
  refine Hx.out.mono ?_
  rintro e w2 ⟨⟨n, rfl, (⟨rfl, hn⟩ | ⟨rfl, rfl⟩)⟩, hb2⟩
  · go_wp2_with (fail)
    go_ret
    exact ⟨rfl, hb2⟩
  · go_wp2_with (fail)
    go_ret
    exact ⟨rfl, hb2⟩

set_option maxHeartbeats 3200000 in
set_option maxRecDepth 100000 in
theorem concerns_any (fs : List FlowS) (f : FlowS) (origin : ByteArray) (i b off len cap : Nat) (w : World) (hl : fs.length = len) (hlt : fs[i]? = some f) (hm : len ≤ 140737488351232)
    (hf : ∀ j g, fs[j]? = some g → FlowAt w b (off + j * 12) g) (l4 : b < w.heap.size) :
    Calls Try.prog 12 #[.slice (some ⟨b, off, none⟩) len cap, .int .i64 i, .string origin] w fun e w' => e = .returned (.bool (concF fs f origin)) ∧ Below w.heap.size w w' := by
  have hil : i < len := by
    rw [← hl]; exact (List.getElem?_eq_some_iff.1 hlt).1
  obtain ⟨W0, hW0⟩ : ∃ v, ((w.alloc (.cells #[.slice (some ⟨b, off, none⟩) len cap] 22)).alloc (.cells #[.int .i64 i] 3)).alloc (.cells #[.string origin] 9) = v := ⟨_, rfl⟩
  have B0 : Below w.heap.size w W0 := by rw [← hW0]; exact (((Below.refl _ _).alloc (Nat.le_refl _) _).alloc (by simp) _).alloc (by simp; omega) _
  have z0 : W0.heap.size = w.heap.size + 3 := by rw [← hW0]; simp
  have x1 : W0.cell? ⟨w.heap.size, 0, none⟩ = some (.slice (some ⟨b, off, none⟩) len cap) := by rw [← hW0]; simp [go_sem]
  have x2 : W0.cell? ⟨w.heap.size + 1, 0, none⟩ = some (.int .i64 i) := by rw [← hW0]; simp [go_sem]
  have x3 : W0.cell? ⟨w.heap.size + 1 + 1, 0, none⟩ = some (.string origin) := by rw [← hW0]; simp [go_sem]
  have hf0 : ∀ j g, fs[j]? = some g → FlowAt W0 b (off + j * 12) g := fun j g hg => (hf j g hg).of_block (B0.block b l4)
  have Hx := Lib.hid (contains_any fs f origin i w.heap.size (w.heap.size + 1) (w.heap.size + 1 + 1) b off len cap W0 hl x1 x2 x3 hlt hm hf0 (by omega) (by omega) (by omega) (by omega))
  have HF := Lib.hid (hf0 i f hlt)
  have c1 := HF.out.c1
  have k0 : (0 : Int) ≤ i := by omega
  have k1 : (i : Int) < len := by omega
  unfold concF
  rw [show defaultL = [100, 101, 102, 97, 117, 108, 116] from rfl, show otherL = [111, 116, 104, 101, 114] from rfl]
  generalize fs.any (fun g => ownB g f.res origin) = AN at *
  have BB := Lib.hid B0
  clear hl hlt hf hf0 hil z0 x1 x2 x3 HF B0
  subst hW0
  cases h1 : (f.org.toList == [100, 101, 102, 97, 117, 108, 116])
  · cases h2 : (f.org.toList == origin.toList)
    · cases h3 : (f.org.toList == [111, 116, 104, 101, 114])
      · go_enter Try.func12, Try.ntmps12
        go_wp2_with (fail)
        go_ret
        exact ⟨rfl, BB.out⟩
      · go_enter Try.func12, Try.ntmps12
        go_wp2_with (fail)
        refine Hx.out.mono ?_
        rintro e w2 ⟨rfl, hb2⟩
        go_wp2_with (fail)
        go_ret
        exact ⟨rfl, BB.out.trans (hb2.mono BB.out.size)⟩
    · go_enter Try.func12, Try.ntmps12
      go_wp2_with (fail)
      go_ret
      exact ⟨rfl, BB.out⟩
  · go_enter Try.func12, Try.ntmps12
    go_wp2_with (fail)
    go_ret
    exact ⟨rfl, BB.out⟩
end Go.Proofs.Ytpgjaaekpaeajaa
