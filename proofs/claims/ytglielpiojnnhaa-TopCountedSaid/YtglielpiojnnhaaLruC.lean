/- lru: the contracts of out and touch, of Peek and Len. -/
import Derived.Test.YtglielpiojnnhaaLruB
namespace Go.Proofs.Ytglielpiojnnhaa
open Go.RowKit
set_option linter.unusedVariables false
set_option linter.unusedSimpArgs false

theorem Ring.drew {w : World} {m : Nat} {B : List Nat} (h : Ring w m B) : Ring w.drew m B := h.kept (fun _ _ => rfl)
theorem LBody.drew {w : World} {m mp most : Nat} {L : List LNode} (h : LBody w m mp most L) : LBody w.drew m mp most L := h.kept (fun _ _ => rfl)
theorem Off.drew {S : Nat → Prop} {w w' : World} (h : Off S w w') : Off S w w'.drew := ⟨h.os, h.tape, h.output, h.size, h.block⟩
theorem cell_in {w : World} {p q : Addr} {x v : Value} (h : w.cell? q = some v) : ∃ v', (w.setCell p x).cell? q = some v' := cell?_setCell_some h

theorem lout_any (w : World) (m mp most : Nat) (A C L : List LNode) (x : LNode) (hr : Ring w m ((A ++ x :: C).map (·.b))) (hb : LBody w m mp most L) :
    Calls Try.prog 14 #[.pointer (some ⟨x.b, 0, none⟩)] w fun e w' => e = .returned (.tuple #[]) ∧ Ring w' m ((A ++ C).map (·.b)) ∧ LBody w' m mp most L ∧
      Off (fun k => k = m ∨ k ∈ (A ++ x :: C).map (·.b)) w w' ∧ (∀ o, w'.frozen? ⟨x.b, o, none⟩ = false) ∧ (∃ u, w'.cell? ⟨x.b, 2, none⟩ = some u) ∧ (∃ u, w'.cell? ⟨x.b, 3, none⟩ = some u) := by
  have hlen : A.length < ((A ++ x :: C).map (·.b)).length := by simp
  have hx : ((A ++ x :: C).map (·.b))[A.length]? = some x.b := by simp
  have he : ((A ++ x :: C).map (·.b)).eraseIdx A.length = (A ++ C).map (·.b) := by
    simp [List.eraseIdx_append_of_length_le]
  obtain ⟨e1, e2⟩ := rb_in (m := m) hx
  have h2 := hr.ahead A.length (by omega)
  have h3 := hr.behind (A.length + 1) (by omega)
  have hp := hr.behind A.length (by omega)
  have hq := hr.ahead (A.length + 1) (by omega)
  rw [e1, e2] at h2 h3
  have hout := hr.out hlen
  rw [he] at hout
  have fr := hr.fr
  refine (out_gen w x.b _ _ _ _ _ _ h2 h3 hp hq (fr _ (rb_mem _)) (fr _ (rb_mem _)) (by rcases ro_two ((A ++ x :: C).map (·.b)) A.length with h | h <;> rcases ro_two ((A ++ x :: C).map (·.b)) (A.length + 1 + 1) with h' | h' <;> omega)).mono ?_
  rintro e w' ⟨rfl, rfl⟩
  have inb : ∀ j, rb m ((A ++ x :: C).map (·.b)) j = m ∨ rb m ((A ++ x :: C).map (·.b)) j ∈ (A ++ x :: C).map (·.b) := fun j => List.mem_cons.1 (rb_mem j)
  refine ⟨rfl, hout.drew, ?_, ?_, fun o => ?_, ?_, ?_⟩
  · obtain ⟨v', hv'⟩ := cell_in (p := ⟨rb m ((A ++ x :: C).map (·.b)) A.length, ro ((A ++ x :: C).map (·.b)) A.length + 3, none⟩) (x := .pointer (some ⟨rb m ((A ++ x :: C).map (·.b)) (A.length + 1 + 1), ro ((A ++ x :: C).map (·.b)) (A.length + 1 + 1), none⟩)) hq
    exact ((hb.setPtr hp (by simp)).setPtr hv' (by simp)).drew
  · exact (((Off.refl _ w).setCell (fun _ => inb A.length) _).setCell (fun _ => inb (A.length + 1 + 1)) _).drew
  · show World.frozen? (World.setCell _ _ _) _ = false
    simp only [World.frozen?_setCell]
    exact fr _ (by simp) o
  · obtain ⟨u1, hu1⟩ := cell_in (p := ⟨rb m ((A ++ x :: C).map (·.b)) A.length, ro ((A ++ x :: C).map (·.b)) A.length + 3, none⟩) (x := .pointer (some ⟨rb m ((A ++ x :: C).map (·.b)) (A.length + 1 + 1), ro ((A ++ x :: C).map (·.b)) (A.length + 1 + 1), none⟩)) h2
    exact cell_in hu1
  · obtain ⟨u1, hu1⟩ := cell_in (p := ⟨rb m ((A ++ x :: C).map (·.b)) A.length, ro ((A ++ x :: C).map (·.b)) A.length + 3, none⟩) (x := .pointer (some ⟨rb m ((A ++ x :: C).map (·.b)) (A.length + 1 + 1), ro ((A ++ x :: C).map (·.b)) (A.length + 1 + 1), none⟩)) h3
    exact cell_in hu1

theorem ltouch_any (w : World) (m mp most c : Nat) (B : List Nat) (L : List LNode) (hr : Ring w m B) (hb : LBody w m mp most L) (hc : c ∉ m :: B) (hf : ∀ o, w.frozen? ⟨c, o, none⟩ = false) (h2 : ∃ u, w.cell? ⟨c, 2, none⟩ = some u) (h3 : ∃ u, w.cell? ⟨c, 3, none⟩ = some u) :
    Calls Try.prog 15 #[.pointer (some ⟨m, 0, none⟩), .pointer (some ⟨c, 0, none⟩)] w fun e w' => e = .returned (.tuple #[]) ∧ Ring w' m (B ++ [c]) ∧ LBody w' m mp most L ∧
      Off (fun k => k = m ∨ k ∈ B ∨ k = c) w w' := by
  obtain ⟨u, h2⟩ := h2
  obtain ⟨v, h3⟩ := h3
  have h4 := hr.ahead B.length (by omega)
  rw [rb_end, ro_end] at h4
  have hp := hr.behind B.length (by omega)
  have hpc : rb m B B.length ≠ c := fun e => hc (e ▸ rb_mem _)
  have hmc : m ≠ c := fun e => hc (by simp [e])
  have ht := hr.touch hc h2 h3 hf
  refine (touch_gen w m c _ _ _ u v h4 hp h2 h3 (hr.fr _ (rb_mem _)) (hr.fr _ (by simp)) hf hpc hmc (by rcases ro_two B B.length with h | h <;> omega)).mono ?_
  rintro e w' ⟨rfl, rfl⟩
  have inb : rb m B B.length = m ∨ rb m B B.length ∈ B := List.mem_cons.1 (rb_mem _)
  refine ⟨rfl, ht.drew, ?_, ?_⟩
  · obtain ⟨a1, k1⟩ := cell_in (p := ⟨c, 2, none⟩) (x := rp m B B.length) h3
    obtain ⟨a2, k2⟩ := cell_in (p := ⟨c, 2, none⟩) (x := rp m B B.length) hp
    obtain ⟨a3, k3⟩ := cell_in (p := ⟨c, 3, none⟩) (x := .pointer (some ⟨m, 2, none⟩)) k2
    obtain ⟨a4, k4⟩ := cell_in (p := ⟨c, 2, none⟩) (x := rp m B B.length) h4
    obtain ⟨a5, k5⟩ := cell_in (p := ⟨c, 3, none⟩) (x := .pointer (some ⟨m, 2, none⟩)) k4
    obtain ⟨a6, k6⟩ := cell_in (p := ⟨rb m B B.length, ro B B.length + 3, none⟩) (x := .pointer (some ⟨c, 0, none⟩)) k5
    exact ((((hb.setPtr h2 (by simp)).setPtr k1 (by simp)).setPtr k3 (by simp)).setPtr k6 (by simp)).drew
  · exact (((((Off.refl _ w).setCell (fun _ => Or.inr (Or.inr rfl)) _).setCell (fun _ => Or.inr (Or.inr rfl)) _).setCell (fun _ => by rcases inb with h | h; exact Or.inl h; exact Or.inr (Or.inl h)) _).setCell (fun _ => Or.inl rfl) _).drew
end Go.Proofs.Ytglielpiojnnhaa
