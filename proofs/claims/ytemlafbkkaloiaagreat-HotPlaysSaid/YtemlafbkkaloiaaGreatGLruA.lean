import Derived.BigRegion
import Derived.WalkKit
import Derived.WalkSpells
import Derived.WalkLawsBesides
import Derived.BigQuiet
import Derived.Deep.QuietTactic
import Derived.Deep.DeepCutAuto
import Derived.Deep.CutBlock
import Derived.Lib.Hide
import Derived.Test.YtemlafbkkaloiaaGreatRing
import Derived.Test.YtemlafbkkaloiaaGreatPtrMap
import Derived.Test.YtemlafbkkaloiaaGreatShelf
set_option linter.unusedVariables false
set_option linter.unusedSimpArgs false
namespace Go.Proofs.YtemlafbkkaloiaaGreat
open Go.RowKit
set_option maxHeartbeats 3200000 in
set_option maxRecDepth 100000 in
theorem out_gen (w : World) (b pa po qa qo : Nat) (x y : Value) (h2 : w.cell? ⟨b, 2, none⟩ = some (.pointer (some ⟨pa, po, none⟩))) (h3 : w.cell? ⟨b, 3, none⟩ = some (.pointer (some ⟨qa, qo, none⟩)))
    (hp : w.cell? ⟨pa, po + 3, none⟩ = some x) (hq : w.cell? ⟨qa, qo + 2, none⟩ = some y) (fp : ∀ o, w.frozen? ⟨pa, o, none⟩ = false) (fq : ∀ o, w.frozen? ⟨qa, o, none⟩ = false) (hne : po + 3 ≠ qo + 2) :
    Calls Tryz.prog 94 #[.pointer (some ⟨b, 0, none⟩)] w fun e w' => e = .returned (.tuple #[]) ∧ w' = ((w.setCell ⟨pa, po + 3, none⟩ (.pointer (some ⟨qa, qo, none⟩))).setCell ⟨qa, qo + 2, none⟩ (.pointer (some ⟨pa, po, none⟩))).drew := by
  have hq' : (w.setCell ⟨pa, po + 3, none⟩ (.pointer (some ⟨qa, qo, none⟩))).cell? ⟨qa, qo + 2, none⟩ = some y := cell_far hq (fun e => by injection e with _ e2; exact hne e2)
  clear hne
  go_enter Tryz.func94, Tryz.ntmps94
  go_wp2_with (fail)
  go_region
  all_goals
    go_wp2_with (fail)
    go_end0
    exact ⟨rfl, rfl⟩
set_option maxHeartbeats 3200000 in
set_option maxRecDepth 100000 in
theorem touch_gen (w : World) (m c pa po : Nat) (x u v : Value) (h4 : w.cell? ⟨m, 4, none⟩ = some (.pointer (some ⟨pa, po, none⟩))) (hp : w.cell? ⟨pa, po + 3, none⟩ = some x)
    (h2 : w.cell? ⟨c, 2, none⟩ = some u) (h3 : w.cell? ⟨c, 3, none⟩ = some v) (fp : ∀ o, w.frozen? ⟨pa, o, none⟩ = false) (fm : ∀ o, w.frozen? ⟨m, o, none⟩ = false) (fc : ∀ o, w.frozen? ⟨c, o, none⟩ = false)
    (hpc : pa ≠ c) (hmc : m ≠ c) (hpo : po + 3 ≠ 4) :
    Calls Tryz.prog 95 #[.pointer (some ⟨m, 0, none⟩), .pointer (some ⟨c, 0, none⟩)] w fun e w' => e = .returned (.tuple #[]) ∧
      w' = ((((w.setCell ⟨c, 2, none⟩ (.pointer (some ⟨pa, po, none⟩))).setCell ⟨c, 3, none⟩ (.pointer (some ⟨m, 2, none⟩))).setCell ⟨pa, po + 3, none⟩ (.pointer (some ⟨c, 0, none⟩))).setCell ⟨m, 4, none⟩ (.pointer (some ⟨c, 0, none⟩))).drew := by
  have k3 : (w.setCell ⟨c, 2, none⟩ (.pointer (some ⟨pa, po, none⟩))).cell? ⟨c, 3, none⟩ = some v := cell_far h3 (fun e => by injection e with _ e2; omega)
  have k2 : ((w.setCell ⟨c, 2, none⟩ (.pointer (some ⟨pa, po, none⟩))).setCell ⟨c, 3, none⟩ (.pointer (some ⟨m, 2, none⟩))).cell? ⟨c, 2, none⟩ = some (.pointer (some ⟨pa, po, none⟩)) := cell_far (cell_same h2) (fun e => by injection e with _ e2; omega)
  have kp : ((w.setCell ⟨c, 2, none⟩ (.pointer (some ⟨pa, po, none⟩))).setCell ⟨c, 3, none⟩ (.pointer (some ⟨m, 2, none⟩))).cell? ⟨pa, po + 3, none⟩ = some x := cell_far (cell_far hp (fun e => by injection e with e1 _; exact hpc e1.symm)) (fun e => by injection e with e1 _; exact hpc e1.symm)
  have km : (((w.setCell ⟨c, 2, none⟩ (.pointer (some ⟨pa, po, none⟩))).setCell ⟨c, 3, none⟩ (.pointer (some ⟨m, 2, none⟩))).setCell ⟨pa, po + 3, none⟩ (.pointer (some ⟨c, 0, none⟩))).cell? ⟨m, 4, none⟩ = some (.pointer (some ⟨pa, po, none⟩)) :=
    cell_far (cell_far (cell_far h4 (fun e => by injection e with e1 _; exact hmc e1.symm)) (fun e => by injection e with e1 _; exact hmc e1.symm)) (fun e => by injection e with _ e2; exact hpo e2)
  clear hpc hmc hpo
  go_enter Tryz.func95, Tryz.ntmps95
  go_wp2_with (fail)
  go_region
  all_goals
    go_wp2_with (fail)
    go_end0
    exact ⟨rfl, rfl⟩
end Go.Proofs.YtemlafbkkaloiaaGreat
namespace Go.Proofs.YtemlafbkkaloiaaGreat
open Go.RowKit
structure LNode where
  b : Nat
  k : ByteArray
  v : Int
structure LBody (w : World) (m mp : Nat) (most : Nat) (L : List LNode) : Prop where
  c0 : w.cell? ⟨m, 0, none⟩ = some (.int .i64 most)
  c1 : w.cell? ⟨m, 1, none⟩ = some (.map (some mp))
  key : ∀ x, x ∈ L → w.cell? ⟨x.b, 0, none⟩ = some (.string x.k)
  val : ∀ x, x ∈ L → w.cell? ⟨x.b, 1, none⟩ = some (.int .i64 x.v)
  map : ∃ f, MapOf w mp f L.length ∧ ∀ s b, f s = some b ↔ ∃ x, x ∈ L ∧ x.k = s ∧ x.b = b
  keys : (L.map (·.k)).Nodup
  small : ∀ x, x ∈ L → x.k.size ≤ maxLen
structure Lru (w : World) (m mp : Nat) (most : Nat) (L : List LNode) : Prop where
  ring : Ring w m (L.map (·.b))
  body : LBody w m mp most L
  cap : L.length ≤ most
  big : 1 ≤ most ∧ most ≤ 4096
def Lown (m mp : Nat) (L : List LNode) (k : Nat) : Prop := k = m ∨ k = mp ∨ k ∈ L.map (·.b)
theorem Ring.kept {w w' : World} {m : Nat} {B : List Nat} (h : Ring w m B) (hk : ∀ b, b ∈ m :: B → w'.heap[b]? = w.heap[b]?) : Ring w' m B :=
  ⟨h.nodup, fun j hj => (World.cell?_of_block (w := w) (hk _ (rb_mem j))).trans (h.behind j hj), fun j hj => (World.cell?_of_block (w := w) (hk _ (rb_mem (j + 1)))).trans (h.ahead j hj),
    fun b hb o => (World.frozen?_of_block (w := w) (a := ⟨b, o, none⟩) (hk b hb)).trans (h.fr b hb o)⟩
theorem Ring.set {w : World} {m : Nat} {B : List Nat} (h : Ring w m B) (b o : Nat) (ho : o < 2) (u : Value) : Ring (w.setCell ⟨b, o, none⟩ u) m B :=
  ⟨h.nodup, fun j hj => cell_far (h.behind j hj) (fun e => by injection e with _ e2; omega), fun j hj => cell_far (h.ahead j hj) (fun e => by injection e with _ e2; omega),
    fun b hb o => by simp only [World.frozen?_setCell]; exact h.fr b hb o⟩
theorem map_not_cells {w : World} {mp n : Nat} {f : ByteArray → Option Nat} (h : MapOf w mp f n) {a : Addr} {v : Value} (ha : w.cell? a = some v) : a.block ≠ mp := by
  obtain ⟨D, ⟨es, clock, hb, _⟩, _⟩ := h
  intro e
  simp [World.cell?, e, hb] at ha
theorem LBody.kept {w w' : World} {m mp most : Nat} {L : List LNode} (h : LBody w m mp most L) (hk : ∀ b, Lown m mp L b → w'.heap[b]? = w.heap[b]?) : LBody w' m mp most L := by
  obtain ⟨f, h1, h2⟩ := h.map
  exact ⟨(World.cell?_of_block (w := w) (hk _ (Or.inl rfl))).trans h.c0, (World.cell?_of_block (w := w) (hk _ (Or.inl rfl))).trans h.c1,
    fun x hx => (World.cell?_of_block (w := w) (hk _ (Or.inr (Or.inr (List.mem_map.2 ⟨x, hx, rfl⟩))))).trans (h.key x hx), fun x hx => (World.cell?_of_block (w := w) (hk _ (Or.inr (Or.inr (List.mem_map.2 ⟨x, hx, rfl⟩))))).trans (h.val x hx),
    ⟨f, h1.kept (hk _ (Or.inr (Or.inl rfl))), h2⟩, h.keys, h.small⟩
theorem Lru.kept {w w' : World} {m mp most : Nat} {L : List LNode} (h : Lru w m mp most L) (hk : ∀ b, Lown m mp L b → w'.heap[b]? = w.heap[b]?) : Lru w' m mp most L :=
  ⟨h.ring.kept (fun b hb => hk b (by rcases List.mem_cons.1 hb with rfl | hb; exact Or.inl rfl; exact Or.inr (Or.inr hb))), h.body.kept hk, h.cap, h.big⟩
theorem Lru.lt {w : World} {m mp most : Nat} {L : List LNode} (h : Lru w m mp most L) {b : Nat} (hb : Lown m mp L b) : b < w.heap.size := by
  rcases hb with rfl | rfl | hb
  · exact World.block_lt_of_cell? w _ h.body.c0
  · obtain ⟨f, h1, _⟩ := h.body.map
    exact h1.lt
  · obtain ⟨x, hx, rfl⟩ := List.mem_map.1 hb
    exact World.block_lt_of_cell? w _ (h.body.key x hx)
theorem Lru.off {S : Nat → Prop} {w w' : World} {m mp most : Nat} {L : List LNode} (h : Lru w m mp most L) (ho : Off S w w') (hS : ∀ b, Lown m mp L b → ¬ S b) : Lru w' m mp most L :=
  h.kept (fun b hb => ho.block b (h.lt hb) (hS b hb))
theorem Lru.below {w w' : World} {m mp most : Nat} {L : List LNode} (h : Lru w m mp most L) (hb : Below w.heap.size w w') : Lru w' m mp most L :=
  h.kept (fun b ho => hb.block b (h.lt ho))
theorem LBody.setPtr {w : World} {m mp most : Nat} {L : List LNode} (h : LBody w m mp most L) {a : Addr} {u v : Value} (ha : w.cell? a = some v) (ho : 2 ≤ a.off) : LBody (w.setCell a u) m mp most L := by
  obtain ⟨f, h1, h2⟩ := h.map
  have ne : ∀ b o, o < 2 → a ≠ ⟨b, o, none⟩ := fun b o hlt e => by rw [e] at ho; simp at ho; omega
  exact ⟨cell_far h.c0 (ne _ _ (by omega)), cell_far h.c1 (ne _ _ (by omega)), fun x hx => cell_far (h.key x hx) (ne _ _ (by omega)), fun x hx => cell_far (h.val x hx) (ne _ _ (by omega)),
    ⟨f, h1.kept (Below.heap_setCell _ _ _ _ (fun e => map_not_cells h1 ha e.symm)), h2⟩, h.keys, h.small⟩
theorem LBody.perm {w : World} {m mp most : Nat} {L L' : List LNode} (h : LBody w m mp most L) (hp : L'.Perm L) : LBody w m mp most L' := by
  obtain ⟨f, h1, h2⟩ := h.map
  refine ⟨h.c0, h.c1, fun x hx => h.key x (hp.mem_iff.1 hx), fun x hx => h.val x (hp.mem_iff.1 hx), ⟨f, hp.length_eq ▸ h1, fun s b => (h2 s b).trans ?_⟩, (hp.map _).nodup_iff.2 h.keys, fun x hx => h.small x (hp.mem_iff.1 hx)⟩
  exact ⟨fun ⟨x, hx, r⟩ => ⟨x, hp.mem_iff.2 hx, r⟩, fun ⟨x, hx, r⟩ => ⟨x, hp.mem_iff.1 hx, r⟩⟩
theorem nodup_map_inj {α β : Type} {f : α → β} : ∀ {L : List α}, (L.map f).Nodup → ∀ {x y : α}, x ∈ L → y ∈ L → f x = f y → x = y
  | [], _, _, _, hx, _, _ => by simp at hx
  | z :: L, hn, x, y, hx, hy, e => by
    simp only [List.map_cons, List.nodup_cons] at hn
    rcases List.mem_cons.1 hx with rfl | hx <;> rcases List.mem_cons.1 hy with rfl | hy
    · rfl
    · exact absurd (List.mem_map.2 ⟨_, by assumption, e.symm⟩) hn.1
    · exact absurd (List.mem_map.2 ⟨_, by assumption, e⟩) hn.1
    · exact nodup_map_inj hn.2 hx hy e
theorem LBody.setVal {w : World} {m mp most : Nat} {A C : List LNode} {x : LNode} (h : LBody w m mp most (A ++ x :: C)) (hr : (m :: (A ++ x :: C).map (·.b)).Nodup) (v : Int) :
    LBody (w.setCell ⟨x.b, 1, none⟩ (.int .i64 v)) m mp most (A ++ ⟨x.b, x.k, v⟩ :: C) := by
  obtain ⟨f, h1, h2⟩ := h.map
  have hx : x ∈ A ++ x :: C := by simp
  have hm : x.b ≠ m := by
    intro e
    rw [List.nodup_cons] at hr
    exact hr.1 (List.mem_map.2 ⟨x, hx, e⟩)
  have other : ∀ y, y ∈ A ++ C → y.b ≠ x.b := by
    intro y hy e
    rw [List.nodup_cons] at hr
    have h3 := hr.2
    simp only [List.map_append, List.map_cons] at h3
    rw [List.nodup_append] at h3
    obtain ⟨_, h5, h6⟩ := h3
    rw [List.nodup_cons] at h5
    rcases List.mem_append.1 hy with hy | hy
    · exact h6 y.b (List.mem_map.2 ⟨y, hy, rfl⟩) x.b (by simp) e
    · exact h5.1 (e ▸ List.mem_map.2 ⟨y, hy, rfl⟩)
  have mem : ∀ y, y ∈ A ++ ⟨x.b, x.k, v⟩ :: C → y = ⟨x.b, x.k, v⟩ ∨ y ∈ A ++ C := by
    intro y hy
    simp only [List.mem_append, List.mem_cons] at hy ⊢
    rcases hy with hy | hy | hy
    · exact Or.inr (Or.inl hy)
    · exact Or.inl hy
    · exact Or.inr (Or.inr hy)
  have mem' : ∀ y, y ∈ A ++ C → y ∈ A ++ x :: C := by
    intro y hy
    simp only [List.mem_append, List.mem_cons] at hy ⊢
    rcases hy with hy | hy
    · exact Or.inl hy
    · exact Or.inr (Or.inr hy)
  refine ⟨cell_far h.c0 (by simp), cell_far h.c1 (by simp [hm]), fun y hy => ?_, fun y hy => ?_, ⟨f, ?_, fun s b => (h2 s b).trans ?_⟩, ?_, fun y hy => ?_⟩
  · rcases mem y hy with rfl | hy
    · exact cell_far (h.key x hx) (by simp)
    · exact cell_far (h.key y (mem' y hy)) (by simp)
  · rcases mem y hy with rfl | hy
    · exact cell_same (h.val x hx)
    · exact cell_far (h.val y (mem' y hy)) (by simp; exact fun e => other y hy e.symm)
  · have := h1.kept (w' := w.setCell ⟨x.b, 1, none⟩ (.int .i64 v)) (Below.heap_setCell _ _ _ _ (fun e => map_not_cells h1 (h.val x hx) e.symm))
    simpa using this
  · constructor
    · rintro ⟨y, hy, rfl, rfl⟩
      simp only [List.mem_append, List.mem_cons] at hy
      rcases hy with hy | rfl | hy
      · exact ⟨y, by simp [hy], rfl, rfl⟩
      · exact ⟨⟨y.b, y.k, v⟩, by simp, rfl, rfl⟩
      · exact ⟨y, by simp [hy], rfl, rfl⟩
    · rintro ⟨y, hy, rfl, rfl⟩
      rcases mem y hy with rfl | hy
      · exact ⟨x, hx, rfl, rfl⟩
      · exact ⟨y, mem' y hy, rfl, rfl⟩
  · simpa using h.keys
  · rcases mem y hy with rfl | hy
    · exact h.small x hx
    · exact h.small y (mem' y hy)
end Go.Proofs.YtemlafbkkaloiaaGreat
namespace Go.Proofs.YtemlafbkkaloiaaGreat
open Go.RowKit
theorem Ring.drew {w : World} {m : Nat} {B : List Nat} (h : Ring w m B) : Ring w.drew m B := h.kept (fun _ _ => rfl)
theorem LBody.drew {w : World} {m mp most : Nat} {L : List LNode} (h : LBody w m mp most L) : LBody w.drew m mp most L := h.kept (fun _ _ => rfl)
theorem Off.drew {S : Nat → Prop} {w w' : World} (h : Off S w w') : Off S w w'.drew := ⟨h.os, h.tape, h.output, h.size, h.block⟩
theorem cell_in {w : World} {p q : Addr} {x v : Value} (h : w.cell? q = some v) : ∃ v', (w.setCell p x).cell? q = some v' := cell?_setCell_some h
theorem lout_any (w : World) (m mp most : Nat) (A C L : List LNode) (x : LNode) (hr : Ring w m ((A ++ x :: C).map (·.b))) (hb : LBody w m mp most L) :
    Calls Tryz.prog 94 #[.pointer (some ⟨x.b, 0, none⟩)] w fun e w' => e = .returned (.tuple #[]) ∧ Ring w' m ((A ++ C).map (·.b)) ∧ LBody w' m mp most L ∧
      Off (fun k => k = m ∨ k ∈ (A ++ x :: C).map (·.b)) w w' ∧ (∀ o, w'.frozen? ⟨x.b, o, none⟩ = false) ∧ (∃ u, w'.cell? ⟨x.b, 2, none⟩ = some u) ∧ (∃ u, w'.cell? ⟨x.b, 3, none⟩ = some u) := by
  have hlen : A.length < ((A ++ x :: C).map (·.b)).length := by simp
  have hx : ((A ++ x :: C).map (·.b))[A.length]? = some x.b := by simp
  have he : ((A ++ x :: C).map (·.b)).eraseIdx A.length = (A ++ C).map (·.b) := by
    simp [List.eraseIdx_append_of_length_le]
  obtain ⟨e1, e2⟩ := rb_in (m := m) hx
  have h2 := hr.ahead A.length (by omega)
  have h3 := hr.behind (A.length + 1) (by omega)
  have hp := hr.behind A.length (by omega)
  have hq := hr.ahead (A.length + 1) (by omega)
  rw [e1, e2] at h2 h3
  have hout := hr.out hlen
  rw [he] at hout
  have fr := hr.fr
  refine (out_gen w x.b _ _ _ _ _ _ h2 h3 hp hq (fr _ (rb_mem _)) (fr _ (rb_mem _)) (by rcases ro_two ((A ++ x :: C).map (·.b)) A.length with h | h <;> rcases ro_two ((A ++ x :: C).map (·.b)) (A.length + 1 + 1) with h' | h' <;> omega)).mono ?_
  rintro e w' ⟨rfl, rfl⟩
  have inb : ∀ j, rb m ((A ++ x :: C).map (·.b)) j = m ∨ rb m ((A ++ x :: C).map (·.b)) j ∈ (A ++ x :: C).map (·.b) := fun j => List.mem_cons.1 (rb_mem j)
  refine ⟨rfl, hout.drew, ?_, ?_, fun o => ?_, ?_, ?_⟩
  · obtain ⟨v', hv'⟩ := cell_in (p := ⟨rb m ((A ++ x :: C).map (·.b)) A.length, ro ((A ++ x :: C).map (·.b)) A.length + 3, none⟩) (x := .pointer (some ⟨rb m ((A ++ x :: C).map (·.b)) (A.length + 1 + 1), ro ((A ++ x :: C).map (·.b)) (A.length + 1 + 1), none⟩)) hq
    exact ((hb.setPtr hp (by simp)).setPtr hv' (by simp)).drew
  · exact (((Off.refl _ w).setCell (fun _ => inb A.length) _).setCell (fun _ => inb (A.length + 1 + 1)) _).drew
  · show World.frozen? (World.setCell _ _ _) _ = false
    simp only [World.frozen?_setCell]
    exact fr _ (by simp) o
  · obtain ⟨u1, hu1⟩ := cell_in (p := ⟨rb m ((A ++ x :: C).map (·.b)) A.length, ro ((A ++ x :: C).map (·.b)) A.length + 3, none⟩) (x := .pointer (some ⟨rb m ((A ++ x :: C).map (·.b)) (A.length + 1 + 1), ro ((A ++ x :: C).map (·.b)) (A.length + 1 + 1), none⟩)) h2
    exact cell_in hu1
  · obtain ⟨u1, hu1⟩ := cell_in (p := ⟨rb m ((A ++ x :: C).map (·.b)) A.length, ro ((A ++ x :: C).map (·.b)) A.length + 3, none⟩) (x := .pointer (some ⟨rb m ((A ++ x :: C).map (·.b)) (A.length + 1 + 1), ro ((A ++ x :: C).map (·.b)) (A.length + 1 + 1), none⟩)) h3
    exact cell_in hu1
theorem ltouch_any (w : World) (m mp most c : Nat) (B : List Nat) (L : List LNode) (hr : Ring w m B) (hb : LBody w m mp most L) (hc : c ∉ m :: B) (hf : ∀ o, w.frozen? ⟨c, o, none⟩ = false) (h2 : ∃ u, w.cell? ⟨c, 2, none⟩ = some u) (h3 : ∃ u, w.cell? ⟨c, 3, none⟩ = some u) :
    Calls Tryz.prog 95 #[.pointer (some ⟨m, 0, none⟩), .pointer (some ⟨c, 0, none⟩)] w fun e w' => e = .returned (.tuple #[]) ∧ Ring w' m (B ++ [c]) ∧ LBody w' m mp most L ∧
      Off (fun k => k = m ∨ k ∈ B ∨ k = c) w w' := by
  obtain ⟨u, h2⟩ := h2
  obtain ⟨v, h3⟩ := h3
  have h4 := hr.ahead B.length (by omega)
  rw [rb_end, ro_end] at h4
  have hp := hr.behind B.length (by omega)
  have hpc : rb m B B.length ≠ c := fun e => hc (e ▸ rb_mem _)
  have hmc : m ≠ c := fun e => hc (by simp [e])
  have ht := hr.touch hc h2 h3 hf
  refine (touch_gen w m c _ _ _ u v h4 hp h2 h3 (hr.fr _ (rb_mem _)) (hr.fr _ (by simp)) hf hpc hmc (by rcases ro_two B B.length with h | h <;> omega)).mono ?_
  rintro e w' ⟨rfl, rfl⟩
  have inb : rb m B B.length = m ∨ rb m B B.length ∈ B := List.mem_cons.1 (rb_mem _)
  refine ⟨rfl, ht.drew, ?_, ?_⟩
  · obtain ⟨a1, k1⟩ := cell_in (p := ⟨c, 2, none⟩) (x := rp m B B.length) h3
    obtain ⟨a2, k2⟩ := cell_in (p := ⟨c, 2, none⟩) (x := rp m B B.length) hp
    obtain ⟨a3, k3⟩ := cell_in (p := ⟨c, 3, none⟩) (x := .pointer (some ⟨m, 2, none⟩)) k2
    obtain ⟨a4, k4⟩ := cell_in (p := ⟨c, 2, none⟩) (x := rp m B B.length) h4
    obtain ⟨a5, k5⟩ := cell_in (p := ⟨c, 3, none⟩) (x := .pointer (some ⟨m, 2, none⟩)) k4
    obtain ⟨a6, k6⟩ := cell_in (p := ⟨rb m B B.length, ro B B.length + 3, none⟩) (x := .pointer (some ⟨c, 0, none⟩)) k5
    exact ((((hb.setPtr h2 (by simp)).setPtr k1 (by simp)).setPtr k3 (by simp)).setPtr k6 (by simp)).drew
  · exact (((((Off.refl _ w).setCell (fun _ => Or.inr (Or.inr rfl)) _).setCell (fun _ => Or.inr (Or.inr rfl)) _).setCell (fun _ => by rcases inb with h | h; exact Or.inl h; exact Or.inr (Or.inl h)) _).setCell (fun _ => Or.inl rfl) _).drew
end Go.Proofs.YtemlafbkkaloiaaGreat
namespace Go.Proofs.YtemlafbkkaloiaaGreat
open Go.RowKit
def look (L : List LNode) (s : ByteArray) : Option LNode := L.find? (fun x => decide (x.k = s))
theorem look_none' {L : List LNode} {s : ByteArray} (h : look L s = none) : ∀ x, x ∈ L → x.k ≠ s := by
  rw [look, List.find?_eq_none] at h
  intro x hx e
  exact h x hx (by simp [e])
theorem look_some {L : List LNode} {s : ByteArray} {x : LNode} (hn : (L.map (·.k)).Nodup) (hx : x ∈ L) (e : x.k = s) : look L s = some x := by
  cases h : look L s with
  | none => exact absurd e (look_none' h x hx)
  | some y =>
    have h1 : y ∈ L := List.mem_of_find?_eq_some h
    have h2 := List.find?_some h
    simp only [decide_eq_true_eq] at h2
    rw [nodup_map_inj (f := fun x : LNode => x.k) hn h1 hx (h2.trans e.symm)]
theorem look_in {L : List LNode} {s : ByteArray} {x : LNode} (h : look L s = some x) : x ∈ L ∧ x.k = s := by
  have h2 := List.find?_some h
  simp only [decide_eq_true_eq] at h2
  exact ⟨List.mem_of_find?_eq_some h, h2⟩
theorem LBody.lookup {w : World} {m mp most : Nat} {L : List LNode} (h : LBody w m mp most L) {s : ByteArray} (hs : s.size ≤ maxLen) :
    (Instr.lookup 114 (.map (some mp)) (.string s) false).run Tryz.prog w = .ok (ptrV ((look L s).map (·.b))) w := by
  obtain ⟨f, h1, h2⟩ := h.map
  rw [h1.lookup hs]
  congr 2
  cases hl : look L s with
  | none =>
    cases hf : f s with
    | none => rfl
    | some b =>
      obtain ⟨x, hx, e, _⟩ := (h2 s b).1 hf
      exact absurd e (look_none' hl x hx)
  | some x =>
    obtain ⟨hx, e⟩ := look_in hl
    exact (h2 s x.b).2 ⟨x, hx, e, rfl⟩
theorem LBody.len {w : World} {m mp most : Nat} {L : List LNode} (h : LBody w m mp most L) (ty : TypeId) :
    (Builtin.len_ #[114] ty #[.map (some mp)]).run Tryz.prog w = .ok (.int .i64 L.length) w := by
  obtain ⟨f, h1, h2⟩ := h.map
  exact h1.len ty
def lval (L : List LNode) (s : ByteArray) : Int := ((look L s).map (·.v)).getD 0
def lhas (L : List LNode) (s : ByteArray) : Bool := (look L s).isSome
set_option maxHeartbeats 1600000 in
theorem peek_any {w : World} {m mp most : Nat} {L : List LNode} (h : LBody w m mp most L) {s : ByteArray} (hs : s.size ≤ maxLen) :
    Calls Tryz.prog 101 #[.pointer (some ⟨m, 0, none⟩), .string s] w fun e w' => e = .returned (.tuple #[.int .i64 (lval L s), .bool (lhas L s)]) ∧ w' = w := by
  have hl := h.lookup hs
  have c1 := h.c1
  unfold lval lhas
  cases hk : look L s with
  | none =>
    rw [hk] at hl
    simp only [Option.map_none, ptrV] at hl
    clear hk h
    go_enter Tryz.func101, Tryz.ntmps101
    go_wp2_with (fail)
    go_ret2
    exact ⟨rfl, rfl⟩
  | some x =>
    rw [hk] at hl
    simp only [Option.map_some, ptrV] at hl
    have hv := h.val x (look_in hk).1
    clear hk h
    go_enter Tryz.func101, Tryz.ntmps101
    go_wp2_with (fail)
    go_ret2
    exact ⟨rfl, rfl⟩
end Go.Proofs.YtemlafbkkaloiaaGreat
namespace Go.Proofs.YtemlafbkkaloiaaGreat
open Go.RowKit
def hasA (A : List (ByteArray × Int)) (s : ByteArray) : Bool := A.any (fun p => decide (p.1 = s))
def delA (A : List (ByteArray × Int)) (s : ByteArray) : List (ByteArray × Int) := A.filter (fun p => !decide (p.1 = s))
def valA (A : List (ByteArray × Int)) (s : ByteArray) : Int := ((A.find? (fun p => decide (p.1 = s))).map (·.2)).getD 0
def dropA (A : List (ByteArray × Int)) (ss : List ByteArray) : List (ByteArray × Int) × Nat := ss.foldl (fun q s => if hasA q.1 s then (delA q.1 s, q.2 + 1) else q) (A, 0)
def getA (A : List (ByteArray × Int)) (s : ByteArray) : List (ByteArray × Int) := if hasA A s then delA A s ++ [(s, valA A s)] else A
def putA (most : Nat) (A : List (ByteArray × Int)) (s : ByteArray) (v : Int) : List (ByteArray × Int) := if hasA A s then delA A s ++ [(s, v)] else if A.length = most then A.tail ++ [(s, v)] else A ++ [(s, v)]
def goneA (most : Nat) (A : List (ByteArray × Int)) (s : ByteArray) : ByteArray := if hasA A s then ⟨#[]⟩ else if A.length = most then ((A.head?).map (·.1)).getD ⟨#[]⟩ else ⟨#[]⟩
def wentA (most : Nat) (A : List (ByteArray × Int)) (s : ByteArray) : Bool := !hasA A s && decide (A.length = most)
def pr (L : List LNode) : List (ByteArray × Int) := L.map (fun x => (x.k, x.v))
theorem pr_len (L : List LNode) : (pr L).length = L.length := by simp [pr]
theorem find_pr (s : ByteArray) : ∀ L : List LNode, (pr L).find? (fun p => decide (p.1 = s)) = (look L s).map (fun x => (x.k, x.v))
  | [] => rfl
  | x :: L => by
    have ih := find_pr s L
    simp only [pr, look, List.map_cons, List.find?_cons] at ih ⊢
    cases h : decide (x.k = s)
    · exact ih
    · rfl
theorem has_pr (L : List LNode) (s : ByteArray) : lhas L s = hasA (pr L) s := by
  have h := find_pr s L
  unfold lhas hasA
  cases hl : look L s with
  | none =>
    rw [hl, Option.map_none, List.find?_eq_none] at h
    symm
    rw [Option.isSome_none, List.any_eq_false]
    exact h
  | some x =>
    rw [hl] at h
    symm
    rw [Option.isSome_some, List.any_eq_true]
    exact ⟨(x.k, x.v), List.mem_of_find?_eq_some h, by have := List.find?_some (p := fun p : ByteArray × Int => decide (p.1 = s)) h; exact this⟩
theorem val_pr (L : List LNode) (s : ByteArray) : lval L s = valA (pr L) s := by
  unfold lval valA
  rw [find_pr]
  cases look L s <;> rfl
theorem del_pr {A C : List LNode} {x : LNode} (hn : ((A ++ x :: C).map (·.k)).Nodup) : pr (A ++ C) = delA (pr (A ++ x :: C)) x.k := by
  have key : ∀ B : List LNode, (∀ y, y ∈ B → y.k ≠ x.k) → (pr B).filter (fun p => !decide (p.1 = x.k)) = pr B := by
    intro B hB
    rw [List.filter_eq_self]
    intro p hp
    obtain ⟨y, hy, rfl⟩ := List.mem_map.1 hp
    simp [hB y hy]
  simp only [List.map_append, List.map_cons, List.nodup_append, List.nodup_cons] at hn
  obtain ⟨_, ⟨h1, _⟩, h2⟩ := hn
  have ha := key A (fun y hy e => h2 y.k (List.mem_map.2 ⟨y, hy, rfl⟩) x.k (by simp) e)
  have hc := key C (fun y hy e => h1 (e ▸ List.mem_map.2 ⟨y, hy, rfl⟩))
  unfold delA
  simp only [pr, List.map_append, List.map_cons, List.filter_append, List.filter_cons] at ha hc ⊢
  rw [ha, hc]
  simp
theorem dropA_snoc (A : List (ByteArray × Int)) (ss : List ByteArray) (s : ByteArray) : dropA A (ss ++ [s]) = if hasA (dropA A ss).1 s then (delA (dropA A ss).1 s, (dropA A ss).2 + 1) else dropA A ss := by
  unfold dropA
  rw [List.foldl_append]
  rfl
theorem dropA_le (A : List (ByteArray × Int)) : ∀ ss : List ByteArray, (dropA A ss).2 ≤ ss.length := by
  intro ss
  have key : ∀ (ss : List ByteArray) (q : List (ByteArray × Int) × Nat), (ss.foldl (fun q s => if hasA q.1 s then (delA q.1 s, q.2 + 1) else q) q).2 ≤ q.2 + ss.length := by
    intro ss
    induction ss with
    | nil => intro q; simp
    | cons s ss ih =>
      intro q
      simp only [List.foldl_cons, List.length_cons]
      have := ih (if hasA q.1 s then (delA q.1 s, q.2 + 1) else q)
      refine Nat.le_trans this ?_
      split <;> simp <;> omega
  simpa [dropA] using key ss (A, 0)
theorem LBody.del {w : World} {m mp most : Nat} {A C : List LNode} {x : LNode} (h : LBody w m mp most (A ++ x :: C)) :
    ∃ w', (∀ ty, (Builtin.delete_ #[114, 9] ty #[.map (some mp), .string x.k]).run Tryz.prog w = .ok (.tuple #[]) w') ∧ LBody w' m mp most (A ++ C) ∧ w.grownBy w' (some mp) := by
  obtain ⟨f, h1, h2⟩ := h.map
  have hx : x ∈ A ++ x :: C := by simp
  obtain ⟨w', hrun, hmo, hg⟩ := h1.delete (h.small x hx)
  have sub : ∀ y, y ∈ A ++ C → y ∈ A ++ x :: C := by
    intro y hy
    simp only [List.mem_append, List.mem_cons] at hy ⊢
    rcases hy with hy | hy
    · exact Or.inl hy
    · exact Or.inr (Or.inr hy)
  have hk := h.keys
  have ne : ∀ y, y ∈ A ++ C → y.k ≠ x.k := by
    intro y hy e
    simp only [List.map_append, List.map_cons, List.nodup_append, List.nodup_cons] at hk
    obtain ⟨_, ⟨h1, _⟩, h2⟩ := hk
    rcases List.mem_append.1 hy with hy | hy
    · exact h2 y.k (List.mem_map.2 ⟨y, hy, rfl⟩) x.k (by simp) e
    · exact h1 (e ▸ List.mem_map.2 ⟨y, hy, rfl⟩)
  have hfx : f x.k = some x.b := (h2 _ _).2 ⟨x, hx, rfl, rfl⟩
  have cell : ∀ {p : Addr} {v : Value}, w.cell? p = some v → w'.cell? p = some v := fun {p v} hp => (World.cell?_of_block (w := w) (hg.block p.block (World.block_lt_of_cell? w _ hp) (fun e => map_not_cells h1 hp (by injection e)))).trans hp
  refine ⟨w', hrun, ⟨cell h.c0, cell h.c1, fun y hy => cell (h.key y (sub y hy)), fun y hy => cell (h.val y (sub y hy)), ⟨fun t => if t = x.k then none else f t, ?_, fun s b => ?_⟩, ?_, fun y hy => h.small y (sub y hy)⟩, hg⟩
  · rw [hfx] at hmo
    simpa using hmo
  · dsimp only
    by_cases e : s = x.k
    · rw [if_pos e]
      constructor
      · intro h; cases h
      · rintro ⟨y, hy, rfl, _⟩
        exact absurd e (ne y hy)
    · rw [if_neg e, h2]
      constructor
      · rintro ⟨y, hy, rfl, rfl⟩
        refine ⟨y, ?_, rfl, rfl⟩
        simp only [List.mem_append, List.mem_cons] at hy ⊢
        rcases hy with hy | hy | hy
        · exact Or.inl hy
        · exact absurd (hy ▸ rfl) e
        · exact Or.inr hy
      · rintro ⟨y, hy, r⟩
        exact ⟨y, sub y hy, r⟩
  · exact hk.sublist (List.Sublist.map _ ((List.Sublist.refl A).append (List.sublist_cons_self x C)))
theorem LBody.add {w : World} {m mp most : Nat} {L : List LNode} (h : LBody w m mp most L) (hn : L.length < maxLen) {c : Nat} {s : ByteArray} {v : Int} (hs : s.size ≤ maxLen) (hl : look L s = none)
    (hk : w.cell? ⟨c, 0, none⟩ = some (.string s)) (hv : w.cell? ⟨c, 1, none⟩ = some (.int .i64 v)) :
    ∃ w', (Instr.mapUpdate 114 (.map (some mp)) (.string s) (.pointer (some ⟨c, 0, none⟩))).run Tryz.prog w = .ok () w' ∧ LBody w' m mp most (L ++ [⟨c, s, v⟩]) ∧ w.grownBy w' (some mp) := by
  obtain ⟨f, h1, h2⟩ := h.map
  obtain ⟨w', hrun, hmo, hg⟩ := h1.update hn hs c
  have hf : f s = none := by
    cases hf : f s with
    | none => rfl
    | some b =>
      obtain ⟨x, hx, e, _⟩ := (h2 s b).1 hf
      exact absurd e (look_none' hl x hx)
  have cell : ∀ {p : Addr} {v : Value}, w.cell? p = some v → w'.cell? p = some v := fun {p v} hp => (World.cell?_of_block (w := w) (hg.block p.block (World.block_lt_of_cell? w _ hp) (fun e => map_not_cells h1 hp (by injection e)))).trans hp
  have mem : ∀ y, y ∈ L ++ [⟨c, s, v⟩] → y ∈ L ∨ y = ⟨c, s, v⟩ := by intro y hy; simpa using hy
  refine ⟨w', hrun, ⟨cell h.c0, cell h.c1, fun y hy => ?_, fun y hy => ?_, ⟨fun t => if t = s then some c else f t, ?_, fun t b => ?_⟩, ?_, fun y hy => ?_⟩, hg⟩
  · rcases mem y hy with hy | rfl
    · exact cell (h.key y hy)
    · exact cell hk
  · rcases mem y hy with hy | rfl
    · exact cell (h.val y hy)
    · exact cell hv
  · rw [hf] at hmo
    simpa using hmo
  · dsimp only
    by_cases e : t = s
    · rw [if_pos e]
      constructor
      · intro h; cases h
        exact ⟨⟨c, s, v⟩, by simp, e.symm, rfl⟩
      · rintro ⟨y, hy, rfl, rfl⟩
        rcases mem y hy with hy | rfl
        · exact absurd e (look_none' hl y hy)
        · rfl
    · rw [if_neg e, h2]
      constructor
      · rintro ⟨y, hy, r⟩
        exact ⟨y, by simp [hy], r⟩
      · rintro ⟨y, hy, rfl, rfl⟩
        rcases mem y hy with hy | rfl
        · exact ⟨y, hy, rfl, rfl⟩
        · exact absurd rfl e
  · rw [List.map_append, List.nodup_append]
    refine ⟨h.keys, by simp, ?_⟩
    intro a ha b hb e
    obtain ⟨y, hy, rfl⟩ := List.mem_map.1 ha
    simp at hb
    exact look_none' hl y hy (e.trans hb)
  · rcases mem y hy with hy | rfl
    · exact h.small y hy
    · exact hs
end Go.Proofs.YtemlafbkkaloiaaGreat
namespace Go.Proofs.YtemlafbkkaloiaaGreat
open Go.RowKit
def StrsAt (w : World) (a : Option Addr) (ss : List ByteArray) : Prop :=
  ss = [] ∨ ∃ b off, a = some ⟨b, off, none⟩ ∧ b < w.heap.size ∧ ∀ j, j < ss.length → w.cell? ⟨b, off + j, none⟩ = some (.string (ss.getD j ⟨#[]⟩))
theorem split_at {α : Type} : ∀ {L : List α} {x : α}, x ∈ L → ∃ A C, L = A ++ x :: C
  | y :: L, x, h => by
    rcases List.mem_cons.1 h with rfl | h
    · exact ⟨[], L, rfl⟩
    · obtain ⟨A, C, rfl⟩ := split_at h
      exact ⟨y :: A, C, rfl⟩
theorem own_sub {m mp : Nat} {A C : List LNode} {x : LNode} {b : Nat} (h : Lown m mp (A ++ C) b) : Lown m mp (A ++ x :: C) b := by
  rcases h with h | h | h
  · exact Or.inl h
  · exact Or.inr (Or.inl h)
  · refine Or.inr (Or.inr ?_)
    simp only [List.map_append, List.map_cons, List.mem_append, List.mem_cons] at h ⊢
    rcases h with h | h
    · exact Or.inl h
    · exact Or.inr (Or.inr h)
theorem LBody.apart {w : World} {m mp most : Nat} {L : List LNode} (h : LBody w m mp most L) {b : Nat} (hb : b ∈ m :: L.map (·.b)) : b ≠ mp ∧ b < w.heap.size := by
  obtain ⟨f, h1, _⟩ := h.map
  rcases List.mem_cons.1 hb with rfl | hb
  · exact ⟨map_not_cells h1 h.c0, World.block_lt_of_cell? w _ h.c0⟩
  · obtain ⟨x, hx, rfl⟩ := List.mem_map.1 hb
    exact ⟨map_not_cells h1 (h.key x hx), World.block_lt_of_cell? w _ (h.key x hx)⟩
set_option maxHeartbeats 6400000 in
set_option maxRecDepth 100000 in
theorem ldrop_any {w : World} {m mp most : Nat} {L : List LNode} (h : Lru w m mp most L) (a : Option Addr) (len cap : Nat) (ss : List ByteArray) (hl : ss.length = len) (hm : len ≤ 9223372036854775807) (hs : StrsAt w a ss)
    (hsep : ∀ b off, a = some ⟨b, off, none⟩ → ss ≠ [] → ¬ Lown m mp L b) (hsz : ∀ s, s ∈ ss → s.size ≤ maxLen) :
    Calls Tryz.prog 96 #[.pointer (some ⟨m, 0, none⟩), .slice a len cap] w fun e w' => ∃ L', e = .returned (.int .i64 (dropA (pr L) ss).2) ∧ Lru w' m mp most L' ∧ pr L' = (dropA (pr L) ss).1 ∧ Off (Lown m mp L) w w' ∧ (∀ b, Lown m mp L' b → Lown m mp L b) := by
  have HL := Lib.hid h
  have Hs := Lib.hid hs
  have Hsep := Lib.hid hsep
  have Hsz := Lib.hid hsz
  have Hl := Lib.hid hl
  clear h hs hsep hsz hl
  go_enter Tryz.func96, Tryz.ntmps96
  go_wp2_with (fail)
  go_loopw [5, 12] (fun n i wr => ∃ (k : Nat) (L' : List LNode), k ≤ len ∧ i = .int .i64 k ∧ n = .int .i64 (dropA (pr L) (ss.take k)).2 ∧ Hid (Lru wr m mp most L') ∧ Hid (pr L' = (dropA (pr L) (ss.take k)).1) ∧ Off (Lown m mp L) w wr ∧ Hid (∀ b, Lown m mp L' b → Lown m mp L b)) (fun _ i _ => len - (intOf i).toNat)
  case atStart => exact ⟨0, L, Nat.zero_le _, rfl, rfl, HL, by rfl, Off.refl _ _, fun _ h => h⟩
  case round =>
    obtain ⟨k, L', hk, rfl, rfl, HL', Hp, hoff, Hsub⟩ := hrel
    have hdle := dropA_le (pr L) (ss.take k)
    have htl : (ss.take k).length ≤ k := by simp; omega
    by_cases hlt : k < len
    · rcases Hs.out with h | ⟨b, off, rfl, hbl, hcell⟩
      · exfalso; have := Hl.out; subst h; simp at this; omega
      · have d1w := hcell k (by rw [Hl.out]; exact hlt)
        have hkl : k < ss.length := by rw [Hl.out]; exact hlt
        have hs1 := Hsz.out (ss.getD k ⟨#[]⟩) (by simp [List.getD, hkl])
        have htake : ss.take (k + 1) = ss.take k ++ [ss.getD k ⟨#[]⟩] := by
          rw [List.take_add_one]; simp [List.getD, hkl]
        have HT := Lib.hid htake
        have hb := Hsep.out b off rfl (by intro e; rw [e] at hkl; simp at hkl)
        generalize ss.getD k ⟨#[]⟩ = s at *
        have d1 := hoff.cell d1w hb
        clear hcell d1w hb htake
        have k0 : (0 : Int) ≤ k := by omega
        have k1 : (k : Int) < len := by omega
        have HS1 := Lib.hid hs1
        have Hdle := Lib.hid hdle
        have Htl := Lib.hid htl
        clear hs1 hdle htl
        cases hhas : lhas L' s
        · go_wp2_with (fail)
          refine (peek_any HL'.out.body HS1.out).mono ?_
          rintro e w1 ⟨rfl, rfl⟩
          rw [hhas]
          go_wp2_with (fail)
          have hno : hasA (dropA (pr L) (ss.take k)).1 s = false := by rw [← Hp.out, ← has_pr]; exact hhas
          have hd : dropA (pr L) (ss.take (k + 1)) = dropA (pr L) (ss.take k) := by rw [HT.out, dropA_snoc, hno]; rfl
          exact ⟨⟨k + 1, L', by omega, by go_num, by rw [hd], HL', by rw [hd]; exact Hp.out, hoff, Hsub⟩, by simp [intOf]; omega⟩
        · go_wp2_with (fail)
          refine (peek_any HL'.out.body HS1.out).mono ?_
          rintro e w1 ⟨rfl, rfl⟩
          rw [hhas]
          obtain ⟨x, hlk⟩ : ∃ x, look L' s = some x := by
            unfold lhas at hhas
            exact Option.isSome_iff_exists.1 hhas
          obtain ⟨hx, rfl⟩ := look_in hlk
          have hlook := HL'.out.body.lookup HS1.out
          rw [hlk] at hlook
          simp only [Option.map_some, ptrV] at hlook
          have c1 := HL'.out.body.c1
          obtain ⟨A, C, rfl⟩ := split_at hx
          have hyes : hasA (dropA (pr L) (ss.take k)).1 x.k = true := by rw [← Hp.out, ← has_pr]; exact hhas
          have hd : dropA (pr L) (ss.take (k + 1)) = (delA (dropA (pr L) (ss.take k)).1 x.k, (dropA (pr L) (ss.take k)).2 + 1) := by rw [HT.out, dropA_snoc, hyes]; rfl
          have HD := Lib.hid hd
          clear hx hlk hhas hyes hd
          go_wp2_with (fail)
          refine (lout_any _ m mp most A C (A ++ x :: C) x HL'.out.ring HL'.out.body).mono ?_
          rintro e w2 ⟨rfl, hr2, hb2, ho2, _, _, _⟩
          have c2 := hb2.c1
          obtain ⟨w3, hrun3, hb3, hg3⟩ := hb2.del
          have HR2 := Lib.hid hr2
          have HB2 := Lib.hid hb2
          have HB3 := Lib.hid hb3
          have HG3 := Lib.hid hg3
          have HO2 := Lib.hid ho2
          clear hr2 hb2 hb3 hg3 ho2 hlook c1
          go_wp2_with (fail)
          have hdle := Hdle.out
          have htl := Htl.out
          have hoff3 : Off (Lown m mp L) w w3 := by
            refine (hoff.trans HO2.out ?_).grown HG3.out (fun _ => Or.inr (Or.inl rfl))
            intro i _ hi
            exact Hsub.out i (by rcases hi with h | h; exact Or.inl h; exact Or.inr (Or.inr h))
          have hlru : Lru w3 m mp most (A ++ C) := by
            refine ⟨HR2.out.kept (fun b hb => ?_), HB3.out, ?_, HL'.out.big⟩
            · have hb' : b ∈ m :: (A ++ x :: C).map (·.b) := by
                simp only [List.map_append, List.map_cons, List.mem_append, List.mem_cons] at hb ⊢
                rcases hb with h | h | h
                · exact Or.inl h
                · exact Or.inr (Or.inl h)
                · exact Or.inr (Or.inr (Or.inr h))
              obtain ⟨h1, h2⟩ := HB2.out.apart hb'
              exact HG3.out.block b h2 (fun e => h1 (by injection e))
            · have := HL'.out.cap
              simp at this ⊢
              omega
          refine ⟨⟨k + 1, A ++ C, by omega, by go_num, ?_, hlru, ?_, hoff3, fun b hb => Hsub.out b (own_sub hb)⟩, by simp [intOf]; omega⟩
          · rw [HD.out]
            have q0 : (0 : Int) ≤ ((dropA (pr L) (ss.take k)).2 : Nat) := by omega
            have q1 : (((dropA (pr L) (ss.take k)).2 : Nat) : Int) < len := by omega
            dsimp only
            generalize (dropA (pr L) (ss.take k)).2 = N at q0 q1 ⊢
            rw [IntWalk.wrap64_in _ (by omega)]
            go_num
          · have e : pr (A ++ C) = (dropA (pr L) (ss.take (k + 1))).1 := by rw [HD.out, del_pr HL'.out.body.keys, Hp.out]
            exact e
    · go_wp2_with (fail)
      go_ret
      have hkk : ss.take k = ss := by rw [List.take_of_length_le]; rw [Hl.out]; omega
      rw [hkk] at Hp
      exact ⟨L', by rw [hkk]; rfl, HL'.out, Hp.out, hoff, Hsub.out⟩
end Go.Proofs.YtemlafbkkaloiaaGreat
namespace Go.Proofs.YtemlafbkkaloiaaGreat
open Go.RowKit
theorem lru_empty {W : World} {m mp : Nat} {most : Int} {x y : Value} {t : TypeId} (h1 : 1 ≤ most) (h2 : most ≤ 4096) (hz : W.heap[m]? = some (.cells #[.int .i64 most, .map (some mp), x, y, .pointer (some ⟨m, 2, none⟩), .pointer (some ⟨m, 2, none⟩)] t)) (hm : MapOf W mp (fun _ => none) 0) :
    Lru W m mp most.toNat [] := by
  have hn : (most.toNat : Int) = most := by omega
  refine ⟨⟨by simp, fun j hj => ?_, fun j hj => ?_, fun b hb o => ?_⟩, ⟨?_, ?_, by simp, by simp, ⟨fun _ => none, hm, by simp⟩, by simp, by simp⟩, by simp, by omega⟩
  · simp only [List.map_nil, List.length_nil, Nat.le_zero] at hj; subst hj
    simp only [rb, ro, rp, World.cell?, hz]
    rfl
  · simp only [List.map_nil, List.length_nil, Nat.le_zero] at hj; subst hj
    have e1 : rb m (List.map (fun x : LNode => x.b) []) (0 + 1) = m := rfl
    have e2 : ro (List.map (fun x : LNode => x.b) []) (0 + 1) = 2 := rfl
    rw [e1, e2]
    simp only [rb, ro, rp, World.cell?, hz]
    rfl
  · simp only [List.map_nil, List.mem_singleton] at hb; subst hb
    simp only [World.frozen?, hz]
    simp
  · simp only [World.cell?, hz, hn]; rfl
  · simp only [World.cell?, hz]; rfl
theorem lru_made (w : World) (most : Int) (h1 : 1 ≤ most) (h2 : most ≤ 4096) :
    Lru ((w.alloc (.map #[] 0)).alloc (.cells #[.int .i64 most, .map (some w.heap.size), .string ⟨#[]⟩, .int .i64 0, .pointer (some ⟨w.heap.size + 1, 2, none⟩), .pointer (some ⟨w.heap.size + 1, 2, none⟩)] 121)).drew (w.heap.size + 1) w.heap.size most.toNat [] := by
  refine lru_empty (x := .string ⟨#[]⟩) (y := .int .i64 0) (t := 121) h1 h2 ?_ ((mapOf_made w).kept ?_)
  · show (Array.push (Array.push w.heap _) _)[_]? = _
    rw [Array.getElem?_push, if_pos (by simp)]
  · show (Array.push (w.alloc (.map #[] 0)).heap _)[_]? = _
    rw [Array.getElem?_push, if_neg (by simp)]
set_option maxHeartbeats 3200000 in
set_option maxRecDepth 100000 in
theorem lnew_any (w : World) (most : Int) (h : 1 ≤ most ∧ most ≤ 4096) :
    Calls Tryz.prog 21 #[.int .i64 most] w fun e w' => e = .returned (.tuple #[.pointer (some ⟨w.heap.size + 1, 0, none⟩), .int .i64 0]) ∧ Lru w' (w.heap.size + 1) w.heap.size most.toNat [] ∧ Below w.heap.size w w' ∧ w'.heap.size = w.heap.size + 2 := by
  obtain ⟨h1, h2⟩ := h
  have hmk : (Instr.makeMap 114 none).run Tryz.prog w = .ok (.map (some w.heap.size)) (w.alloc (.map #[] 0)) := run_makeMap _ w
  go_enter Tryz.func21, Tryz.ntmps21
  go_wp2_with (fail)
  go_region
  all_goals
    go_wp2_with (fail)
    go_ret2
    refine ⟨rfl, lru_made w most h1 h2, (((Below.refl _ _).alloc (Nat.le_refl _) _).alloc (by simp) _).drew, by simp [World.drew]⟩
set_option maxHeartbeats 3200000 in
set_option maxRecDepth 100000 in
theorem lnew_no (w : World) (most : Int) (h : ¬ (1 ≤ most ∧ most ≤ 4096)) :
    Calls Tryz.prog 21 #[.int .i64 most] w fun e w' => e = .returned (.tuple #[.pointer none, .int .i64 2]) ∧ w' = w := by
  by_cases h1 : most < 1
  · clear h
    go_enter Tryz.func21, Tryz.ntmps21
    go_wp2_with (fail)
    go_ret2
    exact ⟨rfl, rfl⟩
  · have h2 : 4096 < most := by omega
    clear h
    go_enter Tryz.func21, Tryz.ntmps21
    go_wp2_with (fail)
    go_ret2
    exact ⟨rfl, rfl⟩
end Go.Proofs.YtemlafbkkaloiaaGreat
namespace Go.Proofs.YtemlafbkkaloiaaGreat
open Go.RowKit
theorem hasA_no {L : List LNode} {s : ByteArray} (h : look L s = none) : hasA (pr L) s = false ∧ valA (pr L) s = 0 := by
  rw [← has_pr, ← val_pr, lhas, lval, h]; exact ⟨rfl, rfl⟩
theorem hasA_yes {L : List LNode} {s : ByteArray} {x : LNode} (h : look L s = some x) : hasA (pr L) s = true ∧ valA (pr L) s = x.v := by
  rw [← has_pr, ← val_pr, lhas, lval, h]; exact ⟨rfl, rfl⟩
theorem perm_move {A C : List LNode} {x : LNode} : (A ++ C ++ [x]).Perm (A ++ x :: C) := by
  rw [List.append_assoc]
  exact List.Perm.append_left A (List.perm_append_singleton x C)
theorem nodup_out {m : Nat} {A C : List LNode} {x : LNode} (h : (m :: (A ++ x :: C).map (·.b)).Nodup) : x.b ∉ m :: (A ++ C).map (·.b) := by
  simp only [List.map_append, List.map_cons, List.nodup_cons, List.mem_append, List.mem_cons, List.nodup_append] at h ⊢
  obtain ⟨h0, _, ⟨h1, _⟩, h2⟩ := h
  rintro (e | h | h)
  · exact h0 (Or.inr (Or.inl e.symm))
  · exact h2 _ h _ (by simp) rfl
  · exact h1 h
theorem lru_moved {w1 w2 w3 : World} {m mp most : Nat} {A C : List LNode} {x : LNode} (hcap : (A ++ x :: C).length ≤ most) (hbig : 1 ≤ most ∧ most ≤ 4096) (hr : Ring w3 m ((A ++ C).map (·.b) ++ [x.b])) (hb : LBody w3 m mp most (A ++ x :: C)) :
    Lru w3 m mp most (A ++ C ++ [x]) :=
  ⟨by simpa using hr, hb.perm perm_move, by simp at hcap ⊢; omega, hbig⟩
theorem moved_own {m mp : Nat} {A C : List LNode} {x y : LNode} (hxy : y.b = x.b) {b : Nat} (h : Lown m mp (A ++ C ++ [y]) b) : Lown m mp (A ++ x :: C) b := by
  rcases h with h | h | h
  · exact Or.inl h
  · exact Or.inr (Or.inl h)
  · refine Or.inr (Or.inr ?_)
    simp only [List.map_append, List.map_cons, List.map_nil, List.mem_append, List.mem_cons, List.not_mem_nil, or_false] at h ⊢
    rcases h with (h | h) | h
    · exact Or.inl h
    · exact Or.inr (Or.inr h)
    · exact Or.inr (Or.inl (h.trans hxy))
theorem own_ring {m mp : Nat} {L : List LNode} {i : Nat} (h : i = m ∨ i ∈ L.map (·.b)) : Lown m mp L i := by
  rcases h with h | h
  · exact Or.inl h
  · exact Or.inr (Or.inr h)
set_option maxHeartbeats 6400000 in
set_option maxRecDepth 100000 in
theorem lget_any {w : World} {m mp most : Nat} {L : List LNode} (h : Lru w m mp most L) {s : ByteArray} (hs : s.size ≤ maxLen) :
    Calls Tryz.prog 70 #[.pointer (some ⟨m, 0, none⟩), .string s] w fun e w' => ∃ L', e = .returned (.tuple #[.int .i64 (valA (pr L) s), .bool (hasA (pr L) s)]) ∧ Lru w' m mp most L' ∧ pr L' = getA (pr L) s ∧ Off (Lown m mp L) w w' ∧ (∀ b, Lown m mp L' b → Lown m mp L b) := by
  have HL := Lib.hid h
  have HS := Lib.hid hs
  clear h hs
  cases hlk : look L s with
  | none =>
    obtain ⟨n1, n2⟩ := hasA_no hlk
    have hp := peek_any HL.out.body HS.out
    rw [has_pr, val_pr, n1, n2] at hp
    have HP := Lib.hid hp
    have hg : getA (pr L) s = pr L := by simp [getA, n1]
    rw [n1, n2, hg]
    clear hp n1 n2 hlk hg
    go_enter Tryz.func70, Tryz.ntmps70
    go_wp2_with (fail)
    refine HP.out.mono ?_
    rintro e w1 ⟨rfl, rfl⟩
    go_wp2_with (fail)
    go_ret2
    exact ⟨L, rfl, HL.out, rfl, Off.refl _ _, fun _ h => h⟩
  | some x =>
    obtain ⟨n1, n2⟩ := hasA_yes hlk
    have hp := peek_any HL.out.body HS.out
    rw [has_pr, val_pr, n1, n2] at hp
    have HP := Lib.hid hp
    have hlook := HL.out.body.lookup HS.out
    rw [hlk] at hlook
    simp only [Option.map_some, ptrV] at hlook
    obtain ⟨hx, rfl⟩ := look_in hlk
    have hg : getA (pr L) x.k = delA (pr L) x.k ++ [(x.k, x.v)] := by simp [getA, n1, n2]
    obtain ⟨A, C, rfl⟩ := split_at hx
    rw [n1, n2, hg, ← del_pr HL.out.body.keys]
    have c1 := HL.out.body.c1
    clear hp n1 n2 hlk hg hx
    go_enter Tryz.func70, Tryz.ntmps70
    go_wp2_with (fail)
    refine HP.out.mono ?_
    rintro e w1 ⟨rfl, rfl⟩
    go_wp2_with (fail)
    refine (lout_any _ m mp most A C (A ++ x :: C) x HL.out.ring HL.out.body).mono ?_
    rintro e w2 ⟨rfl, hr2, hb2, ho2, f2, k2, k3⟩
    have H2 := Lib.hid (And.intro hr2 (And.intro hb2 (And.intro ho2 (And.intro f2 (And.intro k2 k3)))))
    clear hr2 hb2 ho2 f2 k2 k3 hlook c1
    go_wp2_with (fail)
    refine (ltouch_any _ m mp most x.b ((A ++ C).map (·.b)) (A ++ x :: C) H2.out.1 H2.out.2.1 (nodup_out HL.out.ring.nodup) H2.out.2.2.2.1 H2.out.2.2.2.2.1 H2.out.2.2.2.2.2).mono ?_
    rintro e w3 ⟨rfl, hr3, hb3, ho3⟩
    have H3 := Lib.hid (And.intro hr3 (And.intro hb3 ho3))
    clear hr3 hb3 ho3
    go_wp2_with (fail)
    go_ret2
    refine ⟨A ++ C ++ [x], rfl, lru_moved (w1 := w2) (w2 := w2) HL.out.cap HL.out.big H3.out.1 H3.out.2.1, by simp [pr], ?_, fun b hb => moved_own rfl hb⟩
    refine (H2.out.2.2.1.mono (fun i _ hi => own_ring hi)).trans H3.out.2.2 ?_
    intro i _ hi
    refine own_ring ?_
    simp only [List.map_append, List.map_cons, List.mem_append, List.mem_cons] at hi ⊢
    rcases hi with h | (h | h) | h
    · exact Or.inl h
    · exact Or.inr (Or.inl h)
    · exact Or.inr (Or.inr (Or.inr h))
    · exact Or.inr (Or.inr (Or.inl h))
end Go.Proofs.YtemlafbkkaloiaaGreat
namespace Go.Proofs.YtemlafbkkaloiaaGreat
open Go.RowKit
set_option maxHeartbeats 6400000 in
set_option maxRecDepth 100000 in
theorem lput_old {w : World} {m mp most : Nat} {A C : List LNode} {x : LNode} (h : Lru w m mp most (A ++ x :: C)) (v : Int) :
    Calls Tryz.prog 63 #[.pointer (some ⟨m, 0, none⟩), .string x.k, .int .i64 v] w fun e w' => e = .returned (.tuple #[.string ⟨#[]⟩, .bool false, .int .i64 0]) ∧ Lru w' m mp most (A ++ C ++ [⟨x.b, x.k, v⟩]) ∧ Off (Lown m mp (A ++ x :: C)) w w' := by
  have HL := Lib.hid h
  clear h
  have hx : x ∈ A ++ x :: C := by simp
  have hlook := HL.out.body.lookup (HL.out.body.small x hx)
  rw [look_some HL.out.body.keys hx rfl] at hlook
  simp only [Option.map_some, ptrV] at hlook
  have c1 := HL.out.body.c1
  have cv := HL.out.body.val x hx
  have fv := HL.out.ring.fr x.b (by simp)
  go_enter Tryz.func63, Tryz.ntmps63
  go_wp2_with (fail)
  have hr0 : Ring (w.setCell ⟨x.b, 1, none⟩ (.int .i64 v)) m ((A ++ ⟨x.b, x.k, v⟩ :: C).map (·.b)) := by
    have := HL.out.ring.set x.b 1 (by omega) (.int .i64 v)
    simpa using this
  refine (lout_any _ m mp most A C (A ++ ⟨x.b, x.k, v⟩ :: C) ⟨x.b, x.k, v⟩ hr0 (HL.out.body.setVal HL.out.ring.nodup v)).mono ?_
  rintro e w2 ⟨rfl, hr2, hb2, ho2, f2, k2, k3⟩
  have H2 := Lib.hid (And.intro hr2 (And.intro hb2 (And.intro ho2 (And.intro f2 (And.intro k2 k3)))))
  clear hr2 hb2 ho2 f2 k2 k3 hlook c1 cv fv
  go_wp2_with (fail)
  refine (ltouch_any _ m mp most x.b ((A ++ C).map (·.b)) (A ++ ⟨x.b, x.k, v⟩ :: C) H2.out.1 H2.out.2.1 (nodup_out HL.out.ring.nodup) H2.out.2.2.2.1 H2.out.2.2.2.2.1 H2.out.2.2.2.2.2).mono ?_
  rintro e w3 ⟨rfl, hr3, hb3, ho3⟩
  have H3 := Lib.hid (And.intro hr3 (And.intro hb3 ho3))
  clear hr3 hb3 ho3
  go_wp2_with (fail)
  go_ret3
  refine ⟨rfl, lru_moved (w1 := w2) (w2 := w2) (x := ⟨x.b, x.k, v⟩) (by have := HL.out.cap; simp at this ⊢; omega) HL.out.big H3.out.1 H3.out.2.1, ?_⟩
  have o0 : Off (Lown m mp (A ++ x :: C)) w (w.setCell ⟨x.b, 1, none⟩ (.int .i64 v)) := (Off.refl _ w).setCell (fun _ => Or.inr (Or.inr (by simp))) _
  refine (o0.trans H2.out.2.2.1 ?_).trans H3.out.2.2 ?_
  · intro i _ hi
    refine own_ring ?_
    simpa using hi
  · intro i _ hi
    refine own_ring ?_
    simp only [List.map_append, List.map_cons, List.mem_append, List.mem_cons] at hi ⊢
    rcases hi with h | (h | h) | h
    · exact Or.inl h
    · exact Or.inr (Or.inl h)
    · exact Or.inr (Or.inr (Or.inr h))
    · exact Or.inr (Or.inr (Or.inl h))
theorem lru_added {w1 w2 : World} {m mp most c : Nat} {L : List LNode} {s : ByteArray} {v : Int} (hcap : L.length < most) (hbig : 1 ≤ most ∧ most ≤ 4096) (hr : Ring w2 m (L.map (·.b) ++ [c])) (hb : LBody w2 m mp most (L ++ [⟨c, s, v⟩])) :
    Lru w2 m mp most (L ++ [⟨c, s, v⟩]) :=
  ⟨by simpa using hr, hb, by simp; omega, hbig⟩
theorem lput_prep {w : World} {m mp most : Nat} {L : List LNode} (h : Lru w m mp most L) {s : ByteArray} (hs : s.size ≤ maxLen) (v : Int) (hlk : look L s = none) (t : TypeId) :
    (w.alloc (.cells #[.string s, .int .i64 v, .pointer none, .pointer none] t)).cell? ⟨m, 1, none⟩ = some (.map (some mp)) ∧
    ∃ w3, (Instr.mapUpdate 114 (.map (some mp)) (.string s) (.pointer (some ⟨w.heap.size, 0, none⟩))).run Tryz.prog (w.alloc (.cells #[.string s, .int .i64 v, .pointer none, .pointer none] t)) = .ok () w3 ∧
      Ring w3 m (L.map (·.b)) ∧ LBody w3 m mp most (L ++ [⟨w.heap.size, s, v⟩]) ∧ Off (Lown m mp L) w w3 ∧ w.heap.size ∉ m :: L.map (·.b) ∧ (∀ o, w3.frozen? ⟨w.heap.size, o, none⟩ = false) ∧ (∃ u, w3.cell? ⟨w.heap.size, 2, none⟩ = some u) ∧ (∃ u, w3.cell? ⟨w.heap.size, 3, none⟩ = some u) := by
  have hb : Below w.heap.size w (w.alloc (.cells #[.string s, .int .i64 v, .pointer none, .pointer none] t)) := (Below.refl _ _).alloc (Nat.le_refl _) _
  have h1 := h.below hb
  have hz : (w.alloc (.cells #[.string s, .int .i64 v, .pointer none, .pointer none] t)).heap[w.heap.size]? = some (.cells #[.string s, .int .i64 v, .pointer none, .pointer none] t) := by
    show (Array.push w.heap _)[_]? = _
    rw [Array.getElem?_push, if_pos rfl]
  refine ⟨h1.body.c1, ?_⟩
  have hsize : (w.alloc (.cells #[.string s, .int .i64 v, .pointer none, .pointer none] t)).heap.size = w.heap.size + 1 := by simp
  generalize w.alloc (.cells #[.string s, .int .i64 v, .pointer none, .pointer none] t) = W at *
  have hnew : w.heap.size ∉ m :: L.map (·.b) := by
    intro hm
    have := h.lt (mp := mp) (b := w.heap.size) (by rcases List.mem_cons.1 hm with e | hm; exact Or.inl e; exact Or.inr (Or.inr hm))
    omega
  obtain ⟨w3, hrun, hb3, hg3⟩ := h1.body.add (c := w.heap.size) (s := s) (v := v) (by have := h.cap; have := h.big; simp only [maxLen]; omega) hs hlk (by simp only [World.cell?, hz]; rfl) (by simp only [World.cell?, hz]; rfl)
  have hne : w.heap.size ≠ mp := by
    have := h.lt (mp := mp) (b := mp) (Or.inr (Or.inl rfl))
    omega
  have hk : w3.heap[w.heap.size]? = W.heap[w.heap.size]? := hg3.block _ (by omega) (fun e => hne (by injection e))
  refine ⟨w3, hrun, h1.ring.kept (fun b hbm => ?_), hb3, (Off.ofBelow hb).grown hg3 (fun _ => Or.inr (Or.inl rfl)), hnew, fun o => ?_, ⟨.pointer none, ?_⟩, ⟨.pointer none, ?_⟩⟩
  · obtain ⟨e1, e2⟩ := h1.body.apart hbm
    exact hg3.block b e2 (fun e => e1 (by injection e))
  · simp only [World.frozen?, hk, hz]
    simp
  · simp only [World.cell?, hk, hz]; rfl
  · simp only [World.cell?, hk, hz]; rfl
set_option maxHeartbeats 6400000 in
set_option maxRecDepth 100000 in
theorem lput_new {w : World} {m mp most : Nat} {L : List LNode} (h : Lru w m mp most L) {s : ByteArray} (hs : s.size ≤ maxLen) (v : Int) (hlk : look L s = none) (hroom : L.length ≠ most) :
    Calls Tryz.prog 63 #[.pointer (some ⟨m, 0, none⟩), .string s, .int .i64 v] w fun e w' => e = .returned (.tuple #[.string ⟨#[]⟩, .bool false, .int .i64 0]) ∧ Lru w' m mp most (L ++ [⟨w.heap.size, s, v⟩]) ∧ Off (Lown m mp L) w w' := by
  have HL := Lib.hid h
  have HS := Lib.hid hs
  have hlook := HL.out.body.lookup hs
  rw [hlk] at hlook
  simp only [Option.map_none, ptrV] at hlook
  have c1 := HL.out.body.c1
  have c0 := HL.out.body.c0
  have hlen := HL.out.body.len
  have hlen' := HL.out.body.drew.len
  have hdec : ((L.length : Int) == (most : Int)) = false := by simp; omega
  have HK := Lib.hid hlk
  have HR := Lib.hid hroom
  clear h hs hlk hroom
  go_enter Tryz.func63, Tryz.ntmps63
  go_wp2_with (fail)
  go_region
  all_goals
    have HD := Lib.hid (And.intro (HL.out.below (w' := w.drew) ((Below.refl _ _).drew)) (And.intro (show w.drew.heap.size = w.heap.size from rfl) ((Off.refl (Lown m mp L) w).drew)))
    generalize w.drew = w2 at HD hlen' ⊢
    obtain ⟨c1W, w3, hrun, P⟩ := lput_prep HD.out.1 HS.out v HK.out 119
    have HP := Lib.hid P
    clear P c1 c0 hlook hlen hlen'
    go_wp2_with (fail)
    refine (ltouch_any w3 m mp most w2.heap.size (L.map (·.b)) (L ++ [⟨w2.heap.size, s, v⟩]) HP.out.1 HP.out.2.1 HP.out.2.2.2.1 HP.out.2.2.2.2.1 HP.out.2.2.2.2.2.1 HP.out.2.2.2.2.2.2).mono ?_
    rintro e w4 ⟨rfl, hr4, hb4, ho4⟩
    have H4 := Lib.hid (And.intro hr4 (And.intro hb4 ho4))
    clear hr4 hb4 ho4
    go_wp2_with (fail)
    go_ret3
    have hcap := HL.out.cap
    have hne := HR.out
    rw [← HD.out.2.1]
    refine ⟨rfl, lru_added (w1 := w) (by omega) HL.out.big H4.out.1 H4.out.2.1, (HD.out.2.2.trans HP.out.2.2.1 (fun _ _ h => h)).trans H4.out.2.2 ?_⟩
    intro i hi h
    rcases h with h | h | h
    · exact Or.inl h
    · exact Or.inr (Or.inr h)
    · have := HD.out.2.1
      omega
theorem one_str (w : World) (s : ByteArray) : StrsAt (w.alloc (.cells #[.string s] 9)) (some ⟨w.heap.size, 0, none⟩) [s] :=
  Or.inr ⟨_, 0, rfl, by simp, fun j hj => by
    have : j = 0 := by simp at hj; omega
    subst this
    simp [go_sem]⟩
theorem drop_one {x : LNode} {C : List LNode} (hn : ((x :: C).map (·.k)).Nodup) : dropA (pr (x :: C)) [x.k] = (pr C, 1) := by
  have h1 := del_pr (A := []) (C := C) (x := x) (by simpa using hn)
  simp only [List.nil_append] at h1
  have h2 : hasA (pr (x :: C)) x.k = true := by simp [hasA, pr]
  simp [dropA, h2, ← h1]
set_option maxHeartbeats 6400000 in
set_option maxRecDepth 100000 in
theorem lput_full {w : World} {m mp most : Nat} {x : LNode} {C : List LNode} (h : Lru w m mp most (x :: C)) {s : ByteArray} (hs : s.size ≤ maxLen) (v : Int) (hlk : look (x :: C) s = none) (hfull : (x :: C).length = most) :
    Calls Tryz.prog 63 #[.pointer (some ⟨m, 0, none⟩), .string s, .int .i64 v] w fun e w' => e = .returned (.tuple #[.string x.k, .bool true, .int .i64 0]) ∧ ∃ L', Lru w' m mp most L' ∧ pr L' = pr C ++ [(s, v)] ∧ Off (Lown m mp (x :: C)) w w' ∧ (∀ b, Lown m mp L' b → Lown m mp (x :: C) b ∨ w.heap.size ≤ b) := by
  have HL := Lib.hid h
  have HS := Lib.hid hs
  have hlook := HL.out.body.lookup hs
  rw [hlk] at hlook
  simp only [Option.map_none, ptrV] at hlook
  have c1 := HL.out.body.c1
  have c0 := HL.out.body.c0
  have c5 := HL.out.ring.behind 0 (by omega)
  rw [show rb m (List.map (fun x : LNode => x.b) (x :: C)) 0 = m from rfl, show ro (List.map (fun x : LNode => x.b) (x :: C)) 0 + 3 = 5 from rfl, show rp m (List.map (fun x : LNode => x.b) (x :: C)) (0 + 1) = .pointer (some ⟨x.b, 0, none⟩) from rfl] at c5
  have cx := HL.out.body.key x (by simp)
  have hlen := HL.out.body.len
  have hlen' := HL.out.body.drew.len
  have hdec : (((x :: C).length : Int) == (most : Int)) = true := by rw [hfull]; simp
  have HK := Lib.hid hlk
  have HR := Lib.hid hfull
  clear h hs hlk hfull
  generalize hN : (x :: C).length = N at hlen hlen' hdec
  clear hN
  go_enter Tryz.func63, Tryz.ntmps63
  go_wp2_with (fail)
  go_region
  all_goals
    have HD := Lib.hid (And.intro (HL.out.below (w' := w.drew) ((Below.refl _ _).drew)) (And.intro (show w.drew.heap.size = w.heap.size from rfl) (And.intro ((Off.refl (Lown m mp (x :: C)) w).drew) (And.intro (show w.drew.cell? ⟨m, 5, none⟩ = some (.pointer (some ⟨x.b, 0, none⟩)) from c5) (show w.drew.cell? ⟨x.b, 0, none⟩ = some (.string x.k) from cx)))))
    generalize w.drew = w2 at HD hlen' ⊢
    have c5' := HD.out.2.2.2.1
    have cx' := HD.out.2.2.2.2
    clear c1 c0 c5 cx hlook hlen hlen'
    go_wp2_with (fail)
    have hb3 : Below w2.heap.size w2 (w2.alloc (.cells #[.string x.k] 9)) := (Below.refl _ _).alloc (Nat.le_refl _) _
    refine (ldrop_any (HD.out.1.below hb3) (some ⟨w2.heap.size, 0, none⟩) 1 1 [x.k] rfl (by decide) (one_str w2 x.k) (fun b off e _ hb => by
      injection e with e; injection e with e _
      have := HD.out.1.lt hb
      omega) (fun t ht => by simp at ht; subst ht; exact HL.out.body.small x (by simp))).mono ?_
    rintro e w3 ⟨L1, rfl, hl1, hp1, ho1, hs1⟩
    rw [drop_one HL.out.body.keys] at hp1
    have hno : hasA (pr L1) s = false := by
      rw [hp1]
      have h1 := (hasA_no HK.out).1
      simp only [pr, List.map_cons, hasA, List.any_cons, Bool.or_eq_false_iff] at h1
      exact h1.2
    have hlk1 : look L1 s = none := by
      rw [← has_pr] at hno
      simpa [lhas] using hno
    have hlen1 : L1.length < most := by
      have h1 := congrArg List.length hp1
      rw [pr_len, pr_len] at h1
      have h2 := HR.out
      simp only [List.length_cons] at h2
      omega
    have H3 := Lib.hid (And.intro hl1 (And.intro hp1 (And.intro ho1 (And.intro hs1 (And.intro hlk1 hlen1)))))
    obtain ⟨c1W, w4, hrun, P⟩ := lput_prep hl1 HS.out v hlk1 119
    have HP := Lib.hid P
    have HB3 := Lib.hid hb3
    clear P hl1 hp1 ho1 hs1 hlk1 hlen1 hno c5' cx' hb3
    rw [drop_one HL.out.body.keys]
    go_wp2_with (fail)
    refine (ltouch_any w4 m mp most w3.heap.size (L1.map (·.b)) (L1 ++ [⟨w3.heap.size, s, v⟩]) HP.out.1 HP.out.2.1 HP.out.2.2.2.1 HP.out.2.2.2.2.1 HP.out.2.2.2.2.2.1 HP.out.2.2.2.2.2.2).mono ?_
    rintro e w5 ⟨rfl, hr5, hb5, ho5⟩
    have H5 := Lib.hid (And.intro hr5 (And.intro hb5 ho5))
    clear hr5 hb5 ho5
    go_wp2_with (fail)
    go_ret3
    obtain ⟨hl1, hp1, ho1, hs1, hlk1, hlen1⟩ := H3.out
    have z1 := HB3.out.size
    have z2 := ho1.size
    have z3 := HD.out.2.1
    refine ⟨rfl, L1 ++ [⟨w3.heap.size, s, v⟩], lru_added (w1 := w) hlen1 HL.out.big H5.out.1 H5.out.2.1, by rw [← hp1]; simp [pr], ?_, fun b hb => ?_⟩
    · refine (((HD.out.2.2.1.trans (Off.ofBelow (S := Lown m mp (x :: C)) HB3.out) (fun _ _ h => h)).trans ho1 (fun _ _ h => h)).trans HP.out.2.2.1 (fun i _ h => hs1 i h)).trans H5.out.2.2 ?_
      intro i hi h
      rcases h with h | h | h
      · exact Or.inl h
      · exact hs1 i (Or.inr (Or.inr h))
      · omega
    · rcases hb with h | h | h
      · exact Or.inl (Or.inl h)
      · exact Or.inl (Or.inr (Or.inl h))
      · simp only [List.map_append, List.map_cons, List.map_nil, List.mem_append, List.mem_singleton] at h
        rcases h with h | h
        · exact Or.inl (hs1 b (Or.inr (Or.inr h)))
        · right; omega
end Go.Proofs.YtemlafbkkaloiaaGreat
namespace Go.Proofs.YtemlafbkkaloiaaGreat
open Go.RowKit
theorem lput_any {w : World} {m mp most : Nat} {L : List LNode} (h : Lru w m mp most L) {s : ByteArray} (hs : s.size ≤ maxLen) (v : Int) :
    Calls Tryz.prog 63 #[.pointer (some ⟨m, 0, none⟩), .string s, .int .i64 v] w fun e w' => ∃ L', e = .returned (.tuple #[.string (goneA most (pr L) s), .bool (wentA most (pr L) s), .int .i64 0]) ∧ Lru w' m mp most L' ∧ pr L' = putA most (pr L) s v ∧ Off (Lown m mp L) w w' ∧ (∀ b, Lown m mp L' b → Lown m mp L b ∨ w.heap.size ≤ b) := by
  cases hlk : look L s with
  | some x =>
    obtain ⟨n1, _⟩ := hasA_yes hlk
    obtain ⟨hx, rfl⟩ := look_in hlk
    obtain ⟨A, C, rfl⟩ := split_at hx
    refine (lput_old h v).mono ?_
    rintro e w' ⟨rfl, h1, h2⟩
    refine ⟨A ++ C ++ [⟨x.b, x.k, v⟩], ?_, h1, ?_, h2, fun b hb => Or.inl (moved_own (x := x) (y := ⟨x.b, x.k, v⟩) rfl hb)⟩
    · simp [goneA, wentA, n1]
    · rw [putA, n1, if_pos rfl, ← del_pr h.body.keys]
      simp [pr]
  | none =>
    obtain ⟨n1, _⟩ := hasA_no hlk
    by_cases hf : L.length = most
    · cases L with
      | nil => have := h.big; simp at hf; omega
      | cons x C =>
        refine (lput_full h hs v hlk hf).mono ?_
        rintro e w' ⟨rfl, L', h1, h2, h3, h4⟩
        refine ⟨L', ?_, h1, ?_, h3, h4⟩
        · have hf' : (pr (x :: C)).length = most := by rw [pr_len]; exact hf
          rw [goneA, wentA, n1, hf']
          simp [pr]
        · have hf' : (pr (x :: C)).length = most := by rw [pr_len]; exact hf
          rw [putA, n1, hf', h2]
          simp [pr]
    · refine (lput_new h hs v hlk hf).mono ?_
      rintro e w' ⟨rfl, h1, h2⟩
      have hf' : (pr L).length ≠ most := by rw [pr_len]; exact hf
      refine ⟨_, ?_, h1, ?_, h2, fun b hb => ?_⟩
      · simp [goneA, wentA, n1, hf']
      · rw [putA, n1, if_neg (by simp), if_neg hf']
        simp [pr]
      · rcases hb with h | h | h
        · exact Or.inl (Or.inl h)
        · exact Or.inl (Or.inr (Or.inl h))
        · simp only [List.map_append, List.map_cons, List.map_nil, List.mem_append, List.mem_singleton] at h
          rcases h with h | h
          · exact Or.inl (Or.inr (Or.inr h))
          · right; omega
theorem own_empty {m mp base : Nat} (h1 : base ≤ m) (h2 : base ≤ mp) : ∀ b, Lown m mp [] b → base ≤ b := by
  intro b hb
  rcases hb with h | h | h
  · omega
  · omega
  · simp at h
end Go.Proofs.YtemlafbkkaloiaaGreat
