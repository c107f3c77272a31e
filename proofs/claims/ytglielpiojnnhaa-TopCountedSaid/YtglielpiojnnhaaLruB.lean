/- lru: how a map lies in memory; what the writes make of it. -/
import Derived.Test.YtglielpiojnnhaaLruA
namespace Go.Proofs.Ytglielpiojnnhaa
open Go.RowKit
set_option linter.unusedVariables false
set_option linter.unusedSimpArgs false

/-- A link: its block, its key, its value. -/
structure LNode where
  b : Nat
  k : ByteArray
  v : Int

/-- All but the ring. -/
structure LBody (w : World) (m mp : Nat) (most : Nat) (L : List LNode) : Prop where
  c0 : w.cell? ⟨m, 0, none⟩ = some (.int .i64 most)
  c1 : w.cell? ⟨m, 1, none⟩ = some (.map (some mp))
  key : ∀ x, x ∈ L → w.cell? ⟨x.b, 0, none⟩ = some (.string x.k)
  val : ∀ x, x ∈ L → w.cell? ⟨x.b, 1, none⟩ = some (.int .i64 x.v)
  map : ∃ f, MapOf w mp f L.length ∧ ∀ s b, f s = some b ↔ ∃ x, x ∈ L ∧ x.k = s ∧ x.b = b
  keys : (L.map (·.k)).Nodup
  small : ∀ x, x ∈ L → x.k.size ≤ maxLen

structure Lru (w : World) (m mp : Nat) (most : Nat) (L : List LNode) : Prop where
  ring : Ring w m (L.map (·.b))
  body : LBody w m mp most L
  cap : L.length ≤ most
  big : 1 ≤ most ∧ most ≤ 4096

/-- Its own blocks. -/
def Lown (m mp : Nat) (L : List LNode) (k : Nat) : Prop := k = m ∨ k = mp ∨ k ∈ L.map (·.b)

theorem Ring.kept {w w' : World} {m : Nat} {B : List Nat} (h : Ring w m B) (hk : ∀ b, b ∈ m :: B → w'.heap[b]? = w.heap[b]?) : Ring w' m B :=
  ⟨h.nodup, fun j hj => (World.cell?_of_block (w := w) (hk _ (rb_mem j))).trans (h.behind j hj), fun j hj => (World.cell?_of_block (w := w) (hk _ (rb_mem (j + 1)))).trans (h.ahead j hj),
    fun b hb o => (World.frozen?_of_block (w := w) (a := ⟨b, o, none⟩) (hk b hb)).trans (h.fr b hb o)⟩

theorem Ring.set {w : World} {m : Nat} {B : List Nat} (h : Ring w m B) (b o : Nat) (ho : o < 2) (u : Value) : Ring (w.setCell ⟨b, o, none⟩ u) m B :=
  ⟨h.nodup, fun j hj => cell_far (h.behind j hj) (fun e => by injection e with _ e2; omega), fun j hj => cell_far (h.ahead j hj) (fun e => by injection e with _ e2; omega),
    fun b hb o => by simp only [World.frozen?_setCell]; exact h.fr b hb o⟩

theorem map_not_cells {w : World} {mp n : Nat} {f : ByteArray → Option Nat} (h : MapOf w mp f n) {a : Addr} {v : Value} (ha : w.cell? a = some v) : a.block ≠ mp := by
  obtain ⟨D, ⟨es, clock, hb, _⟩, _⟩ := h
  intro e
  simp [World.cell?, e, hb] at ha

theorem LBody.kept {w w' : World} {m mp most : Nat} {L : List LNode} (h : LBody w m mp most L) (hk : ∀ b, Lown m mp L b → w'.heap[b]? = w.heap[b]?) : LBody w' m mp most L := by
  obtain ⟨f, h1, h2⟩ := h.map
  exact ⟨(World.cell?_of_block (w := w) (hk _ (Or.inl rfl))).trans h.c0, (World.cell?_of_block (w := w) (hk _ (Or.inl rfl))).trans h.c1,
    fun x hx => (World.cell?_of_block (w := w) (hk _ (Or.inr (Or.inr (List.mem_map.2 ⟨x, hx, rfl⟩))))).trans (h.key x hx), fun x hx => (World.cell?_of_block (w := w) (hk _ (Or.inr (Or.inr (List.mem_map.2 ⟨x, hx, rfl⟩))))).trans (h.val x hx),
    ⟨f, h1.kept (hk _ (Or.inr (Or.inl rfl))), h2⟩, h.keys, h.small⟩

theorem Lru.kept {w w' : World} {m mp most : Nat} {L : List LNode} (h : Lru w m mp most L) (hk : ∀ b, Lown m mp L b → w'.heap[b]? = w.heap[b]?) : Lru w' m mp most L :=
  ⟨h.ring.kept (fun b hb => hk b (by rcases List.mem_cons.1 hb with rfl | hb; exact Or.inl rfl; exact Or.inr (Or.inr hb))), h.body.kept hk, h.cap, h.big⟩

theorem Lru.lt {w : World} {m mp most : Nat} {L : List LNode} (h : Lru w m mp most L) {b : Nat} (hb : Lown m mp L b) : b < w.heap.size := by
  rcases hb with rfl | rfl | hb
  · exact World.block_lt_of_cell? w _ h.body.c0
  · obtain ⟨f, h1, _⟩ := h.body.map
    exact h1.lt
  · obtain ⟨x, hx, rfl⟩ := List.mem_map.1 hb
    exact World.block_lt_of_cell? w _ (h.body.key x hx)

/-- It stays, where others are written. -/
theorem Lru.off {S : Nat → Prop} {w w' : World} {m mp most : Nat} {L : List LNode} (h : Lru w m mp most L) (ho : Off S w w') (hS : ∀ b, Lown m mp L b → ¬ S b) : Lru w' m mp most L :=
  h.kept (fun b hb => ho.block b (h.lt hb) (hS b hb))
theorem Lru.below {w w' : World} {m mp most : Nat} {L : List LNode} (h : Lru w m mp most L) (hb : Below w.heap.size w w') : Lru w' m mp most L :=
  h.kept (fun b ho => hb.block b (h.lt ho))

/-- A pointer's cell is written. -/
theorem LBody.setPtr {w : World} {m mp most : Nat} {L : List LNode} (h : LBody w m mp most L) {a : Addr} {u v : Value} (ha : w.cell? a = some v) (ho : 2 ≤ a.off) : LBody (w.setCell a u) m mp most L := by
  obtain ⟨f, h1, h2⟩ := h.map
  have ne : ∀ b o, o < 2 → a ≠ ⟨b, o, none⟩ := fun b o hlt e => by rw [e] at ho; simp at ho; omega
  exact ⟨cell_far h.c0 (ne _ _ (by omega)), cell_far h.c1 (ne _ _ (by omega)), fun x hx => cell_far (h.key x hx) (ne _ _ (by omega)), fun x hx => cell_far (h.val x hx) (ne _ _ (by omega)),
    ⟨f, h1.kept (Below.heap_setCell _ _ _ _ (fun e => map_not_cells h1 ha e.symm)), h2⟩, h.keys, h.small⟩

/-- The order is nobody's. -/
theorem LBody.perm {w : World} {m mp most : Nat} {L L' : List LNode} (h : LBody w m mp most L) (hp : L'.Perm L) : LBody w m mp most L' := by
  obtain ⟨f, h1, h2⟩ := h.map
  refine ⟨h.c0, h.c1, fun x hx => h.key x (hp.mem_iff.1 hx), fun x hx => h.val x (hp.mem_iff.1 hx), ⟨f, hp.length_eq ▸ h1, fun s b => (h2 s b).trans ?_⟩, (hp.map _).nodup_iff.2 h.keys, fun x hx => h.small x (hp.mem_iff.1 hx)⟩
  exact ⟨fun ⟨x, hx, r⟩ => ⟨x, hp.mem_iff.2 hx, r⟩, fun ⟨x, hx, r⟩ => ⟨x, hp.mem_iff.1 hx, r⟩⟩

theorem nodup_map_inj {α β : Type} {f : α → β} : ∀ {L : List α}, (L.map f).Nodup → ∀ {x y : α}, x ∈ L → y ∈ L → f x = f y → x = y
  | [], _, _, _, hx, _, _ => by simp at hx
  | z :: L, hn, x, y, hx, hy, e => by
    simp only [List.map_cons, List.nodup_cons] at hn
    rcases List.mem_cons.1 hx with rfl | hx <;> rcases List.mem_cons.1 hy with rfl | hy
    · rfl
    · exact absurd (List.mem_map.2 ⟨_, by assumption, e.symm⟩) hn.1
    · exact absurd (List.mem_map.2 ⟨_, by assumption, e⟩) hn.1
    · exact nodup_map_inj hn.2 hx hy e

/-- A value is written. -/
theorem LBody.setVal {w : World} {m mp most : Nat} {A C : List LNode} {x : LNode} (h : LBody w m mp most (A ++ x :: C)) (hr : (m :: (A ++ x :: C).map (·.b)).Nodup) (v : Int) :
    LBody (w.setCell ⟨x.b, 1, none⟩ (.int .i64 v)) m mp most (A ++ ⟨x.b, x.k, v⟩ :: C) := by
  obtain ⟨f, h1, h2⟩ := h.map
  have hx : x ∈ A ++ x :: C := by simp
  have hm : x.b ≠ m := by
    intro e
    rw [List.nodup_cons] at hr
    exact hr.1 (List.mem_map.2 ⟨x, hx, e⟩)
  have other : ∀ y, y ∈ A ++ C → y.b ≠ x.b := by
    intro y hy e
    rw [List.nodup_cons] at hr
    have h3 := hr.2
    simp only [List.map_append, List.map_cons] at h3
    rw [List.nodup_append] at h3
    obtain ⟨_, h5, h6⟩ := h3
    rw [List.nodup_cons] at h5
    rcases List.mem_append.1 hy with hy | hy
    · exact h6 y.b (List.mem_map.2 ⟨y, hy, rfl⟩) x.b (by simp) e
    · exact h5.1 (e ▸ List.mem_map.2 ⟨y, hy, rfl⟩)
  have mem : ∀ y, y ∈ A ++ ⟨x.b, x.k, v⟩ :: C → y = ⟨x.b, x.k, v⟩ ∨ y ∈ A ++ C := by
    intro y hy
    simp only [List.mem_append, List.mem_cons] at hy ⊢
    rcases hy with hy | hy | hy
    · exact Or.inr (Or.inl hy)
    · exact Or.inl hy
    · exact Or.inr (Or.inr hy)
  have mem' : ∀ y, y ∈ A ++ C → y ∈ A ++ x :: C := by
    intro y hy
    simp only [List.mem_append, List.mem_cons] at hy ⊢
    rcases hy with hy | hy
    · exact Or.inl hy
    · exact Or.inr (Or.inr hy)
  refine ⟨cell_far h.c0 (by simp), cell_far h.c1 (by simp [hm]), fun y hy => ?_, fun y hy => ?_, ⟨f, ?_, fun s b => (h2 s b).trans ?_⟩, ?_, fun y hy => ?_⟩
  · rcases mem y hy with rfl | hy
    · exact cell_far (h.key x hx) (by simp)
    · exact cell_far (h.key y (mem' y hy)) (by simp)
  · rcases mem y hy with rfl | hy
    · exact cell_same (h.val x hx)
    · exact cell_far (h.val y (mem' y hy)) (by simp; exact fun e => other y hy e.symm)
  · have := h1.kept (w' := w.setCell ⟨x.b, 1, none⟩ (.int .i64 v)) (Below.heap_setCell _ _ _ _ (fun e => map_not_cells h1 (h.val x hx) e.symm))
    simpa using this
  · constructor
    · rintro ⟨y, hy, rfl, rfl⟩
      simp only [List.mem_append, List.mem_cons] at hy
      rcases hy with hy | rfl | hy
      · exact ⟨y, by simp [hy], rfl, rfl⟩
      · exact ⟨⟨y.b, y.k, v⟩, by simp, rfl, rfl⟩
      · exact ⟨y, by simp [hy], rfl, rfl⟩
    · rintro ⟨y, hy, rfl, rfl⟩
      rcases mem y hy with rfl | hy
      · exact ⟨x, hx, rfl, rfl⟩
      · exact ⟨y, mem' y hy, rfl, rfl⟩
  · simpa using h.keys
  · rcases mem y hy with rfl | hy
    · exact h.small x hx
    · exact h.small y (mem' y hy)
end Go.Proofs.Ytglielpiojnnhaa
