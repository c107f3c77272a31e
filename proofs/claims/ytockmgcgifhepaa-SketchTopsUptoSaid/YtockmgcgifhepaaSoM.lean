/- A stable sort by falling counts: the plain law. -/
import Derived.Test.YtockmgcgifhepaaProg
namespace Go.Proofs.Ytockmgcgifhepaa
set_option linter.unusedVariables false
set_option linter.unusedSimpArgs false

structure ItT where
  val : ByteArray
  cnt : Int
/-- x goes before y. -/
def ltT (x y : ItT) : Bool := decide (y.cnt < x.cnt)
theorem ltT_trans {x y z : ItT} (h1 : ltT x y = true) (h2 : ltT y z = true) : ltT x z = true := by
  simp only [ltT, decide_eq_true_eq] at *; omega
theorem ltT_asym {x y : ItT} (h1 : ltT x y = true) : ltT y x = false := by
  simp only [ltT, decide_eq_true_eq, decide_eq_false_iff_not] at *; omega
theorem ltT_neg {x y z : ItT} (h1 : ltT x y = false) (h2 : ltT y z = false) : ltT x z = false := by
  simp only [ltT, decide_eq_false_iff_not] at *; omega
theorem ltT_l {x y z : ItT} (h1 : ltT x y = true) (h2 : ltT z y = false) : ltT x z = true := by
  simp only [ltT, decide_eq_true_eq, decide_eq_false_iff_not] at *; omega
theorem ltT_r {x y z : ItT} (h1 : ltT x y = true) (h2 : ltT x z = false) : ltT z y = true := by
  simp only [ltT, decide_eq_true_eq, decide_eq_false_iff_not] at *; omega

def mergeT : List ItT → List ItT → List ItT
  | [], R => R
  | x :: L, [] => x :: L
  | x :: L, y :: R => if ltT y x then y :: mergeT (x :: L) R else x :: mergeT L (y :: R)
termination_by L R => L.length + R.length
theorem mergeT_nil (R : List ItT) : mergeT [] R = R := by rw [mergeT]
theorem mergeT_nil2 (L : List ItT) : mergeT L [] = L := by cases L <;> rw [mergeT]
theorem mergeT_cons (x y : ItT) (L R : List ItT) : mergeT (x :: L) (y :: R) = if ltT y x then y :: mergeT (x :: L) R else x :: mergeT L (y :: R) := by rw [mergeT]
def insT : List ItT → ItT → List ItT
  | [], b => [b]
  | y :: R, b => if ltT b y then b :: y :: R else y :: insT R b
def isort (L : List ItT) : List ItT := L.foldl insT []
theorem isort_snoc (L : List ItT) (b : ItT) : isort (L ++ [b]) = insT (isort L) b := by unfold isort; rw [List.foldl_append]; rfl
theorem merge_ins : ∀ (L R : List ItT) (b : ItT), mergeT L (insT R b) = insT (mergeT L R) b
  | [], R, b => by rw [mergeT_nil, mergeT_nil]
  | x :: L, [], b => by
    rw [mergeT_nil2]
    show mergeT (x :: L) [b] = _
    rw [mergeT_cons]
    have h := merge_ins L [] b
    rw [mergeT_nil2] at h
    show _ = if ltT b x then b :: x :: L else x :: insT L b
    rw [← h, mergeT_nil2]
    rfl
  | x :: L, y :: R, b => by
    have h1 := merge_ins L (y :: R) b
    have h2 := merge_ins (x :: L) R b
    cases hby : ltT b y
    · have e1 : insT (y :: R) b = y :: insT R b := by show (if ltT b y then _ else _) = _; rw [hby]; rfl
      rw [e1] at h1
      rw [e1, mergeT_cons, mergeT_cons]
      cases hyx : ltT y x
      · rw [if_neg (by decide), if_neg (by decide), h1]
        have hbx : ltT b x = false := ltT_neg hby hyx
        show _ = if ltT b x then _ else _
        rw [hbx]; rfl
      · rw [if_pos rfl, if_pos rfl, h2]
        show _ = if ltT b y then _ else _
        rw [hby]; rfl
    · have e1 : insT (y :: R) b = b :: y :: R := by show (if ltT b y then _ else _) = _; rw [hby]; rfl
      rw [e1] at h1
      rw [e1, mergeT_cons x b, mergeT_cons x y]
      cases hyx : ltT y x
      · rw [if_neg (by decide : ¬ false = true)]
        show _ = if ltT b x then _ else _
        cases hbx : ltT b x
        · rw [if_neg (by decide), if_neg (by decide), h1]
        · rw [if_pos rfl, if_pos rfl]
      · rw [if_pos (rfl : true = true), ltT_trans hby hyx, if_pos rfl]
        show _ = if ltT b y then _ else _
        rw [hby, if_pos rfl]
termination_by L R => L.length + R.length

theorem merge_isort (A B : List ItT) : mergeT (isort A) (isort B) = isort (A ++ B) := by
  have key : ∀ (n : Nat) (B : List ItT), B.length = n → mergeT (isort A) (isort B) = isort (A ++ B) := by
    intro n
    induction n with
    | zero =>
      intro B hB
      obtain rfl := List.length_eq_zero_iff.1 hB
      rw [List.append_nil]
      exact mergeT_nil2 _
    | succ n ih =>
      intro B hB
      have hne : B ≠ [] := fun e => by rw [e] at hB; cases hB
      obtain ⟨B', b, rfl⟩ : ∃ B' b, B = B' ++ [b] := ⟨B.dropLast, B.getLast hne, (List.dropLast_concat_getLast hne).symm⟩
      rw [isort_snoc, merge_ins, ih B' (by simpa using hB), ← List.append_assoc, isort_snoc]
  exact key _ B rfl
theorem merge_split : ∀ (L1 R1 L2 R2 : List ItT), (∀ x ∈ L2, ∀ y ∈ R1, ltT y x = true) → (∀ x ∈ L1, ∀ y ∈ R2, ltT y x = false) → mergeT (L1 ++ L2) (R1 ++ R2) = mergeT L1 R1 ++ mergeT L2 R2
  | [], [], L2, R2, _, _ => by simp [mergeT_nil]
  | [], y :: R1, L2, R2, h1, h2 => by
    have ih := merge_split [] R1 L2 R2 (fun x hx z hz => h1 x hx z (List.mem_cons_of_mem _ hz)) (fun x hx => by cases hx)
    rw [mergeT_nil] at ih ⊢
    cases L2 with
    | nil => simp [mergeT_nil]
    | cons x L2 =>
      have := h1 x List.mem_cons_self y List.mem_cons_self
      show mergeT (x :: L2) (y :: (R1 ++ R2)) = _
      rw [mergeT_cons, if_pos this]
      rw [List.nil_append] at ih
      rw [ih]; rfl
  | x :: L1, [], L2, R2, h1, h2 => by
    have ih := merge_split L1 [] L2 R2 h1 (fun z hz => h2 z (List.mem_cons_of_mem _ hz))
    rw [mergeT_nil2] at ih ⊢
    cases R2 with
    | nil => simp [mergeT_nil2]
    | cons y R2 =>
      have := h2 x List.mem_cons_self y List.mem_cons_self
      show mergeT (x :: (L1 ++ L2)) (y :: R2) = _
      rw [mergeT_cons, this, if_neg (by decide)]
      rw [List.nil_append] at ih
      rw [ih]; rfl
  | x :: L1, y :: R1, L2, R2, h1, h2 => by
    have i1 := merge_split (x :: L1) R1 L2 R2 (fun u hu z hz => h1 u hu z (List.mem_cons_of_mem _ hz)) h2
    have i2 := merge_split L1 (y :: R1) L2 R2 h1 (fun z hz => h2 z (List.mem_cons_of_mem _ hz))
    show mergeT (x :: (L1 ++ L2)) (y :: (R1 ++ R2)) = _
    rw [mergeT_cons, mergeT_cons]
    cases h : ltT y x
    · rw [if_neg (by decide), if_neg (by decide)]
      rw [show y :: (R1 ++ R2) = (y :: R1) ++ R2 from rfl, i2]; rfl
    · rw [if_pos rfl, if_pos rfl]
      rw [show x :: (L1 ++ L2) = (x :: L1) ++ L2 from rfl, i1]; rfl
termination_by L1 R1 => L1.length + R1.length
/-- Nothing stands behind what it should go before. -/
def srt (L : List ItT) : Prop := L.Pairwise (fun x y => ltT y x = false)
theorem insT_at : ∀ (A B : List ItT) (x : ItT), (∀ y ∈ A, ltT x y = false) → (∀ y ∈ B, ltT x y = true) → insT (A ++ B) x = A ++ x :: B
  | [], [], x, _, _ => rfl
  | [], y :: B, x, _, h => by show (if ltT x y then _ else _) = _; rw [if_pos (h y List.mem_cons_self)]; rfl
  | z :: A, B, x, h1, h2 => by
    show (if ltT x z then _ else z :: insT (A ++ B) x) = _
    rw [h1 z List.mem_cons_self, if_neg (by decide), insT_at A B x (fun y hy => h1 y (List.mem_cons_of_mem _ hy)) h2]; rfl
theorem mem_ins : ∀ {L : List ItT} {b z : ItT}, z ∈ insT L b → z = b ∨ z ∈ L
  | [], b, z, h => Or.inl (List.mem_singleton.1 h)
  | y :: R, b, z, h => by
    change z ∈ (if ltT b y then b :: y :: R else y :: insT R b) at h
    split at h
    · rcases List.mem_cons.1 h with h | h
      · exact Or.inl h
      · exact Or.inr h
    · rcases List.mem_cons.1 h with h | h
      · exact Or.inr (by rw [h]; exact List.mem_cons_self)
      · rcases mem_ins h with h | h
        · exact Or.inl h
        · exact Or.inr (List.mem_cons_of_mem _ h)
theorem srt_ins : ∀ {L : List ItT} {b : ItT}, srt L → srt (insT L b)
  | [], b, h => by unfold srt insT; exact List.pairwise_singleton _ _
  | y :: R, b, h => by
    unfold srt at h ⊢
    rw [List.pairwise_cons] at h
    show (if ltT b y then b :: y :: R else y :: insT R b).Pairwise _
    cases hb : ltT b y
    · rw [if_neg (by decide), List.pairwise_cons]
      refine ⟨fun z hz => ?_, srt_ins h.2⟩
      rcases mem_ins hz with e | e
      · rw [e]; exact hb
      · exact h.1 z e
    · rw [if_pos rfl, List.pairwise_cons, List.pairwise_cons]
      refine ⟨fun z hz => ?_, h⟩
      rcases List.mem_cons.1 hz with e | e
      · rw [e]; exact ltT_asym hb
      · exact ltT_neg (h.1 z e) (ltT_asym hb)
theorem srt_isort (L : List ItT) : srt (isort L) := by
  have key : ∀ (B A : List ItT), srt A → srt (B.foldl insT A) := by
    intro B
    induction B with
    | nil => intro A h; exact h
    | cons x B ih => intro A h; exact ih _ (srt_ins h)
  exact key L [] List.Pairwise.nil
theorem isort_len (L : List ItT) : (isort L).length = L.length := by
  have hi : ∀ (L : List ItT) (b : ItT), (insT L b).length = L.length + 1 := by
    intro L b
    induction L with
    | nil => rfl
    | cons y R ih =>
      show (if ltT b y then b :: y :: R else y :: insT R b).length = _
      split <;> simp [ih]
  have key : ∀ (B A : List ItT), (B.foldl insT A).length = A.length + B.length := by
    intro B
    induction B with
    | nil => intro A; rfl
    | cons x B ih => intro A; rw [List.foldl_cons, ih, hi, List.length_cons]; omega
  have := key L []
  simpa [isort] using this

/-! Segments of a row that is a function. -/
def seg (f : Nat → ItT) (a n : Nat) : List ItT := (List.range n).map fun k => f (a + k)
theorem seg_len (f : Nat → ItT) (a n : Nat) : (seg f a n).length = n := by simp [seg]
theorem seg_get {f : Nat → ItT} {a n k : Nat} (h : k < n) : (seg f a n)[k]? = some (f (a + k)) := by simp [seg, h]
theorem seg_app (f : Nat → ItT) (a n m : Nat) : seg f a (n + m) = seg f a n ++ seg f (a + n) m := by
  unfold seg
  rw [List.range_add, List.map_append, List.map_map]
  congr 1
  apply List.map_congr_left
  intro k _
  simp [Nat.add_assoc]
theorem seg_zero (f : Nat → ItT) (a : Nat) : seg f a 0 = [] := rfl
theorem seg_one (f : Nat → ItT) (a : Nat) : seg f a 1 = [f a] := rfl
theorem seg_congr {f g : Nat → ItT} {a b n : Nat} (h : ∀ k, k < n → f (a + k) = g (b + k)) : seg f a n = seg g b n := by
  unfold seg
  exact List.map_congr_left fun k hk => h k (List.mem_range.1 hk)
theorem seg_mem {f : Nat → ItT} {a n : Nat} {x : ItT} (h : x ∈ seg f a n) : ∃ k, k < n ∧ x = f (a + k) := by
  obtain ⟨k, hk, rfl⟩ := List.mem_map.1 h
  exact ⟨k, List.mem_range.1 hk, rfl⟩
theorem seg_srt {f : Nat → ItT} {a n : Nat} : srt (seg f a n) ↔ ∀ i k, i < k → k < n → ltT (f (a + k)) (f (a + i)) = false := by
  unfold srt
  rw [List.pairwise_iff_getElem]
  constructor
  · intro h i k hik hk
    have := h i k (by rw [seg_len]; omega) (by rw [seg_len]; exact hk) hik
    simpa [seg] using this
  · intro h i j hi hj hij
    rw [seg_len] at hi hj
    have := h i j hij hj
    simpa [seg] using this
theorem seg_srt_le {f : Nat → ItT} {a n : Nat} (h : srt (seg f a n)) {i k : Nat} (h1 : a ≤ i) (h2 : i ≤ k) (h3 : k < a + n) : ltT (f k) (f i) = false := by
  by_cases e : i = k
  · subst e
    simp [ltT]
  · have := (seg_srt.1 h) (i - a) (k - a) (by omega) (by omega)
    rwa [show a + (k - a) = k by omega, show a + (i - a) = i by omega] at this
end Go.Proofs.Ytockmgcgifhepaa
