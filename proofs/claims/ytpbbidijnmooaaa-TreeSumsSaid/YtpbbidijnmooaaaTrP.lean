/- Plain: what a tree's nodes have together. No program here. -/
import Derived.Test.YtpbbidijnmooaaaTrM
namespace Go.Proofs.Ytpbbidijnmooaaa
open Go.RowKit
set_option linter.unusedVariables false
set_option linter.unusedSimpArgs false

def sumK (P : KeyS → Bool) (p : NoteW → Bool) : TreeM → RawC
  | [] => .zero
  | x :: M => (if P x.1 then sumW p x.2.notes else .zero).add (sumK P p M)
def flK (P : KeyS → Bool) : TreeM → Int
  | [] => 0
  | x :: M => (if P x.1 then x.2.flight else 0) + flK P M
def sumD (P : KeyS → Bool) (D : RawC) : List KeyS → RawC
  | [] => .zero
  | k :: l => (if P k then D else .zero).add (sumD P D l)
def flD (P : KeyS → Bool) (d : Int) : List KeyS → Int
  | [] => 0
  | k :: l => (if P k then d else 0) + flD P d l
theorem sumK_append (P : KeyS → Bool) (p : NoteW → Bool) : ∀ M M' : TreeM, sumK P p (M ++ M') = (sumK P p M).add (sumK P p M')
  | [], M' => by rw [List.nil_append, sumK, RawC.zero_add]
  | x :: M, M' => by rw [List.cons_append, sumK, sumK, sumK_append P p M M', RawC.add_assoc]
theorem flK_append (P : KeyS → Bool) : ∀ M M' : TreeM, flK P (M ++ M') = flK P M + flK P M'
  | [], M' => by rw [List.nil_append, flK]; omega
  | x :: M, M' => by rw [List.cons_append, flK, flK, flK_append P M M']; omega
theorem sumK_add (P : KeyS → Bool) (p : NoteW → Bool) (M : TreeM) (k : KeyS) : sumK P p (addM M k) = sumK P p M := by
  unfold addM
  split
  · rfl
  · rw [sumK_append, sumK, sumK, RawC.add_zero, show (if P (k, NodeM.zero).1 = true then sumW p (k, NodeM.zero).2.notes else RawC.zero) = .zero by split <;> rfl, RawC.add_zero]
theorem flK_add (P : KeyS → Bool) (M : TreeM) (k : KeyS) : flK P (addM M k) = flK P M := by
  unfold addM
  split
  · rfl
  · rw [flK_append, flK, flK, show (if P (k, NodeM.zero).1 = true then (k, NodeM.zero).2.flight else 0) = 0 by split <;> rfl]; omega
theorem updM_none {M : TreeM} {k : KeyS} (h : k ∉ keysM M) (f : NodeM → NodeM) : updM M k f = M := by
  unfold updM
  conv => rhs; rw [← List.map_id M]
  apply List.map_congr_left
  intro p hp
  rw [if_neg (fun e => h (List.mem_map.2 ⟨p, hp, e⟩))]; rfl
theorem sumK_upd {P : KeyS → Bool} {p : NoteW → Bool} {D : RawC} {f : NodeM → NodeM} (hf : ∀ n, sumW p (f n).notes = (sumW p n.notes).add D) {k : KeyS} : ∀ {M : TreeM}, (keysM M).Nodup → k ∈ keysM M → sumK P p (updM M k f) = (sumK P p M).add (if P k then D else .zero)
  | [], _, h => by simp [keysM] at h
  | x :: M, hn, h => by
    obtain ⟨h1, h2⟩ := List.nodup_cons.1 hn
    have hcons : updM (x :: M) k f = (if x.1 = k then (x.1, f x.2) else x) :: updM M k f := rfl
    rw [hcons]
    by_cases e : x.1 = k
    · rw [if_pos e, updM_none (by rw [← e]; exact h1), sumK, sumK]
      show (if P x.1 = true then sumW p (f x.2).notes else .zero).add _ = _
      rw [hf, e]
      cases P k with
      | true => rw [if_pos rfl, if_pos rfl, if_pos rfl, RawC.add_assoc, RawC.add_comm D, ← RawC.add_assoc]
      | false => rw [if_neg (by simp), if_neg (by simp), if_neg (by simp), RawC.add_zero]
    · rw [if_neg e, sumK, sumK, sumK_upd hf h2 (by
        rcases List.mem_cons.1 h with h3 | h3
        · exact absurd h3.symm e
        · exact h3), RawC.add_assoc]
theorem flK_upd {P : KeyS → Bool} {d : Int} {f : NodeM → NodeM} (hf : ∀ n, (f n).flight = n.flight + d) {k : KeyS} : ∀ {M : TreeM}, (keysM M).Nodup → k ∈ keysM M → flK P (updM M k f) = flK P M + (if P k then d else 0)
  | [], _, h => by simp [keysM] at h
  | x :: M, hn, h => by
    obtain ⟨h1, h2⟩ := List.nodup_cons.1 hn
    have hcons : updM (x :: M) k f = (if x.1 = k then (x.1, f x.2) else x) :: updM M k f := rfl
    rw [hcons]
    by_cases e : x.1 = k
    · rw [if_pos e, updM_none (by rw [← e]; exact h1), flK, flK]
      show (if P x.1 = true then (f x.2).flight else 0) + _ = _
      rw [hf, e]
      cases P k <;> simp <;> omega
    · rw [if_neg e, flK, flK, flK_upd hf h2 (by
        rcases List.mem_cons.1 h with h3 | h3
        · exact absurd h3.symm e
        · exact h3)]
      omega
theorem mem_keys_add {M : TreeM} {k x : KeyS} : x ∈ keysM (addM M k) ↔ x ∈ keysM M ∨ x = k := by
  rw [keysM_add]
  split
  · rename_i h
    constructor
    · exact Or.inl
    · rintro (h1 | rfl)
      · exact h1
      · exact h
  · simp
theorem touchM_cons (M : TreeM) (k : KeyS) (l : List KeyS) : touchM M (k :: l) = touchM (addM M k) l := rfl
theorem noteM_cons (M : TreeM) (k : KeyS) (l : List KeyS) (f : NodeM → NodeM) : noteM M (k :: l) f = noteM (updM (addM M k) k f) l f := rfl
theorem doneM_cons (M : TreeM) (k : KeyS) (l : List KeyS) (f : NodeM → NodeM) : doneM M (k :: l) f = doneM (updM M k f) l f := rfl
theorem mem_keys_touch {x : KeyS} : ∀ {l : List KeyS} {M : TreeM}, x ∈ keysM (touchM M l) ↔ x ∈ keysM M ∨ x ∈ l
  | [], M => by simp [touchM]
  | k :: l, M => by
    rw [touchM_cons, mem_keys_touch, mem_keys_add, List.mem_cons]
    constructor
    · rintro ((h | h) | h)
      · exact Or.inl h
      · exact Or.inr (Or.inl h)
      · exact Or.inr (Or.inr h)
    · rintro (h | h | h)
      · exact Or.inl (Or.inl h)
      · exact Or.inl (Or.inr h)
      · exact Or.inr h
theorem keys_note : ∀ (l : List KeyS) (M : TreeM) (f : NodeM → NodeM), keysM (noteM M l f) = keysM (touchM M l)
  | [], M, f => rfl
  | k :: l, M, f => by
    rw [noteM_cons, touchM_cons, keys_note]
    have : ∀ (l : List KeyS) (A B : TreeM), keysM A = keysM B → keysM (touchM A l) = keysM (touchM B l) := by
      intro l
      induction l with
      | nil => intro A B h; exact h
      | cons q l ih =>
        intro A B h
        rw [touchM_cons, touchM_cons]
        refine ih _ _ ?_
        rw [keysM_add, keysM_add, h]
    exact this l _ _ (keysM_upd _ _ _)
theorem keys_done : ∀ (l : List KeyS) (M : TreeM) (f : NodeM → NodeM), keysM (doneM M l f) = keysM M
  | [], M, f => rfl
  | k :: l, M, f => by rw [doneM_cons, keys_done, keysM_upd]
theorem touch_nodup : ∀ {l : List KeyS} {M : TreeM}, (keysM M).Nodup → (keysM (touchM M l)).Nodup
  | [], M, h => h
  | k :: l, M, h => by rw [touchM_cons]; exact touch_nodup (add_nodup h k)
theorem sumK_touch (P : KeyS → Bool) (p : NoteW → Bool) : ∀ (l : List KeyS) (M : TreeM), sumK P p (touchM M l) = sumK P p M
  | [], M => rfl
  | k :: l, M => by rw [touchM_cons, sumK_touch P p l, sumK_add]
theorem flK_touch (P : KeyS → Bool) : ∀ (l : List KeyS) (M : TreeM), flK P (touchM M l) = flK P M
  | [], M => rfl
  | k :: l, M => by rw [touchM_cons, flK_touch P l, flK_add]
theorem sumK_note {P : KeyS → Bool} {p : NoteW → Bool} {D : RawC} {f : NodeM → NodeM} (hf : ∀ n, sumW p (f n).notes = (sumW p n.notes).add D) : ∀ {l : List KeyS} {M : TreeM}, (keysM M).Nodup → sumK P p (noteM M l f) = (sumK P p M).add (sumD P D l)
  | [], M, _ => by rw [sumD, RawC.add_zero]; rfl
  | k :: l, M, h => by
    rw [noteM_cons, sumK_note hf (upd_nodup (add_nodup h k) k f), sumK_upd hf (add_nodup h k) (mem_keys_add.2 (Or.inr rfl)), sumK_add, sumD, RawC.add_assoc]
theorem flK_note {P : KeyS → Bool} {d : Int} {f : NodeM → NodeM} (hf : ∀ n, (f n).flight = n.flight + d) : ∀ {l : List KeyS} {M : TreeM}, (keysM M).Nodup → flK P (noteM M l f) = flK P M + flD P d l
  | [], M, _ => by rw [flD]; show flK P M = _; omega
  | k :: l, M, h => by
    rw [noteM_cons, flK_note hf (upd_nodup (add_nodup h k) k f), flK_upd hf (add_nodup h k) (mem_keys_add.2 (Or.inr rfl)), flK_add, flD]; omega
theorem sumK_done {P : KeyS → Bool} {p : NoteW → Bool} {D : RawC} {f : NodeM → NodeM} (hf : ∀ n, sumW p (f n).notes = (sumW p n.notes).add D) : ∀ {l : List KeyS} {M : TreeM}, (keysM M).Nodup → (∀ k, k ∈ l → k ∈ keysM M) → sumK P p (doneM M l f) = (sumK P p M).add (sumD P D l)
  | [], M, _, _ => by rw [sumD, RawC.add_zero]; rfl
  | k :: l, M, h, hl => by
    rw [doneM_cons, sumK_done hf (upd_nodup h k f) (fun q hq => by rw [keysM_upd]; exact hl q (by simp [hq])), sumK_upd hf h (hl k (by simp)), sumD, RawC.add_assoc]
theorem flK_done {P : KeyS → Bool} {d : Int} {f : NodeM → NodeM} (hf : ∀ n, (f n).flight = n.flight + d) : ∀ {l : List KeyS} {M : TreeM}, (keysM M).Nodup → (∀ k, k ∈ l → k ∈ keysM M) → flK P (doneM M l f) = flK P M + flD P d l
  | [], M, _, _ => by rw [flD]; show flK P M = _; omega
  | k :: l, M, h, hl => by
    rw [doneM_cons, flK_done hf (upd_nodup h k f) (fun q hq => by rw [keysM_upd]; exact hl q (by simp [hq])), flK_upd hf h (hl k (by simp)), flD]; omega

/-! ### a deed -/
structure TDeed where
  kind : Int
  c : CallS
  rt : Int
  failed : Bool
abbrev TreeS := TreeM × Int
def deedE (s : TreeS) (d : TDeed) : Int :=
  if d.kind = 0 then noteE s.1 s.2 d.c true else if d.kind = 1 then noteE s.1 s.2 d.c false else if d.kind = 2 then doneTE s.1 s.2 d.c d.rt else if d.kind = 3 then touchE s.1 d.c else 0
def deedT (s : TreeS) (d : TDeed) : TreeS :=
  if deedE s d = 0 then
    if d.kind = 0 then (noteM s.1 (keysL d.c) (passF d.c), d.c.at_) else if d.kind = 1 then (noteM s.1 (keysL d.c) (blockF d.c), d.c.at_)
    else if d.kind = 2 then (doneM s.1 (keysL d.c) (doneF d.c d.rt d.failed), d.c.at_) else if d.kind = 3 then (touchM s.1 (keysL d.c), s.2) else s
  else s
def runT (ds : List TDeed) : TreeS := ds.foldl deedT ([], 0)
def innerP (r : ByteArray) (k : KeyS) : Bool := decide (k.kind = 3) && decide (k.res = r)
def clusP (r : ByteArray) (k : KeyS) : Bool := decide (k.kind = 4) && decide (k.res = r)
def allP (k : KeyS) : Bool := decide (k.kind = 4)
def wholeP (k : KeyS) : Bool := decide (k.kind = 1)
theorem sumD_nil (P : KeyS → Bool) (D : RawC) : sumD P D [] = .zero := rfl
theorem sumD_keys (r : ByteArray) (D : RawC) (c : CallS) : sumD (innerP r) D (keysL c) = sumD (clusP r) D (keysL c) := by
  unfold keysL
  by_cases h : c.res = r
  · cases c.org.toList == [] <;> cases c.inb <;> simp [sumD, innerP, clusP, h, RawC.add_zero, RawC.zero_add]
  · cases c.org.toList == [] <;> cases c.inb <;> simp [sumD, innerP, clusP, h, RawC.add_zero, RawC.zero_add]
theorem flD_keys (r : ByteArray) (d : Int) (c : CallS) : flD (innerP r) d (keysL c) = flD (clusP r) d (keysL c) := by
  unfold keysL
  by_cases h : c.res = r
  · cases c.org.toList == [] <;> cases c.inb <;> simp [flD, innerP, clusP, h]
  · cases c.org.toList == [] <;> cases c.inb <;> simp [flD, innerP, clusP, h]
theorem sumD_whole (D : RawC) (c : CallS) (h : c.inb = true) : sumD wholeP D (keysL c) = sumD allP D (keysL c) := by
  unfold keysL
  rw [h]
  cases c.org.toList == [] <;> simp [sumD, wholeP, allP, RawC.add_zero, RawC.zero_add]
theorem flD_whole (d : Int) (c : CallS) (h : c.inb = true) : flD wholeP d (keysL c) = flD allP d (keysL c) := by
  unfold keysL
  rw [h]
  cases c.org.toList == [] <;> simp [flD, wholeP, allP]

/-- What holds of a tree behind calls. -/
structure TInv (s : TreeS) : Prop where
  nodup : (keysM s.1).Nodup
  keys : ∀ k, k ∈ keysM s.1 → ∃ c : CallS, k ∈ keysL c
  sums : ∀ r p, sumK (innerP r) p s.1 = sumK (clusP r) p s.1
  fls : ∀ r, flK (innerP r) s.1 = flK (clusP r) s.1
structure TInvO (s : TreeS) : Prop extends TInv s where
  sumsO : ∀ p, sumK wholeP p s.1 = sumK allP p s.1
  flsO : flK wholeP s.1 = flK allP s.1
  has : (∃ k, k ∈ keysM s.1 ∧ k.kind = 4) → (⟨1, noT, noT, noT⟩ : KeyS) ∈ keysM s.1
theorem sumW_snoc (p : NoteW → Bool) (l : List NoteW) (x : NoteW) : sumW p (l ++ [x]) = (sumW p l).add (if p x then rawOf x.c else .zero) := by rw [sumW_append, sumW, sumW, RawC.add_zero]
theorem passF_sum (p : NoteW → Bool) (c : CallS) (n : NodeM) : sumW p (passF c n).notes = (sumW p n.notes).add (sumW p (newW c.at_ [passC c.cnt])) := sumW_append _ _ _
theorem blockF_sum (p : NoteW → Bool) (c : CallS) (n : NodeM) : sumW p (blockF c n).notes = (sumW p n.notes).add (sumW p (newW c.at_ [blockC c.cnt])) := sumW_append _ _ _
theorem doneF_sum (p : NoteW → Bool) (c : CallS) (rt : Int) (failed : Bool) (n : NodeM) : sumW p (doneF c rt failed n).notes = (sumW p n.notes).add (sumW p (newW c.at_ [doneC rt failed])) := sumW_append _ _ _
theorem tinv_note {s : TreeS} (h : TInv s) (c : CallS) (at_ : Int) {f : NodeM → NodeM} {D : (NoteW → Bool) → RawC} {d : Int} (hf : ∀ p n, sumW p (f n).notes = (sumW p n.notes).add (D p)) (hd : ∀ n, (f n).flight = n.flight + d) : TInv (noteM s.1 (keysL c) f, at_) :=
  ⟨by show (keysM (noteM s.1 (keysL c) f)).Nodup; rw [keys_note]; exact touch_nodup h.nodup,
   fun k hk => by
    have hk : k ∈ keysM (noteM s.1 (keysL c) f) := hk
    rw [keys_note, mem_keys_touch] at hk
    rcases hk with hk | hk
    · exact h.keys k hk
    · exact ⟨c, hk⟩,
   fun r p => by show sumK _ _ (noteM s.1 (keysL c) f) = sumK _ _ (noteM s.1 (keysL c) f); rw [sumK_note (hf p) h.nodup, sumK_note (hf p) h.nodup, h.sums, sumD_keys],
   fun r => by show flK _ (noteM s.1 (keysL c) f) = flK _ (noteM s.1 (keysL c) f); rw [flK_note hd h.nodup, flK_note hd h.nodup, h.fls, flD_keys]⟩
theorem tinv_noteO {s : TreeS} (h : TInvO s) (c : CallS) (hc : c.inb = true) (at_ : Int) {f : NodeM → NodeM} {D : (NoteW → Bool) → RawC} {d : Int} (hf : ∀ p n, sumW p (f n).notes = (sumW p n.notes).add (D p)) (hd : ∀ n, (f n).flight = n.flight + d) : TInvO (noteM s.1 (keysL c) f, at_) :=
  ⟨tinv_note h.toTInv c at_ hf hd,
   fun p => by show sumK _ _ (noteM s.1 (keysL c) f) = sumK _ _ (noteM s.1 (keysL c) f); rw [sumK_note (hf p) h.nodup, sumK_note (hf p) h.nodup, h.sumsO, sumD_whole _ _ hc],
   by show flK _ (noteM s.1 (keysL c) f) = flK _ (noteM s.1 (keysL c) f); rw [flK_note hd h.nodup, flK_note hd h.nodup, h.flsO, flD_whole _ _ hc],
   fun _ => by
    show _ ∈ keysM (noteM s.1 (keysL c) f)
    rw [keys_note, mem_keys_touch]
    refine Or.inr ?_
    unfold keysL
    rw [hc]
    simp⟩
theorem tinv_touch {s : TreeS} (h : TInv s) (c : CallS) (at_ : Int) : TInv (touchM s.1 (keysL c), at_) :=
  ⟨touch_nodup h.nodup,
   fun k hk => by
    have hk : k ∈ keysM (touchM s.1 (keysL c)) := hk
    rw [mem_keys_touch] at hk
    rcases hk with hk | hk
    · exact h.keys k hk
    · exact ⟨c, hk⟩,
   fun r p => by show sumK _ _ (touchM s.1 (keysL c)) = sumK _ _ (touchM s.1 (keysL c)); rw [sumK_touch, sumK_touch, h.sums],
   fun r => by show flK _ (touchM s.1 (keysL c)) = flK _ (touchM s.1 (keysL c)); rw [flK_touch, flK_touch, h.fls]⟩
theorem tinv_touchO {s : TreeS} (h : TInvO s) (c : CallS) (hc : c.inb = true) (at_ : Int) : TInvO (touchM s.1 (keysL c), at_) :=
  ⟨tinv_touch h.toTInv c at_,
   fun p => by show sumK _ _ (touchM s.1 (keysL c)) = sumK _ _ (touchM s.1 (keysL c)); rw [sumK_touch, sumK_touch, h.sumsO],
   by show flK _ (touchM s.1 (keysL c)) = flK _ (touchM s.1 (keysL c)); rw [flK_touch, flK_touch, h.flsO],
   fun _ => by
    show _ ∈ keysM (touchM s.1 (keysL c))
    rw [mem_keys_touch]
    refine Or.inr ?_
    unfold keysL
    rw [hc]
    simp⟩
theorem tinv_done {s : TreeS} (h : TInv s) (c : CallS) (hc : ∀ k, k ∈ keysL c → k ∈ keysM s.1) (at_ : Int) {f : NodeM → NodeM} {D : (NoteW → Bool) → RawC} {d : Int} (hf : ∀ p n, sumW p (f n).notes = (sumW p n.notes).add (D p)) (hd : ∀ n, (f n).flight = n.flight + d) : TInv (doneM s.1 (keysL c) f, at_) :=
  ⟨by show (keysM (doneM s.1 (keysL c) f)).Nodup; rw [keys_done]; exact h.nodup,
   fun k hk => by
    have hk : k ∈ keysM (doneM s.1 (keysL c) f) := hk
    rw [keys_done] at hk
    exact h.keys k hk,
   fun r p => by show sumK _ _ (doneM s.1 (keysL c) f) = sumK _ _ (doneM s.1 (keysL c) f); rw [sumK_done (hf p) h.nodup hc, sumK_done (hf p) h.nodup hc, h.sums, sumD_keys],
   fun r => by show flK _ (doneM s.1 (keysL c) f) = flK _ (doneM s.1 (keysL c) f); rw [flK_done hd h.nodup hc, flK_done hd h.nodup hc, h.fls, flD_keys]⟩
theorem tinv_doneO {s : TreeS} (h : TInvO s) (c : CallS) (hi : c.inb = true) (hc : ∀ k, k ∈ keysL c → k ∈ keysM s.1) (at_ : Int) {f : NodeM → NodeM} {D : (NoteW → Bool) → RawC} {d : Int} (hf : ∀ p n, sumW p (f n).notes = (sumW p n.notes).add (D p)) (hd : ∀ n, (f n).flight = n.flight + d) : TInvO (doneM s.1 (keysL c) f, at_) :=
  ⟨tinv_done h.toTInv c hc at_ hf hd,
   fun p => by show sumK _ _ (doneM s.1 (keysL c) f) = sumK _ _ (doneM s.1 (keysL c) f); rw [sumK_done (hf p) h.nodup hc, sumK_done (hf p) h.nodup hc, h.sumsO, sumD_whole _ _ hi],
   by show flK _ (doneM s.1 (keysL c) f) = flK _ (doneM s.1 (keysL c) f); rw [flK_done hd h.nodup hc, flK_done hd h.nodup hc, h.flsO, flD_whole _ _ hi],
   fun hk => by
    show _ ∈ keysM (doneM s.1 (keysL c) f)
    have hk : ∃ k, k ∈ keysM (doneM s.1 (keysL c) f) ∧ k.kind = 4 := hk
    rw [keys_done] at hk ⊢
    exact h.has hk⟩
theorem flightM_pos {M : TreeM} {k : KeyS} (h : flightM M k ≠ 0) : k ∈ keysM M := by
  apply Classical.byContradiction
  intro hm
  unfold flightM at h
  rw [getM_none.2 hm] at h
  exact h rfl
theorem doneTE_keys {M : TreeM} {last : Int} {c : CallS} {rt : Int} (h : doneTE M last c rt = 0) : ∀ k, k ∈ keysL c → flightM M k ≠ 0 := by
  unfold doneTE at h
  split at h
  · simp at h
  split at h
  · simp at h
  split at h
  · simp at h
  split at h
  · simp at h
  rename_i h4
  intro k hk e
  exact h4 (List.any_eq_true.2 ⟨k, hk, by simp [e]⟩)
theorem tinv_deed {s : TreeS} (h : TInv s) (d : TDeed) : TInv (deedT s d) := by
  unfold deedT
  split
  · rename_i hE
    split
    · exact tinv_note h d.c _ (fun p n => passF_sum p d.c n) (d := 1) (fun n => rfl)
    split
    · exact tinv_note h d.c _ (fun p n => blockF_sum p d.c n) (d := 0) (fun n => by show n.flight = _; omega)
    split
    · rename_i h0 h1 h2
      unfold deedE at hE
      rw [if_neg h0, if_neg h1, if_pos h2] at hE
      exact tinv_done h d.c (fun k hk => flightM_pos (doneTE_keys hE k hk)) _ (fun p n => doneF_sum p d.c d.rt d.failed n) (d := -1) (fun n => by show n.flight - 1 = _; omega)
    split
    · exact tinv_touch h d.c _
    · exact h
  · exact h
theorem tinv_deedO {s : TreeS} (h : TInvO s) (d : TDeed) (hi : d.c.inb = true) : TInvO (deedT s d) := by
  unfold deedT
  split
  · rename_i hE
    split
    · exact tinv_noteO h d.c hi _ (fun p n => passF_sum p d.c n) (d := 1) (fun n => rfl)
    split
    · exact tinv_noteO h d.c hi _ (fun p n => blockF_sum p d.c n) (d := 0) (fun n => by show n.flight = _; omega)
    split
    · rename_i h0 h1 h2
      unfold deedE at hE
      rw [if_neg h0, if_neg h1, if_pos h2] at hE
      exact tinv_doneO h d.c hi (fun k hk => flightM_pos (doneTE_keys hE k hk)) _ (fun p n => doneF_sum p d.c d.rt d.failed n) (d := -1) (fun n => by show n.flight - 1 = _; omega)
    split
    · exact tinv_touchO h d.c hi _
    · exact h
  · exact h
theorem tinv_empty : TInvO ([], 0) := ⟨⟨List.nodup_nil, fun k h => by simp [keysM] at h, fun _ _ => rfl, fun _ => rfl⟩, fun _ => rfl, rfl, fun ⟨k, h, _⟩ => by simp [keysM] at h⟩
theorem foldl_snocT (ds : List TDeed) (d : TDeed) (s : TreeS) : (ds ++ [d]).foldl deedT s = deedT (ds.foldl deedT s) d := by rw [List.foldl_append]; rfl
theorem tinv_run (ds : List TDeed) : TInv (runT ds) := by
  unfold runT
  have : ∀ (ds : List TDeed) (s : TreeS), TInv s → TInv (ds.foldl deedT s) := by
    intro ds
    induction ds with
    | nil => intro s h; exact h
    | cons d ds ih => intro s h; exact ih _ (tinv_deed h d)
  exact this ds _ tinv_empty.toTInv
theorem tinv_runO (ds : List TDeed) (hi : ∀ d, d ∈ ds → d.c.inb = true) : TInvO (runT ds) := by
  unfold runT
  have : ∀ (ds : List TDeed) (s : TreeS), (∀ d, d ∈ ds → d.c.inb = true) → TInvO s → TInvO (ds.foldl deedT s) := by
    intro ds
    induction ds with
    | nil => intro s _ h; exact h
    | cons d ds ih => intro s hi h; exact ih _ (fun x hx => hi x (by simp [hx])) (tinv_deedO h d (hi d (by simp)))
  exact this ds _ hi tinv_empty

/-! ### what a sum over keys tells -/
/-- The nodes of keys. -/
def nodesOf (M : TreeM) (l : List KeyS) : List NodeM := l.filterMap (getM M)
def sumsOf (p : NoteW → Bool) : List NodeM → RawC
  | [] => .zero
  | n :: l => (sumW p n.notes).add (sumsOf p l)
def flsOf : List NodeM → Int
  | [] => 0
  | n :: l => n.flight + flsOf l
theorem sum_filter {P : KeyS → Bool} {p : NoteW → Bool} : ∀ {M A : TreeM}, (∀ x, x ∈ A → getM M x.1 = some x.2) → sumsOf p (nodesOf M ((keysM A).filter P)) = sumK P p A
  | M, [], _ => rfl
  | M, x :: A, h => by
    have ih := sum_filter (P := P) (p := p) (M := M) (A := A) (fun y hy => h y (by simp [hy]))
    show sumsOf p (nodesOf M ((x.1 :: keysM A).filter P)) = _
    rw [sumK, List.filter_cons]
    cases hP : P x.1 with
    | true =>
      rw [if_pos rfl, if_pos rfl]
      unfold nodesOf
      rw [List.filterMap_cons, h x (by simp)]
      show (sumW p x.2.notes).add _ = _
      rw [← ih]; rfl
    | false => rw [if_neg (by simp), if_neg (by simp), RawC.zero_add, ih]
theorem fl_filter {P : KeyS → Bool} : ∀ {M A : TreeM}, (∀ x, x ∈ A → getM M x.1 = some x.2) → flsOf (nodesOf M ((keysM A).filter P)) = flK P A
  | M, [], _ => rfl
  | M, x :: A, h => by
    have ih := fl_filter (P := P) (M := M) (A := A) (fun y hy => h y (by simp [hy]))
    show flsOf (nodesOf M ((x.1 :: keysM A).filter P)) = _
    rw [flK, List.filter_cons]
    cases hP : P x.1 with
    | true =>
      rw [if_pos rfl, if_pos rfl]
      unfold nodesOf
      rw [List.filterMap_cons, h x (by simp)]
      show x.2.flight + _ = _
      rw [← ih]; rfl
    | false => rw [if_neg (by simp), if_neg (by simp), ih]; omega
theorem sum_keys {M : TreeM} (hn : (keysM M).Nodup) (P : KeyS → Bool) (p : NoteW → Bool) : sumsOf p (nodesOf M ((keysM M).filter P)) = sumK P p M := sum_filter (fun x hx => getM_some hn hx)
theorem fl_keys {M : TreeM} (hn : (keysM M).Nodup) (P : KeyS → Bool) : flsOf (nodesOf M ((keysM M).filter P)) = flK P M := fl_filter (fun x hx => getM_some hn hx)
/-- A list with one that P takes: itself. -/
theorem filter_one {P : KeyS → Bool} {k : KeyS} (hP : P k = true) : ∀ {l : List KeyS}, l.Nodup → k ∈ l → (∀ q, q ∈ l → P q = true → q = k) → l.filter P = [k]
  | [], _, h, _ => by simp at h
  | x :: l, hn, h, hq => by
    obtain ⟨h1, h2⟩ := List.nodup_cons.1 hn
    rw [List.filter_cons]
    by_cases e : x = k
    · subst e
      rw [if_pos hP]
      have : l.filter P = [] := List.filter_eq_nil_iff.2 (fun q hq2 hp => h1 (by rw [← hq q (by simp [hq2]) hp]; exact hq2))
      rw [this]
    · rw [if_neg (fun hp => e (hq x (by simp) hp))]
      rcases List.mem_cons.1 h with h3 | h3
      · exact absurd h3.symm e
      · exact filter_one hP h2 h3 (fun q hq2 => hq q (by simp [hq2]))
theorem clus_form {c : CallS} {k : KeyS} (h : k ∈ keysL c) (h4 : k.kind = 4) : k = ⟨4, noT, k.res, noT⟩ := by
  unfold keysL at h
  rcases List.mem_cons.1 h with rfl | h
  · simp at h4
  rcases List.mem_cons.1 h with rfl | h
  · rfl
  rcases List.mem_append.1 h with h | h
  · split at h
    · simp at h
    · obtain rfl := List.mem_singleton.1 h; simp at h4
  rcases List.mem_cons.1 h with rfl | h
  · simp at h4
  split at h
  · obtain rfl := List.mem_singleton.1 h; simp at h4
  · simp at h
theorem whole_form {c : CallS} {k : KeyS} (h : k ∈ keysL c) (h4 : k.kind = 1) : k = ⟨1, noT, noT, noT⟩ := by
  unfold keysL at h
  rcases List.mem_cons.1 h with rfl | h
  · simp at h4
  rcases List.mem_cons.1 h with rfl | h
  · simp at h4
  rcases List.mem_append.1 h with h | h
  · split at h
    · simp at h
    · obtain rfl := List.mem_singleton.1 h; simp at h4
  rcases List.mem_cons.1 h with rfl | h
  · simp at h4
  split at h
  · obtain rfl := List.mem_singleton.1 h; rfl
  · simp at h
/-- P10.4: a resource's own node, and all its nodes in contexts. -/
theorem clus_sums {s : TreeS} (h : TInv s) {k : KeyS} (hk : k ∈ keysM s.1) (h4 : k.kind = 4) (p : NoteW → Bool) : sumsOf p (nodesOf s.1 [k]) = sumsOf p (nodesOf s.1 ((keysM s.1).filter (innerP k.res))) := by
  have e := sum_keys h.nodup (clusP k.res) p
  rw [filter_one (P := clusP k.res) (k := k) (by simp [clusP, h4]) h.nodup hk (fun q hq hp => by
    simp only [clusP, Bool.and_eq_true, decide_eq_true_eq] at hp
    obtain ⟨c1, g1⟩ := h.keys q hq
    obtain ⟨c2, g2⟩ := h.keys k hk
    rw [clus_form g1 hp.1, clus_form g2 h4, hp.2])] at e
  rw [e, sum_keys h.nodup, h.sums]
theorem clus_fls {s : TreeS} (h : TInv s) {k : KeyS} (hk : k ∈ keysM s.1) (h4 : k.kind = 4) : flsOf (nodesOf s.1 [k]) = flsOf (nodesOf s.1 ((keysM s.1).filter (innerP k.res))) := by
  have e := fl_keys h.nodup (clusP k.res)
  rw [filter_one (P := clusP k.res) (k := k) (by simp [clusP, h4]) h.nodup hk (fun q hq hp => by
    simp only [clusP, Bool.and_eq_true, decide_eq_true_eq] at hp
    obtain ⟨c1, g1⟩ := h.keys q hq
    obtain ⟨c2, g2⟩ := h.keys k hk
    rw [clus_form g1 hp.1, clus_form g2 h4, hp.2])] at e
  rw [e, fl_keys h.nodup, h.fls]
theorem whole_sums {s : TreeS} (h : TInvO s) (hk : (⟨1, noT, noT, noT⟩ : KeyS) ∈ keysM s.1) (p : NoteW → Bool) : sumsOf p (nodesOf s.1 [⟨1, noT, noT, noT⟩]) = sumsOf p (nodesOf s.1 ((keysM s.1).filter allP)) := by
  have e := sum_keys h.nodup wholeP p
  rw [filter_one (P := wholeP) (k := ⟨1, noT, noT, noT⟩) rfl h.nodup hk (fun q hq hp => by
    simp only [wholeP, decide_eq_true_eq] at hp
    obtain ⟨c1, g1⟩ := h.keys q hq
    rw [whole_form g1 hp])] at e
  rw [e, sum_keys h.nodup, h.sumsO]
theorem whole_fls {s : TreeS} (h : TInvO s) (hk : (⟨1, noT, noT, noT⟩ : KeyS) ∈ keysM s.1) : flsOf (nodesOf s.1 [⟨1, noT, noT, noT⟩]) = flsOf (nodesOf s.1 ((keysM s.1).filter allP)) := by
  have e := fl_keys h.nodup wholeP
  rw [filter_one (P := wholeP) (k := ⟨1, noT, noT, noT⟩) rfl h.nodup hk (fun q hq hp => by
    simp only [wholeP, decide_eq_true_eq] at hp
    obtain ⟨c1, g1⟩ := h.keys q hq
    rw [whole_form g1 hp])] at e
  rw [e, fl_keys h.nodup, h.flsO]
/-- The sum that is told of nodes. -/
theorem joinC_win {b B at_ : Int} : ∀ {l : List NodeM} {A : RawC}, RawOk A → (∀ n, n ∈ l → RightL n.notes) → joinC (imgC A) (l.map (fun n => winC b B at_ n.notes)) = imgC (A.add (sumsOf (fun x => decide (at_ / b - B < x.at_ / b)) l))
  | [], A, _, _ => by simp [joinC, sumsOf, RawC.add_zero]
  | n :: l, A, hA, h => by
    have hn := sumW_ok (p := fun x => decide (at_ / b - B < x.at_ / b)) (h n (by simp))
    show joinC (twoC (imgC A) (winC b B at_ n.notes)) _ = _
    unfold winC
    rw [twoC_img hA hn]
    have ih := joinC_win (b := b) (B := B) (at_ := at_) (l := l) (A := A.add (sumW (fun x => decide (at_ / b - B < x.at_ / b)) n.notes)) (hA.add hn) (fun x hx => h x (by simp [hx]))
    unfold winC at ih
    rw [ih, sumsOf, RawC.add_assoc]
/-- What Sum tells of nodes. -/
def sumN (at_ : Int) (l : List NodeM) : CntS := imgC (sumsOf (fun x => decide (at_ / 100000 - 10 < x.at_ / 100000)) l)
end Go.Proofs.Ytpbbidijnmooaaa
