/- Texts of one chain, one behind the other: R3E, R3F, R3G, R3H, R3I, R14H, R14I, R14J. -/
import Derived.Test.YtlipbkpbflgamaaGRowsOf
import Derived.Test.YtlipbkpbflgamaaGWinD
import Derived.Test.YtlipbkpbflgamaaGBrD

/- The reference's window: rows of buckets of the call's own. -/
namespace Go.Proofs.Ytlipbkpbflgamaa
open Go.RowKit
set_option linter.unusedVariables false
set_option linter.unusedSimpArgs false

theorem InvL.mono {b last at_ : Int} {notes : List NoteW} {L : List Bk3} (h : InvL b last notes L) (hl : last ≤ at_) : InvL b at_ notes L :=
  ⟨h.sum, h.ok, fun k hk => ⟨(h.mul k hk).1, (h.mul k hk).2.1, by have := (h.mul k hk).2.2; omega⟩, h.len⟩
/-- A time is stamped. -/
theorem R3At.stamp {w : World} {p : Nat} {b last : Int} {v : Value} {notes : List NoteW} {L : List Bk3} (h : R3At w p b last v notes L) {at_ : Int} (hl : last ≤ at_) (a0 : 0 ≤ at_) (a1 : at_ ≤ 1152921504606846976) : R3At (w.setCell ⟨p, 2, none⟩ (.int .i64 at_)) p b at_ v notes L := by
  refine ⟨?_, rowKept3 h.row (fun g e => heap_setCell_other w ⟨p, 2, none⟩ g _ (fun e2 => ?_)), h.inv.mono hl, h.b0, h.b1, a0, a1, h.ne, h.pos⟩
  · rw [heap_setCell_same w p 2 _ _ _ h.head]; rfl
  · have e2 : g = p := e2
    exact h.ne (by rw [← e2]; exact e)
theorem r3_frozen {w : World} {p : Nat} {b last : Int} {v : Value} {notes : List NoteW} {L : List Bk3} (h : R3At w p b last v notes L) (k : Nat) : w.frozen? ⟨p, k, none⟩ = false := frozen_of_row w p k _ _ h.head
theorem info_bk3 : (Try.prog.info? 108).map (fun i => (i.zero, i.size, i.bytes)) = some (some (.agg #[.int .i64 0, .int .i64 0, .int .i64 0, .int .i64 0, .int .i64 0, .int .i64 0, .int .i64 0]), 7, 56) := by kernel_rfl
theorem info_parts3 {i : Option TypeInfo} {z : Value} {s b : Nat} (h : i.map (fun i => (i.zero, i.size, i.bytes)) = some (some z, s, b)) : ∃ i0, i = some i0 ∧ i0.zero = some z ∧ i0.size = s ∧ i0.bytes = b := by
  cases i with
  | none => cases h
  | some i0 =>
    simp only [Option.map_some, Option.some.injEq, Prod.mk.injEq] at h
    exact ⟨i0, rfl, h.1, h.2.1, h.2.2⟩
theorem cs_one3 (k : Bk3) : ∀ u ∈ k.cs, u.oneCell' = true := by
  intro u hu
  simp only [Bk3.cs, List.mem_cons, List.not_mem_nil, or_false] at hu
  rcases hu with rfl | rfl | rfl | rfl | rfl | rfl | rfl <;> rfl
theorem flat3_one (L : List Bk3) : ∀ u ∈ flat3 L, u.oneCell' = true := by
  intro u hu
  obtain ⟨l, hl, hu⟩ := List.mem_flatten.1 hu
  obtain ⟨k, _, rfl⟩ := List.mem_map.1 hl
  exact cs_one3 k u hu
/-- Where an own row lies. -/
theorem row3_at {w : World} {base n : Nat} {v : Value} {L : List Bk3} (h : w.ownsRow base 108 7 v n (flat3 L)) (hn : L.length = n) (hne : L ≠ []) : ∃ g cap, v = .slice (some ⟨g, 0, none⟩) n cap ∧ n ≤ cap ∧ cap ≤ maxLen ∧ base ≤ g ∧ g < w.heap.size ∧ (∀ j k, L[j]? = some k → ∀ i, i < 7 → w.cell? ⟨g, j * 7 + i, none⟩ = k.cs[i]?) ∧ (∀ j, w.frozen? ⟨g, j, none⟩ = false) := by
  rcases h.2 with ⟨_, hz⟩ | ⟨g, cap, cur, hv, hb, hg, hc1, hc2, _⟩
  · exact absurd (List.length_eq_zero_iff.1 (hn.trans hz)) hne
  · subst hv
    refine ⟨g, cap, rfl, hc1, hc2, hb, (Array.getElem?_eq_some_iff.1 hg).1, fun j k hj i hi => ?_, fun j => frozen_of_row w g j _ _ hg⟩
    have hjl := (List.getElem?_eq_some_iff.1 hj).1
    rw [h.cellAt (j * 7 + i) (by omega), flat3_get hj i hi]
/-- 'append(nil, l...)': a copy of the call's own. -/
theorem run_copy3 {w : World} {v : Value} {L : List Bk3} (hown : w.ownsRow 0 108 7 v L.length (flat3 L)) (hL : L.length ≤ 1152921504608) (ty : TypeId) :
    ∃ v' w', (Builtin.append_ #[87, 87] ty #[.slice none 0 0, v]).run Try.prog w = .ok v' w' ∧ w'.ownsRow w.heap.size 108 7 v' L.length (flat3 L) ∧ Below w.heap.size w w' := by
  obtain ⟨i0, hi, hz0, hz1, hz2⟩ := info_parts3 info_bk3
  have hnil : w.ownsRow w.heap.size 108 7 (.slice none 0 0) 0 [] := World.ownsRow_nil _ _ _ _
  by_cases hne : L = []
  · subst hne
    have hv : v = .slice none 0 0 ∨ ∃ g cap, v = .slice (some ⟨g, 0, none⟩) 0 cap := by
      rcases hown.2 with ⟨hv, _⟩ | ⟨g, cap, cur, hv, _⟩
      · exact Or.inl hv
      · exact Or.inr ⟨g, cap, hv⟩
    rcases hv with rfl | ⟨g, cap, rfl⟩
    · exact ⟨_, w, run_append_owned_none (P := Try.prog) (w := w) (size := 7) w.heap.size 87 ty 108 i0 Try.underlying87 hi _ 0 [] hnil, hnil, Below.refl _ _⟩
    · obtain ⟨v', w', hr, h2, h3, h4⟩ := run_append_own (P := Try.prog) w w.heap.size 87 ty 108 i0 _ 7 56 Try.underlying87 hi hz0 hz1 hz2 rfl (by decide) _ 0 [] hnil ⟨g, 0, none⟩ 0 cap [] rfl (by intro j u h; simp at h) (by simp) (by unfold maxLen; omega) (by omega) (Nat.le_refl _)
      exact ⟨v', w', hr, h2, (Below.refl _ _).grown h3 (Nat.le_refl _) (fun k e => by cases e)⟩
  · obtain ⟨g, cap, rfl, c1, c2, _, hg, hcell, _⟩ := row3_at hown rfl hne
    obtain ⟨v', w', hr, h2, h3, h4⟩ := run_append_own (P := Try.prog) w w.heap.size 87 ty 108 i0 _ 7 56 Try.underlying87 hi hz0 hz1 hz2 rfl (by decide) _ 0 [] hnil ⟨g, 0, none⟩ L.length cap (flat3 L) (flat3_len L) (fun j u h => by
      rw [Go.WideShapes.add_plain, Nat.zero_add, hown.cellAt j (by have := (List.getElem?_eq_some_iff.1 h).1; rw [flat3_len] at this; omega)]
      exact h) (flat3_one L) (by unfold maxLen; omega) (by omega) (Nat.le_refl _)
    rw [Nat.zero_add, List.nil_append] at h2
    exact ⟨v', w', hr, h2, (Below.refl _ _).grown h3 (Nat.le_refl _) (fun k e => by cases e)⟩
theorem run_copy3_nil {w : World} {v : Value} (hown : w.ownsRow 0 108 7 v 0 []) (ty : TypeId) :
    ∃ w', (Builtin.append_ #[87, 87] ty #[.slice none 0 0, v]).run Try.prog w = .ok (.slice none 0 0) w' ∧ Below w.heap.size w w' := by
  obtain ⟨i0, hi, hz0, hz1, hz2⟩ := info_parts3 info_bk3
  have hnil : w.ownsRow w.heap.size 108 7 (.slice none 0 0) 0 [] := World.ownsRow_nil _ _ _ _
  rcases hown.2 with ⟨rfl, _⟩ | ⟨g, cap, cur, rfl, _⟩
  · exact ⟨w, run_append_owned_none (P := Try.prog) (w := w) (size := 7) w.heap.size 87 ty 108 i0 Try.underlying87 hi _ 0 [] hnil, Below.refl _ _⟩
  · obtain ⟨v', w', hr, h2, h3, h4⟩ := run_append_own (P := Try.prog) w w.heap.size 87 ty 108 i0 _ 7 56 Try.underlying87 hi hz0 hz1 hz2 rfl (by decide) _ 0 [] hnil ⟨g, 0, none⟩ 0 cap [] rfl (by intro j u h; simp at h) (by simp) (by unfold maxLen; omega) (by omega) (Nat.le_refl _)
    have e := h4.2 ⟨rfl, rfl⟩
    subst e
    exact ⟨w', hr, (Below.refl _ _).grown h3 (Nat.le_refl _) (fun k e => by cases e)⟩
theorem run_copy3_cons {w : World} {v : Value} {L : List Bk3} (hown : w.ownsRow 0 108 7 v L.length (flat3 L)) (hL : L.length ≤ 1152921504608) {K : Nat} (hK : L.length = K + 1) (ty : TypeId) :
    ∃ g cap w', (Builtin.append_ #[87, 87] ty #[.slice none 0 0, v]).run Try.prog w = .ok (.slice (some ⟨g, 0, none⟩) (K + 1) cap) w' ∧ w'.ownsRow w.heap.size 108 7 (.slice (some ⟨g, 0, none⟩) (K + 1) cap) (K + 1) (flat3 L) ∧ Below w.heap.size w w' ∧ w.heap.size ≤ g ∧ g < w'.heap.size ∧ K + 1 ≤ cap ∧ cap ≤ maxLen ∧ (∀ j k, L[j]? = some k → ∀ i, i < 7 → w'.cell? ⟨g, j * 7 + i, none⟩ = k.cs[i]?) ∧ (∀ j, w'.frozen? ⟨g, j, none⟩ = false) := by
  obtain ⟨v', w', hr, h2, h3⟩ := run_copy3 hown hL ty
  obtain ⟨g, cap, rfl, c1, c2, c3, c4, c5, c6⟩ := row3_at h2 rfl (by intro e; rw [e] at hK; simp at hK)
  rw [hK] at hr h2 c1
  exact ⟨g, cap, w', hr, h2, h3, c3, c4, c1, c2, c5, c6⟩
theorem cs_new {B : Int} {c : CntS} (hc : RightC c) : (⟨B, rawOf c⟩ : Bk3).cs = [.int .i64 B, .int .i64 c.p, .int .i64 c.b, .int .i64 c.d, .int .i64 c.e, .int .i64 c.r, .int .i64 c.m] := by
  unfold Bk3.cs
  rw [imgC_raw hc]
/-- One more bucket behind an own row. -/
theorem run_append3 {base : Nat} {w wr : World} {v : Value} {j : Nat} {L : List Bk3} (hown : wr.ownsRow base 108 7 v j (flat3 L)) (hB : base ≤ w.heap.size) (hb : Below base w wr) (hj : j ≤ 1152921504608) (hL : L.length = j) (k : Bk3) (ty : TypeId) :
    ∃ g cap w', (Builtin.append_ #[87, 87] ty #[v, .slice (some ⟨wr.heap.size, 0, none⟩) 1 1]).run Try.prog (wr.alloc (.cells k.cs.toArray 108)) = .ok (.slice (some ⟨g, 0, none⟩) (j + 1) cap) w' ∧ w'.ownsRow base 108 7 (.slice (some ⟨g, 0, none⟩) (j + 1) cap) (j + 1) (flat3 (L ++ [k])) ∧ Below base w w' ∧ j + 1 ≤ cap ∧ cap ≤ maxLen := by
  obtain ⟨i0, hi, hz0, hz1, hz2⟩ := info_parts3 info_bk3
  obtain ⟨v', w', hr, h2, h3, h4⟩ := run_append_own (P := Try.prog) (wr.alloc (.cells k.cs.toArray 108)) base 87 ty 108 i0 _ 7 56 Try.underlying87 hi hz0 hz1 hz2 rfl (by decide) v j (flat3 L) (hown.alloc _) ⟨wr.heap.size, 0, none⟩ 1 1 k.cs rfl (by
    intro j u hu
    have hn := new_blockS wr (.cells k.cs.toArray 108)
    rw [WideShapes.add_plain, Nat.zero_add]
    simp only [World.cell?, hn]
    simpa using hu) (cs_one3 k) (by unfold maxLen; omega) (by omega) (by have := hb.size; simp; omega)
  have hwr := hb.size
  rw [← flat3_snoc] at h2
  obtain ⟨g, cap, rfl, c1, c2, _⟩ := row3_at h2 (by rw [List.length_append, hL]; rfl) (by simp)
  refine ⟨g, cap, w', hr, h2, (hb.alloc (by omega) _).grown h3 (by simp; omega) (fun k e => ?_), c1, c2⟩
  exact (hown.lt k e).1
end Go.Proofs.Ytlipbkpbflgamaa

/- The reference's window: Add of one count. -/
namespace Go.Proofs.Ytlipbkpbflgamaa
open Go.RowKit
set_option linter.unusedVariables false
set_option linter.unusedSimpArgs false

/-- What Add leaves. -/
structure R3Add (w : World) (p : Nat) (b at_ : Int) (v : Value) (notes : List NoteW) (L : List Bk3) (c : CntS) (e : Ending) (w' : World) : Prop where
  e : e = .returned (.int .i64 0)
  ex : ∃ v', R3At w' p b at_ v' (notes ++ [⟨at_, c⟩]) (addL b at_ c L) ∧ Off (R3Own p v) w w' ∧ (∀ i, R3Own p v' i → R3Own p v i ∨ w.heap.size ≤ i)
/-- The end of Add: the new list is stored. -/
theorem r3add_end {w w1 w2 : World} {p : Nat} {b last at_ : Int} {v v' : Value} {notes : List NoteW} {L : List Bk3} {c : CntS} (h : R3At w p b last v notes L) (hl : last ≤ at_) (a0 : 0 ≤ at_) (a1 : at_ ≤ 1152921504606846976) (hc : RightC c) (hd : 1 ≤ c.d)
    (h1 : R3At w1 p b at_ v notes L) (hO : Off (R3Own p v) w w1) (hown : w2.ownsRow w1.heap.size 108 7 v' (addL b at_ c L).length (flat3 (addL b at_ c L))) (hB : Below w1.heap.size w1 w2) :
    R3Add w p b at_ v notes L c (.returned (.int .i64 0)) (w2.setCell ⟨p, 3, none⟩ v') := by
  have hp1 : p < w1.heap.size := h1.lt (Or.inl rfl)
  have hne : v'.ownBlock ≠ some p := fun e => by have := (hown.lt p e).1; omega
  refine ⟨rfl, v', ⟨?_, ?_, h.inv.add (by have := h.b0; omega) hl a0 hc hd, h.b0, h.b1, a0, a1, hne, ?_⟩, ?_, ?_⟩
  · rw [heap_setCell_same w2 p 3 _ _ _ ((hB.block p hp1).trans h1.head)]; rfl
  · have := rowKept3 (w' := w2.setCell ⟨p, 3, none⟩ v') hown (fun g e => heap_setCell_other w2 ⟨p, 3, none⟩ g _ (fun e2 => hne (by
      have e2 : g = p := e2
      rw [← e2]; exact e)))
    exact ⟨this.1, by
      rcases this.2 with hn | ⟨g, cap, cur, hv, hb, hg, r⟩
      · exact Or.inl hn
      · exact Or.inr ⟨g, cap, cur, hv, Nat.zero_le _, hg, r⟩⟩
  · intro x hx
    rcases List.mem_append.1 hx with hx | hx
    · exact h.pos x hx
    · obtain rfl := List.mem_singleton.1 hx; exact a0
  · exact (hO.trans (Off.ofBelow (S := R3Own p v) hB) (fun _ _ h => h)).setCell (p := ⟨p, 3, none⟩) (fun _ => Or.inl rfl) v'
  · intro i hi
    rcases hi with rfl | hi
    · exact Or.inl (Or.inl rfl)
    · exact Or.inr (by have := (hown.lt i hi).1; have := hO.size; omega)
theorem addL_same {b at_ : Int} {c : CntS} {L : List Bk3} {x : Bk3} (hL : L.getLast? = some x) (he : x.at_ = begB b at_) : addL b at_ c L = L.set (L.length - 1) ⟨x.at_, x.r.add (rawOf c)⟩ := by
  obtain ⟨L0, rfl⟩ := List.getLast?_eq_some_iff.1 hL
  unfold addL
  rw [hL]
  dsimp only
  rw [if_pos he, List.dropLast_concat, List.length_append, List.length_singleton, Nat.add_sub_cancel, List.set_append_right _ _ (Nat.le_refl _), Nat.sub_self]
  rfl
theorem addL_new {b at_ : Int} {c : CntS} {L : List Bk3} (he : ∀ x, L.getLast? = some x → x.at_ ≠ begB b at_) : addL b at_ c L = L ++ [⟨begB b at_, rawOf c⟩] := by
  unfold addL
  cases hL : L.getLast? with
  | none => rw [List.getLast?_eq_none_iff.1 hL]; rfl
  | some x => exact if_neg (he x hL)
theorem set_same3 {α : Type} {l : List α} {i : Nat} {v : α} (h : l[i]? = some v) : l.set i v = l := by
  obtain ⟨hi, rfl⟩ := List.getElem?_eq_some_iff.1 h
  exact List.set_getElem_self hi
/-- Two of the last bucket's counts are laid in place. -/
theorem two_put {w : World} {base g cap : Nat} {L : List Bk3} {x : Bk3} {c : CntS} {at_ b : Int} (hL : L.getLast? = some x) (he : x.at_ = begB b at_) (hx : RawOk x.r) (hc : RightC c) (h : w.ownsRow base 108 7 (.slice (some ⟨g, 0, none⟩) L.length cap) L.length (flat3 L)) {T : CntS} (hT : T = twoC (imgC x.r) c) :
    (w.setCells g ((L.length - 1) * 7 + 1) [.int .i64 T.p, .int .i64 T.b, .int .i64 T.d, .int .i64 T.e, .int .i64 T.r, .int .i64 T.m]).ownsRow base 108 7 (.slice (some ⟨g, 0, none⟩) L.length cap) (addL b at_ c L).length (flat3 (addL b at_ c L)) := by
  have hne : L ≠ [] := by intro e; rw [e] at hL; cases hL
  have hpos : 0 < L.length := List.length_pos_iff.2 hne
  have e1 : T = imgC (x.r.add (rawOf c)) := by
    have := twoC_img hx (rawOk_of hc)
    rw [imgC_raw hc] at this
    exact hT.trans this
  have hx1 : L[L.length - 1]? = some x := by rw [← hL, List.getLast?_eq_getElem?]
  rw [addL_same hL he, List.length_set]
  have e3 : flat3 (L.set (L.length - 1) ⟨x.at_, x.r.add (rawOf c)⟩) = putAll (flat3 L) ((L.length - 1) * 7) (⟨x.at_, x.r.add (rawOf c)⟩ : Bk3).cs := by
    unfold flat3
    rw [List.map_set]
    exact flatten_set (cs_len7 L) (by rw [List.length_map]; omega) rfl
  have e4 : putAll (flat3 L) ((L.length - 1) * 7) (⟨x.at_, x.r.add (rawOf c)⟩ : Bk3).cs = putAll (flat3 L) ((L.length - 1) * 7 + 1) [.int .i64 T.p, .int .i64 T.b, .int .i64 T.d, .int .i64 T.e, .int .i64 T.r, .int .i64 T.m] := by
    rw [e1]
    show putAll (flat3 L) _ (.int .i64 x.at_ :: _) = _
    rw [putAll, set_same3]
    have := flat3_get hx1 0 (by decide)
    exact this
  rw [e3, e4]
  exact (ownsRow_put _ _ w _ h).1
end Go.Proofs.Ytlipbkpbflgamaa

/- The reference's window: Add of one count, the walk. -/
namespace Go.Proofs.Ytlipbkpbflgamaa
open Go.RowKit
set_option linter.unusedVariables false
set_option linter.unusedSimpArgs false

set_option maxHeartbeats 6400000 in
set_option maxRecDepth 100000 in
theorem r3add_any {w : World} {p : Nat} {b last : Int} {v : Value} {notes : List NoteW} {L : List Bk3} (h : R3At w p b last v notes L) (at_ : Int) (hE : lookW last at_ = 0) (c : CntS) (hc : RightC c) (hd : 1 ≤ c.d) (cb co cap : Nat) (hcb : cb ≠ p) (hct : CtsAt w (some ⟨cb, co, none⟩) [c]) :
    Calls Try.prog 47 #[.pointer (some ⟨p, 0, none⟩), .int .i64 at_, .slice (some ⟨cb, co, none⟩) 1 cap] w (R3Add w p b at_ v notes L c) := by
  have HLK := Lib.hid (r3look_any h at_)
  rw [hE] at HLK
  obtain ⟨a0, a1, a2⟩ := lookW_ok hE
  have HH := Lib.hid h
  have HC := Lib.hid hct
  have HR := Lib.hid hc
  have HD := Lib.hid hd
  obtain ⟨hbl, hcc⟩ : cb < w.heap.size ∧ (w.cell? ⟨cb, co, none⟩ = some (.int .i64 c.p) ∧ w.cell? ⟨cb, co + 1, none⟩ = some (.int .i64 c.b) ∧ w.cell? ⟨cb, co + 2, none⟩ = some (.int .i64 c.d) ∧
      w.cell? ⟨cb, co + 3, none⟩ = some (.int .i64 c.e) ∧ w.cell? ⟨cb, co + 4, none⟩ = some (.int .i64 c.r) ∧ w.cell? ⟨cb, co + 5, none⟩ = some (.int .i64 c.m)) := by
    rcases hct with h | ⟨b', off', e, h1, h2⟩
    · cases h
    · cases e
      have := h2 0 c rfl
      rw [Nat.zero_mul, Nat.add_zero] at this
      exact ⟨h1, this⟩
  have HBL := Lib.hid hbl
  have HCC := Lib.hid hcc
  have HA := Lib.hid (And.intro a0 (And.intro a1 a2))
  have HCP := Lib.hid hcb
  clear h hE hct hc hd hcc hcb a0 a1 a2 hbl
  go_enter Try.func47, Try.ntmps47
  go_wp2_with (fail)
  refine HLK.out.mono ?_
  rintro e wq ⟨rfl, hq⟩
  have hq := hq.symm
  subst hq
  clear HLK
  go_wp2_with (fail)
  go_loopw [8] (fun i wr => ∃ k : Nat, k ≤ 1 ∧ i = .int .i64 k ∧ Hid (Below w.heap.size w wr)) (fun i _ => 1 - (intOf i).toNat)
  case atStart => exact ⟨0, by omega, rfl, Lib.hid (Below.refl _ _)⟩
  case round =>
    rename World => wr
    obtain ⟨k, hk, rfl, HB⟩ := hrel
    have hbz := HB.out.size
    by_cases hlt : k < 1
    · have k0 : (0 : Int) ≤ k := by omega
      have k1 : (k : Int) < 1 := by omega
      have HK := Lib.hid (show k = 0 by omega)
      obtain ⟨d0, d1, d2, d3, d4, d5⟩ := HCC.out
      have e0 : co + k * 6 = co := by rw [HK.out, Nat.zero_mul, Nat.add_zero]
      have d0 : wr.cell? ⟨cb, co + k * 6, none⟩ = some (.int .i64 c.p) := by rw [e0]; exact (HB.out.cell (p := ⟨cb, co, none⟩) HBL.out).trans d0
      have d1 : wr.cell? ⟨cb, co + k * 6 + 1, none⟩ = some (.int .i64 c.b) := by rw [e0]; exact (HB.out.cell (p := ⟨cb, co + 1, none⟩) HBL.out).trans d1
      have d2 : wr.cell? ⟨cb, co + k * 6 + 2, none⟩ = some (.int .i64 c.d) := by rw [e0]; exact (HB.out.cell (p := ⟨cb, co + 2, none⟩) HBL.out).trans d2
      have d3 : wr.cell? ⟨cb, co + k * 6 + 3, none⟩ = some (.int .i64 c.e) := by rw [e0]; exact (HB.out.cell (p := ⟨cb, co + 3, none⟩) HBL.out).trans d3
      have d4 : wr.cell? ⟨cb, co + k * 6 + 4, none⟩ = some (.int .i64 c.r) := by rw [e0]; exact (HB.out.cell (p := ⟨cb, co + 4, none⟩) HBL.out).trans d4
      have d5 : wr.cell? ⟨cb, co + k * 6 + 5, none⟩ = some (.int .i64 c.m) := by rw [e0]; exact (HB.out.cell (p := ⟨cb, co + 5, none⟩) HBL.out).trans d5
      have HRT := Lib.hid (r3right_any c HR.out wr)
      clear e0 hbz
      obtain ⟨cp, cB, cd, ce, cr, cm⟩ := c
      unfold ctV at HRT
      dsimp only at *
      go_wp2_with (fail)
      refine HRT.out.mono ?_
      rintro e w1 ⟨rfl, h1⟩
      have HB1 := Lib.hid (HB.out.trans (h1.mono HB.out.size))
      clear h1
      go_wp2_with (fail)
      exact ⟨⟨k + 1, by omega, by go_num, HB1⟩, by first | (simp [intOf]; done) | (simp [intOf]; omega)⟩
    · have hk1 : k = 1 := by omega
      have k1 : ¬ (k : Int) < 1 := by omega
      have HH0 := Lib.hid (HH.out.below HB.out)
      have f2 := r3_frozen HH0.out 2
      have c2 := HH0.out.cells.2.2.1
      have HH1 := Lib.hid (HH0.out.stamp HA.out.2.2 HA.out.1 HA.out.2.1)
      have HO1 := Lib.hid ((Off.ofBelow (S := R3Own p v) HB.out).setCell (p := ⟨p, 2, none⟩) (fun _ => Or.inl rfl) (.int .i64 at_))
      have HC1 := Lib.hid (show CtsAt (wr.setCell ⟨p, 2, none⟩ (.int .i64 at_)) (some ⟨cb, co, none⟩) [c] from by
        rcases HC.out with h | ⟨b', off', e, h1, h2⟩
        · cases h
        · cases e
          refine Or.inr ⟨cb, co, rfl, by simp [World.setCell]; omega, fun j x hx => ?_⟩
          have hkk : ∀ o, (wr.setCell ⟨p, 2, none⟩ (.int .i64 at_)).cell? ⟨cb, o, none⟩ = w.cell? ⟨cb, o, none⟩ := fun o => (World.cell?_of_block (a := ⟨cb, o, none⟩) (heap_setCell_other wr ⟨p, 2, none⟩ cb _ HCP.out)).trans (HB.out.cell (p := ⟨cb, o, none⟩) HBL.out)
          rw [hkk, hkk, hkk, hkk, hkk, hkk]
          exact h2 j x hx)
      have HJ := Lib.hid (r3join_any (wr.setCell ⟨p, 2, none⟩ (.int .i64 at_)) (some ⟨cb, co, none⟩) 1 cap [c] rfl (by omega) (fun x hx => by obtain rfl := List.mem_singleton.1 hx; exact HR.out) HC1.out)
      have hj1 : joinC .zero [c] = c := (joinC_zero HR.out []).trans rfl
      rw [hj1] at HJ
      clear hj1 HC1
      go_wp2_with (fail)
      refine HJ.out.mono ?_
      rintro e w2 ⟨rfl, h2⟩
      have HH2 := Lib.hid (HH1.out.below h2)
      have HO2 := Lib.hid (HO1.out.trans (Off.ofBelow (S := R3Own p v) h2) (fun _ _ h => h))
      clear h2 HJ HH1 HO1 HB HH0
      have hb3 : Below w2.heap.size w2 (w2.alloc (ctO c 71)) := (Below.refl _ _).alloc (Nat.le_refl _) _
      have HH3 := Lib.hid (HH2.out.below hb3)
      have HO3 := Lib.hid (HO2.out.trans (Off.ofBelow (S := R3Own p v) hb3) (fun _ _ h => h))
      have HBX := Lib.hid ((get_allocW w2 (ctO c 71) w2.heap.size).trans (if_pos rfl))
      have HBG := Lib.hid (r3begin_any HH3.out at_ HA.out.1 HA.out.2.1)
      clear hb3 c2 f2
      obtain ⟨xp, xb, xd, xe, xr, xm⟩ := c
      unfold ctO at HH3 HO3 HBX HBG
      unfold ctV
      dsimp only at *
      go_wp2_with (fail)
      refine HBG.out.mono ?_
      rintro e w4 ⟨rfl, m4, hq4⟩
      have hb4 : Below (w2.alloc (.cells #[.int .i64 xp, .int .i64 xb, .int .i64 xd, .int .i64 xe, .int .i64 xr, .int .i64 xm] 71)).heap.size (w2.alloc (.cells #[.int .i64 xp, .int .i64 xb, .int .i64 xd, .int .i64 xe, .int .i64 xr, .int .i64 xm] 71)) w4 := by rw [hq4]; exact below_drewN (Below.refl _ _) _
      have HH4 := Lib.hid (HH3.out.below hb4)
      have HO4 := Lib.hid (HO3.out.trans (Off.ofBelow (S := R3Own p v) hb4) (fun _ _ h => h))
      have HB4 := Lib.hid ((hb4.block w2.heap.size (by simp)).trans HBX.out)
      have hN4 : w2.heap.size < w4.heap.size := (Array.getElem?_eq_some_iff.1 HB4.out).1
      have c3 := HH4.out.cells.2.2.2
      clear hq4 hb4 HBG HH3 HO3 HBX HH2 HO2
      obtain ⟨B, hBB⟩ : ∃ B, begB b at_ = B := ⟨_, rfl⟩
      have HBB := Lib.hid hBB
      rw [hBB]
      clear hBB
      obtain ⟨N, hNN⟩ : ∃ N, w2.heap.size = N := ⟨_, rfl⟩
      rw [hNN] at HB4 hN4 ⊢
      clear hNN
      have HN4 := Lib.hid hN4
      clear hN4
      cases hL : L.getLast? with
      | none =>
        have hL0 := List.getLast?_eq_none_iff.1 hL
        have hrow := HH4.out.row
        rw [hL0] at hrow
        obtain ⟨w5, hr5, hb5⟩ := run_copy3_nil hrow 87
        have HR5 := Lib.hid hr5
        have HB5 := Lib.hid hb5
        clear hrow hr5 hb5
        obtain ⟨⟨z0, z1, z2, z3, z4, z5⟩, zf⟩ := ct_cells (c := ⟨xp, xb, xd, xe, xr, xm⟩) ((HB5.out.block N HN4.out).trans HB4.out)
        dsimp only at z0 z1 z2 z3 z4 z5
        obtain ⟨g6, cap6, w6, hr6, ho6, hb6, hc6, hc7⟩ := run_append3 (L := []) (World.ownsRow_nil (w := w5) w4.heap.size 108 7) (Nat.le_refl _) HB5.out (Nat.zero_le _) rfl ⟨B, rawOf ⟨xp, xb, xd, xe, xr, xm⟩⟩ 87
        rw [cs_new HR.out] at hr6
        have HR6 := Lib.hid hr6
        have HO6 := Lib.hid ho6
        have HB6 := Lib.hid hb6
        have f6 := r3_frozen (HH4.out.below hb6) 3
        have c6 := (HH4.out.below hb6).cells.2.2.2
        clear hr6 ho6 hb6
        go_wp2_with (first | (at_builtin; refine wpList_append_run (by rfl) (.tmp 40) (.tmp 44) 87 87 (by rfl) (by rfl) (by rfl) (by rfl) HR5.out ?_) | (at_builtin; refine wpList_append_run (by rfl) (.tmp 73) (.tmp 77) 87 87 (by rfl) (by rfl) (by rfl) (by rfl) HR6.out ?_))
        go_wp2_with (fail)
        go_ret
        refine r3add_end HH.out HA.out.2.2 HA.out.1 HA.out.2.1 HR.out HD.out HH4.out HO4.out ?_ HB6.out
        rw [addL_new (fun x hx => by rw [hL] at hx; cases hx), HBB.out, hL0]
        exact HO6.out
      | some x =>
        obtain ⟨K, hK⟩ : ∃ K, L.length = K + 1 := by
          cases hn : L.length with
          | zero => rw [List.length_eq_zero_iff.1 hn] at hL; cases hL
          | succ K => exact ⟨K, rfl⟩
        have hfew := HH4.out.inv.few HH4.out.b0 HH4.out.l1
        obtain ⟨g, cap5, w5, hr5, ho5, hb5, hg0, hg1, hc1, hc2, hcell, hfz⟩ := run_copy3_cons HH4.out.row hfew hK 87
        have hx1 : L[K]? = some x := by rw [← hL, List.getLast?_eq_getElem?, hK]; rfl
        have HR5 := Lib.hid hr5
        have HO5 := Lib.hid ho5
        have HB5 := Lib.hid hb5
        have HX1 := Lib.hid hx1
        have HKK := Lib.hid hK
        have HLL := Lib.hid hL
        have HFW := Lib.hid hfew
        have hkm : K + 1 ≤ 1152921504608 := by omega
        have l0 : w5.cell? ⟨g, K * 7, none⟩ = some (.int .i64 x.at_) := by have := hcell K x hx1 0 (by decide); exact this
        have l1 : w5.cell? ⟨g, K * 7 + 1, none⟩ = some (.int .i64 (imgC x.r).p) := hcell K x hx1 1 (by decide)
        have l2 : w5.cell? ⟨g, K * 7 + 1 + 1, none⟩ = some (.int .i64 (imgC x.r).b) := hcell K x hx1 2 (by decide)
        have l3 : w5.cell? ⟨g, K * 7 + 1 + 2, none⟩ = some (.int .i64 (imgC x.r).d) := hcell K x hx1 3 (by decide)
        have l4 : w5.cell? ⟨g, K * 7 + 1 + 3, none⟩ = some (.int .i64 (imgC x.r).e) := hcell K x hx1 4 (by decide)
        have l5 : w5.cell? ⟨g, K * 7 + 1 + 4, none⟩ = some (.int .i64 (imgC x.r).r) := hcell K x hx1 5 (by decide)
        have l6 : w5.cell? ⟨g, K * 7 + 1 + 5, none⟩ = some (.int .i64 (imgC x.r).m) := hcell K x hx1 6 (by decide)
        have HG0 := Lib.hid hg0
        have HXR := Lib.hid (HH4.out.inv.ok x (List.mem_of_getElem? hx1)).1
        clear hr5 ho5 hb5 hx1 hK hL hfew hcell hg0
        obtain ⟨⟨z0, z1, z2, z3, z4, z5⟩, zf⟩ := ct_cells (c := ⟨xp, xb, xd, xe, xr, xm⟩) ((HB5.out.block N HN4.out).trans HB4.out)
        dsimp only at z0 z1 z2 z3 z4 z5
        obtain ⟨X, hX⟩ : ∃ X, x.at_ = X := ⟨_, rfl⟩
        have HXX := Lib.hid hX
        rw [hX] at l0
        clear hX
        by_cases hxb : X = B
        · have HXB := Lib.hid hxb
          subst hxb
          have HT := Lib.hid (fun wx => r3two_any (imgC x.r) ⟨xp, xb, xd, xe, xr, xm⟩ (imgC_right HXR.out) HR.out wx)
          obtain ⟨T, hT⟩ : ∃ T, twoC (imgC x.r) ⟨xp, xb, xd, xe, xr, xm⟩ = T := ⟨_, rfl⟩
          rw [hT] at HT
          have HTT := Lib.hid hT.symm
          clear hT
          obtain ⟨I, hI⟩ : ∃ I, imgC x.r = I := ⟨_, rfl⟩
          rw [hI] at HT l1 l2 l3 l4 l5 l6
          clear hI
          obtain ⟨ip, ib, id_, ie, ir, im⟩ := I
          obtain ⟨tp, tb, td, te, tr, tm⟩ := T
          unfold ctV at HT
          dsimp only at HT l1 l2 l3 l4 l5 l6
          go_wp2_with ((at_builtin; refine wpList_append_run (by rfl) (.tmp 40) (.tmp 44) 87 87 (by rfl) (by rfl) (by rfl) (by rfl) HR5.out ?_))
          have hpw : p < w4.heap.size := HH4.out.lt (Or.inl rfl)
          have hgp : ¬ g = p := by have := HG0.out; omega
          have hpg : ¬ p = g := by have := HG0.out; omega
          have HPW := Lib.hid hpw
          have HGP := Lib.hid hgp
          clear hpw
          have k0 : (0 : Int) ≤ (K : Int) := by omega
          have k1 : (K : Int) < (K : Int) + 1 := by omega
          have k2 : ¬ (K : Int) < 0 := by omega
          have k3 : ¬ (K : Int) + 1 ≤ (K : Int) := by omega
          have k4 : IntKind.i64.wrap ((K : Int) + 1 - 1) = (K : Int) := by rw [Int.add_sub_cancel]; exact wrap_small _ (by omega) (by omega)
          have k5 : IntKind.i64.wrap (K : Int) = (K : Int) := wrap_small _ (by omega) (by omega)
          go_region_with (go_at_call 68; refine (HT.out _).mono ?_; rintro e w7 ⟨rfl, h7⟩; have HH7 := Lib.hid (show Below w5.heap.size w5 w7 from ((Below.refl _ w5).drew).trans h7); have m1 := (HH7.out.cell (p := ⟨g, K * 7 + 1, none⟩) hg1).trans l1; have m2 := (HH7.out.cell (p := ⟨g, K * 7 + 1 + 1, none⟩) hg1).trans l2; have m3 := (HH7.out.cell (p := ⟨g, K * 7 + 1 + 2, none⟩) hg1).trans l3; have m4 := (HH7.out.cell (p := ⟨g, K * 7 + 1 + 3, none⟩) hg1).trans l4; have m5 := (HH7.out.cell (p := ⟨g, K * 7 + 1 + 4, none⟩) hg1).trans l5; have m6 := (HH7.out.cell (p := ⟨g, K * 7 + 1 + 5, none⟩) hg1).trans l6; have hfz7 : ∀ j, w7.frozen? ⟨g, j, none⟩ = false := (by intro j; have h1 := hfz j; have h2 := HH7.out.block g hg1; simp only [World.frozen?] at h1 ⊢; rw [h2]; exact h1); have hq7 := (HH4.out.below HB5.out).below HH7.out; have f7 := r3_frozen hq7 3; have c7 := hq7.cells.2.2.2; clear h7 hq7)
          all_goals
            go_wp2_with (fail)
            have hrow7 : w7.ownsRow w4.heap.size 108 7 (.slice (some ⟨g, 0, none⟩) L.length cap5) L.length (flat3 L) := by
              rw [HKK.out]
              exact rowKept3 HO5.out (fun g' e => by
                cases e
                exact HH7.out.block g hg1)
            have hput := two_put (b := b) (at_ := at_) HLL.out (HXX.out.trans HBB.out.symm) HXR.out HR.out hrow7 HTT.out
            rw [HKK.out] at hput
            have hbel : Below w4.heap.size w4 (w7.setCells g (K * 7 + 1) [.int .i64 tp, .int .i64 tb, .int .i64 td, .int .i64 te, .int .i64 tr, .int .i64 tm]) :=
              ((((((HB5.out.trans (HH7.out.mono HB5.out.size)).setCell HG0.out _).setCell HG0.out _).setCell HG0.out _).setCell HG0.out _).setCell HG0.out _).setCell HG0.out _
            go_ret
            exact r3add_end HH.out HA.out.2.2 HA.out.1 HA.out.2.1 HR.out HD.out HH4.out HO4.out hput hbel
        · obtain ⟨g6, cap6, w6, hr6, ho6, hb6, hc6, hc7⟩ := run_append3 HO5.out (Nat.le_refl _) HB5.out hkm HKK.out ⟨B, rawOf ⟨xp, xb, xd, xe, xr, xm⟩⟩ 87
          rw [cs_new HR.out] at hr6
          have HR6 := Lib.hid hr6
          have HO6 := Lib.hid ho6
          have HB6 := Lib.hid hb6
          have f6 := r3_frozen (HH4.out.below hb6) 3
          have c6 := (HH4.out.below hb6).cells.2.2.2
          have hne : (X == B) = false := by simpa using hxb
          clear hr6 ho6 hb6
          go_wp2_with (first | (at_builtin; refine wpList_append_run (by rfl) (.tmp 40) (.tmp 44) 87 87 (by rfl) (by rfl) (by rfl) (by rfl) HR5.out ?_) | (at_builtin; refine wpList_append_run (by rfl) (.tmp 73) (.tmp 77) 87 87 (by rfl) (by rfl) (by rfl) (by rfl) HR6.out ?_))
          go_wp2_with (fail)
          go_ret
          refine r3add_end HH.out HA.out.2.2 HA.out.1 HA.out.2.1 HR.out HD.out HH4.out HO4.out ?_ HB6.out
          rw [addL_new (fun y hy => by rw [HLL.out] at hy; cases hy; rw [HXX.out, HBB.out]; exact hxb), HBB.out, List.length_append, HKK.out]
          exact HO6.out
end Go.Proofs.Ytlipbkpbflgamaa

/- The reference's window: Buckets. -/
namespace Go.Proofs.Ytlipbkpbflgamaa
open Go.RowKit
set_option linter.unusedVariables false
set_option linter.unusedSimpArgs false

/-- The form of an own row of buckets, and its cells. -/
theorem row3_form {w : World} {base n : Nat} {v : Value} {L : List Bk3} (h : w.ownsRow base 108 7 v n (flat3 L)) (hn : L.length = n) : ∃ a cap, v = .slice a n cap ∧ ∀ j k, L[j]? = some k → ∃ g, a = some ⟨g, 0, none⟩ ∧ g < w.heap.size ∧ (w.cell? ⟨g, j * 7, none⟩ = some (.int .i64 k.at_) ∧ w.cell? ⟨g, j * 7 + 1, none⟩ = some (.int .i64 (imgC k.r).p) ∧ w.cell? ⟨g, j * 7 + 1 + 1, none⟩ = some (.int .i64 (imgC k.r).b) ∧ w.cell? ⟨g, j * 7 + 1 + 2, none⟩ = some (.int .i64 (imgC k.r).d) ∧ w.cell? ⟨g, j * 7 + 1 + 3, none⟩ = some (.int .i64 (imgC k.r).e) ∧ w.cell? ⟨g, j * 7 + 1 + 4, none⟩ = some (.int .i64 (imgC k.r).r) ∧ w.cell? ⟨g, j * 7 + 1 + 5, none⟩ = some (.int .i64 (imgC k.r).m)) := by
  by_cases hne : L = []
  · subst hne
    rcases h.2 with ⟨hv, hz⟩ | ⟨g, cap, cur, hv, _⟩
    · subst hz; exact ⟨none, 0, hv, fun j k hj => by simp at hj⟩
    · exact ⟨_, _, hv, fun j k hj => by simp at hj⟩
  · obtain ⟨g, cap, hv, c1, c2, c3, c4, c5, c6⟩ := row3_at h hn hne
    refine ⟨_, _, hv, fun j k hj => ⟨g, rfl, c4, ?_, ?_, ?_, ?_, ?_, ?_, ?_⟩⟩
    · exact c5 j k hj 0 (by decide)
    · exact c5 j k hj 1 (by decide)
    · exact c5 j k hj 2 (by decide)
    · exact c5 j k hj 3 (by decide)
    · exact c5 j k hj 4 (by decide)
    · exact c5 j k hj 5 (by decide)
    · exact c5 j k hj 6 (by decide)
theorem imgC_d {x : RawC} (h : 1 ≤ x.d) : (imgC x).d ≠ 0 := by
  show capW x.d ≠ 0
  unfold capW
  split <;> omega
def inL (b at_ : Int) (L : List Bk3) : List Bk3 := L.filter (fun k => inB b at_ k.at_)
theorem inL_len (b at_ : Int) (L : List Bk3) : (inL b at_ L).length ≤ L.length := List.length_filter_le _ _
theorem inL_succ {b at_ : Int} {L : List Bk3} {k : Nat} {x : Bk3} (h : L[k]? = some x) : inL b at_ (L.take (k + 1)) = if inB b at_ x.at_ then inL b at_ (L.take k) ++ [x] else inL b at_ (L.take k) := by
  have hk := (List.getElem?_eq_some_iff.1 h).1
  have hx := (List.getElem?_eq_some_iff.1 h).2
  unfold inL
  rw [List.take_succ_eq_append_getElem hk, List.filter_append, hx]
  by_cases hi : inB b at_ x.at_
  · rw [if_pos hi, List.filter_cons, if_pos hi]; rfl
  · rw [if_neg hi, List.filter_cons, if_neg hi]; simp
set_option maxHeartbeats 6400000 in
set_option maxRecDepth 100000 in
theorem r3buckets_any {w : World} {p : Nat} {b last : Int} {v : Value} {notes : List NoteW} {L : List Bk3} (h : R3At w p b last v notes L) (at_ : Int) (hE : lookW last at_ = 0) :
    Calls Try.prog 69 #[.pointer (some ⟨p, 0, none⟩), .int .i64 at_] w fun e w' => ∃ a cap, e = .returned (.tuple #[.slice a (inL b at_ L).length cap, .int .i64 0]) ∧ w'.ownsRow w.heap.size 108 7 (.slice a (inL b at_ L).length cap) (inL b at_ L).length (flat3 (inL b at_ L)) ∧ Below w.heap.size w w' := by
  have HLK := Lib.hid (r3look_any h at_)
  rw [hE] at HLK
  obtain ⟨a0, a1, a2⟩ := lookW_ok hE
  have HA := Lib.hid (And.intro a0 (And.intro a1 a2))
  have HH := Lib.hid h
  obtain ⟨a, cap, hv, hcells⟩ := row3_form h.row rfl
  subst hv
  have HC := Lib.hid hcells
  have HOK := Lib.hid h.inv.ok
  obtain ⟨len, hlen⟩ : ∃ len, L.length = len := ⟨_, rfl⟩
  have hfew := h.inv.few h.b0 h.l1
  rw [hlen] at hfew
  have HLEN := Lib.hid hlen
  have c3 := h.cells.2.2.2
  rw [hlen] at c3
  have HP := Lib.hid (h.lt (Or.inl rfl))
  have hb0 := h.b0
  have hb1 := h.b1
  clear h hE a0 a1 a2 hcells
  go_enter Try.func69, Try.ntmps69
  go_wp2_with (fail)
  refine HLK.out.mono ?_
  rintro e wq ⟨rfl, hq⟩
  have hq := hq.symm
  subst hq
  clear HLK
  go_wp2_with (fail)
  have HC3 := Lib.hid c3
  clear c3
  go_loopw [7, 8] (fun o i wr => ∃ k : Nat, k ≤ len ∧ i = .int .i64 k ∧ Hid (wr.ownsRow w.heap.size 108 7 o (inL b at_ (L.take k)).length (flat3 (inL b at_ (L.take k)))) ∧ Hid (Below w.heap.size w wr)) (fun _ i _ => len - (intOf i).toNat)
  case atStart => exact ⟨0, Nat.zero_le _, rfl, Lib.hid (by simpa [inL, flat3] using World.ownsRow_nil (w := w) w.heap.size 108 7), Lib.hid (Below.refl _ _)⟩
  case round =>
    rename World => wr
    obtain ⟨k, hk, rfl, HO, HB⟩ := hrel
    have c3 := (HB.out.cell (p := ⟨p, 3, none⟩) HP.out).trans HC3.out
    by_cases hlt : k < len
    · have k0 : (0 : Int) ≤ k := by omega
      have k1 : (k : Int) < len := by omega
      obtain ⟨x, hx⟩ : ∃ x, L[k]? = some x := ⟨_, List.getElem?_eq_getElem (by rw [HLEN.out]; exact hlt)⟩
      obtain ⟨g, rfl, hg, d0, d1, d2, d3, d4, d5, d6⟩ := HC.out k x hx
      obtain ⟨xd1, xd2⟩ := HOK.out x (List.mem_of_getElem? hx)
      have HS := Lib.hid (inL_succ (b := b) (at_ := at_) hx)
      have HXR := Lib.hid xd1
      have e0 := (HB.out.cell (p := ⟨g, k * 7, none⟩) hg).trans d0
      have e1 := (HB.out.cell (p := ⟨g, k * 7 + 1, none⟩) hg).trans d1
      have e2 := (HB.out.cell (p := ⟨g, k * 7 + 1 + 1, none⟩) hg).trans d2
      have e3 := (HB.out.cell (p := ⟨g, k * 7 + 1 + 2, none⟩) hg).trans d3
      have e4 := (HB.out.cell (p := ⟨g, k * 7 + 1 + 3, none⟩) hg).trans d4
      have e5 := (HB.out.cell (p := ⟨g, k * 7 + 1 + 4, none⟩) hg).trans d5
      have e6 := (HB.out.cell (p := ⟨g, k * 7 + 1 + 5, none⟩) hg).trans d6
      have hH := HH.out.below HB.out
      have c0 := hH.cells.1
      have HBG := Lib.hid (fun n => r3begin_any (hH.below (below_drewN (Below.refl _ wr) n)) at_ HA.out.1 HA.out.2.1)
      obtain ⟨BG, hBG⟩ : ∃ BG, begB b at_ = BG := ⟨_, rfl⟩
      rw [hBG] at HBG
      have hbg := beg_facts (b := b) (at_ := at_) (by omega) HA.out.1
      rw [hBG] at hbg
      have hbg0 := hbg.1
      have hbg1 : BG ≤ 1152921504606846976 := by have := hbg.2.2.1; have := HA.out.2.1; omega
      have hsub : IntKind.i64.wrap (BG - b) = BG - b := by have := wrap_i64_ediv (BG - b) 1 (by omega) (by omega) (by omega); rwa [Int.ediv_one] at this
      have HIN := Lib.hid (show inB b at_ x.at_ = decide (BG - b < x.at_) by unfold inB; rw [hBG])
      clear d0 d1 d2 d3 d4 d5 d6 hH hbg hBG hg
      have HX := Lib.hid hx
      clear hx
      by_cases hin : BG - b < x.at_
      · have HIT := Lib.hid (show inB b at_ x.at_ = true by rw [HIN.out]; exact decide_eq_true hin)
        have HD := Lib.hid (imgC_d xd2)
        have hdc : decide (BG - b < x.at_) = true := decide_eq_true hin
        have hxl := inL_len b at_ (L.take k)
        have hkk : (inL b at_ (L.take k)).length ≤ 1152921504608 := by rw [List.length_take] at hxl; omega
        obtain ⟨X, hX⟩ : ∃ X, x.at_ = X := ⟨_, rfl⟩
        have HXX := Lib.hid hX
        rw [hX] at e0 hin hdc
        clear hX hxl
        obtain ⟨I, hI⟩ : ∃ I, imgC x.r = I := ⟨_, rfl⟩
        have HI := Lib.hid hI
        rw [hI] at e1 e2 e3 e4 e5 e6 HD
        clear hI
        obtain ⟨ip, ib, id_, ie, ir, im⟩ := I
        have hdd : (id_ == 0) = false := by simpa using HD.out
        dsimp only at e1 e2 e3 e4 e5 e6
        go_wp2_with (fail)
        go_quiet ((go_at_call 67; exact Calls.quiet_of (HBG.out _)))
        have hO2 := rowKept3 (w' := wr.drewN nq) HO.out (fun g' e => (below_drewN (Below.refl wr.heap.size wr) _).block g' (HO.out.lt g' e).2)
        obtain ⟨g6, cap6, w6, hr6, ho6, hb6, hc6, hc7⟩ := run_append3 hO2 (Nat.le_refl _) (below_drewN HB.out nq) hkk rfl x 87
        rw [show x.cs = [.int .i64 X, .int .i64 ip, .int .i64 ib, .int .i64 id_, .int .i64 ie, .int .i64 ir, .int .i64 im] by unfold Bk3.cs; rw [HI.out, HXX.out]] at hr6
        have HR6 := Lib.hid hr6
        have HO6 := Lib.hid ho6
        have HB6 := Lib.hid hb6
        clear hO2 hr6 ho6 hb6
        go_wp2_with (at_builtin; refine wpList_append_run (by rfl) (.tmp 53) (.tmp 61) 87 87 (by rfl) (by rfl) (by rfl) (by rfl) HR6.out ?_)
        refine ⟨⟨k + 1, by omega, by go_num, ?_, HB6⟩, by first | (simp [intOf]; done) | (simp [intOf]; omega)⟩
        rw [HS.out, HIT.out, if_pos rfl, List.length_append]
        exact HO6
      · have HIT := Lib.hid (show inB b at_ x.at_ = false by rw [HIN.out]; exact decide_eq_false hin)
        have hdc : decide (BG - b < x.at_) = false := decide_eq_false hin
        obtain ⟨X, hX⟩ : ∃ X, x.at_ = X := ⟨_, rfl⟩
        rw [hX] at e0 hin hdc
        clear hX
        go_wp2_with (fail)
        go_quiet ((go_at_call 67; exact Calls.quiet_of (HBG.out _)))
        go_wp2_with (fail)
        refine ⟨⟨k + 1, by omega, by go_num, ?_, Lib.hid (below_drewN HB.out _)⟩, by first | (simp [intOf]; done) | (simp [intOf]; omega)⟩
        rw [HS.out, HIT.out, if_neg (by simp)]
        exact Lib.hid (rowKept3 HO.out (fun g' e => (below_drewN (Below.refl wr.heap.size wr) _).block g' (HO.out.lt g' e).2))
    · have k1 : ¬ (k : Int) < len := by omega
      have hkk : L.take k = L := List.take_of_length_le (by rw [HLEN.out]; omega)
      rw [hkk] at HO
      clear hkk
      obtain ⟨ao, co, ho, _⟩ := row3_form HO.out rfl
      subst ho
      go_wp2_with (fail)
      go_ret2
      exact ⟨ao, co, rfl, HO.out, HB.out⟩
end Go.Proofs.Ytlipbkpbflgamaa

/- The reference's window: Sum. -/
namespace Go.Proofs.Ytlipbkpbflgamaa
open Go.RowKit
set_option linter.unusedVariables false
set_option linter.unusedSimpArgs false

set_option maxHeartbeats 6400000 in
set_option maxRecDepth 100000 in
theorem r3wsum_any {w : World} {p : Nat} {b last : Int} {v : Value} {notes : List NoteW} {L : List Bk3} (h : R3At w p b last v notes L) (at_ : Int) (hE : lookW last at_ = 0) :
    Calls Try.prog 48 #[.pointer (some ⟨p, 0, none⟩), .int .i64 at_] w fun e w' => e = .returned (.tuple #[ctV (winC b 1 at_ notes), .int .i64 0]) ∧ Below w.heap.size w w' := by
  obtain ⟨N, hN⟩ : ∃ N, w.heap.size = N := ⟨_, rfl⟩
  have HN := Lib.hid hN
  have hB : Below w.heap.size w (w.alloc (.cells #[.int .i64 0, .int .i64 0, .int .i64 0, .int .i64 0, .int .i64 0, .int .i64 0] 71)) := (Below.refl _ _).alloc (Nat.le_refl _) _
  have HBK := Lib.hid (r3buckets_any (h.below hB) at_ hE)
  have HNW := Lib.hid (show (w.alloc (.cells #[.int .i64 0, .int .i64 0, .int .i64 0, .int .i64 0, .int .i64 0, .int .i64 0] 71)).heap[w.heap.size]? = some (ctO .zero 71) from (get_allocW w _ w.heap.size).trans (if_pos rfl))
  have HB := Lib.hid hB
  obtain ⟨a0, a1, a2⟩ := lookW_ok hE
  have htell := h.inv.tells (by have := h.b0; omega) a0 h.pos
  have HT := Lib.hid (show joinC .zero ((inL b at_ L).map (fun k => imgC k.r)) = winC b 1 at_ notes from htell)
  have HOK := Lib.hid (show ∀ k, k ∈ inL b at_ L → RawOk k.r from fun k hk => (h.inv.ok k (List.mem_filter.1 hk |>.1)).1)
  have hfew : (inL b at_ L).length ≤ 1152921504608 := Nat.le_trans (inL_len _ _ _) (h.inv.few h.b0 h.l1)
  clear h hE hB htell a0 a1 a2
  generalize inL b at_ L = M at *
  obtain ⟨len, hlen⟩ : ∃ len, M.length = len := ⟨_, rfl⟩
  have HLEN := Lib.hid hlen
  rw [hlen] at HBK hfew
  clear hlen
  go_enter Try.func48, Try.ntmps48
  go_wp2_with (fail)
  obtain ⟨w0, hw0⟩ : ∃ w0, (w.alloc (.cells #[.int .i64 0, .int .i64 0, .int .i64 0, .int .i64 0, .int .i64 0, .int .i64 0] 71)) = w0 := ⟨_, rfl⟩
  rw [hw0] at HBK HNW HB ⊢
  rw [hN] at HNW
  clear hw0 hN
  refine HBK.out.mono ?_
  rintro e w1 ⟨a, cap, rfl, hrow, hb1⟩
  have HROW := Lib.hid (rowKept3 (w' := w1.alloc (ctO .zero 71)) hrow (fun g' e => (get_allocW w1 _ g').trans (if_neg (by have := (hrow.lt g' e).2; omega))))
  obtain ⟨N2, hN2⟩ : ∃ N2, w1.heap.size = N2 := ⟨_, rfl⟩
  have HGL := Lib.hid (show ∀ g', (Value.slice a len cap).ownBlock = some g' → g' < N2 from fun g' e => by have := (hrow.lt g' e).2; omega)
  have hN1 : N < N2 := by have h1 := (Array.getElem?_eq_some_iff.1 HNW.out).1; have h2 := hb1.size; omega
  have HN1 := Lib.hid hN1
  have HB2 := Lib.hid (show Below w.heap.size w (w1.alloc (ctO .zero 71)) from (HB.out.trans (hb1.mono HB.out.size)).alloc (by have := HB.out.size; have := hb1.size; omega) _)
  have HA2 := Lib.hid (show (w1.alloc (ctO .zero 71)).heap[N]? = some (ctO .zero 71) by rw [get_allocW, if_neg (by omega)]; exact (hb1.block N (Array.getElem?_eq_some_iff.1 HNW.out).1).trans HNW.out)
  have HJ2 := Lib.hid (show (w1.alloc (ctO .zero 71)).heap[N2]? = some (ctO .zero 71) by rw [get_allocW, if_pos hN2.symm])
  clear hrow hb1 HBK HNW hN1
  go_wp2_with (fail)
  obtain ⟨w2, hw2⟩ : ∃ w2, w1.alloc (ctO .zero 71) = w2 := ⟨_, rfl⟩
  rw [hw2] at HROW HB2 HA2 HJ2
  unfold ctO CntS.zero at hw2
  dsimp only at hw2
  rw [hw2]
  clear hw2 hN2
  obtain ⟨z, cap2, hz, hcells⟩ := row3_form HROW.out HLEN.out
  cases hz
  have HC := Lib.hid hcells
  clear hcells
  go_loopw [9] (fun i wr => ∃ (k : Nat), k ≤ len ∧ i = .int .i64 k ∧ Hid (wr.heap[N]? = some (ctO .zero 71)) ∧ Hid (wr.heap[N2]? = some (ctO (joinC .zero ((M.take k).map (fun k => imgC k.r))) 71)) ∧ Hid (Below w.heap.size w wr) ∧ Hid (Below N2 w2 wr)) (fun i _ => len - (intOf i).toNat)
  case atStart => exact ⟨0, Nat.zero_le _, rfl, HA2, HJ2, HB2, Lib.hid (Below.refl _ _)⟩
  case round =>
    rename World => wy
    obtain ⟨k, hk, rfl, HA, HJ, HB, HBY⟩ := hrel
    by_cases hlt : k < len
    · have k0 : (0 : Int) ≤ k := by omega
      have k1 : (k : Int) < len := by omega
      obtain ⟨x, hx⟩ : ∃ x, M[k]? = some x := ⟨_, List.getElem?_eq_getElem (by rw [HLEN.out]; exact hlt)⟩
      obtain ⟨g, rfl, hg, d0, d1, d2, d3, d4, d5, d6⟩ := HC.out k x hx
      have hgl := HGL.out g rfl
      have hmx : x ∈ M := List.mem_of_getElem? hx
      have d1 := (HBY.out.cell (p := ⟨g, k * 7 + 1, none⟩) hgl).trans d1
      have d2 := (HBY.out.cell (p := ⟨g, k * 7 + 1 + 1, none⟩) hgl).trans d2
      have d3 := (HBY.out.cell (p := ⟨g, k * 7 + 1 + 2, none⟩) hgl).trans d3
      have d4 := (HBY.out.cell (p := ⟨g, k * 7 + 1 + 3, none⟩) hgl).trans d4
      have d5 := (HBY.out.cell (p := ⟨g, k * 7 + 1 + 4, none⟩) hgl).trans d5
      have d6 := (HBY.out.cell (p := ⟨g, k * 7 + 1 + 5, none⟩) hgl).trans d6
      have hxr := imgC_right (HOK.out x hmx)
      have hjr : RightC (joinC .zero ((M.take k).map (fun k => imgC k.r))) := joinC_right rightC_zero (fun y hy => by
        obtain ⟨z, hz, rfl⟩ := List.mem_map.1 hy
        exact imgC_right (HOK.out z (List.mem_of_mem_take hz)))
      have HST := Lib.hid (show joinC .zero ((M.take (k + 1)).map (fun k => imgC k.r)) = twoC (joinC .zero ((M.take k).map (fun k => imgC k.r))) (imgC x.r) by
        have hkl : k < M.length := (List.getElem?_eq_some_iff.1 hx).1
        rw [List.take_succ_eq_append_getElem hkl, List.map_append, List.map_singleton, joinC_snoc, (List.getElem?_eq_some_iff.1 hx).2])
      have HTW := Lib.hid (fun wx => r3two_any _ _ hjr hxr wx)
      generalize joinC .zero ((M.take k).map (fun k => imgC k.r)) = J at *
      generalize imgC x.r = c at *
      have hzy : N2 < wy.heap.size := (Array.getElem?_eq_some_iff.1 HJ.out).1
      have hzn : N < wy.heap.size := (Array.getElem?_eq_some_iff.1 HA.out).1
      have HZY := Lib.hid (And.intro hzy hzn)
      obtain ⟨⟨b0, b1, b2, b3, b4, b5⟩, bf⟩ := ct_cells HJ.out
      clear d0 hx hmx hxr hjr hgl hzy hzn hg
      obtain ⟨cp, cb, cd, ce, cr, cm⟩ := c
      obtain ⟨jp, jb, jd, je, jr, jm⟩ := J
      generalize twoC ⟨jp, jb, jd, je, jr, jm⟩ ⟨cp, cb, cd, ce, cr, cm⟩ = T at *
      obtain ⟨tp, tb, td, te, tr, tm⟩ := T
      unfold ctV at HTW
      dsimp only at *
      go_wp2_with (fail)
      go_region_with (go_at_call 68; refine (HTW.out _).mono ?_; rintro e w2 ⟨rfl, h2⟩; have HJ2 := Lib.hid ((h2.block N2 HZY.out.1).trans HJ.out); have HH2 := Lib.hid (show Below wy.heap.size wy w2 from ((Below.refl _ wy).drew).trans h2); obtain ⟨⟨c0, c1, c2, c3, c4, c5⟩, cf⟩ := ct_cells HJ2.out; dsimp only at c0 c1 c2 c3 c4 c5; clear h2)
      all_goals
        go_wp2_with (fail)
        refine ⟨⟨k + 1, by omega, by go_num, ?_, ?_, ?_, ?_⟩, by first | (simp [intOf]; done) | (simp [intOf]; omega)⟩
        · exact Lib.hid ((sixC_other (by have := HN1.out; omega) tp tb td te tr tm).trans ((HH2.out.block N HZY.out.2).trans HA.out))
        · rw [HST.out]
          exact Lib.hid (sixC_same HJ2.out tp tb td te tr tm)
        · exact Lib.hid (sixC_below (HB.out.trans (HH2.out.mono HB.out.size)) (by have := HN1.out; have := HN.out; omega) tp tb td te tr tm)
        · exact Lib.hid (sixC_below (HBY.out.trans (HH2.out.mono (by have := HZY.out.1; omega))) (Nat.le_refl _) tp tb td te tr tm)
    · have k1 : ¬ (k : Int) < len := by omega
      have e1 : M.take k = M := List.take_of_length_le (by rw [HLEN.out]; omega)
      rw [e1, HT.out] at HJ
      clear e1
      obtain ⟨J, hJJ⟩ : ∃ J, winC b 1 at_ notes = J := ⟨_, rfl⟩
      have HJJ := Lib.hid hJJ
      rw [hJJ] at HJ
      clear hJJ
      obtain ⟨jp, jb, jd, je, jr, jm⟩ := J
      obtain ⟨⟨b0, b1, b2, b3, b4, b5⟩, bf⟩ := ct_cells HJ.out
      obtain ⟨⟨c0, c1, c2, c3, c4, c5⟩, cf⟩ := ct_cells HA.out
      dsimp only [CntS.zero] at b0 b1 b2 b3 b4 b5 c0 c1 c2 c3 c4 c5
      go_wp2_with (fail)
      refine bodyPost_ret (results_cell_tmp (P := Try.prog) rfl _ _ N 71 #[.int .i64 jp, .int .i64 jb, .int .i64 jd, .int .i64 je, .int .i64 jr, .int .i64 jm] (0, 0) _ (.int .i64 0) (by rfl) (by rfl) ?hh Try.underlying71 rfl (by kernel_rfl)) rfl ?_
      case hh => exact sixC_same HA.out jp jb jd je jr jm
      exact ⟨by rw [HJJ.out]; rfl, sixC_below HB.out (by rw [HN.out]; omega) jp jb jd je jr jm⟩
end Go.Proofs.Ytlipbkpbflgamaa

/- The reference's breaker: Sum. -/
namespace Go.Proofs.Ytlipbkpbflgamaa
open Go.RowKit
set_option linter.unusedVariables false
set_option linter.unusedSimpArgs false

set_option maxHeartbeats 3200000 in
theorem r14sum_no {w : World} {q p : Nat} {r : BreakS} {s : BrS} {un : Int} {v : Value} {L : List Bk3} (h : R14At w q p r s un v L) (at_ : Int) (E : Int) (hE : lookW s.la at_ = E) (hne : (E != 0) = true) :
    Calls Try.prog 51 #[.pointer (some ⟨q, 0, none⟩), .int .i64 at_] w fun e w' => e = .returned (.tuple #[.agg #[.int .i64 0, .int .i64 0, .int .i64 0, .int .i64 0, .int .i64 0, .int .i64 0], .int .i64 E]) ∧ Below w.heap.size w w' := by
  have hB : Below w.heap.size w (w.alloc (.cells #[.int .i64 0, .int .i64 0, .int .i64 0, .int .i64 0, .int .i64 0, .int .i64 0] 71)) := (Below.refl _ _).alloc (Nat.le_refl _) _
  have HL := Lib.hid (r14wrong_any (h.below hB).cells at_ 0)
  have HNW := Lib.hid (show (w.alloc (.cells #[.int .i64 0, .int .i64 0, .int .i64 0, .int .i64 0, .int .i64 0, .int .i64 0] 71)).heap[w.heap.size]? = some (ctO .zero 71) from (get_allocW w _ w.heap.size).trans (if_pos rfl))
  have HB := Lib.hid hB
  rw [wrong14_zero, hE] at HL
  clear h hE hB
  obtain ⟨N, hN⟩ : ∃ N, w.heap.size = N := ⟨_, rfl⟩
  have HN := Lib.hid hN
  go_enter Try.func51, Try.ntmps51
  go_wp2_with (fail)
  obtain ⟨w0, hw0⟩ : ∃ w0, (w.alloc (.cells #[.int .i64 0, .int .i64 0, .int .i64 0, .int .i64 0, .int .i64 0, .int .i64 0] 71)) = w0 := ⟨_, rfl⟩
  rw [hw0] at HL HNW HB ⊢
  rw [hN] at HNW
  clear hw0 hN
  refine HL.out.mono ?_
  rintro e wq ⟨rfl, hq⟩
  rw [hq]
  clear hq HL
  obtain ⟨⟨z0, z1, z2, z3, z4, z5⟩, zf⟩ := ct_cells (c := .zero) HNW.out
  dsimp only [CntS.zero] at z0 z1 z2 z3 z4 z5
  go_wp2_with (fail)
  refine bodyPost_ret (results_cell_tmp (P := Try.prog) rfl _ _ N 71 #[.int .i64 0, .int .i64 0, .int .i64 0, .int .i64 0, .int .i64 0, .int .i64 0] (0, 0) _ (.int .i64 E) (by rfl) (by rfl) ?hh Try.underlying71 rfl (by kernel_rfl)) rfl ?_
  case hh => exact sixC_same (c := .zero) HNW.out 0 0 0 0 0 0
  exact ⟨rfl, sixC_below HB.out (by rw [HN.out]; omega) 0 0 0 0 0 0⟩
set_option maxHeartbeats 3200000 in
theorem r14sum_yes {w : World} {q p : Nat} {r : BreakS} {s : BrS} {un : Int} {v : Value} {L : List Bk3} (h : R14At w q p r s un v L) (at_ : Int) (hE : lookW s.la at_ = 0) :
    Calls Try.prog 51 #[.pointer (some ⟨q, 0, none⟩), .int .i64 at_] w fun e w' => e = .returned (.tuple #[ctV (winC r.win 1 at_ s.notes), .int .i64 0]) ∧ Below w.heap.size w w' := by
  have hB : Below w.heap.size w (w.alloc (.cells #[.int .i64 0, .int .i64 0, .int .i64 0, .int .i64 0, .int .i64 0, .int .i64 0] 71)) := (Below.refl _ _).alloc (Nat.le_refl _) _
  have HL := Lib.hid (r14wrong_any (h.below hB).cells at_ 0)
  have HS := Lib.hid (r3wsum_any (h.below hB).win at_ (look_wl hE h.wl))
  have d7 := (h.below hB).cells.c7
  have HNW := Lib.hid (show (w.alloc (.cells #[.int .i64 0, .int .i64 0, .int .i64 0, .int .i64 0, .int .i64 0, .int .i64 0] 71)).heap[w.heap.size]? = some (ctO .zero 71) from (get_allocW w _ w.heap.size).trans (if_pos rfl))
  have HB := Lib.hid hB
  rw [wrong14_zero, hE] at HL
  obtain ⟨C, hC⟩ : ∃ C, winC r.win 1 at_ s.notes = C := ⟨_, rfl⟩
  rw [hC] at HS ⊢
  clear h hE hB hC
  obtain ⟨N, hN⟩ : ∃ N, w.heap.size = N := ⟨_, rfl⟩
  have HN := Lib.hid hN
  obtain ⟨xp, xb, xd, xe, xr, xm⟩ := C
  unfold ctV at HS ⊢
  dsimp only at HS ⊢
  go_enter Try.func51, Try.ntmps51
  go_wp2_with (fail)
  obtain ⟨w0, hw0⟩ : ∃ w0, (w.alloc (.cells #[.int .i64 0, .int .i64 0, .int .i64 0, .int .i64 0, .int .i64 0, .int .i64 0] 71)) = w0 := ⟨_, rfl⟩
  rw [hw0] at HL HNW HB HS d7 ⊢
  rw [hN] at HNW
  clear hw0 hN
  refine HL.out.mono ?_
  rintro e wq ⟨rfl, hq⟩
  rw [hq]
  clear hq HL
  go_wp2_with (fail)
  refine HS.out.mono ?_
  rintro e w1 ⟨rfl, h1⟩
  have hn := (h1.block N ((Array.getElem?_eq_some_iff.1 HNW.out).1)).trans HNW.out
  have HB1 := Lib.hid (HB.out.trans (h1.mono HB.out.size))
  have HN2 := Lib.hid hn
  obtain ⟨⟨z0, z1, z2, z3, z4, z5⟩, zf⟩ := ct_cells (c := .zero) hn
  dsimp only [CntS.zero] at z0 z1 z2 z3 z4 z5
  clear h1 hn d7 HNW
  go_wp2_with (fail)
  refine bodyPost_ret (results_cell_tmp (P := Try.prog) rfl _ _ N 71 #[.int .i64 xp, .int .i64 xb, .int .i64 xd, .int .i64 xe, .int .i64 xr, .int .i64 xm] (0, 0) _ (.int .i64 0) (by rfl) (by rfl) ?hh Try.underlying71 rfl (by kernel_rfl)) rfl ?_
  case hh => exact sixC_same (c := .zero) HN2.out xp xb xd xe xr xm
  exact ⟨rfl, sixC_below HB1.out (by rw [HN.out]; omega) xp xb xd xe xr xm⟩
theorem r14sum_any {w : World} {q p : Nat} {r : BreakS} {s : BrS} {un : Int} {v : Value} {L : List Bk3} (h : R14At w q p r s un v L) (at_ : Int) :
    Calls Try.prog 51 #[.pointer (some ⟨q, 0, none⟩), .int .i64 at_] w fun e w' => e = .returned (.tuple #[ctV (sumS r s at_), .int .i64 (lookW s.la at_)]) ∧ Below w.heap.size w w' := by
  unfold sumS
  by_cases hE : lookW s.la at_ = 0
  · rw [if_pos hE, hE]
    exact r14sum_yes h at_ hE
  · rw [if_neg hE]
    exact r14sum_no h at_ _ rfl (by simpa using hE)
end Go.Proofs.Ytlipbkpbflgamaa

/- The reference's breaker: Done. -/
namespace Go.Proofs.Ytlipbkpbflgamaa
open Go.RowKit
set_option linter.unusedVariables false
set_option linter.unusedSimpArgs false

/-- Each note is one call's end. -/
def OneL (l : List NoteW) : Prop := ∀ x, x ∈ l → ∃ B, x.c = endC B
theorem OneL.right {l : List NoteW} (h : OneL l) : RightL l := fun x hx => by obtain ⟨B, e⟩ := h x hx; rw [e]; exact endC_right B
theorem OneL.one {l : List NoteW} (h : OneL l) {x : NoteW} (hx : x ∈ l) : x.c.d = 1 := by obtain ⟨B, e⟩ := h x hx; rw [e]; rfl
theorem oneL_snoc {l : List NoteW} (h : OneL l) (at_ : Int) (B : Bool) : OneL (l ++ newW at_ [endC B]) := by
  intro x hx
  rcases List.mem_append.1 hx with hx | hx
  · exact h x hx
  · obtain rfl : x = ⟨at_, endC B⟩ := by simpa [newW] using hx
    exact ⟨B, rfl⟩
theorem sumW_d (P : NoteW → Bool) : ∀ {l : List NoteW}, OneL l → (sumW P l).d ≤ l.length
  | [], _ => by show (0 : Int) ≤ 0; omega
  | x :: l, h => by
    have ih := sumW_d P (l := l) (fun y hy => h y (by simp [hy]))
    have hx := OneL.one h (x := x) (by simp)
    rw [sumW]
    show (if P x then rawOf x.c else RawC.zero).d + (sumW P l).d ≤ _
    have : (if P x then rawOf x.c else RawC.zero).d ≤ 1 := by
      split
      · show x.c.d ≤ 1; omega
      · show (0 : Int) ≤ 1; omega
    rw [List.length_cons]
    push_cast
    omega
theorem winC_d {b B at_ : Int} {l : List NoteW} (h : OneL l) (hl : l.length ≤ 1125899906842624) : (winC b B at_ l).d ≤ 1125899906842624 := by
  have h1 := sumW_d (fun x => decide (at_ / b - B < x.at_ / b)) h
  show capW _ ≤ _
  unfold capW
  split <;> omega
theorem wrong14_E {s : BrS} {at_ rt : Int} {probe : Bool} : bdoneE s at_ rt probe = if wrong14 s.la at_ rt ≠ 0 then wrong14 s.la at_ rt else if probe = true ∧ s.st ≠ 3 then 4 else 0 := by
  unfold bdoneE wrong14 lookW isT
  by_cases h0 : at_ < 0 ∨ 1152921504606846976 < at_
  · rw [if_pos h0, if_pos (Or.inl rfl)]
    have h1 : (decide (0 ≤ at_) && decide (at_ ≤ 1152921504606846976)) = false := by simp; omega
    rw [h1, if_pos (Or.inl rfl), if_pos (by decide)]
  · rw [if_neg h0]
    have h1 : (decide (0 ≤ at_) && decide (at_ ≤ 1152921504606846976)) = true := by simp; omega
    rw [h1]
    cases hr : (decide (0 ≤ rt) && decide (rt ≤ 1152921504606846976)) with
    | false => rw [if_pos (Or.inr rfl), if_pos (Or.inr rfl), if_pos (by decide)]
    | true =>
      by_cases h2 : at_ < s.la
      · simp [h2]
      · simp [h2]
structure R14Done (w : World) (q p : Nat) (r : BreakS) (s : BrS) (v : Value) (at_ rt : Int) (failed probe : Bool) (e : Ending) (w' : World) : Prop where
  e : e = .returned (.int .i64 (bdoneE s at_ rt probe))
  at' : ∃ p' un' v' L', R14At w' q p' r (bdoneS r s at_ rt failed probe) un' v' L' ∧ Off (R14Own q p v) w w' ∧ (∀ i, R14Own q p' v' i → R14Own q p v i ∨ w.heap.size ≤ i)
theorem R14Done.no {w : World} {q p : Nat} {r : BreakS} {s : BrS} {un : Int} {v : Value} {L : List Bk3} {at_ rt : Int} {failed probe : Bool} {e : Ending} (h : R14At w q p r s un v L) {x : Int} (hE : bdoneE s at_ rt probe = x) (hx : x ≠ 0) (he : e = .returned (.int .i64 x)) : R14Done w q p r s v at_ rt failed probe e w :=
  ⟨by rw [hE]; exact he, p, un, v, L, by unfold bdoneS; rw [if_neg (by rw [hE]; exact hx)]; exact h, Off.ofBelow (Below.refl _ _), fun i hi => Or.inl hi⟩
/-- Nothing of its own but its head is written. -/
theorem R14Done.keep {w w' : World} {q p : Nat} {r : BreakS} {s : BrS} {un' : Int} {v : Value} {L : List Bk3} {at_ rt : Int} {failed probe : Bool} {e : Ending} (h : R14At w' q p r (bdoneS r s at_ rt failed probe) un' v L) (hE : bdoneE s at_ rt probe = 0) (ho : Off (fun i => i = q) w w') (he : e = .returned (.int .i64 0)) : R14Done w q p r s v at_ rt failed probe e w' :=
  ⟨by rw [hE]; exact he, p, un', v, L, h, ho.mono (fun i _ h => Or.inl h), fun i hi => Or.inl hi⟩
theorem off_q14 {q p : Nat} {v : Value} {w w' : World} (h : Off (fun i => i = q) w w') : Off (R14Own q p v) w w' := h.mono (fun i _ h => Or.inl h)
set_option maxHeartbeats 3200000 in
theorem r14done_err {w : World} {q p : Nat} {r : BreakS} {s : BrS} {un : Int} {v : Value} {L : List Bk3} (h : R14At w q p r s un v L) (at_ rt : Int) (failed probe : Bool) (hE : wrong14 s.la at_ rt ≠ 0) :
    Calls Try.prog 21 #[.pointer (some ⟨q, 0, none⟩), .int .i64 at_, .int .i64 rt, .bool failed, .bool probe] w (R14Done w q p r s v at_ rt failed probe) := by
  have HL := Lib.hid (r14wrong_any h.cells at_ rt)
  have HE := Lib.hid (show bdoneE s at_ rt probe = wrong14 s.la at_ rt by rw [wrong14_E, if_pos hE])
  have HH := Lib.hid h
  have HN := Lib.hid hE
  obtain ⟨E, hEE⟩ : ∃ E, wrong14 s.la at_ rt = E := ⟨_, rfl⟩
  rw [hEE] at HL HE HN
  have hne : (E != 0) = true := by simpa using HN.out
  clear h hE hEE
  go_enter Try.func21, Try.ntmps21
  go_wp2_with (fail)
  refine HL.out.mono ?_
  rintro e wq ⟨rfl, hq⟩
  have hq := hq.symm
  subst hq
  go_wp2_with (fail)
  go_ret
  exact R14Done.no HH.out HE.out HN.out rfl
set_option maxHeartbeats 3200000 in
theorem r14done_not {w : World} {q p : Nat} {r : BreakS} {s : BrS} {un : Int} {v : Value} {L : List Bk3} (h : R14At w q p r s un v L) (at_ rt : Int) (failed : Bool) (hE : wrong14 s.la at_ rt = 0) (hst : s.st ≠ 3) :
    Calls Try.prog 21 #[.pointer (some ⟨q, 0, none⟩), .int .i64 at_, .int .i64 rt, .bool failed, .bool true] w (R14Done w q p r s v at_ rt failed true) := by
  have HL := Lib.hid (r14wrong_any h.cells at_ rt)
  have HE := Lib.hid (show bdoneE s at_ rt true = 4 by rw [wrong14_E, if_neg (by rw [hE]; simp), if_pos ⟨rfl, hst⟩])
  have HH := Lib.hid h
  rw [hE] at HL
  have c8 := h.cells.c8
  have hne : (s.st != 3) = true := by simpa using hst
  clear h hE hst
  generalize hT : s.st = T at c8 hne
  clear hT
  go_enter Try.func21, Try.ntmps21
  go_wp2_with (fail)
  refine HL.out.mono ?_
  rintro e wq ⟨rfl, hq⟩
  have hq := hq.symm
  subst hq
  go_wp2_with (fail)
  go_ret
  exact R14Done.no HH.out HE.out (by decide) rfl
set_option maxHeartbeats 6400000 in
set_option maxRecDepth 100000 in
theorem r14done_pbad {w : World} {q p : Nat} {r : BreakS} {s : BrS} {un : Int} {v : Value} {L : List Bk3} (h : R14At w q p r s un v L) (ok : BreakOk r) (at_ rt : Int) (failed : Bool) (hE : wrong14 s.la at_ rt = 0) (hst : s.st = 3) (hB : badB r rt failed = true) :
    Calls Try.prog 21 #[.pointer (some ⟨q, 0, none⟩), .int .i64 at_, .int .i64 rt, .bool failed, .bool true] w (R14Done w q p r s v at_ rt failed true) := by
  have HL := Lib.hid (r14wrong_any h.cells at_ rt)
  have HH := Lib.hid h
  rw [hE] at HL
  have ha : 0 ≤ at_ ∧ at_ ≤ 1152921504606846976 ∧ s.la ≤ at_ := by
    unfold wrong14 isT at hE
    split at hE
    · omega
    · rename_i hn
      split at hE
      · omega
      · simp only [not_or, Bool.not_eq_false, Bool.and_eq_true, decide_eq_true_eq] at hn
        omega
  obtain ⟨a0, a1, a2⟩ := ha
  have h1 := h.set (s' := { s with la := at_ }) (un' := un) 11 (.int .i64 at_) rfl rfl rfl h.un_ (by have := h.wl; show s.wl ≤ at_; omega) a0 a1
  have HO1 := Lib.hid ((Off.ofBelow (S := fun i => i = q) (Below.refl _ w)).setCell (p := ⟨q, 11, none⟩) (fun _ => rfl) (.int .i64 at_))
  have HH1 := Lib.hid h1
  have c8 := h.cells.c8
  have c11 := h.cells.c11
  have f11 := r14_frozen h 11
  have d8 := h1.cells.c8
  have HBAD := Lib.hid (r14bad_any h1.cells rt failed)
  have HA := Lib.hid (And.intro a0 (And.intro a1 a2))
  have HC := Lib.hid (show bdoneE s at_ rt true = 0 by rw [wrong14_E, if_neg (by rw [hE]; simp), if_neg (by simp [hst])])
  have HBB := Lib.hid hB
  rw [hB] at HBAD
  rw [hst] at c8
  have HOP := Lib.hid (r14trip_any h1 ok at_ a0 a1)
  clear h h1 hE hB hst a0 a1 a2 d8
  go_enter Try.func21, Try.ntmps21
  go_wp2_with (fail)
  refine HL.out.mono ?_
  rintro e wq ⟨rfl, hq⟩
  have hq := hq.symm
  subst hq
  go_wp2_with (fail)
  refine HBAD.out.mono ?_
  rintro e wq ⟨rfl, hq⟩
  subst hq
  go_wp2_with (fail)
  refine HOP.out.mono ?_
  rintro e w2 ⟨rfl, hh2, ho2⟩
  have HH2 := Lib.hid hh2
  have HO2 := Lib.hid ho2
  clear hh2 ho2
  go_wp2_with (fail)
  go_ret
  exact R14Done.keep (by unfold bdoneS; rw [if_pos HC.out, if_pos rfl, if_pos HBB.out]; exact HH2.out) HC.out (HO1.out.trans HO2.out (fun _ _ h => h)) rfl
set_option maxHeartbeats 6400000 in
set_option maxRecDepth 100000 in
theorem r14done_pgood {w : World} {q p : Nat} {r : BreakS} {s : BrS} {un : Int} {v : Value} {L : List Bk3} (h : R14At w q p r s un v L) (ok : BreakOk r) (at_ rt : Int) (failed : Bool) (hE : wrong14 s.la at_ rt = 0) (hst : s.st = 3) (hB : badB r rt failed = false) :
    Calls Try.prog 21 #[.pointer (some ⟨q, 0, none⟩), .int .i64 at_, .int .i64 rt, .bool failed, .bool true] w (R14Done w q p r s v at_ rt failed true) := by
  have HL := Lib.hid (r14wrong_any h.cells at_ rt)
  have HH := Lib.hid h
  rw [hE] at HL
  have ha : 0 ≤ at_ ∧ at_ ≤ 1152921504606846976 ∧ s.la ≤ at_ := by
    unfold wrong14 isT at hE
    split at hE
    · omega
    · rename_i hn
      split at hE
      · omega
      · simp only [not_or, Bool.not_eq_false, Bool.and_eq_true, decide_eq_true_eq] at hn
        omega
  obtain ⟨a0, a1, a2⟩ := ha
  have h1 := h.set (s' := { s with la := at_ }) (un' := un) 11 (.int .i64 at_) rfl rfl rfl h.un_ (by have := h.wl; show s.wl ≤ at_; omega) a0 a1
  have HO1 := Lib.hid ((Off.ofBelow (S := fun i => i = q) (Below.refl _ w)).setCell (p := ⟨q, 11, none⟩) (fun _ => rfl) (.int .i64 at_))
  have HH1 := Lib.hid h1
  have c8 := h.cells.c8
  have c11 := h.cells.c11
  have f11 := r14_frozen h 11
  have d8 := h1.cells.c8
  have HBAD := Lib.hid (r14bad_any h1.cells rt failed)
  have HA := Lib.hid (And.intro a0 (And.intro a1 a2))
  have HC := Lib.hid (show bdoneE s at_ rt true = 0 by rw [wrong14_E, if_neg (by rw [hE]; simp), if_neg (by simp [hst])])
  have HBB := Lib.hid hB
  rw [hB] at HBAD
  rw [hst] at c8
  have h2 := h1.set (s' := { s with la := at_, st := 1 }) (un' := un) 8 (.int .i64 1) rfl rfl rfl (fun e => absurd rfl e) h1.wl a0 a1
  have HO2 := Lib.hid (HO1.out.setCell (p := ⟨q, 8, none⟩) (fun _ => rfl) (.int .i64 1))
  have h3 := h2.set (s' := { s with la := at_, st := 1 }) (un' := 0) 9 (.int .i64 0) rfl rfl rfl (fun e => absurd rfl e) h1.wl a0 a1
  have HO3 := Lib.hid (HO2.out.setCell (p := ⟨q, 9, none⟩) (fun _ => rfl) (.int .i64 0))
  have f8 := r14_frozen h1 8
  have d9 := h2.cells.c9
  have f9 := r14_frozen h2 9
  have d5 := h3.cells.c5
  have HH3 := Lib.hid h3
  have HNW := Lib.hid (r3new_any r.win ok.w0 ok.w1 (((w.setCell ⟨q, 11, none⟩ (.int .i64 at_)).setCell ⟨q, 8, none⟩ (.int .i64 1)).setCell ⟨q, 9, none⟩ (.int .i64 0)))
  have HMD := Lib.hid (r3_made (((w.setCell ⟨q, 11, none⟩ (.int .i64 at_)).setCell ⟨q, 8, none⟩ (.int .i64 1)).setCell ⟨q, 9, none⟩ (.int .i64 0)) ok.w0 ok.w1)
  clear h h1 h2 h3 hE hB hst a0 a1 a2
  go_enter Try.func21, Try.ntmps21
  go_wp2_with (fail)
  refine HL.out.mono ?_
  rintro e wq ⟨rfl, hq⟩
  have hq := hq.symm
  subst hq
  go_wp2_with (fail)
  refine HBAD.out.mono ?_
  rintro e wq ⟨rfl, hq⟩
  subst hq
  go_wp2_with (fail)
  refine HNW.out.mono ?_
  rintro e wq ⟨rfl, hq⟩
  obtain ⟨w3, hw3⟩ : ∃ w3, (((w.setCell ⟨q, 11, none⟩ (.int .i64 at_)).setCell ⟨q, 8, none⟩ (.int .i64 1)).setCell ⟨q, 9, none⟩ (.int .i64 0)) = w3 := ⟨_, rfl⟩
  rw [hw3] at HO3 HH3 HMD hq ⊢
  clear hw3 HNW d5 f9 d9
  have hR := HMD.out.1
  have hB4 := HMD.out.2
  rw [← hq] at hR hB4
  have HR4 := Lib.hid hR
  have HB4 := Lib.hid hB4
  have h4 := HH3.out.below hB4
  have d7 := h4.cells.c7
  have f7 := r14_frozen h4 7
  have HQ4 := Lib.hid h4.head
  have HQL := Lib.hid (HH3.out.lt (Or.inl rfl))
  obtain ⟨Z, hZ⟩ : ∃ Z, w3.heap.size = Z := ⟨_, rfl⟩
  have HZ := Lib.hid hZ
  rw [hZ] at HR4 HQL ⊢
  clear hR hB4 h4 hq hZ
  go_wp2_with (fail)
  go_ret
  have hqz : q ≠ Z := by have := HQL.out; omega
  refine ⟨by rw [HC.out]; rfl, Z, 0, .slice none 0 0, [], ?_, ?_, ?_⟩
  · unfold bdoneS
    rw [if_pos HC.out, if_pos rfl, if_neg (by rw [HBB.out]; simp)]
    refine ⟨?_, HR4.out.kept (fun i hi => heap_setCell_other _ ⟨q, 7, none⟩ i _ (fun e => ?_)), hqz, by simp [Value.ownBlock], fun e => absurd rfl e, HA.out.1, HA.out.1, HA.out.2.1⟩
    · rw [heap_setCell_same _ q 7 _ _ _ HQ4.out]; rfl
    · have e : i = q := e
      rcases hi with rfl | hi
      · exact hqz e.symm
      · simp [Value.ownBlock] at hi
  · exact off_q14 ((HO3.out.trans (Off.ofBelow (S := fun i => i = q) HB4.out) (fun _ _ h => h)).setCell (p := ⟨q, 7, none⟩) (fun _ => rfl) _)
  · intro i hi
    rcases hi with rfl | rfl | hi
    · exact Or.inl (Or.inl rfl)
    · exact Or.inr (by have := HO3.out.size; have := HZ.out; omega)
    · simp [Value.ownBlock] at hi
set_option maxHeartbeats 6400000 in
set_option maxRecDepth 100000 in
theorem r14done_off {w : World} {q p : Nat} {r : BreakS} {s : BrS} {un : Int} {v : Value} {L : List Bk3} (h : R14At w q p r s un v L) (ok : BreakOk r) (at_ rt : Int) (failed : Bool) (hE : wrong14 s.la at_ rt = 0) (hst : s.st ≠ 1) :
    Calls Try.prog 21 #[.pointer (some ⟨q, 0, none⟩), .int .i64 at_, .int .i64 rt, .bool failed, .bool false] w (R14Done w q p r s v at_ rt failed false) := by
  have HL := Lib.hid (r14wrong_any h.cells at_ rt)
  have HH := Lib.hid h
  rw [hE] at HL
  have ha : 0 ≤ at_ ∧ at_ ≤ 1152921504606846976 ∧ s.la ≤ at_ := by
    unfold wrong14 isT at hE
    split at hE
    · omega
    · rename_i hn
      split at hE
      · omega
      · simp only [not_or, Bool.not_eq_false, Bool.and_eq_true, decide_eq_true_eq] at hn
        omega
  obtain ⟨a0, a1, a2⟩ := ha
  have h1 := h.set (s' := { s with la := at_ }) (un' := un) 11 (.int .i64 at_) rfl rfl rfl h.un_ (by have := h.wl; show s.wl ≤ at_; omega) a0 a1
  have HO1 := Lib.hid ((Off.ofBelow (S := fun i => i = q) (Below.refl _ w)).setCell (p := ⟨q, 11, none⟩) (fun _ => rfl) (.int .i64 at_))
  have HH1 := Lib.hid h1
  have c8 := h.cells.c8
  have c11 := h.cells.c11
  have f11 := r14_frozen h 11
  have d8 := h1.cells.c8
  have HBAD := Lib.hid (r14bad_any h1.cells rt failed)
  have HA := Lib.hid (And.intro a0 (And.intro a1 a2))
  have HC := Lib.hid (show bdoneE s at_ rt false = 0 by rw [wrong14_E, if_neg (by rw [hE]; simp), if_neg (by simp)])
  obtain ⟨B, hB⟩ : ∃ B, badB r rt failed = B := ⟨_, rfl⟩
  rw [hB] at HBAD
  have HST := Lib.hid hst
  have hne : (s.st == 1) = false := by simpa using hst
  dsimp only at d8
  clear h h1 hE hB hst a0 a1 a2
  generalize hT : s.st = T at c8 d8 hne
  clear hT
  go_enter Try.func21, Try.ntmps21
  go_wp2_with (fail)
  refine HL.out.mono ?_
  rintro e wq ⟨rfl, hq⟩
  have hq := hq.symm
  subst hq
  go_wp2_with (fail)
  refine HBAD.out.mono ?_
  rintro e wq ⟨rfl, hq⟩
  subst hq
  go_wp2_with (fail)
  all_goals
    go_wp2_with (fail)
    go_ret
    exact R14Done.keep (by unfold bdoneS; rw [if_pos HC.out, if_neg (by simp), if_neg HST.out]; exact HH1.out) HC.out HO1.out rfl
end Go.Proofs.Ytlipbkpbflgamaa

/- The reference's breaker: Done of a closed one. -/
namespace Go.Proofs.Ytlipbkpbflgamaa
open Go.RowKit
set_option linter.unusedVariables false
set_option linter.unusedSimpArgs false

set_option maxHeartbeats 6400000 in
set_option maxRecDepth 100000 in
theorem r14done_true {w : World} {q p : Nat} {r : BreakS} {s : BrS} {un : Int} {v : Value} {L : List Bk3} (h : R14At w q p r s un v L) (ok : BreakOk r) (at_ rt : Int) (failed : Bool) (hE : wrong14 s.la at_ rt = 0) (hst : s.st = 1) (hB : badB r rt failed = true) (hone : OneL s.notes) (hlen : s.notes.length < 1125899906842624) :
    Calls Try.prog 21 #[.pointer (some ⟨q, 0, none⟩), .int .i64 at_, .int .i64 rt, .bool failed, .bool false] w (R14Done w q p r s v at_ rt failed false) := by
  have HL := Lib.hid (r14wrong_any h.cells at_ rt)
  have HH := Lib.hid h
  rw [hE] at HL
  have ha : 0 ≤ at_ ∧ at_ ≤ 1152921504606846976 ∧ s.la ≤ at_ := by
    unfold wrong14 isT at hE
    split at hE
    · omega
    · rename_i hn
      split at hE
      · omega
      · simp only [not_or, Bool.not_eq_false, Bool.and_eq_true, decide_eq_true_eq] at hn
        omega
  obtain ⟨a0, a1, a2⟩ := ha
  have h1 := h.set (s' := { s with la := at_ }) (un' := un) 11 (.int .i64 at_) rfl rfl rfl h.un_ (by have := h.wl; show s.wl ≤ at_; omega) a0 a1
  have HO1 := Lib.hid ((Off.ofBelow (S := fun i => i = q) (Below.refl _ w)).setCell (p := ⟨q, 11, none⟩) (fun _ => rfl) (.int .i64 at_))
  have HH1 := Lib.hid h1
  have c8 := h.cells.c8
  have c11 := h.cells.c11
  have f11 := r14_frozen h 11
  have d8 := h1.cells.c8
  have HBAD := Lib.hid (r14bad_any h1.cells rt failed)
  have HA := Lib.hid (And.intro a0 (And.intro a1 a2))
  have HC := Lib.hid (show bdoneE s at_ rt false = 0 by rw [wrong14_E, if_neg (by rw [hE]; simp), if_neg (by simp)])
  have HBB := Lib.hid hB
  rw [hB] at HBAD
  have HST := Lib.hid hst
  rw [hst] at c8
  dsimp only at d8
  rw [hst] at d8
  have d7 := h1.cells.c7
  have HWL := Lib.hid (show lookW s.wl at_ = 0 by have h8 := h.wl; unfold lookW; rw [if_neg (by omega), if_neg (by omega)])
  have HLA := Lib.hid (show lookW at_ at_ = 0 by unfold lookW; rw [if_neg (by omega), if_neg (by omega)])
  have HD := Lib.hid (winC_d (b := r.win) (B := 1) (at_ := at_) (oneL_snoc hone at_ true) (by rw [List.length_append]; show s.notes.length + 1 ≤ _; omega))
  have HRL := Lib.hid (oneL_snoc hone at_ true).right
  have hsz1 : (w.setCell ⟨q, 11, none⟩ (.int .i64 at_)).heap.size = w.heap.size := by simp [World.setCell]
  have HNEW := Lib.hid (show ((w.setCell ⟨q, 11, none⟩ (.int .i64 at_)).alloc (.cells #[.int .i64 0, .int .i64 0, .int .i64 1, .int .i64 1, .int .i64 0, .int .i64 0] 71)).heap[w.heap.size]? = some (.cells #[.int .i64 0, .int .i64 0, .int .i64 1, .int .i64 1, .int .i64 0, .int .i64 0] 71) by rw [← hsz1]; exact (get_allocW _ _ _).trans (if_pos rfl))
  have HBEL := Lib.hid (show Below (w.setCell ⟨q, 11, none⟩ (.int .i64 at_)).heap.size (w.setCell ⟨q, 11, none⟩ (.int .i64 at_)) ((w.setCell ⟨q, 11, none⟩ (.int .i64 at_)).alloc (.cells #[.int .i64 0, .int .i64 0, .int .i64 1, .int .i64 1, .int .i64 0, .int .i64 0] 71)) from (Below.refl _ _).alloc (Nat.le_refl _) _)
  have HSZ := Lib.hid (show ((w.setCell ⟨q, 11, none⟩ (.int .i64 at_)).alloc (.cells #[.int .i64 0, .int .i64 0, .int .i64 1, .int .i64 1, .int .i64 0, .int .i64 0] 71)).heap.size = w.heap.size + 1 by simp [World.setCell])
  have HS1 := Lib.hid hsz1
  have HOK := Lib.hid ok
  clear h h1 hE hB hst a0 a1 a2 hsz1 ok
  go_enter Try.func21, Try.ntmps21
  go_wp2_with (fail)
  refine HL.out.mono ?_
  rintro e wq ⟨rfl, hq⟩
  have hq := hq.symm
  subst hq
  go_wp2_with (fail)
  refine HBAD.out.mono ?_
  rintro e wq ⟨rfl, hq⟩
  subst hq
  go_wp2_with (fail)
  obtain ⟨w3, hw3⟩ : ∃ w3, ((w.setCell ⟨q, 11, none⟩ (.int .i64 at_)).alloc (.cells #[.int .i64 0, .int .i64 0, .int .i64 1, .int .i64 1, .int .i64 0, .int .i64 0] 71)) = w3 := ⟨_, rfl⟩
  rw [hw3] at HNEW HBEL HSZ ⊢
  clear hw3
  obtain ⟨w1, hw1⟩ : ∃ w1, (w.setCell ⟨q, 11, none⟩ (.int .i64 at_)) = w1 := ⟨_, rfl⟩
  rw [hw1] at HBEL HS1 HH1 HO1 d7
  clear hw1
  have HW3 := Lib.hid (HH1.out.win.below HBEL.out)
  have HP3 := Lib.hid ((HBEL.out.cell (p := ⟨q, 7, none⟩) (HH1.out.lt (Or.inl rfl))).trans d7)
  have HSB := Lib.hid (show ∀ wx, Off (R3Own p v) w3 wx → (fun wx => Off (R3Own p v) w3 wx ∧ wx.cell? ⟨q, 7, none⟩ = some (.pointer (some ⟨p, 0, none⟩)) ∧ wx.cell? ⟨w.heap.size, 0, none⟩ = some (.int .i64 0) ∧ wx.cell? ⟨w.heap.size, 1, none⟩ = some (.int .i64 0) ∧ wx.cell? ⟨w.heap.size, 2, none⟩ = some (.int .i64 1) ∧ wx.cell? ⟨w.heap.size, 3, none⟩ = some (.int .i64 1) ∧ wx.cell? ⟨w.heap.size, 4, none⟩ = some (.int .i64 0) ∧ wx.cell? ⟨w.heap.size, 5, none⟩ = some (.int .i64 0)) wx from fun wx hb => by
    have hlp := HH1.out.win.lt (i := w.heap.size)
    have hlq := HH1.out.lt (i := q) (Or.inl rfl)
    rw [HS1.out] at hlp hlq
    have hz := HSZ.out
    obtain ⟨⟨y0, y1, y2, y3, y4, y5⟩, yf⟩ := ct_cells (c := ⟨0, 0, 1, 1, 0, 0⟩) ((hb.block w.heap.size (by omega) (fun h => by have := hlp h; omega)).trans HNEW.out)
    exact ⟨hb, (World.cell?_of_block (a := ⟨q, 7, none⟩) (hb.block q (by omega) (fun h => by rcases h with h | h; exact HH1.out.qp h; exact HH1.out.qv h))).trans HP3.out, y0, y1, y2, y3, y4, y5⟩)
  have HADD := Lib.hid (fun (wx : World) (hb : Below w3.heap.size w3 wx) => r3add_any ((HW3.out.below hb).below ((Below.refl wx.heap.size wx).alloc (Nat.le_refl _) (ctO (endC true) 71))) at_ HWL.out (endC true) (endC_right _) (by show (1 : Int) ≤ 1; omega) wx.heap.size 0 1 (by
    have h1 := HW3.out.lt (Or.inl rfl)
    have h2 := hb.size
    omega) (cts_one (w := wx) (endC true)))
  unfold ctO endC at HADD
  simp only [if_true, Bool.false_eq_true, if_false] at HADD
  clear d7 d8 c8 c11
  refine wp_region_noPanic ?_
  refine wp_region_held_drew (S := fun wx => Off (R3Own p v) w3 wx ∧ wx.cell? ⟨q, 7, none⟩ = some (.pointer (some ⟨p, 0, none⟩)) ∧ wx.cell? ⟨w.heap.size, 0, none⟩ = some (.int .i64 0) ∧ wx.cell? ⟨w.heap.size, 1, none⟩ = some (.int .i64 0) ∧ wx.cell? ⟨w.heap.size, 2, none⟩ = some (.int .i64 1) ∧ wx.cell? ⟨w.heap.size, 3, none⟩ = some (.int .i64 1) ∧ wx.cell? ⟨w.heap.size, 4, none⟩ = some (.int .i64 0) ∧ wx.cell? ⟨w.heap.size, 5, none⟩ = some (.int .i64 0)) (by kernel_rfl) ?_ (fun hHeld => ?_)
  · exact HSB.out _ (Off.ofBelow (Below.refl _ _).drew)
  refine wpAnyH_take (i := 0) (v := ?_) rfl (by kernel_rfl) (by kernel_rfl) (by kernel_rfl) (fun _ _ _ h => h) (Or.inl ⟨by rfl, ?hy⟩) (by assumption) ?_
  case hy => intro w hSw; (try dsimp only at hSw); go_simp; try with_reducible rfl
  try simp only [Act.put, List.getElem_toArray, List.getElem_cons_succ, List.getElem_cons_zero, List.setIfInBounds_toArray, List.set_cons_zero, List.set_cons_succ]
  refine wpAnyH_take (i := 1) (v := ?_) rfl (by kernel_rfl) (by kernel_rfl) (by kernel_rfl) (fun _ _ _ h => h) (Or.inl ⟨by rfl, ?hy⟩) (by assumption) ?_
  case hy => intro w hSw; (try dsimp only at hSw); go_simp; try with_reducible rfl
  try simp only [Act.put, List.getElem_toArray, List.getElem_cons_succ, List.getElem_cons_zero, List.setIfInBounds_toArray, List.set_cons_zero, List.set_cons_succ]
  refine wpAnyH_take (i := 2) (v := ?_) rfl (by kernel_rfl) (by kernel_rfl) (by kernel_rfl) (fun _ _ _ h => h) (Or.inl ⟨by rfl, ?hy⟩) (by assumption) ?_
  case hy => intro w hSw; (try dsimp only at hSw); go_simp; try with_reducible rfl
  try simp only [Act.put, List.getElem_toArray, List.getElem_cons_succ, List.getElem_cons_zero, List.setIfInBounds_toArray, List.set_cons_zero, List.set_cons_succ]
  refine wpAnyH_take (i := 3) (v := ?_) rfl (by kernel_rfl) (by kernel_rfl) (by kernel_rfl) (fun _ _ _ h => h) (Or.inl ⟨by rfl, ?hy⟩) (by assumption) ?_
  case hy => intro w hSw; (try dsimp only at hSw); go_simp; try with_reducible rfl
  try simp only [Act.put, List.getElem_toArray, List.getElem_cons_succ, List.getElem_cons_zero, List.setIfInBounds_toArray, List.set_cons_zero, List.set_cons_succ]
  refine wpAnyH_take (i := 4) (v := ?_) rfl (by kernel_rfl) (by kernel_rfl) (by kernel_rfl) (fun _ _ _ h => h) (Or.inl ⟨by rfl, ?hy⟩) (by assumption) ?_
  case hy => intro w hSw; (try dsimp only at hSw); go_simp; try with_reducible rfl
  try simp only [Act.put, List.getElem_toArray, List.getElem_cons_succ, List.getElem_cons_zero, List.setIfInBounds_toArray, List.set_cons_zero, List.set_cons_succ]
  refine wpAnyH_take (i := 5) (v := ?_) rfl (by kernel_rfl) (by kernel_rfl) (by kernel_rfl) (fun _ _ _ h => h) (Or.inl ⟨by rfl, ?hy⟩) (by assumption) ?_
  case hy => intro w hSw; (try dsimp only at hSw); go_simp; try with_reducible rfl
  try simp only [Act.put, List.getElem_toArray, List.getElem_cons_succ, List.getElem_cons_zero, List.setIfInBounds_toArray, List.set_cons_zero, List.set_cons_succ]
  refine wpAnyH_ready (rs := [6]) (by kernel_rfl) (by simp) (AllReadyH.cons rfl (fun K hK => ?_) AllReadyH.nil)
  go_simp
  have HD3 := Lib.hid (show Below w3.heap.size w3 w3.drew from (Below.refl _ _).drew)
  try (go_wp2_with fail)
  refine hK.out _ _ ?_ (fun hHeld => ?_)
  · exact HSB.out _ (Off.ofBelow (HD3.out.alloc HD3.out.size _))
  clear hK K
  try simp only [Act.put, List.getElem_toArray, List.getElem_cons_succ, List.getElem_cons_zero, List.setIfInBounds_toArray, List.set_cons_zero, List.set_cons_succ]
  refine wpAnyH_ready (rs := [7]) (by kernel_rfl) (by simp) (AllReadyH.cons rfl (fun K hK => ?_) AllReadyH.nil)
  go_simp
  refine (HADD.out _ HD3.out).mono ?_
  intro e w5 hadd
  obtain ⟨rfl, v5, hw5, ho5, hown5⟩ := hadd
  have hoo : Off (R3Own p v) w3 w5 := (Off.ofBelow (S := R3Own p v) (HD3.out.alloc HD3.out.size _)).trans ho5 (fun _ _ h => h)
  have HW5 := Lib.hid hw5
  have HB5 := Lib.hid hoo
  have HO5 := Lib.hid (show Off (R14Own q p v) w w5 from ((off_q14 HO1.out).trans (Off.ofBelow (S := R14Own q p v) HBEL.out) (fun _ _ h => h)).trans (hoo.mono (S' := R14Own q p v) (fun i _ h => Or.inr h)) (fun _ _ h => h))
  have HN5 := Lib.hid (show ∀ i, R14Own q p v5 i → R14Own q p v i ∨ w.heap.size ≤ i from fun i hi => by
    rcases hi with rfl | hi
    · exact Or.inl (Or.inl rfl)
    · rcases hown5 i hi with h | h
      · exact Or.inl (Or.inr h)
      · exact Or.inr (by have h1 := HSZ.out; have h2 := (HD3.out.alloc HD3.out.size (.cells #[.int .i64 0, .int .i64 0, .int .i64 1, .int .i64 1, .int .i64 0, .int .i64 0] 71)).size; simp only [World.size_alloc] at h h2; have h3 := HD3.out.size; omega))
  have HAT5 := Lib.hid (show R14At w5 q p r (addS s at_ true) un v5 _ from ⟨(hoo.block q (by have := HH1.out.lt (i := q) (Or.inl rfl); rw [HS1.out] at this; rw [HSZ.out]; omega) (fun h => by rcases h with h | h; exact HH1.out.qp h; exact HH1.out.qv h)).trans ((HBEL.out.block q (HH1.out.lt (Or.inl rfl))).trans HH1.out.head), hw5, HH1.out.qp, (fun e => by
      rcases hown5 q (Or.inr e) with h | h
      · rcases h with h | h
        · exact HH1.out.qp h
        · exact HH1.out.qv h
      · have h1 := HH.out.lt (i := q) (Or.inl rfl)
        have h2 := HSZ.out
        have h3 := HD3.out.size
        simp only [World.size_alloc] at h
        omega), (fun e => absurd HST.out e), Int.le_refl _, HA.out.1, HA.out.2.1⟩)
  clear hw5 ho5 hoo HADD hown5
  try (go_wp2_with fail)
  refine hK.out _ _ ?_ (fun hHeld => ?_)
  · exact HSB.out _ HB5.out
  clear hK K
  try simp only [Act.put, List.getElem_toArray, List.getElem_cons_succ, List.getElem_cons_zero, List.setIfInBounds_toArray, List.set_cons_zero, List.set_cons_succ]
  refine wpAnyH_done (by kernel_rfl) ?_ _
  refine NoPanic.normal ?_
  go_wp2_with (fail)
  have HS := Lib.hid (r3wsum_any HW5.out at_ HLA.out)
  have hCR : RightC (winC r.win 1 at_ (s.notes ++ newW at_ [endC true])) := winC_right HRL.out at_
  have h7 := HAT5.out.cells.c7
  obtain ⟨C, hC⟩ : ∃ C, winC r.win 1 at_ (s.notes ++ newW at_ [endC true]) = C := ⟨_, rfl⟩
  rw [show [(⟨at_, ⟨0, 0, 1, 1, 0, 0⟩⟩ : NoteW)] = newW at_ [endC true] from rfl, hC] at HS
  rw [hC] at hCR HD
  have HCR := Lib.hid hCR
  have HCC := Lib.hid hC
  clear hC hCR
  obtain ⟨xp, xb, xd, xe, xr, xm⟩ := C
  unfold ctV at HS
  dsimp only at HS
  go_wp2_with (fail)
  refine HS.out.mono ?_
  rintro e w6 ⟨rfl, h6⟩
  have hb7 : Below w6.heap.size w6 (w6.alloc (ctO ⟨xp, xb, xd, xe, xr, xm⟩ 71)) := (Below.refl _ _).alloc (Nat.le_refl _) _
  have h7' := h6.trans (hb7.mono h6.size)
  have HAT7 := Lib.hid (HAT5.out.below h7')
  have HO7 := Lib.hid (HO5.out.trans (Off.ofBelow (S := R14Own q p v) h7') (fun _ _ h => h))
  have HOV := Lib.hid (r14trips_any HAT7.out HOK.out ⟨xp, xb, xd, xe, xr, xm⟩ HCR.out HD.out)
  obtain ⟨⟨t0, t1, t2, t3, t4, t5⟩, tf⟩ := ct_cells (c := ⟨xp, xb, xd, xe, xr, xm⟩) ((get_allocW w6 (ctO ⟨xp, xb, xd, xe, xr, xm⟩ 71) w6.heap.size).trans (if_pos rfl))
  clear hb7 h7' h6 h7 HS HAT5 HO5 tf
  unfold ctO at HAT7 HO7 HOV t0 t1 t2 t3 t4 t5
  unfold ctV at HOV
  dsimp only at HAT7 HO7 HOV t0 t1 t2 t3 t4 t5
  obtain ⟨OV, hOV⟩ : ∃ OV, overB r ⟨xp, xb, xd, xe, xr, xm⟩ = OV := ⟨_, rfl⟩
  rw [hOV] at HOV
  have HOO := Lib.hid hOV
  clear hOV
  go_wp2_with (fail)
  refine HOV.out.mono ?_
  rintro e w8 ⟨rfl, h8⟩
  have HAT8 := Lib.hid (HAT7.out.below h8)
  have HO8 := Lib.hid (HO7.out.trans (Off.ofBelow (S := R14Own q p v) h8) (fun _ _ h => h))
  clear h8 HOV HAT7 HO7 t0 t1 t2 t3 t4 t5
  cases OV with
  | true =>
    have HOP := Lib.hid (r14trip_any HAT8.out HOK.out at_ HA.out.1 HA.out.2.1)
    go_wp2_with (fail)
    refine HOP.out.mono ?_
    rintro e w9 ⟨rfl, hh9, ho9⟩
    have HH9 := Lib.hid hh9
    have HO9 := Lib.hid ho9
    clear hh9 ho9
    go_wp2_with (fail)
    go_ret
    exact ⟨by rw [HC.out]; rfl, p, _, v5, _, by unfold bdoneS; rw [if_pos HC.out, if_neg (by simp), if_pos HST.out, HBB.out, HCC.out, HOO.out, if_pos rfl]; exact HH9.out, HO8.out.trans (off_q14 HO9.out) (fun _ _ h => h), HN5.out⟩
  | false =>
    go_wp2_with (fail)
    go_ret
    exact ⟨by rw [HC.out]; rfl, p, _, v5, _, by unfold bdoneS; rw [if_pos HC.out, if_neg (by simp), if_pos HST.out, HBB.out, HCC.out, HOO.out, if_neg (by simp)]; exact HAT8.out, HO8.out, HN5.out⟩
set_option maxHeartbeats 6400000 in
set_option maxRecDepth 100000 in
theorem r14done_false {w : World} {q p : Nat} {r : BreakS} {s : BrS} {un : Int} {v : Value} {L : List Bk3} (h : R14At w q p r s un v L) (ok : BreakOk r) (at_ rt : Int) (failed : Bool) (hE : wrong14 s.la at_ rt = 0) (hst : s.st = 1) (hB : badB r rt failed = false) (hone : OneL s.notes) (hlen : s.notes.length < 1125899906842624) :
    Calls Try.prog 21 #[.pointer (some ⟨q, 0, none⟩), .int .i64 at_, .int .i64 rt, .bool failed, .bool false] w (R14Done w q p r s v at_ rt failed false) := by
  have HL := Lib.hid (r14wrong_any h.cells at_ rt)
  have HH := Lib.hid h
  rw [hE] at HL
  have ha : 0 ≤ at_ ∧ at_ ≤ 1152921504606846976 ∧ s.la ≤ at_ := by
    unfold wrong14 isT at hE
    split at hE
    · omega
    · rename_i hn
      split at hE
      · omega
      · simp only [not_or, Bool.not_eq_false, Bool.and_eq_true, decide_eq_true_eq] at hn
        omega
  obtain ⟨a0, a1, a2⟩ := ha
  have h1 := h.set (s' := { s with la := at_ }) (un' := un) 11 (.int .i64 at_) rfl rfl rfl h.un_ (by have := h.wl; show s.wl ≤ at_; omega) a0 a1
  have HO1 := Lib.hid ((Off.ofBelow (S := fun i => i = q) (Below.refl _ w)).setCell (p := ⟨q, 11, none⟩) (fun _ => rfl) (.int .i64 at_))
  have HH1 := Lib.hid h1
  have c8 := h.cells.c8
  have c11 := h.cells.c11
  have f11 := r14_frozen h 11
  have d8 := h1.cells.c8
  have HBAD := Lib.hid (r14bad_any h1.cells rt failed)
  have HA := Lib.hid (And.intro a0 (And.intro a1 a2))
  have HC := Lib.hid (show bdoneE s at_ rt false = 0 by rw [wrong14_E, if_neg (by rw [hE]; simp), if_neg (by simp)])
  have HBB := Lib.hid hB
  rw [hB] at HBAD
  have HST := Lib.hid hst
  rw [hst] at c8
  dsimp only at d8
  rw [hst] at d8
  have d7 := h1.cells.c7
  have HWL := Lib.hid (show lookW s.wl at_ = 0 by have h8 := h.wl; unfold lookW; rw [if_neg (by omega), if_neg (by omega)])
  have HLA := Lib.hid (show lookW at_ at_ = 0 by unfold lookW; rw [if_neg (by omega), if_neg (by omega)])
  have HD := Lib.hid (winC_d (b := r.win) (B := 1) (at_ := at_) (oneL_snoc hone at_ false) (by rw [List.length_append]; show s.notes.length + 1 ≤ _; omega))
  have HRL := Lib.hid (oneL_snoc hone at_ false).right
  have hsz1 : (w.setCell ⟨q, 11, none⟩ (.int .i64 at_)).heap.size = w.heap.size := by simp [World.setCell]
  have HNEW := Lib.hid (show ((w.setCell ⟨q, 11, none⟩ (.int .i64 at_)).alloc (.cells #[.int .i64 0, .int .i64 0, .int .i64 1, .int .i64 0, .int .i64 0, .int .i64 0] 71)).heap[w.heap.size]? = some (.cells #[.int .i64 0, .int .i64 0, .int .i64 1, .int .i64 0, .int .i64 0, .int .i64 0] 71) by rw [← hsz1]; exact (get_allocW _ _ _).trans (if_pos rfl))
  have HBEL := Lib.hid (show Below (w.setCell ⟨q, 11, none⟩ (.int .i64 at_)).heap.size (w.setCell ⟨q, 11, none⟩ (.int .i64 at_)) ((w.setCell ⟨q, 11, none⟩ (.int .i64 at_)).alloc (.cells #[.int .i64 0, .int .i64 0, .int .i64 1, .int .i64 0, .int .i64 0, .int .i64 0] 71)) from (Below.refl _ _).alloc (Nat.le_refl _) _)
  have HSZ := Lib.hid (show ((w.setCell ⟨q, 11, none⟩ (.int .i64 at_)).alloc (.cells #[.int .i64 0, .int .i64 0, .int .i64 1, .int .i64 0, .int .i64 0, .int .i64 0] 71)).heap.size = w.heap.size + 1 by simp [World.setCell])
  have HS1 := Lib.hid hsz1
  have HOK := Lib.hid ok
  clear h h1 hE hB hst a0 a1 a2 hsz1 ok
  go_enter Try.func21, Try.ntmps21
  go_wp2_with (fail)
  refine HL.out.mono ?_
  rintro e wq ⟨rfl, hq⟩
  have hq := hq.symm
  subst hq
  go_wp2_with (fail)
  refine HBAD.out.mono ?_
  rintro e wq ⟨rfl, hq⟩
  subst hq
  go_wp2_with (fail)
  obtain ⟨w3, hw3⟩ : ∃ w3, ((w.setCell ⟨q, 11, none⟩ (.int .i64 at_)).alloc (.cells #[.int .i64 0, .int .i64 0, .int .i64 1, .int .i64 0, .int .i64 0, .int .i64 0] 71)) = w3 := ⟨_, rfl⟩
  rw [hw3] at HNEW HBEL HSZ ⊢
  clear hw3
  obtain ⟨w1, hw1⟩ : ∃ w1, (w.setCell ⟨q, 11, none⟩ (.int .i64 at_)) = w1 := ⟨_, rfl⟩
  rw [hw1] at HBEL HS1 HH1 HO1 d7
  clear hw1
  have HW3 := Lib.hid (HH1.out.win.below HBEL.out)
  have HP3 := Lib.hid ((HBEL.out.cell (p := ⟨q, 7, none⟩) (HH1.out.lt (Or.inl rfl))).trans d7)
  have HSB := Lib.hid (show ∀ wx, Off (R3Own p v) w3 wx → (fun wx => Off (R3Own p v) w3 wx ∧ wx.cell? ⟨q, 7, none⟩ = some (.pointer (some ⟨p, 0, none⟩)) ∧ wx.cell? ⟨w.heap.size, 0, none⟩ = some (.int .i64 0) ∧ wx.cell? ⟨w.heap.size, 1, none⟩ = some (.int .i64 0) ∧ wx.cell? ⟨w.heap.size, 2, none⟩ = some (.int .i64 1) ∧ wx.cell? ⟨w.heap.size, 3, none⟩ = some (.int .i64 0) ∧ wx.cell? ⟨w.heap.size, 4, none⟩ = some (.int .i64 0) ∧ wx.cell? ⟨w.heap.size, 5, none⟩ = some (.int .i64 0)) wx from fun wx hb => by
    have hlp := HH1.out.win.lt (i := w.heap.size)
    have hlq := HH1.out.lt (i := q) (Or.inl rfl)
    rw [HS1.out] at hlp hlq
    have hz := HSZ.out
    obtain ⟨⟨y0, y1, y2, y3, y4, y5⟩, yf⟩ := ct_cells (c := ⟨0, 0, 1, 0, 0, 0⟩) ((hb.block w.heap.size (by omega) (fun h => by have := hlp h; omega)).trans HNEW.out)
    exact ⟨hb, (World.cell?_of_block (a := ⟨q, 7, none⟩) (hb.block q (by omega) (fun h => by rcases h with h | h; exact HH1.out.qp h; exact HH1.out.qv h))).trans HP3.out, y0, y1, y2, y3, y4, y5⟩)
  have HADD := Lib.hid (fun (wx : World) (hb : Below w3.heap.size w3 wx) => r3add_any ((HW3.out.below hb).below ((Below.refl wx.heap.size wx).alloc (Nat.le_refl _) (ctO (endC false) 71))) at_ HWL.out (endC false) (endC_right _) (by show (1 : Int) ≤ 1; omega) wx.heap.size 0 1 (by
    have h1 := HW3.out.lt (Or.inl rfl)
    have h2 := hb.size
    omega) (cts_one (w := wx) (endC false)))
  unfold ctO endC at HADD
  simp only [if_true, Bool.false_eq_true, if_false] at HADD
  clear d7 d8 c8 c11
  refine wp_region_noPanic ?_
  refine wp_region_held_drew (S := fun wx => Off (R3Own p v) w3 wx ∧ wx.cell? ⟨q, 7, none⟩ = some (.pointer (some ⟨p, 0, none⟩)) ∧ wx.cell? ⟨w.heap.size, 0, none⟩ = some (.int .i64 0) ∧ wx.cell? ⟨w.heap.size, 1, none⟩ = some (.int .i64 0) ∧ wx.cell? ⟨w.heap.size, 2, none⟩ = some (.int .i64 1) ∧ wx.cell? ⟨w.heap.size, 3, none⟩ = some (.int .i64 0) ∧ wx.cell? ⟨w.heap.size, 4, none⟩ = some (.int .i64 0) ∧ wx.cell? ⟨w.heap.size, 5, none⟩ = some (.int .i64 0)) (by kernel_rfl) ?_ (fun hHeld => ?_)
  · exact HSB.out _ (Off.ofBelow (Below.refl _ _).drew)
  refine wpAnyH_take (i := 0) (v := ?_) rfl (by kernel_rfl) (by kernel_rfl) (by kernel_rfl) (fun _ _ _ h => h) (Or.inl ⟨by rfl, ?hy⟩) (by assumption) ?_
  case hy => intro w hSw; (try dsimp only at hSw); go_simp; try with_reducible rfl
  try simp only [Act.put, List.getElem_toArray, List.getElem_cons_succ, List.getElem_cons_zero, List.setIfInBounds_toArray, List.set_cons_zero, List.set_cons_succ]
  refine wpAnyH_take (i := 1) (v := ?_) rfl (by kernel_rfl) (by kernel_rfl) (by kernel_rfl) (fun _ _ _ h => h) (Or.inl ⟨by rfl, ?hy⟩) (by assumption) ?_
  case hy => intro w hSw; (try dsimp only at hSw); go_simp; try with_reducible rfl
  try simp only [Act.put, List.getElem_toArray, List.getElem_cons_succ, List.getElem_cons_zero, List.setIfInBounds_toArray, List.set_cons_zero, List.set_cons_succ]
  refine wpAnyH_take (i := 2) (v := ?_) rfl (by kernel_rfl) (by kernel_rfl) (by kernel_rfl) (fun _ _ _ h => h) (Or.inl ⟨by rfl, ?hy⟩) (by assumption) ?_
  case hy => intro w hSw; (try dsimp only at hSw); go_simp; try with_reducible rfl
  try simp only [Act.put, List.getElem_toArray, List.getElem_cons_succ, List.getElem_cons_zero, List.setIfInBounds_toArray, List.set_cons_zero, List.set_cons_succ]
  refine wpAnyH_take (i := 3) (v := ?_) rfl (by kernel_rfl) (by kernel_rfl) (by kernel_rfl) (fun _ _ _ h => h) (Or.inl ⟨by rfl, ?hy⟩) (by assumption) ?_
  case hy => intro w hSw; (try dsimp only at hSw); go_simp; try with_reducible rfl
  try simp only [Act.put, List.getElem_toArray, List.getElem_cons_succ, List.getElem_cons_zero, List.setIfInBounds_toArray, List.set_cons_zero, List.set_cons_succ]
  refine wpAnyH_take (i := 4) (v := ?_) rfl (by kernel_rfl) (by kernel_rfl) (by kernel_rfl) (fun _ _ _ h => h) (Or.inl ⟨by rfl, ?hy⟩) (by assumption) ?_
  case hy => intro w hSw; (try dsimp only at hSw); go_simp; try with_reducible rfl
  try simp only [Act.put, List.getElem_toArray, List.getElem_cons_succ, List.getElem_cons_zero, List.setIfInBounds_toArray, List.set_cons_zero, List.set_cons_succ]
  refine wpAnyH_take (i := 5) (v := ?_) rfl (by kernel_rfl) (by kernel_rfl) (by kernel_rfl) (fun _ _ _ h => h) (Or.inl ⟨by rfl, ?hy⟩) (by assumption) ?_
  case hy => intro w hSw; (try dsimp only at hSw); go_simp; try with_reducible rfl
  try simp only [Act.put, List.getElem_toArray, List.getElem_cons_succ, List.getElem_cons_zero, List.setIfInBounds_toArray, List.set_cons_zero, List.set_cons_succ]
  refine wpAnyH_ready (rs := [6]) (by kernel_rfl) (by simp) (AllReadyH.cons rfl (fun K hK => ?_) AllReadyH.nil)
  go_simp
  have HD3 := Lib.hid (show Below w3.heap.size w3 w3.drew from (Below.refl _ _).drew)
  try (go_wp2_with fail)
  refine hK.out _ _ ?_ (fun hHeld => ?_)
  · exact HSB.out _ (Off.ofBelow (HD3.out.alloc HD3.out.size _))
  clear hK K
  try simp only [Act.put, List.getElem_toArray, List.getElem_cons_succ, List.getElem_cons_zero, List.setIfInBounds_toArray, List.set_cons_zero, List.set_cons_succ]
  refine wpAnyH_ready (rs := [7]) (by kernel_rfl) (by simp) (AllReadyH.cons rfl (fun K hK => ?_) AllReadyH.nil)
  go_simp
  refine (HADD.out _ HD3.out).mono ?_
  intro e w5 hadd
  obtain ⟨rfl, v5, hw5, ho5, hown5⟩ := hadd
  have hoo : Off (R3Own p v) w3 w5 := (Off.ofBelow (S := R3Own p v) (HD3.out.alloc HD3.out.size _)).trans ho5 (fun _ _ h => h)
  have HW5 := Lib.hid hw5
  have HB5 := Lib.hid hoo
  have HO5 := Lib.hid (show Off (R14Own q p v) w w5 from ((off_q14 HO1.out).trans (Off.ofBelow (S := R14Own q p v) HBEL.out) (fun _ _ h => h)).trans (hoo.mono (S' := R14Own q p v) (fun i _ h => Or.inr h)) (fun _ _ h => h))
  have HN5 := Lib.hid (show ∀ i, R14Own q p v5 i → R14Own q p v i ∨ w.heap.size ≤ i from fun i hi => by
    rcases hi with rfl | hi
    · exact Or.inl (Or.inl rfl)
    · rcases hown5 i hi with h | h
      · exact Or.inl (Or.inr h)
      · exact Or.inr (by have h1 := HSZ.out; have h2 := (HD3.out.alloc HD3.out.size (.cells #[.int .i64 0, .int .i64 0, .int .i64 1, .int .i64 0, .int .i64 0, .int .i64 0] 71)).size; simp only [World.size_alloc] at h h2; have h3 := HD3.out.size; omega))
  have HAT5 := Lib.hid (show R14At w5 q p r (addS s at_ false) un v5 _ from ⟨(hoo.block q (by have := HH1.out.lt (i := q) (Or.inl rfl); rw [HS1.out] at this; rw [HSZ.out]; omega) (fun h => by rcases h with h | h; exact HH1.out.qp h; exact HH1.out.qv h)).trans ((HBEL.out.block q (HH1.out.lt (Or.inl rfl))).trans HH1.out.head), hw5, HH1.out.qp, (fun e => by
      rcases hown5 q (Or.inr e) with h | h
      · rcases h with h | h
        · exact HH1.out.qp h
        · exact HH1.out.qv h
      · have h1 := HH.out.lt (i := q) (Or.inl rfl)
        have h2 := HSZ.out
        have h3 := HD3.out.size
        simp only [World.size_alloc] at h
        omega), (fun e => absurd HST.out e), Int.le_refl _, HA.out.1, HA.out.2.1⟩)
  clear hw5 ho5 hoo HADD hown5
  try (go_wp2_with fail)
  refine hK.out _ _ ?_ (fun hHeld => ?_)
  · exact HSB.out _ HB5.out
  clear hK K
  try simp only [Act.put, List.getElem_toArray, List.getElem_cons_succ, List.getElem_cons_zero, List.setIfInBounds_toArray, List.set_cons_zero, List.set_cons_succ]
  refine wpAnyH_done (by kernel_rfl) ?_ _
  refine NoPanic.normal ?_
  go_wp2_with (fail)
  have HS := Lib.hid (r3wsum_any HW5.out at_ HLA.out)
  have hCR : RightC (winC r.win 1 at_ (s.notes ++ newW at_ [endC false])) := winC_right HRL.out at_
  have h7 := HAT5.out.cells.c7
  obtain ⟨C, hC⟩ : ∃ C, winC r.win 1 at_ (s.notes ++ newW at_ [endC false]) = C := ⟨_, rfl⟩
  rw [show [(⟨at_, ⟨0, 0, 1, 0, 0, 0⟩⟩ : NoteW)] = newW at_ [endC false] from rfl, hC] at HS
  rw [hC] at hCR HD
  have HCR := Lib.hid hCR
  have HCC := Lib.hid hC
  clear hC hCR
  obtain ⟨xp, xb, xd, xe, xr, xm⟩ := C
  unfold ctV at HS
  dsimp only at HS
  go_wp2_with (fail)
  refine HS.out.mono ?_
  rintro e w6 ⟨rfl, h6⟩
  have hb7 : Below w6.heap.size w6 (w6.alloc (ctO ⟨xp, xb, xd, xe, xr, xm⟩ 71)) := (Below.refl _ _).alloc (Nat.le_refl _) _
  have h7' := h6.trans (hb7.mono h6.size)
  have HAT7 := Lib.hid (HAT5.out.below h7')
  have HO7 := Lib.hid (HO5.out.trans (Off.ofBelow (S := R14Own q p v) h7') (fun _ _ h => h))
  have HOV := Lib.hid (r14trips_any HAT7.out HOK.out ⟨xp, xb, xd, xe, xr, xm⟩ HCR.out HD.out)
  obtain ⟨⟨t0, t1, t2, t3, t4, t5⟩, tf⟩ := ct_cells (c := ⟨xp, xb, xd, xe, xr, xm⟩) ((get_allocW w6 (ctO ⟨xp, xb, xd, xe, xr, xm⟩ 71) w6.heap.size).trans (if_pos rfl))
  clear hb7 h7' h6 h7 HS HAT5 HO5 tf
  unfold ctO at HAT7 HO7 HOV t0 t1 t2 t3 t4 t5
  unfold ctV at HOV
  dsimp only at HAT7 HO7 HOV t0 t1 t2 t3 t4 t5
  obtain ⟨OV, hOV⟩ : ∃ OV, overB r ⟨xp, xb, xd, xe, xr, xm⟩ = OV := ⟨_, rfl⟩
  rw [hOV] at HOV
  have HOO := Lib.hid hOV
  clear hOV
  go_wp2_with (fail)
  refine HOV.out.mono ?_
  rintro e w8 ⟨rfl, h8⟩
  have HAT8 := Lib.hid (HAT7.out.below h8)
  have HO8 := Lib.hid (HO7.out.trans (Off.ofBelow (S := R14Own q p v) h8) (fun _ _ h => h))
  clear h8 HOV HAT7 HO7 t0 t1 t2 t3 t4 t5
  cases OV with
  | true =>
    have HOP := Lib.hid (r14trip_any HAT8.out HOK.out at_ HA.out.1 HA.out.2.1)
    go_wp2_with (fail)
    refine HOP.out.mono ?_
    rintro e w9 ⟨rfl, hh9, ho9⟩
    have HH9 := Lib.hid hh9
    have HO9 := Lib.hid ho9
    clear hh9 ho9
    go_wp2_with (fail)
    go_ret
    exact ⟨by rw [HC.out]; rfl, p, _, v5, _, by unfold bdoneS; rw [if_pos HC.out, if_neg (by simp), if_pos HST.out, HBB.out, HCC.out, HOO.out, if_pos rfl]; exact HH9.out, HO8.out.trans (off_q14 HO9.out) (fun _ _ h => h), HN5.out⟩
  | false =>
    go_wp2_with (fail)
    go_ret
    exact ⟨by rw [HC.out]; rfl, p, _, v5, _, by unfold bdoneS; rw [if_pos HC.out, if_neg (by simp), if_pos HST.out, HBB.out, HCC.out, HOO.out, if_neg (by simp)]; exact HAT8.out, HO8.out, HN5.out⟩
theorem r14done_any {w : World} {q p : Nat} {r : BreakS} {s : BrS} {un : Int} {v : Value} {L : List Bk3} (h : R14At w q p r s un v L) (ok : BreakOk r) (hone : OneL s.notes) (hlen : s.notes.length < 1125899906842624) (at_ rt : Int) (failed probe : Bool) :
    Calls Try.prog 21 #[.pointer (some ⟨q, 0, none⟩), .int .i64 at_, .int .i64 rt, .bool failed, .bool probe] w (R14Done w q p r s v at_ rt failed probe) := by
  by_cases hE : wrong14 s.la at_ rt = 0
  · cases probe with
    | true =>
      by_cases hst : s.st = 3
      · cases hB : badB r rt failed with
        | true => exact r14done_pbad h ok at_ rt failed hE hst hB
        | false => exact r14done_pgood h ok at_ rt failed hE hst hB
      · exact r14done_not h at_ rt failed hE hst
    | false =>
      by_cases hst : s.st = 1
      · cases hB : badB r rt failed with
        | true => exact r14done_true h ok at_ rt failed hE hst hB hone hlen
        | false => exact r14done_false h ok at_ rt failed hE hst hB hone hlen
      · exact r14done_off h ok at_ rt failed hE hst
  · exact r14done_err h at_ rt failed probe hE
end Go.Proofs.Ytlipbkpbflgamaa
