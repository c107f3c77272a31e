/- Texts of one chain, one behind the other: SpA, SpB, SpC. -/
import Derived.Maps.Keyed
import Derived.Lib.SlicesS
import Derived.Test.YtockmgcgifhepaaGSoA
import Derived.Test.YtockmgcgifhepaaGTexA
import Derived.Test.YtockmgcgifhepaaGRecs
import Derived.Test.YtockmgcgifhepaaLay2

/- sketch: Top. -/
namespace Go.Proofs.Ytockmgcgifhepaa
open Go.RowKit Go.ChangeMaps Go.MapKept
set_option linter.unusedVariables false
set_option linter.unusedSimpArgs false

/-! The plain law. -/
/-- The keys that have something, each once, in the order in which they come. -/
def unsS (E : ByteArray → Int) (st : List ByteArray × List ItT) (key : ByteArray) : List ByteArray × List ItT := (st.1 ++ [key], if 0 < E key ∧ Lib.containsS st.1 key = false then st.2 ++ [⟨key, E key⟩] else st.2)
def uns (E : ByteArray → Int) (keys : List ByteArray) : List ItT := (keys.foldl (unsS E) ([], [])).2
theorem uns_fst (E : ByteArray → Int) (keys : List ByteArray) : ∀ st, (keys.foldl (unsS E) st).1 = st.1 ++ keys := by
  induction keys with
  | nil => intro st; simp
  | cons k ks ih => intro st; rw [List.foldl_cons, ih]; simp [unsS]
theorem uns_snoc (E : ByteArray → Int) (P : List ByteArray) (key : ByteArray) : uns E (P ++ [key]) = if 0 < E key ∧ Lib.containsS P key = false then uns E P ++ [⟨key, E key⟩] else uns E P := by
  unfold uns
  rw [List.foldl_append, List.foldl_cons, List.foldl_nil]
  show (if 0 < E key ∧ Lib.containsS (P.foldl (unsS E) ([], [])).1 key = false then _ else _) = _
  rw [uns_fst, List.nil_append]
theorem uns_nil (E : ByteArray → Int) : uns E [] = [] := rfl
theorem uns_len (E : ByteArray → Int) (keys : List ByteArray) : (uns E keys).length ≤ keys.length := by
  have key : ∀ st, (keys.foldl (unsS E) st).2.length ≤ st.2.length + keys.length := by
    induction keys with
    | nil => intro st; simp
    | cons k ks ih =>
      intro st
      rw [List.foldl_cons]
      have := ih (unsS E st k)
      have h2 : (unsS E st k).2.length ≤ st.2.length + 1 := (by unfold unsS; dsimp only; split <;> simp)
      rw [List.length_cons]; omega
  have := key ([], [])
  simpa [uns] using this
/-- The top of some keys. -/
def topN (E : ByteArray → Int) (keys : List ByteArray) (k : Nat) : List ItT := (isort (uns E keys)).take k
def topE (last at_ k : Int) : Int := if lookS last at_ = 2 ∨ k < 0 then 2 else lookS last at_
def flatT (xs : List ItT) : List Value := (xs.map fun x => [Value.string x.val, .int .i64 x.cnt]).flatten
theorem flatT_app (a b : List ItT) : flatT (a ++ b) = flatT a ++ flatT b := by simp [flatT]
theorem flatT_len (a : List ItT) : (flatT a).length = a.length * 2 := by
  unfold flatT
  rw [flatten_len (n := 2) (by intro r hr; obtain ⟨x, _, rfl⟩ := List.mem_map.1 hr; rfl), List.length_map]
theorem flatT_get {xs : List ItT} {j : Nat} {x : ItT} (h : xs[j]? = some x) : (flatT xs)[j * 2]? = some (.string x.val) ∧ (flatT xs)[j * 2 + 1]? = some (.int .i64 x.cnt) := by
  have hL : ∀ r ∈ xs.map fun x => [Value.string x.val, .int .i64 x.cnt], r.length = 2 := by intro r hr; obtain ⟨x, _, rfl⟩ := List.mem_map.1 hr; rfl
  have hj : (xs.map fun x => [Value.string x.val, .int .i64 x.cnt])[j]? = some [Value.string x.val, .int .i64 x.cnt] := by rw [List.getElem?_map, h]; rfl
  exact ⟨(flatten_get hL hj 0 (by decide)), (flatten_get hL hj 1 (by decide))⟩

/-- Where items are read. -/
def ItsAt (w : World) (a : Option Addr) (xs : List ItT) : Prop := xs = [] ∨ ∃ b off, a = some ⟨b, off, none⟩ ∧ b < w.heap.size ∧ ∀ j x, xs[j]? = some x → w.cell? ⟨b, off + j * 2, none⟩ = some (.string x.val) ∧ w.cell? ⟨b, off + j * 2 + 1, none⟩ = some (.int .i64 x.cnt)
theorem ItsAt.below {N : Nat} {w w' : World} {a : Option Addr} {xs : List ItT} (h : ItsAt w a xs) (hn : w.heap.size ≤ N) (hb : Below N w w') : ItsAt w' a xs := by
  rcases h with h | ⟨b, off, rfl, hl, hc⟩
  · exact Or.inl h
  · refine Or.inr ⟨b, off, rfl, Nat.lt_of_lt_of_le hl hb.size, fun j x hj => ?_⟩
    have h1 := World.cell?_of_block (a := ⟨b, off + j * 2, none⟩) (hb.block b (Nat.lt_of_lt_of_le hl hn))
    have h2 := World.cell?_of_block (a := ⟨b, off + j * 2 + 1, none⟩) (hb.block b (Nat.lt_of_lt_of_le hl hn))
    exact ⟨h1.trans (hc j x hj).1, h2.trans (hc j x hj).2⟩
theorem ItsAt.take {w : World} {a : Option Addr} {xs : List ItT} (h : ItsAt w a xs) (k : Nat) : ItsAt w a (xs.take k) := by
  rcases h with h | ⟨b, off, rfl, hl, hc⟩
  · exact Or.inl (by rw [h, List.take_nil])
  · exact Or.inr ⟨b, off, rfl, hl, fun j x hj => hc j x (by rw [List.getElem?_take] at hj; split at hj; (· exact hj); (· cases hj))⟩
theorem own_its {w : World} {base n c : Nat} {a : Option Addr} {xs : List ItT} (h : w.ownsRow base 77 2 (.slice a n c) n (flatT xs)) : xs.length = n ∧ n ≤ c ∧ ItsAt w a xs := by
  have hl : xs.length = n := by have h1 := h.1; rw [flatT_len] at h1; omega
  rcases h.2 with ⟨h1, h2⟩ | ⟨g, cap, cur, h1, hb, hg, hnc, _⟩
  · injection h1 with e1 e2 e3
    exact ⟨hl, by omega, Or.inl (List.length_eq_zero_iff.1 (by omega))⟩
  · injection h1 with e1 e2 e3
    refine ⟨hl, by omega, Or.inr ⟨g, 0, e1, (Array.getElem?_eq_some_iff.1 hg).1, fun j x hj => ?_⟩⟩
    have hw := h
    rw [e1] at hw
    have hjl := (List.getElem?_eq_some_iff.1 hj).1
    have hg2 := flatT_get hj
    rw [Nat.zero_add, hw.cellAt (j * 2) (by omega), hw.cellAt (j * 2 + 1) (by omega)]
    exact hg2
/-- What a top gives. -/
def TopP (w : World) (L : List ItT) (E : Int) (e : Ending) (w' : World) : Prop := ∃ a n c, e = .returned (.tuple #[.slice a n c, .int .i64 E]) ∧ w'.ownsRow w.heap.size 77 2 (.slice a n c) n (flatT L) ∧ Below w.heap.size w w'
theorem info_itT : (Try.prog.info? 77).map (fun i => (i.zero, i.size, i.bytes)) = some (some (.agg #[.string ⟨#[]⟩, .int .i64 0]), 2, 24) := by kernel_rfl
theorem under_mapB : Try.prog.underlying 74 = some (.map 9 4) := by kernel_rfl
theorem under_strB : Try.prog.underlying 9 = some .string := by kernel_rfl
theorem zero_boolB (w : World) : (zeroValue 4).run Try.prog w = .ok (.bool false) w := by kernel_rfl
def skey (s : ByteArray) : Lit := .string s.data.toList
theorem strKeyed : Maps.Keyed Try.prog 9 := Maps.string_keyed under_strB
theorem skeyOf {s : ByteArray} (hs : s.size ≤ maxLen) : keyOf Try.prog 9 (.string s) = some (skey s) := WideMaps.keyOf_string_mk under_strB hs
theorem contains_other {P : List ByteArray} {s t : ByteArray} (e : t ≠ s) : Lib.containsS (P ++ [s]) t = Lib.containsS P t := by
  rw [Bool.eq_iff_iff, Lib.containsS_iff, Lib.containsS_iff, List.mem_append, List.mem_singleton]
  exact ⟨fun h => h.resolve_right e, Or.inl⟩
/-- The keys that were seen. -/
def SeenM (w : World) (m : Nat) (P : List ByteArray) : Prop := ∃ F n, MapV w 9 m F n ∧ n ≤ P.length ∧ ∀ s : ByteArray, s.size ≤ maxLen → (F (.string s)).getD (.bool false) = .bool (Lib.containsS P s)
theorem SeenM.kept {w w' : World} {m : Nat} {P : List ByteArray} (h : SeenM w m P) (hk : w'.heap[m]? = w.heap[m]?) : SeenM w' m P := by
  obtain ⟨F, n, h1, h2, h3⟩ := h
  exact ⟨F, n, h1.kept hk, h2, h3⟩
theorem SeenM.lt {w : World} {m : Nat} {P : List ByteArray} (h : SeenM w m P) : m < w.heap.size := by
  obtain ⟨F, n, h1, h2, h3⟩ := h
  exact h1.lt
theorem SeenM.look {w : World} {m : Nat} {P : List ByteArray} (h : SeenM w m P) {s : ByteArray} (hs : s.size ≤ maxLen) : (Instr.lookup 74 (.map (some m)) (.string s) false).run Try.prog w = .ok (.bool (Lib.containsS P s)) w := by
  obtain ⟨F, n, h1, h2, h3⟩ := h
  have h4 := h1.look false strKeyed under_mapB (zero_boolB w) (skeyOf hs)
  rw [if_neg (by simp), h3 s hs] at h4
  exact h4
theorem SeenM.add {w : World} {m : Nat} {P : List ByteArray} (h : SeenM w m P) {s : ByteArray} (hs : s.size ≤ maxLen) (hl : P.length < 9223372036854775807) : ∃ w', (Instr.mapUpdate 74 (.map (some m)) (.string s) (.bool true)).run Try.prog w = .ok () w' ∧ SeenM w' m (P ++ [s]) ∧ w.grownBy w' (some m) := by
  obtain ⟨F, n, h1, h2, h3⟩ := h
  obtain ⟨w', hrun, hm, hg, hz⟩ := h1.update strKeyed under_mapB (by unfold maxLen; omega) (skeyOf hs) (.bool true)
  refine ⟨w', hrun, ⟨_, _, hm, ?_, fun t ht => ?_⟩, hg⟩
  · rw [List.length_append, List.length_singleton]
    split <;> omega
  · by_cases e : t = s
    · subst e
      rw [updV_same, (Lib.containsS_iff _ _).2 (List.mem_append_right _ (List.mem_singleton.2 rfl))]
      rfl
    · rw [updV_other _ _ (fun h => e (by injection h)), h3 t ht, contains_other e]
/-- The estimate, whatever the time. -/
theorem skestI_any {w : World} {s : Nat} {h : ShapeS} {b last : Int} {notes : List NoteS} {v : Value} {bs : List BkS} (k : SkInv w s h b last notes v bs) (hb : ShapeOk h b) (at_ : Int) (hE : lookS last at_ = 0) (key : ByteArray) (hk : key.size ≤ maxLen) :
    Calls Try.prog 26 #[.pointer (some ⟨s, 0, none⟩), .int .i64 at_, .string key] w fun e w' => e = .returned (.int .i64 (estN h b at_ key notes)) ∧ Below w.heap.size w w' := by
  obtain ⟨a0, a1, a2⟩ := lookS_ok hE
  have := skestimate_any k.at_ hb at_ a0 a1 key hk
  rwa [k.est a2] at this

/-- What lies in memory while a top is gathered. -/
structure TopI (w : World) (mp : Nat) (v : Value) (E : ByteArray → Int) (P : List ByteArray) (wr : World) : Prop where
  bel : Below w.heap.size w wr
  m0 : w.heap.size ≤ mp
  bs : mp + 1 ≤ wr.heap.size
  row : wr.ownsRow (mp + 1) 77 2 v (uns E P).length (flatT (uns E P))
  seen : SeenM wr mp P
theorem TopI.below {w wr wx : World} {mp : Nat} {v : Value} {E : ByteArray → Int} {P : List ByteArray} (h : TopI w mp v E P wr) (hb : Below wr.heap.size wr wx) : TopI w mp v E P wx :=
  ⟨h.bel.trans (hb.mono h.bel.size), h.m0, Nat.le_trans h.bs hb.size, below_ownT h.row hb, h.seen.kept (hb.block mp h.seen.lt)⟩
theorem TopI.push {w wr wx wy : World} {mp : Nat} {v v' : Value} {E : ByteArray → Int} {P : List ByteArray} {key : ByteArray} {o : Obj} (h : TopI w mp v E P wr) (hc : 0 < E key ∧ Lib.containsS P key = false)
    (hown : wx.ownsRow (mp + 1) 77 2 v' ((uns E P).length + 1) (flatT (uns E P) ++ [.string key, .int .i64 (E key)])) (hg : (wr.alloc o).grownBy wx v.ownBlock) : 
    SeenM wx mp P ∧ (SeenM wy mp (P ++ [key]) → wx.grownBy wy (some mp) → TopI w mp v' E (P ++ [key]) wy) := by
  have hm := h.seen.lt
  have hb : (wr.alloc o).heap[mp]? = wr.heap[mp]? := Below.heap_alloc _ _ _ hm
  have hne : some mp ≠ v.ownBlock := fun e => by have := h.row.lt mp e.symm; omega
  have h1 : wx.heap[mp]? = wr.heap[mp]? := (hg.block mp (by simp; omega) hne).trans hb
  refine ⟨h.seen.kept h1, fun hs hg2 => ?_⟩
  have hsz : wr.heap.size ≤ wx.heap.size := Nat.le_trans (by simp) hg.size
  have bel1 : Below w.heap.size w wx := (h.bel.alloc h.bel.size _).grown hg (by have := h.bel.size; simp; omega) (fun k e => by have := h.row.lt k e; have := h.m0; omega)
  have bel2 : Below w.heap.size w wy := bel1.grown hg2 (by have := h.bel.size; omega) (fun k e => by injection e with e; have := h.m0; omega)
  refine ⟨bel2, h.m0, ?_, ?_, hs⟩
  · have := hg2.size; have := h.bs; omega
  · rw [uns_snoc, if_pos hc, List.length_append, flatT_app]
    exact hown.kept hg2 (by
      cases hv : v'.ownBlock with
      | none => exact Or.inl rfl
      | some g => refine Or.inr (fun e => ?_); injection e with e; have := hown.lt g hv; omega)
theorem TopI.skip {w wr wy : World} {mp : Nat} {v : Value} {E : ByteArray → Int} {P : List ByteArray} {key : ByteArray} (h : TopI w mp v E P wr) (hc : ¬ (0 < E key ∧ Lib.containsS P key = false)) (hs : SeenM wy mp (P ++ [key])) (hg2 : wr.grownBy wy (some mp)) : TopI w mp v E (P ++ [key]) wy := by
  refine ⟨h.bel.grown hg2 h.bel.size (fun k e => by injection e with e; have := h.m0; omega), h.m0, Nat.le_trans h.bs hg2.size, ?_, hs⟩
  rw [uns_snoc, if_neg hc]
  exact h.row.kept hg2 (by
    cases hv : v.ownBlock with
    | none => exact Or.inl rfl
    | some g => refine Or.inr (fun e => ?_); injection e with e; have := h.row.lt g hv; omega)
end Go.Proofs.Ytockmgcgifhepaa

/- sketch: Top: the walk. -/
namespace Go.Proofs.Ytockmgcgifhepaa
open Go.RowKit Go.ChangeMaps Go.MapKept
set_option linter.unusedVariables false
set_option linter.unusedSimpArgs false

set_option maxHeartbeats 3200000 in
set_option maxRecDepth 100000 in
theorem inss_nil (w : World) : Calls Try.prog 58 #[.slice none 0 0, .int .i64 0, .int .i64 0, .func (.func 28) #[] #[]] w fun e w' => e = .returned (.tuple #[]) ∧ w' = w := by
  go_enter Try.func58, Try.ntmps58
  go_wp2_with (fail)
  go_loopw [8, 9] (fun s8 _ wr => s8 = .int .i64 1 ∧ wr = w) (fun _ _ _ => 0)
  case atStart => exact ⟨rfl, rfl⟩
  case round =>
    obtain ⟨rfl, hq⟩ := hrel
    subst hq
    go_wp2_with (fail)
    go_end0
    exact ⟨rfl, rfl⟩
set_option maxHeartbeats 3200000 in
set_option maxRecDepth 100000 in
theorem stable_nil (w : World) : Calls Try.prog 52 #[.slice none 0 0, .int .i64 0, .func (.func 28) #[] #[]] w fun e w' => e = .returned (.tuple #[]) ∧ w' = w := by
  have HC := Lib.hid (inss_nil w)
  go_enter Try.func52, Try.ntmps52
  go_wp2_with (fail)
  go_loopw [7, 8] (fun s7 s8 wr => s7 = .int .i64 0 ∧ s8 = .int .i64 20 ∧ wr = w) (fun _ _ _ => 0)
  case atStart => exact ⟨rfl, rfl, rfl⟩
  case round =>
    obtain ⟨rfl, rfl, hq⟩ := hrel
    subst hq
    go_wp2_with (fail)
    refine HC.out.mono ?_
    rintro e w2 ⟨rfl, hq⟩
    subst hq
    go_wp2_with (fail)
    rename World => wq
    go_loopw [6, 7, 8, 9] (fun s6 _ _ _ wr => s6 = .int .i64 20 ∧ wr = wq) (fun _ _ _ _ _ => 0)
    case atStart => exact ⟨rfl, rfl⟩
    case round =>
      obtain ⟨rfl, hq⟩ := hrel
      subst hq
      go_wp2_with (fail)
      go_end0
      exact ⟨rfl, rfl⟩
set_option maxHeartbeats 3200000 in
set_option maxRecDepth 100000 in
theorem sort_nil (w : World) : Calls Try.prog 27 #[.slice none 0 0, .func (.func 28) #[] #[]] w fun e w' => e = .returned (.tuple #[]) ∧ w' = w := by
  have HC := Lib.hid (stable_nil w)
  go_enter Try.func27, Try.ntmps27
  go_wp2_with (fail)
  refine HC.out.mono ?_
  rintro e w2 ⟨rfl, hq⟩
  subst hq
  go_wp2_with (fail)
  go_end0
  exact ⟨rfl, rfl⟩
theorem seg_list {f : Nat → ItT} {xs : List ItT} (h : ∀ j x, xs[j]? = some x → f j = x) : seg f 0 xs.length = xs := by
  apply List.ext_getElem?
  intro j
  by_cases hj : j < xs.length
  · rw [seg_get hj, List.getElem?_eq_getElem hj, Nat.zero_add, h j _ (List.getElem?_eq_getElem hj)]
  · rw [List.getElem?_eq_none (by rw [seg_len]; omega), List.getElem?_eq_none (by omega)]
/-- A row of the call's own is sorted. -/
theorem sort_own {w : World} {base : Nat} {v : Value} {xs : List ItT} (h : w.ownsRow base 77 2 v xs.length (flatT xs)) (hn : xs.length ≤ 1048576) :
    Calls Try.prog 27 #[v, .func (.func 28) #[] #[]] w fun e w' => e = .returned (.tuple #[]) ∧ (∀ k, k ≤ xs.length → ∃ a c, v = .slice a xs.length c ∧ ItsAt w' a ((isort xs).take k)) ∧ Below base w w' := by
  rcases h.2 with ⟨h1, h2⟩ | ⟨g, cap, cur, h1, hb, hg, hnc, hcm, hcs, hct⟩
  · subst h1
    refine (sort_nil w).mono ?_
    rintro e w' ⟨rfl, hq⟩
    subst hq
    have hx : xs = [] := List.length_eq_zero_iff.1 h2
    subst hx
    exact ⟨rfl, fun k hk => ⟨none, 0, rfl, Or.inl (by simp [isort])⟩, Below.refl _ _⟩
  · subst h1
    have hgl := (Array.getElem?_eq_some_iff.1 hg).1
    have hR : Rw w g 0 xs.length (fun j => xs.getD j ⟨⟨#[]⟩, 0⟩) w := by
      refine ⟨Off.refl _ _, hgl, cur, hg, fun j hj => ?_⟩
      have hx : xs[j]? = some (xs.getD j ⟨⟨#[]⟩, 0⟩) := by simp [List.getD, hj]
      have h3 := flatT_get hx
      have hc0 := h.cellAt (j * 2) (by omega)
      have hc1 := h.cellAt (j * 2 + 1) (by omega)
      simp only [World.cell?, hg] at hc0 hc1
      rw [Nat.zero_add]
      exact ⟨hc0.trans h3.1, hc1.trans h3.2⟩
    refine (sort_any (c := cap) hR (by omega)).mono ?_
    rintro e w' ⟨rfl, f, hw, hs⟩
    have hsl : seg (fun j => xs.getD j ⟨⟨#[]⟩, 0⟩) 0 xs.length = xs := seg_list (fun j x hj => by
      have hjl := (List.getElem?_eq_some_iff.1 hj).1
      simp [List.getD, hj])
    rw [hsl] at hs
    refine ⟨rfl, fun k hk => ⟨some ⟨g, 0, none⟩, cap, rfl, Or.inr ⟨g, 0, rfl, hw.gt, fun j x hj => ?_⟩⟩, ?_⟩
    · have hj2 : (isort xs)[j]? = some x := by rw [List.getElem?_take] at hj; split at hj; (· exact hj); (· cases hj)
      have hjl : j < xs.length := by have := (List.getElem?_eq_some_iff.1 hj2).1; rw [isort_len] at this; exact this
      rw [← hs, seg_get hjl, Nat.zero_add] at hj2
      obtain rfl : f j = x := Option.some.inj hj2
      exact ⟨hw.c0 hjl, hw.c1 hjl⟩
    · exact ⟨hw.oo.os, hw.oo.tape, hw.oo.output, hw.oo.size, fun k hk => hw.oo.block k (by have := hw.oo.size; omega) (fun e => by omega)⟩
set_option maxHeartbeats 3200000 in
set_option maxRecDepth 100000 in
theorem itclone_zeroT {w : World} (a : Addr) (c : Nat) : Calls Try.prog 29 #[.slice (some a) 0 c] w fun e w' => e = .returned (.slice (some ⟨w.heap.size, 0, none⟩) 0 0) ∧ w'.ownsRow w.heap.size 77 2 (.slice (some ⟨w.heap.size, 0, none⟩) 0 0) 0 [] ∧ Below w.heap.size w w' := by
  have HB := Lib.hid (fun o => (Below.refl w.heap.size w).alloc (Nat.le_refl _) o)
  have HL := Lib.hid (show (w.alloc (.cells #[] 77)).ownsRow w.heap.size 77 2 (.slice (some ⟨w.heap.size, 0, none⟩) 0 0) 0 [] from World.ownsRow_lit (base := w.heap.size) (e := 77) (size := 2) w #[] 0 (Nat.le_refl _) (by unfold maxLen; omega) rfl)
  have hq := fun w => Lib.run_eql_slice_nil (P := Try.prog) w 42 _ (some a) 0 c 0 0 Try.underlying42
  go_enter Try.func29, Try.ntmps29
  go_wp2_with (fail)
  go_ret
  exact ⟨rfl, HL.out, HB.out _⟩
/-- Items are copied. -/
theorem itclone_its {w : World} (a : Option Addr) (n c : Nat) (xs : List ItT) (hl : xs.length = n) (hn : n ≤ 1048576) (hz : a = none → n = 0) (h : ItsAt w a xs) :
    Calls Try.prog 29 #[.slice a n c] w fun e w' => ∃ a' c', e = .returned (.slice a' n c') ∧ w'.ownsRow w.heap.size 77 2 (.slice a' n c') n (flatT xs) ∧ Below w.heap.size w w' := by
  cases ha : a with
  | none =>
    have h0 := hz ha
    subst h0
    have hx : xs = [] := List.length_eq_zero_iff.1 hl
    subst hx
    have h : Calls Try.prog 29 #[.slice none 0 c] w _ := AnyE.slices_Clone_nil Try.lcloneI 0 c w
    refine h.mono ?_
    rintro e w' ⟨rfl, rfl⟩
    exact ⟨none, 0, rfl, World.ownsRow_nil _ _ _ _, Below.refl _ _⟩
  | some a0 =>
    by_cases h0 : n = 0
    · subst h0
      have hx : xs = [] := List.length_eq_zero_iff.1 hl
      subst hx
      refine (itclone_zeroT a0 c).mono ?_
      rintro e w' ⟨rfl, ho, hb⟩
      exact ⟨_, 0, rfl, ho, hb⟩
    · rcases h with h | ⟨b, off, h1, h2, h3⟩
      · rw [h] at hl; exact absurd hl.symm h0
      · rw [ha] at h1
        injection h1 with h1
        subst h1
        obtain ⟨ii, i0, i1, i2, i3⟩ := info_partsO info_itT
        have h : Calls Try.prog 29 #[.slice (some ⟨b, off, none⟩) n c] w _ :=
          AnyE.slices_Clone Try.lcloneI ii _ 2 24 i0 i1 i2 i3 rfl (by omega) Try.sizeOf77 b off n c (flatT xs) w (by rw [flatT_len, hl]) (by unfold maxLen; omega) (by omega)
            (fun j u hj => by
              have hjl : j < n * 2 := by have := (List.getElem?_eq_some_iff.1 hj).1; rw [flatT_len, hl] at this; exact this
              obtain ⟨q, hq⟩ : ∃ q, j / 2 = q := ⟨_, rfl⟩
              have hx : xs[q]? = some (xs[q]'(by omega)) := List.getElem?_eq_getElem (by omega)
              have h4 := flatT_get hx
              have h5 := h3 q _ hx
              by_cases e : j % 2 = 0
              · have e2 : j = q * 2 := by omega
                subst e2
                rw [h4.1] at hj
                rw [← hj]
                exact h5.1
              · have e2 : j = q * 2 + 1 := by omega
                subst e2
                rw [h4.2] at hj
                rw [← hj]
                exact h5.2) (fun u hu => by
              unfold flatT at hu
              obtain ⟨r, hr, hu⟩ := List.mem_flatten.1 hu
              obtain ⟨x, _, rfl⟩ := List.mem_map.1 hr
              simp only [List.mem_cons, List.not_mem_nil, or_false] at hu
              rcases hu with rfl | rfl <;> rfl)
        refine h.mono ?_
        rintro e w' ⟨v', rfl, hown, hne, hb⟩
        rcases hown.2 with ⟨rfl, h9⟩ | ⟨g, cap, cur, rfl, _⟩
        · omega
        · exact ⟨_, cap, rfl, hown, hb⟩
theorem two_cellsT (w : World) (x y : Value) (t : TypeId) : ∀ j v, ([x, y] : List Value)[j]? = some v → (w.alloc (.cells #[x, y] t)).cell? ((⟨w.heap.size, 0, none⟩ : Addr).add j) = some v := by
  intro j v hj
  have hn := new_blockS w (.cells #[x, y] t)
  rw [Go.WideShapes.add_plain]
  simp only [World.cell?, hn]
  match j, hj with
  | 0, hj => simp at hj; subst hj; rfl
  | 1, hj => simp at hj; subst hj; rfl
  | j + 2, hj => simp at hj
end Go.Proofs.Ytockmgcgifhepaa

/- sketch: Top: the walk. -/
namespace Go.Proofs.Ytockmgcgifhepaa
open Go.RowKit Go.ChangeMaps Go.MapKept
set_option linter.unusedVariables false
set_option linter.unusedSimpArgs false

theorem own_sliceT {w : World} {base n size : Nat} {e : TypeId} {v : Value} {xs : List Value} (h : w.ownsRow base e size v n xs) : ∃ a cap, v = .slice a n cap := by
  rcases h.2 with ⟨rfl, rfl⟩ | ⟨g, cap, cur, rfl, _⟩
  · exact ⟨none, 0, rfl⟩
  · exact ⟨_, cap, rfl⟩
theorem ownsRow_baseT {w : World} {b b' size n : Nat} {e : TypeId} {v : Value} {xs : List Value} (h : w.ownsRow b e size v n xs) (hb : b' ≤ b) : w.ownsRow b' e size v n xs := by
  refine ⟨h.1, ?_⟩
  rcases h.2 with h | ⟨g, cap, cur, e1, e2, e3⟩
  · exact Or.inl h
  · exact Or.inr ⟨g, cap, cur, e1, by omega, e3⟩
theorem nolist (w : World) : w.ownsRow w.heap.size 77 2 (.slice none 0 0) 0 (flatT []) := World.ownsRow_nil _ _ _ _
set_option maxHeartbeats 6400000 in
set_option maxRecDepth 100000 in
theorem sktop_err {w : World} {s : Nat} {h : ShapeS} {b last : Int} {notes : List NoteS} {v : Value} {bs : List BkS} (k : SkInv w s h b last notes v bs) (at_ kk : Int) (a : Option Addr) (len cap : Nat) (hE : topE last at_ kk ≠ 0) :
    Calls Try.prog 9 #[.pointer (some ⟨s, 0, none⟩), .int .i64 at_, .int .i64 kk, .slice a len cap] w (TopP w [] (topE last at_ kk)) := by
  have HL := Lib.hid (sklook_any s last at_ w k.at_.headCells.2.2.2.2.2.2)
  obtain ⟨L, hLL⟩ : ∃ L, lookS last at_ = L := ⟨_, rfl⟩
  unfold topE at hE ⊢
  rw [hLL] at hE HL ⊢
  have hL3 : L = 2 ∨ L = 7 ∨ L = 0 := by rw [← hLL]; unfold lookS; split; (· exact Or.inl rfl); (· split; (· exact Or.inr (Or.inl rfl)); (· exact Or.inr (Or.inr rfl)))
  have HN := Lib.hid (nolist w)
  clear k hLL
  rcases hL3 with rfl | rfl | rfl
  · go_enter Try.func9, Try.ntmps9
    go_wp2_with (fail)
    refine HL.out.mono ?_
    rintro e w2 ⟨rfl, hq⟩
    subst hq
    go_wp2_with (fail)
    all_goals (go_ret2; exact ⟨none, 0, 0, by simp, HN.out, Below.refl _ _⟩)
  · by_cases hk : kk < 0
    · go_enter Try.func9, Try.ntmps9
      go_wp2_with (fail)
      refine HL.out.mono ?_
      rintro e w2 ⟨rfl, hq⟩
      subst hq
      go_wp2_with (fail)
      all_goals (go_ret2; exact ⟨none, 0, 0, by simp [hk], HN.out, Below.refl _ _⟩)
    · go_enter Try.func9, Try.ntmps9
      go_wp2_with (fail)
      refine HL.out.mono ?_
      rintro e w2 ⟨rfl, hq⟩
      subst hq
      go_wp2_with (fail)
      all_goals (go_ret2; exact ⟨none, 0, 0, by simp [hk], HN.out, Below.refl _ _⟩)
  · have hk : kk < 0 := by
      by_cases hk : kk < 0
      · exact hk
      · exfalso; apply hE; rw [if_neg (by omega)]
    go_enter Try.func9, Try.ntmps9
    go_wp2_with (fail)
    refine HL.out.mono ?_
    rintro e w2 ⟨rfl, hq⟩
    subst hq
    go_wp2_with (fail)
    all_goals (go_ret2; exact ⟨none, 0, 0, by simp [hk], HN.out, Below.refl _ _⟩)

set_option maxHeartbeats 12800000 in
set_option maxRecDepth 100000 in
theorem sktop_ok {w : World} {s : Nat} {h : ShapeS} {b last : Int} {notes : List NoteS} {v : Value} {bs : List BkS} (k : SkInv w s h b last notes v bs) (hb : ShapeOk h b) (at_ kk : Int) (keys : List ByteArray) (a : Option Addr) (len cap : Nat) (hl : keys.length = len) (hlen : len ≤ 1048576) (hta : TextsAt w a keys) (hz : ∀ s ∈ keys, s.size ≤ maxLen)
    (hE : lookS last at_ = 0) (hk : 0 ≤ kk) (hk2 : kk ≤ 9223372036854775807) :
    Calls Try.prog 9 #[.pointer (some ⟨s, 0, none⟩), .int .i64 at_, .int .i64 kk, .slice a len cap] w (TopP w (topN (fun key => estN h b at_ key notes) keys kk.toNat) 0) := by
  obtain ⟨ii, i0, i1, i2, i3⟩ := info_partsO info_itT
  have HL := Lib.hid (sklook_any s last at_ w k.at_.headCells.2.2.2.2.2.2)
  rw [hE] at HL
  obtain ⟨E, hEE⟩ : ∃ E : ByteArray → Int, (fun key => estN h b at_ key notes) = E := ⟨_, rfl⟩
  rw [hEE]
  have HES : Hid (∀ wx, Below w.heap.size w wx → ∀ key : ByteArray, key.size ≤ maxLen → Calls Try.prog 26 #[.pointer (some ⟨s, 0, none⟩), .int .i64 at_, .string key] wx fun e w' => e = .returned (.int .i64 (E key)) ∧ Below wx.heap.size wx w') := fun wx hx key hkk => by
    have := skestI_any (k.below hx) hb at_ hE key hkk
    rw [← hEE]
    exact this
  have HTA := Lib.hid hta
  have HZ := Lib.hid hz
  have HKL := Lib.hid hl
  have hmk : ∀ wx : World, (Instr.makeMap 74 none).run Try.prog wx = .ok (.map (some wx.heap.size)) (wx.alloc (.map #[] 0)) := fun wx => run_makeMap _ wx
  have HST : Hid (TopI w w.heap.size (.slice none 0 0) E (keys.take 0) (w.alloc (.map #[] 0))) := by
    refine ⟨(Below.refl _ _).alloc (Nat.le_refl _) _, Nat.le_refl _, by simp, by rw [List.take_zero]; exact World.ownsRow_nil _ _ _ _, _, 0, mapV_made w 9, Nat.zero_le _, fun t _ => ?_⟩
    have : Lib.containsS ([] : List ByteArray) t = false := by cases hc : Lib.containsS ([] : List ByteArray) t; (· rfl); (· rw [Lib.containsS_iff] at hc; cases hc)
    rw [List.take_zero, this]; rfl
  obtain ⟨mp, hmp⟩ : ∃ mp, w.heap.size = mp := ⟨_, rfl⟩
  rw [hmp] at HST
  have HMP := Lib.hid hmp
  clear k hb hl hta hz hE hEE
  go_enter Try.func9, Try.ntmps9
  go_wp2_with (fail)
  refine HL.out.mono ?_
  rintro e w2 ⟨rfl, hq⟩
  subst hq
  rename World => w
  have kk0 : ¬ kk < 0 := by omega
  go_wp2_with (fail)
  try rw [hmp]
  clear hmk hmp
  generalize w.alloc _ = W at *
  go_loopw [11, 14, 15, 37] (fun s11 _ _ s37 wr => ∃ i : Nat, i ≤ len ∧ s37 = .int .i64 i ∧ Hid (TopI w mp s11 E (keys.take i) wr)) (fun _ _ _ s37 _ => len - (intOf s37).toNat)
  case atStart => exact ⟨0, Nat.zero_le _, rfl, HST⟩
  case round =>
    rename World => wr
    obtain ⟨i, hi, rfl, HI⟩ := hrel
    obtain ⟨va, vc, rfl⟩ := own_sliceT HI.out.row
    by_cases hlt : i < len
    · have i0' : (0 : Int) ≤ i := by omega
      have i1' : (i : Int) < len := by omega
      have hkl : i < keys.length := by rw [HKL.out]; exact hlt
      have hne : keys ≠ [] := fun e => by rw [e] at hkl; simp at hkl
      obtain ⟨g, off, rfl, hgl, hcell⟩ : ∃ b off, a = some ⟨b, off, none⟩ ∧ b < w.heap.size ∧ ∀ j, j < keys.length → w.cell? ⟨b, off + j, none⟩ = some (.string (keys.getD j ⟨#[]⟩)) := by
        rcases HTA.out with h | h
        · exact absurd h hne
        · exact h
      have d0 := (HI.out.bel.cell (p := ⟨g, off + i, none⟩) hgl).trans (hcell i hkl)
      have htk : keys.take (i + 1) = keys.take i ++ [keys.getD i ⟨#[]⟩] := by rw [List.take_succ_eq_append_getElem hkl]; simp [List.getD, hkl]
      have hsz := HZ.out (keys.getD i ⟨#[]⟩) (by simp [List.getD, hkl])
      have hPl : (keys.take i).length ≤ 1048576 := by rw [List.length_take]; omega
      have hul := uns_len E (keys.take i)
      obtain ⟨key, hkey⟩ : ∃ key, keys.getD i ⟨#[]⟩ = key := ⟨_, rfl⟩
      rw [hkey] at d0 htk hsz
      have HTK := Lib.hid htk
      have HSZ := Lib.hid hsz
      have HKE := Lib.hid (HES.out wr HI.out.bel key hsz)
      generalize keys.take i = P at HI HTK hPl hul
      obtain ⟨n, hn⟩ : ∃ n, E key = n := ⟨_, rfl⟩
      rw [hn] at HKE
      have HN := Lib.hid hn
      obtain ⟨u, hu⟩ : ∃ u, (uns E P).length = u := ⟨_, rfl⟩
      have HU := Lib.hid hu
      rw [hu] at hul HI ⊢
      clear hgl hcell htk hsz hkey hne hkl hn hu
      by_cases hpos : 0 < n
      · cases hsn : Lib.containsS P key
        · have HC := Lib.hid (show 0 < E key ∧ Lib.containsS P key = false from ⟨by rw [HN.out]; exact hpos, hsn⟩)
          go_wp2_with (fail)
          refine HKE.out.mono ?_
          rintro e w3 ⟨rfl, hb3⟩
          have HI3 := Lib.hid (HI.out.below hb3)
          have hlook := HI3.out.seen.look HSZ.out
          rw [hsn] at hlook
          clear hb3
          go_wp2_with (at_builtin; refine wpList_append_own _ rfl (.tmp 53) (.tmp 57) 42 rfl (mp + 1) 77 ii _ 2 24 Try.underlying42 i0 i1 i2 i3 rfl (by decide) (.slice va u vc) u (flatT (uns E P)) rfl (by have h := HI3.out.row; rw [HU.out] at h; exact h.alloc _) ⟨w3.heap.size, 0, none⟩ 1 1 [.string key, .int .i64 n] rfl rfl (two_cellsT _ _ _ _) (by simp [Value.oneCell']) (by unfold maxLen; omega) (by omega) (Nat.le_trans HI3.out.bs (by simp)) ?_; intro v4 w4 hown hg _; obtain ⟨va4, vc4, rfl⟩ := own_sliceT hown; obtain ⟨hs4, hfin⟩ := TopI.push (wy := w4) HI3.out HC.out (by rw [HU.out, HN.out]; exact hown) hg; obtain ⟨w5, hup, hs5, hg5⟩ := hs4.add HSZ.out (by omega); have hP5 := (TopI.push (wy := w5) HI3.out HC.out (by rw [HU.out, HN.out]; exact hown) hg).2 hs5 hg5; have HP5 := Lib.hid hP5; clear hown hg hs4 hfin hs5 hg5 hP5)
          go_wp2_with (fail)
          refine ⟨⟨i + 1, by omega, by go_num, Lib.hid ?_⟩, by first | (simp [intOf]; done) | (simp [intOf]; omega)⟩
          rw [HTK.out]
          exact HP5.out
        · have HC := Lib.hid (show ¬ (0 < E key ∧ Lib.containsS P key = false) from fun h => by rw [hsn] at h; exact absurd h.2 (by decide))
          go_wp2_with (fail)
          refine HKE.out.mono ?_
          rintro e w3 ⟨rfl, hb3⟩
          have HI3 := Lib.hid (HI.out.below hb3)
          have hlook := HI3.out.seen.look HSZ.out
          rw [hsn] at hlook
          obtain ⟨w5, hup, hs5, hg5⟩ := HI3.out.seen.add HSZ.out (by omega)
          have HP5 := Lib.hid (HI3.out.skip HC.out hs5 hg5)
          clear hb3 hs5 hg5
          go_wp2_with (fail)
          refine ⟨⟨i + 1, by omega, by go_num, Lib.hid ?_⟩, by first | (simp [intOf]; done) | (simp [intOf]; omega)⟩
          rw [HTK.out]
          exact HP5.out
      · have HC := Lib.hid (show ¬ (0 < E key ∧ Lib.containsS P key = false) from fun h => by rw [HN.out] at h; exact hpos h.1)
        go_wp2_with (fail)
        refine HKE.out.mono ?_
        rintro e w3 ⟨rfl, hb3⟩
        have HI3 := Lib.hid (HI.out.below hb3)
        obtain ⟨w5, hup, hs5, hg5⟩ := HI3.out.seen.add HSZ.out (by omega)
        have HP5 := Lib.hid (HI3.out.skip HC.out hs5 hg5)
        clear hb3 hs5 hg5
        go_wp2_with (fail)
        refine ⟨⟨i + 1, by omega, by go_num, Lib.hid ?_⟩, by first | (simp [intOf]; done) | (simp [intOf]; omega)⟩
        rw [HTK.out]
        exact HP5.out
    · have hil : i = len := by omega
      have htl : keys.take i = keys := by rw [hil, ← HKL.out, List.take_length]
      rw [htl] at HI ⊢
      have hul := uns_len E keys
      rw [HKL.out] at hul
      have HSO := Lib.hid (sort_own HI.out.row (by omega))
      obtain ⟨u, hu⟩ : ∃ u, (uns E keys).length = u := ⟨_, rfl⟩
      have HU := Lib.hid hu
      rw [hu] at hul ⊢
      obtain ⟨m, hm⟩ : ∃ m : Nat, m = (if kk ≤ u then kk.toNat else u) := ⟨_, rfl⟩
      have hmu : m ≤ u := by rw [hm]; split <;> omega
      have hmin : min kk (u : Int) = m := by rw [hm]; split <;> omega
      have hvc : u ≤ vc := by have := (own_its HI.out.row).2.1; omega
      have b1 : (0 : Int) ≤ m := by omega
      have b2 : (m : Int) ≤ vc := by omega
      have htop : (isort (uns E keys)).take m = topN E keys kk.toNat := by
        unfold topN
        rw [hm]
        split
        · rfl
        · rw [List.take_of_length_le (by rw [isort_len]; omega), List.take_of_length_le (by rw [isort_len]; omega)]
      have HTP := Lib.hid htop
      have hlm : (topN E keys kk.toNat).length = m := by rw [← htop, List.length_take, isort_len]; omega
      have HLM := Lib.hid hlm
      rw [hu] at HSO
      have hva : (va = none ∧ u = 0 ∧ vc = 0) ∨ ∃ g, va = some ⟨g, 0, none⟩ := by
        rcases HI.out.row.2 with ⟨h1, h2⟩ | ⟨g, cap, cur, h1, _⟩
        · injection h1 with e1 e2 e3
          exact Or.inl ⟨e1, by omega, e3⟩
        · injection h1 with e1 e2 e3
          exact Or.inr ⟨g, e1⟩
      clear htl hu hm htop hlm
      have HBI := Lib.hid HI.out.bel
      have HMZ := Lib.hid HI.out.m0
      rcases hva with ⟨rfl, rfl, rfl⟩ | ⟨g, rfl⟩
      · obtain rfl : m = 0 := by omega
        have hmin0 : min kk 0 = 0 := by omega
        go_wp2_with (fail)
        refine HSO.out.mono ?_
        rintro e w3 ⟨rfl, hs3, hb3⟩
        have HCL := Lib.hid (itclone_its (w := w3) none 0 0 (topN E keys kk.toNat) HLM.out (by omega) (fun _ => rfl) (Or.inl (List.length_eq_zero_iff.1 HLM.out)))
        have HB3 := Lib.hid (HBI.out.trans (hb3.mono (by have := HMZ.out; omega)))
        clear hs3 hb3
        go_wp2_with (fail)
        refine HCL.out.mono ?_
        rintro e w4 ⟨ca, cc, rfl, hown, hb4⟩
        have HW4 := Lib.hid (And.intro hown hb4)
        clear hown hb4
        go_wp2_with (fail)
        go_ret2
        exact ⟨ca, 0, cc, rfl, ownsRow_baseT HW4.out.1 HB3.out.size, HB3.out.trans (HW4.out.2.mono HB3.out.size)⟩
      · go_wp2_with (fail)
        refine HSO.out.mono ?_
        rintro e w3 ⟨rfl, hs3, hb3⟩
        obtain ⟨a9, c9, e9, hits⟩ := hs3 m hmu
        injection e9 with e9 _ _
        subst e9
        rw [HTP.out] at hits
        have HB3 := Lib.hid (HBI.out.trans (hb3.mono (by have := HMZ.out; omega)))
        have HCL := Lib.hid (fun c => itclone_its (w := w3) (some ⟨g, 0, none⟩) m c (topN E keys kk.toNat) HLM.out (by omega) (fun e => by cases e) hits)
        clear hs3 hb3 hits
        go_wp2_with (fail)
        refine (HCL.out _).mono ?_
        rintro e w4 ⟨ca, cc, rfl, hown, hb4⟩
        have HW4 := Lib.hid (And.intro hown hb4)
        clear hown hb4
        go_wp2_with (fail)
        go_ret2
        exact ⟨ca, m, cc, rfl, ownsRow_baseT HW4.out.1 HB3.out.size, HB3.out.trans (HW4.out.2.mono HB3.out.size)⟩

/-- What a top is. -/
def topL (E : ByteArray → Int) (last at_ kk : Int) (keys : List ByteArray) : List ItT := if topE last at_ kk = 0 then topN E keys kk.toNat else []
theorem topE_zero {last at_ kk : Int} (h : topE last at_ kk = 0) : lookS last at_ = 0 ∧ 0 ≤ kk := by
  unfold topE at h
  split at h
  · omega
  · exact ⟨h, by omega⟩
theorem sktop_any {w : World} {s : Nat} {h : ShapeS} {b last : Int} {notes : List NoteS} {v : Value} {bs : List BkS} (k : SkInv w s h b last notes v bs) (hb : ShapeOk h b) (at_ kk : Int) (keys : List ByteArray) (a : Option Addr) (len cap : Nat) (hl : keys.length = len) (hlen : len ≤ 1048576) (hta : TextsAt w a keys) (hz : ∀ s ∈ keys, s.size ≤ maxLen)
    (hk2 : kk ≤ 9223372036854775807) :
    Calls Try.prog 9 #[.pointer (some ⟨s, 0, none⟩), .int .i64 at_, .int .i64 kk, .slice a len cap] w (TopP w (topL (fun key => estN h b at_ key notes) last at_ kk keys) (topE last at_ kk)) := by
  unfold topL
  by_cases hE : topE last at_ kk = 0
  · rw [if_pos hE, hE]
    exact sktop_ok k hb at_ kk keys a len cap hl hlen hta hz (topE_zero hE).1 (topE_zero hE).2 hk2
  · rw [if_neg hE]
    exact sktop_err k at_ kk a len cap hE
theorem sktop_nil (at_ kk : Int) (a : Option Addr) (len cap : Nat) (w : World) :
    Calls Try.prog 9 #[.pointer none, .int .i64 at_, .int .i64 kk, .slice a len cap] w (TopP w [] 1) := by
  have HL := Lib.hid (sklook_nil at_ w)
  have HN := Lib.hid (nolist w)
  go_enter Try.func9, Try.ntmps9
  go_wp2_with (fail)
  refine HL.out.mono ?_
  rintro e w2 ⟨rfl, hq⟩
  subst hq
  go_wp2_with (fail)
  go_ret2
  exact ⟨none, 0, 0, rfl, HN.out, Below.refl _ _⟩
end Go.Proofs.Ytockmgcgifhepaa
