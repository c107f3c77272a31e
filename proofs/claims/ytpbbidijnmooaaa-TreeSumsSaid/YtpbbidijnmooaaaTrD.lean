/- tree: fresh. -/
import Derived.Test.YtpbbidijnmooaaaTrC
namespace Go.Proofs.Ytpbbidijnmooaaa
open Go.RowKit
set_option linter.unusedVariables false
set_option linter.unusedSimpArgs false

/-- A row of keys. -/
def KeysAt (w : World) (a : Option Addr) (l : List KeyS) : Prop :=
  l = [] ∨ ∃ g, a = some ⟨g, 0, none⟩ ∧ g < w.heap.size ∧ ∀ j q, l[j]? = some q → w.cell? ⟨g, j * 4, none⟩ = some (.int .u8 q.kind) ∧ w.cell? ⟨g, j * 4 + 1, none⟩ = some (.string q.ctx) ∧ w.cell? ⟨g, j * 4 + 2, none⟩ = some (.string q.res) ∧ w.cell? ⟨g, j * 4 + 3, none⟩ = some (.string q.org)
theorem KeysAt.below {w w' : World} {a : Option Addr} {l : List KeyS} (h : KeysAt w a l) (hb : Below w.heap.size w w') : KeysAt w' a l := by
  rcases h with h | ⟨g, rfl, hg, hc⟩
  · exact Or.inl h
  · exact Or.inr ⟨g, rfl, Nat.lt_of_lt_of_le hg hb.size, fun j q hq => by
      obtain ⟨c0, c1, c2, c3⟩ := hc j q hq
      exact ⟨(hb.cell (p := ⟨g, j * 4, none⟩) hg).trans c0, (hb.cell (p := ⟨g, j * 4 + 1, none⟩) hg).trans c1, (hb.cell (p := ⟨g, j * 4 + 2, none⟩) hg).trans c2, (hb.cell (p := ⟨g, j * 4 + 3, none⟩) hg).trans c3⟩⟩
theorem KeysAt.get {w : World} {a : Option Addr} {l : List KeyS} (h : KeysAt w a l) {j : Nat} {q : KeyS} (hq : l[j]? = some q) : ∃ g, a = some ⟨g, 0, none⟩ ∧ g < w.heap.size ∧ w.cell? ⟨g, j * 4, none⟩ = some (.int .u8 q.kind) ∧ w.cell? ⟨g, j * 4 + 1, none⟩ = some (.string q.ctx) ∧ w.cell? ⟨g, j * 4 + 2, none⟩ = some (.string q.res) ∧ w.cell? ⟨g, j * 4 + 3, none⟩ = some (.string q.org) := by
  rcases h with h | ⟨g, rfl, hg, hc⟩
  · subst h; simp at hq
  · exact ⟨g, rfl, hg, hc j q hq⟩
theorem cs_len4 (l : List KeyS) : ∀ r ∈ l.map KeyS.cs, r.length = 4 := by intro r hr; obtain ⟨x, _, rfl⟩ := List.mem_map.1 hr; rfl
theorem keysAt_row {w : World} {base n : Nat} {a : Option Addr} {cap : Nat} {l : List KeyS} (h : w.ownsRow base 30 4 (.slice a n cap) n (l.map KeyS.cs).flatten) (hn : l.length = n) : KeysAt w a l := by
  rcases h.2 with ⟨_, hz⟩ | ⟨g, cp, cur, hh, _, hgg, _⟩
  · exact Or.inl (List.length_eq_zero_iff.1 (hn.trans hz))
  · injection hh with h1 h2 h3
    subst h1
    rw [h3] at h
    have hl := flatten_len (cs_len4 l)
    rw [List.length_map] at hl
    refine Or.inr ⟨g, rfl, (Array.getElem?_eq_some_iff.1 hgg).1, fun j q hq => ?_⟩
    have hj := (List.getElem?_eq_some_iff.1 hq).1
    have hr : (l.map KeyS.cs)[j]? = some q.cs := by rw [List.getElem?_map, hq]; rfl
    have hc := fun k (hk : k < 4) => (h.cellAt (j * 4 + k) (by omega)).trans (flatten_get (cs_len4 l) hr k hk)
    exact ⟨hc 0 (by omega), hc 1 (by omega), hc 2 (by omega), hc 3 (by omega)⟩
theorem TreeAt.cells {w : World} {t : TreeV} (k : TreeAt w t) : w.cell? ⟨t.tb, 0, none⟩ = some (.map (some t.mb)) ∧ w.cell? ⟨t.tb, 1, none⟩ = some t.vr ∧ w.cell? ⟨t.tb, 2, none⟩ = some (.int .i64 t.last) := by
  have h := k.head
  refine ⟨?_, ?_, ?_⟩ <;> simp [World.cell?, h]
theorem TreeAt.slice {w : World} {t : TreeV} (k : TreeAt w t) : ∃ a cap, t.vr = .slice a t.T.length cap := by
  rcases k.row.2 with ⟨hh, hz⟩ | ⟨g, cp, cur, hh, _⟩
  · exact ⟨none, 0, by rw [hz]; exact hh⟩
  · exact ⟨_, _, hh⟩
theorem nodeP_nil {o : Option TN} : nodeP o = .pointer none ↔ o = none := by
  cases o with
  | none => simp [nodeP, ptrT]
  | some x => simp [nodeP, ptrT]
theorem nodeP_some (x : TN) : nodeP (some x) = .pointer (some ⟨x.k.q, 0, none⟩) := rfl
theorem under_mapB : Try.prog.underlying 91 = some (.map 30 4) := by kernel_rfl
/-- Missing among keys. -/
def missB (t : TreeV) (q : KeyS) : Bool := (findT t.T q).isNone
theorem freshM_miss (t : TreeV) (l : List KeyS) : freshM t.M l = (l.filter (missB t)).length := by
  unfold freshM
  congr 1
  apply List.filter_congr
  intro q _
  rw [getM_findT]
  unfold missB
  cases findT t.T q <;> rfl
theorem take_snocT {α : Type} {l : List α} {k : Nat} {x : α} (h : l[k]? = some x) : l.take (k + 1) = l.take k ++ [x] := by
  obtain ⟨hk, rfl⟩ := List.getElem?_eq_some_iff.1 h
  exact List.take_succ_eq_append_getElem hk
/-- What stands between two rounds of fresh. -/
def SeenT (wr : World) (sb : Nat) (t : TreeV) (l : List KeyS) (k : Nat) : Prop :=
  ∃ F, MapV wr 30 sb F ((l.take k).filter (missB t)).length ∧ ∀ q, KeyOk q → (F q.v).isSome = true → q ∈ l.take k
theorem SeenT.put {wr : World} {sb : Nat} {t : TreeV} {l : List KeyS} {k : Nat} (h : SeenT wr sb t l k) (hn : l.Nodup) (hs : l.length ≤ 1048576) {q : KeyS} (hq : l[k]? = some q) (hok : KeyOk q) (hm : missB t q = true) :
    ∃ w', (Instr.mapUpdate 91 (.map (some sb)) q.v (.bool true)).run Try.prog wr = .ok () w' ∧ SeenT w' sb t l (k + 1) ∧ wr.grownBy w' (some sb) := by
  obtain ⟨F, h1, h2⟩ := h
  obtain ⟨kl, hkl⟩ := keyOf_key hok
  have hlen : ((l.take k).filter (missB t)).length ≤ l.length := Nat.le_trans (List.length_filter_le _ _) (List.length_take_le _ _ |> fun h => Nat.le_trans h (by have := (List.getElem?_eq_some_iff.1 hq).1; omega))
  obtain ⟨w', hrun, m4, hgr, _⟩ := h1.update keyKeyed under_mapB (by unfold maxLen; omega) hkl (.bool true)
  have hnk : F q.v = none := by
    cases hf : F q.v with
    | none => rfl
    | some x =>
      exfalso
      have := h2 q hok (by rw [hf]; rfl)
      obtain ⟨j, hj, hjq⟩ := List.mem_take_iff_getElem.1 this
      obtain ⟨hk, hkq⟩ := List.getElem?_eq_some_iff.1 hq
      have := (List.getElem_inj hn).1 (hjq.trans hkq.symm)
      omega
  rw [hnk] at m4
  refine ⟨w', hrun, ⟨updV F q.v (some (.bool true)), ?_, fun x hx hsx => ?_⟩, hgr⟩
  · rw [take_snocT hq, List.filter_append, List.length_append, show [q].filter (missB t) = [q] by rw [List.filter_cons, if_pos hm]; rfl]
    exact m4
  · rw [take_snocT hq]
    by_cases e : x.v = q.v
    · rw [KeyS.v_inj e]; simp
    · rw [updV_other _ _ e] at hsx
      exact List.mem_append.2 (Or.inl (h2 x hx hsx))
theorem SeenT.skip {wr : World} {sb : Nat} {t : TreeV} {l : List KeyS} {k : Nat} (h : SeenT wr sb t l k) {q : KeyS} (hq : l[k]? = some q) (hm : missB t q = false) : SeenT wr sb t l (k + 1) := by
  obtain ⟨F, h1, h2⟩ := h
  refine ⟨F, ?_, fun x hx hsx => ?_⟩
  · rw [take_snocT hq, List.filter_append, List.length_append, show [q].filter (missB t) = [] by rw [List.filter_cons, if_neg (by rw [hm]; exact Bool.false_ne_true)]; rfl]
    exact h1
  · rw [take_snocT hq]
    exact List.mem_append.2 (Or.inl (h2 x hx hsx))

set_option maxHeartbeats 6400000 in
set_option maxRecDepth 100000 in
theorem fresh_any {w : World} {t : TreeV} (k : TreeAt w t) (a : Option Addr) (len cap : Nat) (l : List KeyS) (hl : l.length = len) (hs : len ≤ 1048576) (hn : l.Nodup) (hok : ∀ q, q ∈ l → KeyOk q) (hk : KeysAt w a l) :
    Calls Try.prog 39 #[.pointer (some ⟨t.tb, 0, none⟩), .slice a len cap] w fun e w' => e = .returned (.int .i64 (freshM t.M l)) ∧ Below w.heap.size w w' := by
  have hmk : ∀ wx : World, (Instr.makeMap 91 none).run Try.prog wx = .ok (.map (some wx.heap.size)) (wx.alloc (.map #[] 0)) := fun wx => run_makeMap _ wx
  have HC := Lib.hid (fun (wx : World) (hx : Below w.heap.size w wx) => (k.below hx).cells.1)
  have HM := Lib.hid (fun (wx : World) (hx : Below w.heap.size w wx) (q : KeyS) (hq : KeyOk q) => (k.below hx).map.look hq)
  have HK := Lib.hid hk
  have HL := Lib.hid hl
  have HN := Lib.hid hn
  have HOK := Lib.hid hok
  have HF := Lib.hid (freshM_miss t l)
  have hb0 : Below w.heap.size w (w.alloc (.map #[] 0)) := (Below.refl _ _).alloc (Nat.le_refl _) _
  have HS0 := Lib.hid (show SeenT (w.alloc (.map #[] 0)) w.heap.size t l 0 from ⟨_, mapV_made w _, fun q _ h => by simp at h⟩)
  have HB0 := Lib.hid hb0
  clear k hk hl hn hok hb0
  obtain ⟨tb, mb, vr, T, last, top⟩ := t
  dsimp only at HC HM
  go_enter Try.func39, Try.ntmps39
  go_wp2_with (fail)
  obtain ⟨sb, hsb⟩ : ∃ sb, w.heap.size = sb := ⟨_, rfl⟩
  have HSB := Lib.hid hsb
  rw [hsb] at HS0 ⊢
  clear hmk
  go_loopw [7, 11] (fun _ i wr => ∃ j : Nat, j ≤ len ∧ i = .int .i64 j ∧ Hid (SeenT wr sb ⟨tb, mb, vr, T, last, top⟩ l j) ∧ Hid (Below w.heap.size w wr)) (fun _ i _ => len - (intOf i).toNat)
  case atStart => exact ⟨0, Nat.zero_le _, rfl, HS0, HB0⟩
  case round =>
    rename World => wr
    clear HS0 HB0
    obtain ⟨j, hj, rfl, HSE, HBR⟩ := hrel
    by_cases hlt : j < len
    · have hjl : j < l.length := by rw [HL.out]; exact hlt
      obtain ⟨q, hq⟩ : ∃ q, l[j]? = some q := ⟨_, List.getElem?_eq_getElem hjl⟩
      obtain ⟨g, rfl, hgl, d0, d1, d2, d3⟩ := HK.out.get hq
      have d0 := (HBR.out.cell (p := ⟨g, j * 4, none⟩) hgl).trans d0
      have d1 := (HBR.out.cell (p := ⟨g, j * 4 + 1, none⟩) hgl).trans d1
      have d2 := (HBR.out.cell (p := ⟨g, j * 4 + 2, none⟩) hgl).trans d2
      have d3 := (HBR.out.cell (p := ⟨g, j * 4 + 3, none⟩) hgl).trans d3
      have hko := HOK.out q (List.mem_of_getElem? hq)
      have j0 : (0 : Int) ≤ j := by omega
      have j1 : (j : Int) < len := by omega
      obtain ⟨kind, ctx, res, org⟩ := q
      have HQ := Lib.hid hq
      have HKO := Lib.hid hko
      have halb : Below wr.heap.size wr (wr.alloc (.cells #[.int .u8 kind, .string ctx, .string res, .string org] 30)) := (Below.refl _ _).alloc (Nat.le_refl _) _
      have hbr := HBR.out.trans (halb.mono HBR.out.size)
      have hnb := new_blockS wr (.cells #[.int .u8 kind, .string ctx, .string res, .string org] 30)
      have hc0 := HC.out _ hbr
      have hlk := fun n => HM.out _ (below_drewG hbr n) ⟨kind, ctx, res, org⟩ hko
      have hse : SeenT (wr.alloc (.cells #[.int .u8 kind, .string ctx, .string res, .string org] 30)) sb ⟨tb, mb, vr, T, last, top⟩ l j := by
        obtain ⟨F, h1, h2⟩ := HSE.out
        exact ⟨F, h1.alloc _, h2⟩
      obtain ⟨wb, hwb⟩ : ∃ wb, wr.alloc (.cells #[.int .u8 kind, .string ctx, .string res, .string org] 30) = wb := ⟨_, rfl⟩
      simp only [hwb] at hbr hnb hc0 hlk hse
      have HBB := Lib.hid hbr
      have HSB2 := Lib.hid hse
      have e0 : wb.cell? ⟨wr.heap.size, 0, none⟩ = some (.int .u8 kind) := by simp only [World.cell?, hnb]; rfl
      have e1 : wb.cell? ⟨wr.heap.size, 1, none⟩ = some (.string ctx) := by simp only [World.cell?, hnb]; rfl
      have e2 : wb.cell? ⟨wr.heap.size, 2, none⟩ = some (.string res) := by simp only [World.cell?, hnb]; rfl
      have e3 : wb.cell? ⟨wr.heap.size, 3, none⟩ = some (.string org) := by simp only [World.cell?, hnb]; rfl
      unfold KeyS.v at hlk
      dsimp only at hlk
      clear hq hko hjl halb hbr hnb hse
      cases hf : findT T ⟨kind, ctx, res, org⟩ with
      | none =>
        rw [hf] at hlk
        simp only [nodeP, ptrT, Option.map_none, Option.getD_none] at hlk
        have HF2 := Lib.hid hf
        clear hf
        go_wp2_with (fail)
        clear hwb
        go_quiet (fail)
        obtain ⟨w9, hup, hs9, hg9⟩ := SeenT.put (wr := wb.drewN nq) (show SeenT (wb.drewN nq) sb ⟨tb, mb, vr, T, last, top⟩ l j from HSB2.out) HN.out (by rw [HL.out]; exact hs) HQ.out HKO.out (by unfold missB; dsimp only; rw [HF2.out]; rfl)
        have HS9 := Lib.hid hs9
        have HB9 := Lib.hid ((below_drewG HBB.out nq).grown hg9 HBB.out.size (fun k e => by injection e with e; have := HSB.out; omega))
        unfold KeyS.v at hup
        dsimp only at hup
        clear hs9 hg9 HSB2 hc0 hlk HF2
        go_wp2_with (fail)
        refine ⟨⟨j + 1, by omega, by go_num, HS9, HB9⟩, by first | (simp [intOf]; done) | (simp [intOf]; omega)⟩
      | some x =>
        have HF2 := Lib.hid hf
        simp only [hf, nodeP_some] at hlk
        clear hf
        go_wp2_with (fail)
        clear hwb
        go_quiet (fail)
        have HS9 := Lib.hid (show SeenT (wb.drewN nq) sb ⟨tb, mb, vr, T, last, top⟩ l (j + 1) from SeenT.skip (wr := wb.drewN nq) HSB2.out HQ.out (by unfold missB; dsimp only; rw [HF2.out]; rfl))
        have HB9 := Lib.hid (below_drewG HBB.out nq)
        clear HSB2 hc0 hlk HF2
        go_wp2_with (fail)
        refine ⟨⟨j + 1, by omega, by go_num, HS9, HB9⟩, by first | (simp [intOf]; done) | (simp [intOf]; omega)⟩
    · have j1 : ¬ (j : Int) < len := by omega
      obtain ⟨F, h1, h2⟩ := HSE.out
      have hln := fun ty => h1.len under_mapB ty
      have htk : l.take j = l := List.take_of_length_le (by rw [HL.out]; omega)
      rw [htk, ← HF.out] at hln
      clear h1 h2 htk
      go_wp2_with (fail)
      go_ret
      exact ⟨rfl, by have h := HBR.out; rw [HSB.out] at h; exact h⟩
end Go.Proofs.Ytpbbidijnmooaaa
