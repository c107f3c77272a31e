/- Texts of one chain, one behind the other: MemIn, SrA, SpK, SpL, SpM. -/
import Derived.ProofKit
import Derived.Below
import Derived.Deep.OwnRows
import Derived.Deep.RegionWith
import Derived.Test.YtockmgcgifhepaaProg
import Derived.Test.YtockmgcgifhepaaGRecs
import Derived.Test.YtockmgcgifhepaaGSkFk

/- Copies of lists of int64 with marked room behind their end: HandInts, SameInts, KeptInts. -/
namespace Go.Proofs.Ytockmgcgifhepaa
open Go.RowKit Go.Deep
set_option linter.unusedVariables false
set_option linter.unusedSimpArgs false

theorem IntsAt.below {w w' : World} {a : Option Addr} {xs : List Int} (h : IntsAt w a xs) (hb : Below w.heap.size w w') : IntsAt w' a xs := by
  rcases h with h | ⟨b, off, rfl, hlt, hc⟩
  · exact Or.inl h
  · exact Or.inr ⟨b, off, rfl, Nat.lt_of_lt_of_le hlt hb.size, fun j hj => (hb.cell (p := ⟨b, off + j, none⟩) hlt).trans (hc j hj)⟩

/-- What lies in such a copy. -/
def handF (xs : List Int) (j : Nat) : Value := .int .i64 (if j < xs.length then xs.getD j 0 else -700 - (j : Int) + xs.length)
def HandAt (w : World) (g : Nat) (xs : List Int) : Prop := w.rowIs g 3 (xs.length + 9) (handF xs)
theorem HandAt.below {w w' : World} {g : Nat} {xs : List Int} (h : HandAt w g xs) (hb : Below w.heap.size w w') : HandAt w' g xs := h.of_block (hb.block g (World.rowIs.lt h))
theorem HandAt.ints {w : World} {g : Nat} {xs : List Int} (h : HandAt w g xs) : IntsAt w (some ⟨g, 0, none⟩) xs :=
  Or.inr ⟨g, 0, rfl, World.rowIs.lt h, fun j hj => by
    have := World.rowIs.cell h (i := j) (by omega)
    rw [Nat.zero_add, this]; unfold handF; rw [if_pos hj]⟩

end Go.Proofs.Ytockmgcgifhepaa

/- SketchRuns: alike. -/
namespace Go.Proofs.Ytockmgcgifhepaa
open Go.RowKit
set_option linter.unusedVariables false
set_option linter.unusedSimpArgs false

theorem R6At.below {w w' : World} {q : Nat} {h : ShapeS} {last : Int} {v : Value} {ns : List NoteS} (k : R6At w q h last v ns) (hb : Below w.heap.size w w') : R6At w' q h last v ns := k.kept (fun i hi => hb.block i (by
  rcases hi with rfl | e
  · exact k.lt
  · exact (k.row.lt i e).2))
theorem below_drewR {w w' : World} (h : ∃ m, w' = w.drewN m) : Below w.heap.size w w' := by obtain ⟨m, rfl⟩ := h; exact below_drewS (Below.refl _ _) m
end Go.Proofs.Ytockmgcgifhepaa

/- SketchTops: the walk. -/
namespace Go.Proofs.Ytockmgcgifhepaa
open Go.RowKit
set_option linter.unusedVariables false
set_option linter.unusedSimpArgs false

theorem hand_texts {w : World} {base G len : Nat} {keys : List ByteArray} (hl : keys.length = len) (h : w.ownsRow base 9 1 (.slice (some ⟨G, 0, none⟩) (len + 9) (len + 9)) (len + 9) (fullTx (keys.map strR)).flatten) : TextsAt w (some ⟨G, 0, none⟩) keys := by
  rcases h.2 with ⟨h1, _⟩ | ⟨g, cap, cur, h1, hb, hg, _⟩
  · cases h1
  · injection h1 with q1 _ _
    injection q1 with q1
    injection q1 with q1 _ _
    subst q1
    refine Or.inr ⟨G, 0, rfl, (Array.getElem?_eq_some_iff.1 hg).1, fun j hj => ?_⟩
    rw [Nat.zero_add, h.cellAt j (by omega)]
    have hL : ∀ r ∈ fullTx (keys.map strR), r.length = 1 := by
      intro r hr
      rcases List.mem_append.1 hr with h | h
      · exact lenTx keys r h
      · obtain ⟨i, _, rfl⟩ := List.mem_map.1 h; rfl
    have hk : (fullTx (keys.map strR))[j]? = some (strR (keys.getD j ⟨#[]⟩)) := by
      unfold fullTx
      rw [List.getElem?_append_left (by rw [List.length_map]; exact hj), List.getElem?_map]
      simp [List.getD, hj]
    have := flatten_get hL hk 0 (by decide)
    rw [Nat.mul_one, Nat.add_zero] at this
    rw [this]
    rfl
theorem notes_len : ∀ (ds : List DeedS), (∀ d ∈ ds, d.ns.length ≤ 1048576) → (runN ds).2.length ≤ ds.length * 1048576 := by
  intro ds
  have key : ∀ (ds : List DeedS) (st : Int × List NoteS), (∀ d ∈ ds, d.ns.length ≤ 1048576) → (ds.foldl stepN st).2.length ≤ st.2.length + ds.length * 1048576 := by
    intro ds
    induction ds with
    | nil => intro st _; simp
    | cons d ds ih =>
      intro st h
      have h1 := ih (stepN st d) (fun x hx => h x (List.mem_cons_of_mem _ hx))
      have h2 := h d List.mem_cons_self
      have h3 : (stepN st d).2.length ≤ st.2.length + 1048576 := by
        unfold stepN
        split
        · simp [newNotes]; omega
        · omega
      rw [List.foldl_cons, List.length_cons]
      omega
  intro h
  have := key ds (0, []) h
  simpa [runN] using this
/-- What the program's sketch and the reference's tell of tops and columns. -/
structure Tell (w4 : World) (sp rp : Value) (keys : List ByteArray) (klen : Nat) (at_ kk row : Int) (L : List ItT) (E : Int) (cv : ByteArray → Int) (ce : Int) : Prop where
  top : ∀ wx, Below w4.heap.size w4 wx → ∀ a c, TextsAt wx a keys → Calls Try.prog 9 #[sp, .int .i64 at_, .int .i64 kk, .slice a klen c] wx (TopP wx L E)
  rtop : ∀ wx, Below w4.heap.size w4 wx → ∀ a c, TextsAt wx a keys → Calls Try.prog 10 #[rp, .int .i64 at_, .int .i64 kk, .slice a klen c] wx (R6Top wx L E)
  col : ∀ wx, Below w4.heap.size w4 wx → ∀ key : ByteArray, key.size ≤ maxLen → Calls Try.prog 13 #[sp, .int .i64 row, .string key] wx fun e w' => e = .returned (.tuple #[.int .i64 (cv key), .int .i64 ce]) ∧ Below wx.heap.size wx w'
  rcol : ∀ wx, Below w4.heap.size w4 wx → ∀ key : ByteArray, key.size ≤ maxLen → Calls Try.prog 14 #[rp, .int .i64 row, .string key] wx fun e w' => e = .returned (.tuple #[.int .i64 (cv key), .int .i64 ce]) ∧ Below wx.heap.size wx w'
  few : L.length ≤ 1048576
theorem topL_len (E : ByteArray → Int) (last at_ kk : Int) (keys : List ByteArray) (h : keys.length ≤ 1048576) : (topL E last at_ kk keys).length ≤ 1048576 := by
  unfold topL topN
  split
  · have h1 := List.length_take_le kk.toNat (isort (uns E keys))
    have h2 := isort_len (uns E keys)
    have h3 := uns_len E keys
    have h4 := List.length_take_le' kk.toNat (isort (uns E keys))
    omega
  · simp
theorem tell_nil (w4 : World) (keys : List ByteArray) (klen : Nat) (at_ kk row : Int) : Tell w4 (.pointer none) (.pointer none) keys klen at_ kk row [] 1 (fun _ => 0) 1 :=
  ⟨fun wx _ a c _ => sktop_nil at_ kk a klen c wx, fun wx _ a c _ => r6top_nil at_ kk a klen c wx, fun wx _ key _ => skcol_nil row key wx, fun wx _ key _ => r6col_nil row key wx, by simp⟩
theorem tell_some {w4 : World} {s q : Nat} {h : ShapeS} {b last : Int} {notes : List NoteS} {v v6 : Value} {bs : List BkS} (k : SkInv w4 s h b last notes v bs) (k6 : R6At w4 q h last v6 notes) (hb : ShapeOk h b) (keys : List ByteArray) (klen : Nat) (hl : keys.length = klen) (hlen : klen ≤ 1048576) (hz : ∀ s ∈ keys, s.size ≤ maxLen) (at_ kk row : Int) (hk2 : kk ≤ 9223372036854775807) :
    Tell w4 (.pointer (some ⟨s, 0, none⟩)) (.pointer (some ⟨q, 0, none⟩)) keys klen at_ kk row (topL (fun key => estN h b at_ key notes) last at_ kk keys) (topE last at_ kk) (colR h row) (colE h row) := by
  have hnn : NonNeg notes := fun x hx => (k6.fine x hx).2.2.1
  have hpos : ∀ key, 0 ≤ estN h b at_ key notes := fun key => by
    unfold estN
    refine (leastS_bd ?_ _).1
    intro r
    exact capS_nonneg (sumP_nonneg hnn)
  exact ⟨fun wx hx a c ht => sktop_any (k.below hx) hb at_ kk keys a klen c hl hlen ht hz hk2, fun wx hx a c ht => r6top_any (k6.below hx) hb at_ kk keys a klen c hl hlen ht hz hk2 hpos,
    fun wx hx key hk => skcol_any (k.below hx).at_ hb row key hk, fun wx hx key hk => r6col_any (k6.below hx) hb row key hk, topL_len _ _ _ _ _ (by rw [hl]; exact hlen)⟩
theorem two_cellAt {w : World} {T n c : Nat} {a : Option Addr} {x y : Value} (h : w.ownsRow T 42 1 (.slice a n c) n ([x] ++ [y])) (hn : n = 2) : ∃ I, a = some ⟨I, 0, none⟩ ∧ T ≤ I ∧ I < w.heap.size ∧ w.cell? ⟨I, 0, none⟩ = some x ∧ w.cell? ⟨I, 1, none⟩ = some y := by
  subst hn
  obtain ⟨I, rfl⟩ := own_some h (by decide)
  have h1 := h.lt I rfl
  exact ⟨I, rfl, h1.1, h1.2, h.cellAt 0 (by decide), h.cellAt 1 (by decide)⟩
theorem DeedsAt.belowD {w w' : World} {a : Option Addr} {ds : List DeedS} (h : DeedsAt w a ds) (hb : Below w.heap.size w w') : DeedsAt w' a ds := by
  rcases h with h | ⟨b, off, rfl, hl, hc⟩
  · exact Or.inl h
  · exact Or.inr ⟨b, off, rfl, Nat.lt_of_lt_of_le hl hb.size, fun j d hj => (hc j d hj).below hl hb⟩

set_option maxHeartbeats 25600000 in
set_option maxRecDepth 100000 in
theorem tops_no {w : World} (h : ShapeS) (s0 : 0 ≤ h.seed) (s1 : h.seed ≤ 18446744073709551615) (a : Option Addr) (len cap : Nat) (ds : List DeedS) (hl : ds.length = len) (hm : len ≤ 1048576) (hd : DeedsAt w a ds) (hfew : ∀ d ∈ ds, d.ns.length ≤ 1048576)
    (at_ kk row : Int) (keys : List ByteArray) (ka : Option Addr) (klen kcap : Nat) (hkl : keys.length = klen) (hkm : klen ≤ 1048576) (hkt : TextsAt w ka keys) (hkz : ∀ s ∈ keys, s.size ≤ maxLen) (hk2 : kk ≤ 9223372036854775807) (hE : newE h ≠ 0) :
    Calls Try.prog 3 #[.agg h.c, .slice a len cap, .agg #[.int .i64 at_, .int .i64 kk, .int .i64 row, .slice ka klen kcap]] w fun e w' => e = .returned (.bool true) ∧ Below w.heap.size w w' := by
  obtain ⟨W2, hW2⟩ : ∃ W2, (w.alloc (.cells h.c 24)).alloc (.cells #[.int .i64 at_, .int .i64 kk, .int .i64 row, .slice ka klen kcap] 28) = W2 := ⟨_, rfl⟩
  have hz2 : W2.heap.size = w.heap.size + 2 := by rw [← hW2]; simp
  have hb2 : Below w.heap.size w W2 := by rw [← hW2]; exact ((Below.refl _ _).alloc (Nat.le_refl _) _).alloc (by simp) _
  have g0 : W2.heap[w.heap.size]? = some (.cells h.c 24) := by rw [← hW2, get_allocS, if_neg (by simp), get_allocS, if_pos rfl]
  have g1 : W2.heap[w.heap.size + 1]? = some (.cells #[.int .i64 at_, .int .i64 kk, .int .i64 row, .slice ka klen kcap] 28) := by rw [← hW2, get_allocS, if_pos (by simp)]
  have HZ := Lib.hid hz2
  have HB2 := Lib.hid hb2
  have HSX : Hid (∀ wx, Below W2.heap.size W2 wx → wx.cell? ⟨w.heap.size, 0, none⟩ = some (.int .i64 h.W) ∧ wx.cell? ⟨w.heap.size, 1, none⟩ = some (.int .i64 h.B) ∧ wx.cell? ⟨w.heap.size, 2, none⟩ = some (.int .i64 h.R) ∧ wx.cell? ⟨w.heap.size, 3, none⟩ = some (.int .i64 h.C) ∧ wx.cell? ⟨w.heap.size, 4, none⟩ = some (.int .u64 h.seed)) := fun wx hx => by
    have g := (hx.block _ (by omega)).trans g0
    simp only [World.cell?, g]
    exact ⟨rfl, rfl, rfl, rfl, rfl⟩
  have HAX : Hid (∀ wx, Below W2.heap.size W2 wx → wx.cell? ⟨w.heap.size + 1, 0, none⟩ = some (.int .i64 at_) ∧ wx.cell? ⟨w.heap.size + 1, 1, none⟩ = some (.int .i64 kk) ∧ wx.cell? ⟨w.heap.size + 1, 2, none⟩ = some (.int .i64 row) ∧ wx.cell? ⟨w.heap.size + 1, 3, none⟩ = some (.slice ka klen kcap)) := fun wx hx => by
    have g := (hx.block _ (by omega)).trans g1
    simp only [World.cell?, g]
    exact ⟨rfl, rfl, rfl, rfl⟩
  have HKT : Hid (∀ wx, Below W2.heap.size W2 wx → TextsAt wx ka keys) := fun wx hx => (hkt.below2 (Nat.le_refl _) hb2).below2 (Nat.le_refl _) hx
  have HDS : Hid (DeedsAt W2 a ds) := Lib.hid (hd.belowD hb2)
  have HRUN := Lib.hid (skrun_any W2 h s0 s1 a len cap ds hl (by omega) HDS.out)
  have HKZ := Lib.hid hkz
  have HKL := Lib.hid hkl
  have HL := Lib.hid hl
  have HFEW := Lib.hid hfew
  have HS01 := Lib.hid (And.intro s0 s1)
  obtain ⟨x0, x1, x2, x3, x4⟩ := HSX.out W2 (Below.refl _ _)
  have HR6N := Lib.hid (fun wx => r6new_any h wx)
  clear g0 g1 hb2 hz2 hkt hd hkz hkl hl hfew s0 s1
  unfold ShapeS.c at hW2 HRUN ⊢
  subst hW2
  go_enter Try.func3, Try.ntmps3
  go_wp2_with (fail)
  generalize (w.alloc _).alloc _ = W2 at *
  refine HRUN.out.mono ?_
  intro e w3 hrun
  have HB3 := Lib.hid hrun.bel
  obtain rfl := hrun.no hE
  obtain ⟨ec, hec⟩ : ∃ ec, newE h = ec := ⟨_, rfl⟩
  clear x0 x1 x2 x3 x4
  have hE0 := Lib.hid hE
  rw [hec] at hE
  have hec2 : (ec == 0) = false := beq_eq_false_iff_ne.2 hE
  obtain ⟨x0, x1, x2, x3, x4⟩ := HSX.out w3 HB3.out
  have HN := Lib.hid ((HR6N.out w3).mono fun e w' hp => by have h1 := hp.1 hE0.out; rw [hec] at h1; exact h1)
  try rw [hec]
  clear hrun HRUN HR6N hec
  go_wp2_with (fail)
  refine HN.out.mono ?_
  rintro e w4 ⟨rfl, hq⟩
  subst hq
  rename World => w4
  have HT := Lib.hid (tell_nil w4 keys klen at_ kk row)
  have HB4 := Lib.hid HB3.out
  clear HN
  go_wp2_with (fail)
  refine (sklive_any _).mono ?_
  rintro e w5 ⟨rfl, hb5⟩
  have HBQ := Lib.hid hb5
  clear hb5 x0 x1 x2 x3 x4
  go_wp2_with (fail)
  go_loopw [11] (fun s11 wr => s11 = .int .i64 0 ∧ wr = w5) (fun _ _ => 0)
  case atStart => exact ⟨rfl, rfl⟩
  case round =>
    obtain ⟨rfl, hq⟩ := hrel
    subst hq
    rename World => wq
    by_cases hl0 : 0 < len
    · have hl0i : (0 : Int) < len := by omega
      have HGQ := Lib.hid (HB4.out.trans (HBQ.out.mono HB4.out.size))
      obtain ⟨y0, y1, y2, y3⟩ := HAX.out wq HGQ.out
      have HHT := Lib.hid (handTx_any ka klen kcap keys HKL.out (by omega) (texts_rows (HKT.out wq HGQ.out)))
      go_wp2_with (fail)
      refine HHT.out.mono ?_
      rintro e w6 ⟨rfl, ho6, hb6⟩
      have HB6 := Lib.hid hb6
      have HO6 := Lib.hid ho6
      have HT6 := Lib.hid (hand_texts HKL.out ho6)
      have HG6 := Lib.hid (HGQ.out.trans (hb6.mono HGQ.out.size))
      have HW6 := Lib.hid (HBQ.out.trans (hb6.mono HBQ.out.size))
      obtain ⟨G, hG⟩ : ∃ G, wq.heap.size = G := ⟨_, rfl⟩
      rw [hG] at HO6 HT6 ⊢
      clear ho6 hb6 HHT y0 y1 y2 y3 hG
      obtain ⟨y0, y1, y2, y3⟩ := HAX.out w6 HG6.out
      go_wp2_with (fail)
      refine (HT.out.top w6 HW6.out _ _ HT6.out).mono ?_
      rintro e w7 ⟨ua, n0, uc, rfl, hu, hb7⟩
      have HU7 := Lib.hid hu
      have HB7 := Lib.hid hb7
      have HG7 := Lib.hid (HG6.out.trans (hb7.mono HG6.out.size))
      have HW7 := Lib.hid (HW6.out.trans (hb7.mono HW6.out.size))
      clear hu hb7 y0 y1 y2 y3
      obtain ⟨y0, y1, y2, y3⟩ := HAX.out w7 HG7.out
      go_wp2_with (fail)
      refine (HT.out.rtop w7 HW7.out _ _ (HKT.out w7 HG7.out)).mono ?_
      rintro e w8 ⟨ra, n1, rc, rfl, hrl, hri, hb8⟩
      have hui := own_its HU7.out
      have hLf := HT.out.few
      have HSI := Lib.hid (sameits_any (w := w8) ua ra n0 n1 uc rc [] hui.1 hrl (by omega) (hui.2.2.below (Nat.le_refl _) hb8) hri)
      have hn0 : n0 ≤ 1048576 := by omega
      have HB8 := Lib.hid hb8
      have HG8 := Lib.hid (HG7.out.trans (hb8.mono HG7.out.size))
      have HW8 := Lib.hid (HW7.out.trans (hb8.mono HW7.out.size))
      clear hrl hri hb8 hui hLf y0 y1 y2 y3
      go_wp2_with (fail)
      refine HSI.out.mono ?_
      rintro e w9 ⟨rfl, hb9⟩
      have HB9 := Lib.hid hb9
      have HG9 := Lib.hid (HG8.out.trans (hb9.mono HG8.out.size))
      have HW9 := Lib.hid (HW8.out.trans (hb9.mono HW8.out.size))
      have hO9 := below_ownT HO6.out (HB7.out.trans ((HB8.out.trans (hb9.mono HB8.out.size)).mono HB7.out.size))
      have HKP := Lib.hid (keptTx_any (w := w9) G G ka klen kcap keys HKL.out (by omega) hO9 (texts_rows (HKT.out w9 HG9.out)))
      obtain ⟨y0, y1, y2, y3⟩ := HAX.out w9 HG9.out
      clear hb9 hO9 HSI
      go_wp2_with (fail)
      refine HKP.out.mono ?_
      rintro e w10 ⟨rfl, hb10⟩
      have HB10 := Lib.hid hb10
      have HG10 := Lib.hid (HG9.out.trans (hb10.mono HG9.out.size))
      have HW10 := Lib.hid (HW9.out.trans (hb10.mono HW9.out.size))
      clear hb10 y0 y1 y2 y3 HKP
      go_wp2_with (fail)
      go_loopw [17, 18, 19, 20, 21] (fun s17 _ _ _ _ wr => ∃ i : Nat, i ≤ klen ∧ s17 = .int .i64 i ∧ Hid (Below w10.heap.size w10 wr)) (fun s17 _ _ _ _ _ => klen - (intOf s17).toNat)
      case atStart => exact ⟨0, Nat.zero_le _, rfl, Lib.hid (Below.refl _ _)⟩
      case round =>
        rename World => wr
        obtain ⟨i, hi, rfl, HBR⟩ := hrel
        have hgr := HG10.out.trans (HBR.out.mono HG10.out.size)
        obtain ⟨y0, y1, y2, y3⟩ := HAX.out wr hgr
        by_cases hlt : i < klen
        · have k0 : (0 : Int) ≤ i := by omega
          have k1 : (i : Int) < klen := by omega
          have hkl2 : i < keys.length := by rw [HKL.out]; exact hlt
          have hne : keys ≠ [] := fun e => by rw [e] at hkl2; simp at hkl2
          obtain ⟨kg, koff, rfl, hgl, hcell⟩ : ∃ b off, ka = some ⟨b, off, none⟩ ∧ b < W2.heap.size ∧ ∀ j, j < keys.length → W2.cell? ⟨b, off + j, none⟩ = some (.string (keys.getD j ⟨#[]⟩)) := by
            rcases HKT.out W2 (Below.refl _ _) with h | h
            · exact absurd h hne
            · exact h
          have hck := hcell i hkl2
          have hkz2 := HKZ.out (keys.getD i ⟨#[]⟩) (by simp [List.getD, hkl2])
          obtain ⟨key, hkey⟩ : ∃ key, keys.getD i ⟨#[]⟩ = key := ⟨_, rfl⟩
          rw [hkey] at hck hkz2
          have HSB : Hid (∀ wx, Below w10.heap.size w10 wx → (wx.cell? ⟨w.heap.size + 1, 2, none⟩ = some (.int .i64 row) ∧ wx.cell? ⟨w.heap.size + 1, 3, none⟩ = some (.slice (some ⟨kg, koff, none⟩) klen kcap) ∧ wx.cell? ⟨kg, koff + i, none⟩ = some (.string key)) ∧ Below w10.heap.size w10 wx) := fun wx hx => by
            have hg := HG10.out.trans (hx.mono HG10.out.size)
            have hy := HAX.out wx hg
            exact ⟨⟨hy.2.2.1, hy.2.2.2, (hg.cell (p := ⟨kg, koff + i, none⟩) hgl).trans hck⟩, hx⟩
          have HKZA := HKZ
          clear HKZ
          have HKZ := Lib.hid hkz2
          have HCOL := Lib.hid (fun wx (hx : Below w10.heap.size w10 wx) => HT.out.col wx (HW10.out.trans (hx.mono HW10.out.size)) key hkz2)
          have HRCL := Lib.hid (fun wx (hx : Below w10.heap.size w10 wx) => HT.out.rcol wx (HW10.out.trans (hx.mono HW10.out.size)) key hkz2)
          clear hcell hkey hne hck hkz2 hkl2 hgl hgr
          have hBEG := HSB.out _ (HBR.out.trans (show Below w10.heap.size wr wr.drew from ⟨rfl, rfl, rfl, Nat.le_refl _, fun _ _ => rfl⟩))
          go_wp2_with (fail)
          refine wp_region_noPanic ?_
          refine wp_region_held_drew (S := fun wx => (wx.cell? ⟨w.heap.size + 1, 2, none⟩ = some (.int .i64 row) ∧ wx.cell? ⟨w.heap.size + 1, 3, none⟩ = some (.slice (some ⟨kg, koff, none⟩) klen kcap) ∧ wx.cell? ⟨kg, koff + i, none⟩ = some (.string key)) ∧ Below w10.heap.size w10 wx) (by kernel_rfl) ?_ (fun hHeld => ?_)
          · exact hBEG
          refine wpAnyH_take (i := 0) (v := ?_) rfl (by kernel_rfl) (by kernel_rfl) (by kernel_rfl) (fun _ _ _ h => h) (Or.inl ⟨by rfl, ?hy⟩) (by assumption) ?_
          case hy => intro w hSw; (try dsimp only at hSw); go_simp; try with_reducible rfl
          try simp only [Act.put, List.getElem_toArray, List.getElem_cons_succ, List.getElem_cons_zero, List.setIfInBounds_toArray, List.set_cons_zero, List.set_cons_succ]
          refine wpAnyH_take (i := 1) (v := ?_) rfl (by kernel_rfl) (by kernel_rfl) (by kernel_rfl) (fun _ _ _ h => h) (Or.inl ⟨by rfl, ?hy⟩) (by assumption) ?_
          case hy => intro w hSw; (try dsimp only at hSw); go_simp; try with_reducible rfl
          try simp only [Act.put, List.getElem_toArray, List.getElem_cons_succ, List.getElem_cons_zero, List.setIfInBounds_toArray, List.set_cons_zero, List.set_cons_succ]
          refine wpAnyH_take (i := 2) (v := ?_) rfl (by kernel_rfl) (by kernel_rfl) (by kernel_rfl) (fun _ _ _ h => h) (Or.inl ⟨by rfl, ?hy⟩) (by assumption) ?_
          case hy => intro w hSw; (try dsimp only at hSw); go_simp; try with_reducible rfl
          try simp only [Act.put, List.getElem_toArray, List.getElem_cons_succ, List.getElem_cons_zero, List.setIfInBounds_toArray, List.set_cons_zero, List.set_cons_succ]
          refine wpAnyH_take (i := 3) (v := ?_) rfl (by kernel_rfl) (by kernel_rfl) (by kernel_rfl) (fun _ _ _ h => h) (Or.inl ⟨by rfl, ?hy⟩) (by assumption) ?_
          case hy => intro w hSw; (try dsimp only at hSw); go_simp; try with_reducible rfl
          try simp only [Act.put, List.getElem_toArray, List.getElem_cons_succ, List.getElem_cons_zero, List.setIfInBounds_toArray, List.set_cons_zero, List.set_cons_succ]
          refine wpAnyH_take (i := 4) (v := ?_) rfl (by kernel_rfl) (by kernel_rfl) (by kernel_rfl) (fun _ _ _ h => h) (Or.inl ⟨by rfl, ?hy⟩) (by assumption) ?_
          case hy => intro w hSw; (try dsimp only at hSw); go_simp; try with_reducible rfl
          try simp only [Act.put, List.getElem_toArray, List.getElem_cons_succ, List.getElem_cons_zero, List.setIfInBounds_toArray, List.set_cons_zero, List.set_cons_succ]
          refine wpAnyH_take (i := 5) (v := ?_) rfl (by kernel_rfl) (by kernel_rfl) (by kernel_rfl) (fun _ _ _ h => h) (Or.inl ⟨by rfl, ?hy⟩) (by assumption) ?_
          case hy => intro w hSw; (try dsimp only at hSw); go_simp; try with_reducible rfl
          try simp only [Act.put, List.getElem_toArray, List.getElem_cons_succ, List.getElem_cons_zero, List.setIfInBounds_toArray, List.set_cons_zero, List.set_cons_succ]
          refine wpAnyH_take (i := 6) (v := ?_) rfl (by kernel_rfl) (by kernel_rfl) (by kernel_rfl) (fun _ _ _ h => h) (Or.inl ⟨by rfl, ?hy⟩) (by assumption) ?_
          case hy => intro w hSw; (try dsimp only at hSw); go_simp; try with_reducible rfl
          try simp only [Act.put, List.getElem_toArray, List.getElem_cons_succ, List.getElem_cons_zero, List.setIfInBounds_toArray, List.set_cons_zero, List.set_cons_succ]
          refine wpAnyH_take (i := 7) (v := ?_) rfl (by kernel_rfl) (by kernel_rfl) (by kernel_rfl) (fun _ _ _ h => h) (Or.inl ⟨by rfl, ?hy⟩) (by assumption) ?_
          case hy => intro w hSw; (try dsimp only at hSw); go_simp; try with_reducible rfl
          try simp only [Act.put, List.getElem_toArray, List.getElem_cons_succ, List.getElem_cons_zero, List.setIfInBounds_toArray, List.set_cons_zero, List.set_cons_succ]
          refine wpAnyH_ready (rs := [8]) (by kernel_rfl) (by simp) (AllReadyH.cons rfl (fun K hK => ?_) AllReadyH.nil)
          go_simp
          refine (HCOL.out _ hHeld.2).mono ?_; rintro e w11 ⟨rfl, hbc⟩
          try (go_wp2_with fail)
          refine hK.out _ _ ?_ (fun hHeld => ?_)
          · exact HSB.out _ (hHeld.2.trans (hbc.mono hHeld.2.size))
          clear hK K
          try simp only [Act.put, List.getElem_toArray, List.getElem_cons_succ, List.getElem_cons_zero, List.setIfInBounds_toArray, List.set_cons_zero, List.set_cons_succ]
          refine wpAnyH_take (i := 9) (v := ?_) rfl (by kernel_rfl) (by kernel_rfl) (by kernel_rfl) (fun _ _ _ h => h) (Or.inl ⟨by rfl, ?hy⟩) (by assumption) ?_
          case hy => intro w hSw; (try dsimp only at hSw); go_simp; try with_reducible rfl
          try simp only [Act.put, List.getElem_toArray, List.getElem_cons_succ, List.getElem_cons_zero, List.setIfInBounds_toArray, List.set_cons_zero, List.set_cons_succ]
          refine wpAnyH_take (i := 10) (v := ?_) rfl (by kernel_rfl) (by kernel_rfl) (by kernel_rfl) (fun _ _ _ h => h) (Or.inl ⟨by rfl, ?hy⟩) (by assumption) ?_
          case hy => intro w hSw; (try dsimp only at hSw); go_simp; try with_reducible rfl
          try simp only [Act.put, List.getElem_toArray, List.getElem_cons_succ, List.getElem_cons_zero, List.setIfInBounds_toArray, List.set_cons_zero, List.set_cons_succ]
          refine wpAnyH_take (i := 11) (v := ?_) rfl (by kernel_rfl) (by kernel_rfl) (by kernel_rfl) (fun _ _ _ h => h) (Or.inl ⟨by rfl, ?hy⟩) (by assumption) ?_
          case hy => intro w hSw; (try dsimp only at hSw); go_simp; try with_reducible rfl
          try simp only [Act.put, List.getElem_toArray, List.getElem_cons_succ, List.getElem_cons_zero, List.setIfInBounds_toArray, List.set_cons_zero, List.set_cons_succ]
          refine wpAnyH_take (i := 12) (v := ?_) rfl (by kernel_rfl) (by kernel_rfl) (by kernel_rfl) (fun _ _ _ h => h) (Or.inl ⟨by rfl, ?hy⟩) (by assumption) ?_
          case hy => intro w hSw; (try dsimp only at hSw); go_simp; try with_reducible rfl
          try simp only [Act.put, List.getElem_toArray, List.getElem_cons_succ, List.getElem_cons_zero, List.setIfInBounds_toArray, List.set_cons_zero, List.set_cons_succ]
          refine wpAnyH_take (i := 13) (v := ?_) rfl (by kernel_rfl) (by kernel_rfl) (by kernel_rfl) (fun _ _ _ h => h) (Or.inl ⟨by rfl, ?hy⟩) (by assumption) ?_
          case hy => intro w hSw; (try dsimp only at hSw); go_simp; try with_reducible rfl
          try simp only [Act.put, List.getElem_toArray, List.getElem_cons_succ, List.getElem_cons_zero, List.setIfInBounds_toArray, List.set_cons_zero, List.set_cons_succ]
          refine wpAnyH_done (by kernel_rfl) ?_ _
          refine NoPanic.normal ?_
          have hBG2 := hHeld.2
          clear hHeld hBEG y0 y1 y2 y3
          have hBEG := HSB.out _ (hBG2.trans (show Below w10.heap.size w11 w11.drew from ⟨rfl, rfl, rfl, Nat.le_refl _, fun _ _ => rfl⟩))
          go_wp2_with (fail)
          refine wp_region_noPanic ?_
          refine wp_region_held_drew (S := fun wx => (wx.cell? ⟨w.heap.size + 1, 2, none⟩ = some (.int .i64 row) ∧ wx.cell? ⟨w.heap.size + 1, 3, none⟩ = some (.slice (some ⟨kg, koff, none⟩) klen kcap) ∧ wx.cell? ⟨kg, koff + i, none⟩ = some (.string key)) ∧ Below w10.heap.size w10 wx) (by kernel_rfl) ?_ (fun hHeld => ?_)
          · exact hBEG
          refine wpAnyH_take (i := 0) (v := ?_) rfl (by kernel_rfl) (by kernel_rfl) (by kernel_rfl) (fun _ _ _ h => h) (Or.inl ⟨by rfl, ?hy⟩) (by assumption) ?_
          case hy => intro w hSw; (try dsimp only at hSw); go_simp; try with_reducible rfl
          try simp only [Act.put, List.getElem_toArray, List.getElem_cons_succ, List.getElem_cons_zero, List.setIfInBounds_toArray, List.set_cons_zero, List.set_cons_succ]
          refine wpAnyH_take (i := 1) (v := ?_) rfl (by kernel_rfl) (by kernel_rfl) (by kernel_rfl) (fun _ _ _ h => h) (Or.inl ⟨by rfl, ?hy⟩) (by assumption) ?_
          case hy => intro w hSw; (try dsimp only at hSw); go_simp; try with_reducible rfl
          try simp only [Act.put, List.getElem_toArray, List.getElem_cons_succ, List.getElem_cons_zero, List.setIfInBounds_toArray, List.set_cons_zero, List.set_cons_succ]
          refine wpAnyH_take (i := 2) (v := ?_) rfl (by kernel_rfl) (by kernel_rfl) (by kernel_rfl) (fun _ _ _ h => h) (Or.inl ⟨by rfl, ?hy⟩) (by assumption) ?_
          case hy => intro w hSw; (try dsimp only at hSw); go_simp; try with_reducible rfl
          try simp only [Act.put, List.getElem_toArray, List.getElem_cons_succ, List.getElem_cons_zero, List.setIfInBounds_toArray, List.set_cons_zero, List.set_cons_succ]
          refine wpAnyH_take (i := 3) (v := ?_) rfl (by kernel_rfl) (by kernel_rfl) (by kernel_rfl) (fun _ _ _ h => h) (Or.inl ⟨by rfl, ?hy⟩) (by assumption) ?_
          case hy => intro w hSw; (try dsimp only at hSw); go_simp; try with_reducible rfl
          try simp only [Act.put, List.getElem_toArray, List.getElem_cons_succ, List.getElem_cons_zero, List.setIfInBounds_toArray, List.set_cons_zero, List.set_cons_succ]
          refine wpAnyH_take (i := 4) (v := ?_) rfl (by kernel_rfl) (by kernel_rfl) (by kernel_rfl) (fun _ _ _ h => h) (Or.inl ⟨by rfl, ?hy⟩) (by assumption) ?_
          case hy => intro w hSw; (try dsimp only at hSw); go_simp; try with_reducible rfl
          try simp only [Act.put, List.getElem_toArray, List.getElem_cons_succ, List.getElem_cons_zero, List.setIfInBounds_toArray, List.set_cons_zero, List.set_cons_succ]
          refine wpAnyH_take (i := 5) (v := ?_) rfl (by kernel_rfl) (by kernel_rfl) (by kernel_rfl) (fun _ _ _ h => h) (Or.inl ⟨by rfl, ?hy⟩) (by assumption) ?_
          case hy => intro w hSw; (try dsimp only at hSw); go_simp; try with_reducible rfl
          try simp only [Act.put, List.getElem_toArray, List.getElem_cons_succ, List.getElem_cons_zero, List.setIfInBounds_toArray, List.set_cons_zero, List.set_cons_succ]
          refine wpAnyH_take (i := 6) (v := ?_) rfl (by kernel_rfl) (by kernel_rfl) (by kernel_rfl) (fun _ _ _ h => h) (Or.inl ⟨by rfl, ?hy⟩) (by assumption) ?_
          case hy => intro w hSw; (try dsimp only at hSw); go_simp; try with_reducible rfl
          try simp only [Act.put, List.getElem_toArray, List.getElem_cons_succ, List.getElem_cons_zero, List.setIfInBounds_toArray, List.set_cons_zero, List.set_cons_succ]
          refine wpAnyH_take (i := 7) (v := ?_) rfl (by kernel_rfl) (by kernel_rfl) (by kernel_rfl) (fun _ _ _ h => h) (Or.inl ⟨by rfl, ?hy⟩) (by assumption) ?_
          case hy => intro w hSw; (try dsimp only at hSw); go_simp; try with_reducible rfl
          try simp only [Act.put, List.getElem_toArray, List.getElem_cons_succ, List.getElem_cons_zero, List.setIfInBounds_toArray, List.set_cons_zero, List.set_cons_succ]
          refine wpAnyH_ready (rs := [8]) (by kernel_rfl) (by simp) (AllReadyH.cons rfl (fun K hK => ?_) AllReadyH.nil)
          go_simp
          refine (HRCL.out _ hHeld.2).mono ?_; rintro e w12 ⟨rfl, hbc⟩
          try (go_wp2_with fail)
          refine hK.out _ _ ?_ (fun hHeld => ?_)
          · exact HSB.out _ (hHeld.2.trans (hbc.mono hHeld.2.size))
          clear hK K
          try simp only [Act.put, List.getElem_toArray, List.getElem_cons_succ, List.getElem_cons_zero, List.setIfInBounds_toArray, List.set_cons_zero, List.set_cons_succ]
          refine wpAnyH_take (i := 9) (v := ?_) rfl (by kernel_rfl) (by kernel_rfl) (by kernel_rfl) (fun _ _ _ h => h) (Or.inl ⟨by rfl, ?hy⟩) (by assumption) ?_
          case hy => intro w hSw; (try dsimp only at hSw); go_simp; try with_reducible rfl
          try simp only [Act.put, List.getElem_toArray, List.getElem_cons_succ, List.getElem_cons_zero, List.setIfInBounds_toArray, List.set_cons_zero, List.set_cons_succ]
          refine wpAnyH_take (i := 10) (v := ?_) rfl (by kernel_rfl) (by kernel_rfl) (by kernel_rfl) (fun _ _ _ h => h) (Or.inl ⟨by rfl, ?hy⟩) (by assumption) ?_
          case hy => intro w hSw; (try dsimp only at hSw); go_simp; try with_reducible rfl
          try simp only [Act.put, List.getElem_toArray, List.getElem_cons_succ, List.getElem_cons_zero, List.setIfInBounds_toArray, List.set_cons_zero, List.set_cons_succ]
          refine wpAnyH_take (i := 11) (v := ?_) rfl (by kernel_rfl) (by kernel_rfl) (by kernel_rfl) (fun _ _ _ h => h) (Or.inl ⟨by rfl, ?hy⟩) (by assumption) ?_
          case hy => intro w hSw; (try dsimp only at hSw); go_simp; try with_reducible rfl
          try simp only [Act.put, List.getElem_toArray, List.getElem_cons_succ, List.getElem_cons_zero, List.setIfInBounds_toArray, List.set_cons_zero, List.set_cons_succ]
          refine wpAnyH_take (i := 12) (v := ?_) rfl (by kernel_rfl) (by kernel_rfl) (by kernel_rfl) (fun _ _ _ h => h) (Or.inl ⟨by rfl, ?hy⟩) (by assumption) ?_
          case hy => intro w hSw; (try dsimp only at hSw); go_simp; try with_reducible rfl
          try simp only [Act.put, List.getElem_toArray, List.getElem_cons_succ, List.getElem_cons_zero, List.setIfInBounds_toArray, List.set_cons_zero, List.set_cons_succ]
          refine wpAnyH_take (i := 13) (v := ?_) rfl (by kernel_rfl) (by kernel_rfl) (by kernel_rfl) (fun _ _ _ h => h) (Or.inl ⟨by rfl, ?hy⟩) (by assumption) ?_
          case hy => intro w hSw; (try dsimp only at hSw); go_simp; try with_reducible rfl
          try simp only [Act.put, List.getElem_toArray, List.getElem_cons_succ, List.getElem_cons_zero, List.setIfInBounds_toArray, List.set_cons_zero, List.set_cons_succ]
          refine wpAnyH_done (by kernel_rfl) ?_ _
          refine NoPanic.normal ?_
          have hBG3 := hHeld.2
          clear hHeld hBEG hBG2
          have hBEG := HSB.out _ (hBG3.trans (show Below w10.heap.size w12 w12.drew from ⟨rfl, rfl, rfl, Nat.le_refl _, fun _ _ => rfl⟩))
          go_wp2_with (fail)
          refine wp_region_noPanic ?_
          refine wp_region_held_drew (S := fun wx => (wx.cell? ⟨w.heap.size + 1, 2, none⟩ = some (.int .i64 row) ∧ wx.cell? ⟨w.heap.size + 1, 3, none⟩ = some (.slice (some ⟨kg, koff, none⟩) klen kcap) ∧ wx.cell? ⟨kg, koff + i, none⟩ = some (.string key)) ∧ Below w10.heap.size w10 wx) (by kernel_rfl) ?_ (fun hHeld => ?_)
          · exact hBEG
          refine wpAnyH_take (i := 0) (v := ?_) rfl (by kernel_rfl) (by kernel_rfl) (by kernel_rfl) (fun _ _ _ h => h) (Or.inl ⟨by rfl, ?hy⟩) (by assumption) ?_
          case hy => intro w hSw; (try dsimp only at hSw); go_simp; try with_reducible rfl
          try simp only [Act.put, List.getElem_toArray, List.getElem_cons_succ, List.getElem_cons_zero, List.setIfInBounds_toArray, List.set_cons_zero, List.set_cons_succ]
          refine wpAnyH_take (i := 1) (v := ?_) rfl (by kernel_rfl) (by kernel_rfl) (by kernel_rfl) (fun _ _ _ h => h) (Or.inl ⟨by rfl, ?hy⟩) (by assumption) ?_
          case hy => intro w hSw; (try dsimp only at hSw); go_simp; try with_reducible rfl
          try simp only [Act.put, List.getElem_toArray, List.getElem_cons_succ, List.getElem_cons_zero, List.setIfInBounds_toArray, List.set_cons_zero, List.set_cons_succ]
          refine wpAnyH_take (i := 2) (v := ?_) rfl (by kernel_rfl) (by kernel_rfl) (by kernel_rfl) (fun _ _ _ h => h) (Or.inl ⟨by rfl, ?hy⟩) (by assumption) ?_
          case hy => intro w hSw; (try dsimp only at hSw); go_simp; try with_reducible rfl
          try simp only [Act.put, List.getElem_toArray, List.getElem_cons_succ, List.getElem_cons_zero, List.setIfInBounds_toArray, List.set_cons_zero, List.set_cons_succ]
          refine wpAnyH_take (i := 3) (v := ?_) rfl (by kernel_rfl) (by kernel_rfl) (by kernel_rfl) (fun _ _ _ h => h) (Or.inl ⟨by rfl, ?hy⟩) (by assumption) ?_
          case hy => intro w hSw; (try dsimp only at hSw); go_simp; try with_reducible rfl
          try simp only [Act.put, List.getElem_toArray, List.getElem_cons_succ, List.getElem_cons_zero, List.setIfInBounds_toArray, List.set_cons_zero, List.set_cons_succ]
          refine wpAnyH_take (i := 4) (v := ?_) rfl (by kernel_rfl) (by kernel_rfl) (by kernel_rfl) (fun _ _ _ h => h) (Or.inl ⟨by rfl, ?hy⟩) (by assumption) ?_
          case hy => intro w hSw; (try dsimp only at hSw); go_simp; try with_reducible rfl
          try simp only [Act.put, List.getElem_toArray, List.getElem_cons_succ, List.getElem_cons_zero, List.setIfInBounds_toArray, List.set_cons_zero, List.set_cons_succ]
          refine wpAnyH_take (i := 5) (v := ?_) rfl (by kernel_rfl) (by kernel_rfl) (by kernel_rfl) (fun _ _ _ h => h) (Or.inl ⟨by rfl, ?hy⟩) (by assumption) ?_
          case hy => intro w hSw; (try dsimp only at hSw); go_simp; try with_reducible rfl
          try simp only [Act.put, List.getElem_toArray, List.getElem_cons_succ, List.getElem_cons_zero, List.setIfInBounds_toArray, List.set_cons_zero, List.set_cons_succ]
          refine wpAnyH_take (i := 6) (v := ?_) rfl (by kernel_rfl) (by kernel_rfl) (by kernel_rfl) (fun _ _ _ h => h) (Or.inl ⟨by rfl, ?hy⟩) (by assumption) ?_
          case hy => intro w hSw; (try dsimp only at hSw); go_simp; try with_reducible rfl
          try simp only [Act.put, List.getElem_toArray, List.getElem_cons_succ, List.getElem_cons_zero, List.setIfInBounds_toArray, List.set_cons_zero, List.set_cons_succ]
          refine wpAnyH_take (i := 7) (v := ?_) rfl (by kernel_rfl) (by kernel_rfl) (by kernel_rfl) (fun _ _ _ h => h) (Or.inl ⟨by rfl, ?hy⟩) (by assumption) ?_
          case hy => intro w hSw; (try dsimp only at hSw); go_simp; try with_reducible rfl
          try simp only [Act.put, List.getElem_toArray, List.getElem_cons_succ, List.getElem_cons_zero, List.setIfInBounds_toArray, List.set_cons_zero, List.set_cons_succ]
          refine wpAnyH_take (i := 8) (v := ?_) rfl (by kernel_rfl) (by kernel_rfl) (by kernel_rfl) (fun _ _ _ h => h) (Or.inl ⟨by rfl, ?hy⟩) (by assumption) ?_
          case hy => intro w hSw; (try dsimp only at hSw); go_simp; try with_reducible rfl
          try simp only [Act.put, List.getElem_toArray, List.getElem_cons_succ, List.getElem_cons_zero, List.setIfInBounds_toArray, List.set_cons_zero, List.set_cons_succ]
          refine wpAnyH_take (i := 9) (v := ?_) rfl (by kernel_rfl) (by kernel_rfl) (by kernel_rfl) (fun _ _ _ h => h) (Or.inl ⟨by rfl, ?hy⟩) (by assumption) ?_
          case hy => intro w hSw; (try dsimp only at hSw); go_simp; try with_reducible rfl
          try simp only [Act.put, List.getElem_toArray, List.getElem_cons_succ, List.getElem_cons_zero, List.setIfInBounds_toArray, List.set_cons_zero, List.set_cons_succ]
          refine wpAnyH_take (i := 10) (v := ?_) rfl (by kernel_rfl) (by kernel_rfl) (by kernel_rfl) (fun _ _ _ h => h) (Or.inl ⟨by rfl, ?hy⟩) (by assumption) ?_
          case hy => intro w hSw; (try dsimp only at hSw); go_simp; try with_reducible rfl
          try simp only [Act.put, List.getElem_toArray, List.getElem_cons_succ, List.getElem_cons_zero, List.setIfInBounds_toArray, List.set_cons_zero, List.set_cons_succ]
          refine wpAnyH_take (i := 11) (v := ?_) rfl (by kernel_rfl) (by kernel_rfl) (by kernel_rfl) (fun _ _ _ h => h) (Or.inl ⟨by rfl, ?hy⟩) (by assumption) ?_
          case hy => intro w hSw; (try dsimp only at hSw); go_simp; try with_reducible rfl
          try simp only [Act.put, List.getElem_toArray, List.getElem_cons_succ, List.getElem_cons_zero, List.setIfInBounds_toArray, List.set_cons_zero, List.set_cons_succ]
          refine wpAnyH_take (i := 12) (v := ?_) rfl (by kernel_rfl) (by kernel_rfl) (by kernel_rfl) (fun _ _ _ h => h) (Or.inl ⟨by rfl, ?hy⟩) (by assumption) ?_
          case hy => intro w hSw; (try dsimp only at hSw); go_simp; try with_reducible rfl
          try simp only [Act.put, List.getElem_toArray, List.getElem_cons_succ, List.getElem_cons_zero, List.setIfInBounds_toArray, List.set_cons_zero, List.set_cons_succ]
          refine wpAnyH_take (i := 13) (v := ?_) rfl (by kernel_rfl) (by kernel_rfl) (by kernel_rfl) (fun _ _ _ h => h) (Or.inl ⟨by rfl, ?hy⟩) (by assumption) ?_
          case hy => intro w hSw; (try dsimp only at hSw); go_simp; try with_reducible rfl
          try simp only [Act.put, List.getElem_toArray, List.getElem_cons_succ, List.getElem_cons_zero, List.setIfInBounds_toArray, List.set_cons_zero, List.set_cons_succ]
          refine wpAnyH_take (i := 15) (v := ?_) rfl (by kernel_rfl) (by kernel_rfl) (by kernel_rfl) (fun _ _ _ h => h) (Or.inl ⟨by rfl, ?hy⟩) (by assumption) ?_
          case hy => intro w hSw; (try dsimp only at hSw); go_simp; try with_reducible rfl
          try simp only [Act.put, List.getElem_toArray, List.getElem_cons_succ, List.getElem_cons_zero, List.setIfInBounds_toArray, List.set_cons_zero, List.set_cons_succ]
          refine wpAnyH_take (i := 16) (v := ?_) rfl (by kernel_rfl) (by kernel_rfl) (by kernel_rfl) (fun _ _ _ h => h) (Or.inl ⟨by rfl, ?hy⟩) (by assumption) ?_
          case hy => intro w hSw; (try dsimp only at hSw); go_simp; try with_reducible rfl
          try simp only [Act.put, List.getElem_toArray, List.getElem_cons_succ, List.getElem_cons_zero, List.setIfInBounds_toArray, List.set_cons_zero, List.set_cons_succ]
          refine wpAnyH_take (i := 17) (v := ?_) rfl (by kernel_rfl) (by kernel_rfl) (by kernel_rfl) (fun _ _ _ h => h) (Or.inl ⟨by rfl, ?hy⟩) (by assumption) ?_
          case hy => intro w hSw; (try dsimp only at hSw); go_simp; try with_reducible rfl
          try simp only [Act.put, List.getElem_toArray, List.getElem_cons_succ, List.getElem_cons_zero, List.setIfInBounds_toArray, List.set_cons_zero, List.set_cons_succ]
          refine wpAnyH_take (i := 18) (v := ?_) rfl (by kernel_rfl) (by kernel_rfl) (by kernel_rfl) (fun _ _ _ h => h) (Or.inl ⟨by rfl, ?hy⟩) (by assumption) ?_
          case hy => intro w hSw; (try dsimp only at hSw); go_simp; try with_reducible rfl
          try simp only [Act.put, List.getElem_toArray, List.getElem_cons_succ, List.getElem_cons_zero, List.setIfInBounds_toArray, List.set_cons_zero, List.set_cons_succ]
          refine wpAnyH_take (i := 19) (v := ?_) rfl (by kernel_rfl) (by kernel_rfl) (by kernel_rfl) (fun _ _ _ h => h) (Or.inl ⟨by rfl, ?hy⟩) (by assumption) ?_
          case hy => intro w hSw; (try dsimp only at hSw); go_simp; try with_reducible rfl
          try simp only [Act.put, List.getElem_toArray, List.getElem_cons_succ, List.getElem_cons_zero, List.setIfInBounds_toArray, List.set_cons_zero, List.set_cons_succ]
          refine wpAnyH_ready (rs := [14]) (by kernel_rfl) (by simp) (AllReadyH.cons rfl (fun K hK => ?_) AllReadyH.nil)
          go_simp
          refine (skhash_any key HKZ.out _).mono ?_; rintro e wc ⟨rfl, hq⟩; subst hq
          try (go_wp2_with fail)
          refine hK.out _ _ ?_ (fun hHeld => ?_)
          · exact hHeld
          clear hK K
          try simp only [Act.put, List.getElem_toArray, List.getElem_cons_succ, List.getElem_cons_zero, List.setIfInBounds_toArray, List.set_cons_zero, List.set_cons_succ]
          refine wpAnyH_ready (rs := [20]) (by kernel_rfl) (by simp) (AllReadyH.cons rfl (fun K hK => ?_) AllReadyH.nil)
          go_simp
          refine (r6hash_any key HKZ.out _).mono ?_; rintro e wc ⟨rfl, hq⟩; subst hq
          try (go_wp2_with fail)
          refine hK.out _ _ ?_ (fun hHeld => ?_)
          · exact hHeld
          clear hK K
          try simp only [Act.put, List.getElem_toArray, List.getElem_cons_succ, List.getElem_cons_zero, List.setIfInBounds_toArray, List.set_cons_zero, List.set_cons_succ]
          refine wpAnyH_take (i := 21) (v := ?_) rfl (by kernel_rfl) (by kernel_rfl) (by kernel_rfl) (fun _ _ _ h => h) (Or.inl ⟨by rfl, ?hy⟩) (by assumption) ?_
          case hy => intro w hSw; (try dsimp only at hSw); go_simp; try with_reducible rfl
          try simp only [Act.put, List.getElem_toArray, List.getElem_cons_succ, List.getElem_cons_zero, List.setIfInBounds_toArray, List.set_cons_zero, List.set_cons_succ]
          refine wpAnyH_take (i := 22) (v := ?_) rfl (by kernel_rfl) (by kernel_rfl) (by kernel_rfl) (fun _ _ _ h => h) (Or.inl ⟨by rfl, ?hy⟩) (by assumption) ?_
          case hy => intro w hSw; (try dsimp only at hSw); go_simp; try with_reducible rfl
          try simp only [Act.put, List.getElem_toArray, List.getElem_cons_succ, List.getElem_cons_zero, List.setIfInBounds_toArray, List.set_cons_zero, List.set_cons_succ]
          refine wpAnyH_done (by kernel_rfl) ?_ _
          refine NoPanic.normal ?_
          have HBF := Lib.hid hHeld.2
          clear hHeld hBEG hBG3
          go_wp2_with (fail)
          exact ⟨⟨i + 1, by omega, by go_num, HBF⟩, by first | (simp [intOf]; done) | (simp [intOf]; omega)⟩
        · have HGR := Lib.hid hgr
          have HWR := Lib.hid (HW10.out.trans (HBR.out.mono HW10.out.size))
          have hb610 := HB7.out.trans (((HB8.out.trans ((HB9.out.trans ((HB10.out.trans (HBR.out.mono HB10.out.size)).mono HB9.out.size)).mono HB8.out.size))).mono HB7.out.size)
          have HT6R := Lib.hid (HT6.out.below2 (Nat.le_refl _) hb610)
          have HU7R := Lib.hid (below_ownT HU7.out ((HB8.out.trans ((HB9.out.trans ((HB10.out.trans (HBR.out.mono HB10.out.size)).mono HB9.out.size)).mono HB8.out.size))))
          have hs76 : w6.heap.size ≤ w7.heap.size := HB7.out.size
          have hs7r : w7.heap.size ≤ wr.heap.size := (HB8.out.trans ((HB9.out.trans ((HB10.out.trans (HBR.out.mono HB10.out.size)).mono HB9.out.size)).mono HB8.out.size)).size
          have HS7 := Lib.hid (And.intro hs76 hs7r)
          clear hgr hb610 hs76 hs7r
          go_wp2_with (fail)
          refine (HT.out.top wr HWR.out _ _ HT6R.out).mono ?_
          rintro e w12 ⟨va, n2, vc, rfl, hv, hb12⟩
          have HV := Lib.hid hv
          have HB12 := Lib.hid hb12
          have hn2 : n2 ≤ 1048576 := by have h1 := (own_its hv).1; have h2 := HT.out.few; omega
          have HU12 := Lib.hid (below_ownT HU7R.out hb12)
          clear hv hb12 y0 y1 y2 y3
          obtain ⟨B, hB⟩ : ∃ B, w12.heap.size = B := ⟨_, rfl⟩
          have hb13 : Below w12.heap.size w12 (w12.alloc (.cells (bookC (.slice none 0 0)) 61)) := (Below.refl _ _).alloc (Nat.le_refl _) _
          have hbk13 : (w12.alloc (.cells (bookC (.slice none 0 0)) 61)).heap[B]? = some (.cells (bookC (.slice none 0 0)) 61) := by rw [get_allocS, if_pos hB.symm]
          have hz13 : (w12.alloc (.cells (bookC (.slice none 0 0)) 61)).heap.size = B + 1 := by simp [hB]
          have HTK1 := Lib.hid (take_any (T := B + 1) (n := 0) (xs := []) hbk13 (by omega) (by omega) (World.ownsRow_nil _ _ _ _) ua n0 uc (by omega))
          have HB13 := Lib.hid hb13
          have HZ13 := Lib.hid hz13
          have HBZ := Lib.hid hB
          clear hb13 hbk13 hz13
          rw [show bookC (.slice none 0 0) = #[.slice none 0 0, .slice none 0 0, .slice none 0 0, .slice none 0 0, .slice none 0 0, .slice none 0 0, .slice none 0 0, .slice none 0 0] from rfl] at HTK1 HB13 HZ13
          go_wp2_with (fail)
          try rw [hB]
          clear hB
          generalize w12.alloc _ = w13 at *
          refine HTK1.out.mono ?_
          rintro e w14 ⟨rfl, it1, hbk14, hr14, ho14⟩
          have HO14 := Lib.hid ho14
          obtain ⟨ia, ic, rfl⟩ := own_sliceT hr14
          have HR14 := Lib.hid hr14
          have HTK2 := Lib.hid (take_any (T := B + 1) (n := 0 + 1) hbk14 (by omega) (by have h1 := ho14.size; have h2 := HZ13.out; omega) hr14 va n2 vc (by omega))
          clear hbk14 hr14 ho14 HTK1
          go_wp2_with (fail)
          refine HTK2.out.mono ?_
          rintro e w15 ⟨rfl, it2, hbk15, hr15, ho15⟩
          obtain ⟨ja, jc, rfl⟩ := own_sliceT hr15
          obtain ⟨I, rfl, hI1, hI2, hI3, hI4⟩ := two_cellAt hr15 rfl
          have hbase := HS7.out
          have hBz := HBZ.out
          have hz13 := HZ13.out
          have hs12 := HB12.out.size
          have hz14 := HO14.out.size
          have hz15 := ho15.size
          have hkeep : ∀ k, k < B → w15.heap[k]? = w12.heap[k]? := fun k hk => by
            refine (ho15.block k (by omega) (fun e => ?_)).trans ((HO14.out.block k (by omega) (fun e => ?_)).trans (HB13.out.block k (by omega)))
            · rcases e with e | e
              · omega
              · have := (HR14.out.lt k e).1; omega
            · rcases e with e | e
              · omega
              · cases e
          have hbl : Below B w12 w15 := ⟨ho15.os.trans (HO14.out.os.trans HB13.out.os), ho15.tape.trans (HO14.out.tape.trans HB13.out.tape), ho15.output.trans (HO14.out.output.trans HB13.out.output), by omega, hkeep⟩
          have hal : AlS w15 w6.heap.size wr.heap.size B I (.slice ua n0 uc) (.slice va n2 vc) n0 n2 [] [] w15 := by
            refine ⟨Below.refl _ _, rfl, rfl, below_ownT HU12.out (by rw [hBz]; exact hbl), below_ownT HV.out (by rw [hBz]; exact hbl), fun k e => ?_, fun k e => ?_, by omega, by omega, by omega, hI2⟩
            · have := (HU7.out.lt k e).2; omega
            · have := (HV.out.lt k e).2; omega
          have HAL := Lib.hid (alone_any hal hbk15 ⟨hI3, hI4⟩ hn0 hn2)
          have hgw : Below W2.heap.size W2 w15 := (HGR.out.trans (HB12.out.mono HGR.out.size)).trans (hbl.mono (by have h1 := HGR.out.size; omega))
          have HGW := Lib.hid (HB2.out.trans (hgw.mono HB2.out.size))
          have hw6 : w.heap.size ≤ w6.heap.size := by have h1 := HG6.out.size; have h2 := HB2.out.size; omega
          have HS6 := Lib.hid hw6
          clear hbk15 hr15 ho15 hI1 hI2 hI3 hI4 hbase hBz hz13 hs12 hz14 hz15 hkeep hbl hal hgw hw6 HTK2
          go_wp2_with (fail)
          refine HAL.out.mono ?_
          rintro e w16 ⟨rfl, hb16⟩
          have HF := Lib.hid (HGW.out.trans (hb16.mono HS6.out))
          clear hb16
          go_wp2_with (fail)
          go_ret
          exact ⟨rfl, HF.out⟩

    · have hl0i : ¬ (0 : Int) < len := by omega
      have HGQ := Lib.hid (HB4.out.trans (HBQ.out.mono HB4.out.size))
      obtain ⟨y0, y1, y2, y3⟩ := HAX.out wq HGQ.out
      have HHT := Lib.hid (handTx_any ka klen kcap keys HKL.out (by omega) (texts_rows (HKT.out wq HGQ.out)))
      go_wp2_with (fail)
      refine HHT.out.mono ?_
      rintro e w6 ⟨rfl, ho6, hb6⟩
      have HB6 := Lib.hid hb6
      have HO6 := Lib.hid ho6
      have HT6 := Lib.hid (hand_texts HKL.out ho6)
      have HG6 := Lib.hid (HGQ.out.trans (hb6.mono HGQ.out.size))
      have HW6 := Lib.hid (HBQ.out.trans (hb6.mono HBQ.out.size))
      obtain ⟨G, hG⟩ : ∃ G, wq.heap.size = G := ⟨_, rfl⟩
      rw [hG] at HO6 HT6 ⊢
      clear ho6 hb6 HHT y0 y1 y2 y3 hG
      obtain ⟨y0, y1, y2, y3⟩ := HAX.out w6 HG6.out
      go_wp2_with (fail)
      refine (HT.out.top w6 HW6.out _ _ HT6.out).mono ?_
      rintro e w7 ⟨ua, n0, uc, rfl, hu, hb7⟩
      have HU7 := Lib.hid hu
      have HB7 := Lib.hid hb7
      have HG7 := Lib.hid (HG6.out.trans (hb7.mono HG6.out.size))
      have HW7 := Lib.hid (HW6.out.trans (hb7.mono HW6.out.size))
      clear hu hb7 y0 y1 y2 y3
      obtain ⟨y0, y1, y2, y3⟩ := HAX.out w7 HG7.out
      go_wp2_with (fail)
      refine (HT.out.rtop w7 HW7.out _ _ (HKT.out w7 HG7.out)).mono ?_
      rintro e w8 ⟨ra, n1, rc, rfl, hrl, hri, hb8⟩
      have hui := own_its HU7.out
      have hLf := HT.out.few
      have HSI := Lib.hid (sameits_any (w := w8) ua ra n0 n1 uc rc [] hui.1 hrl (by omega) (hui.2.2.below (Nat.le_refl _) hb8) hri)
      have hn0 : n0 ≤ 1048576 := by omega
      have HB8 := Lib.hid hb8
      have HG8 := Lib.hid (HG7.out.trans (hb8.mono HG7.out.size))
      have HW8 := Lib.hid (HW7.out.trans (hb8.mono HW7.out.size))
      clear hrl hri hb8 hui hLf y0 y1 y2 y3
      go_wp2_with (fail)
      refine HSI.out.mono ?_
      rintro e w9 ⟨rfl, hb9⟩
      have HB9 := Lib.hid hb9
      have HG9 := Lib.hid (HG8.out.trans (hb9.mono HG8.out.size))
      have HW9 := Lib.hid (HW8.out.trans (hb9.mono HW8.out.size))
      have hO9 := below_ownT HO6.out (HB7.out.trans ((HB8.out.trans (hb9.mono HB8.out.size)).mono HB7.out.size))
      have HKP := Lib.hid (keptTx_any (w := w9) G G ka klen kcap keys HKL.out (by omega) hO9 (texts_rows (HKT.out w9 HG9.out)))
      obtain ⟨y0, y1, y2, y3⟩ := HAX.out w9 HG9.out
      clear hb9 hO9 HSI
      go_wp2_with (fail)
      refine HKP.out.mono ?_
      rintro e w10 ⟨rfl, hb10⟩
      have HB10 := Lib.hid hb10
      have HG10 := Lib.hid (HG9.out.trans (hb10.mono HG9.out.size))
      have HW10 := Lib.hid (HW9.out.trans (hb10.mono HW9.out.size))
      clear hb10 y0 y1 y2 y3 HKP
      go_wp2_with (fail)
      go_loopw [17, 18, 19, 20, 21] (fun s17 _ _ _ _ wr => ∃ i : Nat, i ≤ klen ∧ s17 = .int .i64 i ∧ Hid (Below w10.heap.size w10 wr)) (fun s17 _ _ _ _ _ => klen - (intOf s17).toNat)
      case atStart => exact ⟨0, Nat.zero_le _, rfl, Lib.hid (Below.refl _ _)⟩
      case round =>
        rename World => wr
        obtain ⟨i, hi, rfl, HBR⟩ := hrel
        have hgr := HG10.out.trans (HBR.out.mono HG10.out.size)
        obtain ⟨y0, y1, y2, y3⟩ := HAX.out wr hgr
        by_cases hlt : i < klen
        · have k0 : (0 : Int) ≤ i := by omega
          have k1 : (i : Int) < klen := by omega
          have hkl2 : i < keys.length := by rw [HKL.out]; exact hlt
          have hne : keys ≠ [] := fun e => by rw [e] at hkl2; simp at hkl2
          obtain ⟨kg, koff, rfl, hgl, hcell⟩ : ∃ b off, ka = some ⟨b, off, none⟩ ∧ b < W2.heap.size ∧ ∀ j, j < keys.length → W2.cell? ⟨b, off + j, none⟩ = some (.string (keys.getD j ⟨#[]⟩)) := by
            rcases HKT.out W2 (Below.refl _ _) with h | h
            · exact absurd h hne
            · exact h
          have hck := hcell i hkl2
          have hkz2 := HKZ.out (keys.getD i ⟨#[]⟩) (by simp [List.getD, hkl2])
          obtain ⟨key, hkey⟩ : ∃ key, keys.getD i ⟨#[]⟩ = key := ⟨_, rfl⟩
          rw [hkey] at hck hkz2
          have HSB : Hid (∀ wx, Below w10.heap.size w10 wx → (wx.cell? ⟨w.heap.size + 1, 2, none⟩ = some (.int .i64 row) ∧ wx.cell? ⟨w.heap.size + 1, 3, none⟩ = some (.slice (some ⟨kg, koff, none⟩) klen kcap) ∧ wx.cell? ⟨kg, koff + i, none⟩ = some (.string key)) ∧ Below w10.heap.size w10 wx) := fun wx hx => by
            have hg := HG10.out.trans (hx.mono HG10.out.size)
            have hy := HAX.out wx hg
            exact ⟨⟨hy.2.2.1, hy.2.2.2, (hg.cell (p := ⟨kg, koff + i, none⟩) hgl).trans hck⟩, hx⟩
          have HKZA := HKZ
          clear HKZ
          have HKZ := Lib.hid hkz2
          have HCOL := Lib.hid (fun wx (hx : Below w10.heap.size w10 wx) => HT.out.col wx (HW10.out.trans (hx.mono HW10.out.size)) key hkz2)
          have HRCL := Lib.hid (fun wx (hx : Below w10.heap.size w10 wx) => HT.out.rcol wx (HW10.out.trans (hx.mono HW10.out.size)) key hkz2)
          clear hcell hkey hne hck hkz2 hkl2 hgl hgr
          have hBEG := HSB.out _ (HBR.out.trans (show Below w10.heap.size wr wr.drew from ⟨rfl, rfl, rfl, Nat.le_refl _, fun _ _ => rfl⟩))
          go_wp2_with (fail)
          refine wp_region_noPanic ?_
          refine wp_region_held_drew (S := fun wx => (wx.cell? ⟨w.heap.size + 1, 2, none⟩ = some (.int .i64 row) ∧ wx.cell? ⟨w.heap.size + 1, 3, none⟩ = some (.slice (some ⟨kg, koff, none⟩) klen kcap) ∧ wx.cell? ⟨kg, koff + i, none⟩ = some (.string key)) ∧ Below w10.heap.size w10 wx) (by kernel_rfl) ?_ (fun hHeld => ?_)
          · exact hBEG
          refine wpAnyH_take (i := 0) (v := ?_) rfl (by kernel_rfl) (by kernel_rfl) (by kernel_rfl) (fun _ _ _ h => h) (Or.inl ⟨by rfl, ?hy⟩) (by assumption) ?_
          case hy => intro w hSw; (try dsimp only at hSw); go_simp; try with_reducible rfl
          try simp only [Act.put, List.getElem_toArray, List.getElem_cons_succ, List.getElem_cons_zero, List.setIfInBounds_toArray, List.set_cons_zero, List.set_cons_succ]
          refine wpAnyH_take (i := 1) (v := ?_) rfl (by kernel_rfl) (by kernel_rfl) (by kernel_rfl) (fun _ _ _ h => h) (Or.inl ⟨by rfl, ?hy⟩) (by assumption) ?_
          case hy => intro w hSw; (try dsimp only at hSw); go_simp; try with_reducible rfl
          try simp only [Act.put, List.getElem_toArray, List.getElem_cons_succ, List.getElem_cons_zero, List.setIfInBounds_toArray, List.set_cons_zero, List.set_cons_succ]
          refine wpAnyH_take (i := 2) (v := ?_) rfl (by kernel_rfl) (by kernel_rfl) (by kernel_rfl) (fun _ _ _ h => h) (Or.inl ⟨by rfl, ?hy⟩) (by assumption) ?_
          case hy => intro w hSw; (try dsimp only at hSw); go_simp; try with_reducible rfl
          try simp only [Act.put, List.getElem_toArray, List.getElem_cons_succ, List.getElem_cons_zero, List.setIfInBounds_toArray, List.set_cons_zero, List.set_cons_succ]
          refine wpAnyH_take (i := 3) (v := ?_) rfl (by kernel_rfl) (by kernel_rfl) (by kernel_rfl) (fun _ _ _ h => h) (Or.inl ⟨by rfl, ?hy⟩) (by assumption) ?_
          case hy => intro w hSw; (try dsimp only at hSw); go_simp; try with_reducible rfl
          try simp only [Act.put, List.getElem_toArray, List.getElem_cons_succ, List.getElem_cons_zero, List.setIfInBounds_toArray, List.set_cons_zero, List.set_cons_succ]
          refine wpAnyH_take (i := 4) (v := ?_) rfl (by kernel_rfl) (by kernel_rfl) (by kernel_rfl) (fun _ _ _ h => h) (Or.inl ⟨by rfl, ?hy⟩) (by assumption) ?_
          case hy => intro w hSw; (try dsimp only at hSw); go_simp; try with_reducible rfl
          try simp only [Act.put, List.getElem_toArray, List.getElem_cons_succ, List.getElem_cons_zero, List.setIfInBounds_toArray, List.set_cons_zero, List.set_cons_succ]
          refine wpAnyH_take (i := 5) (v := ?_) rfl (by kernel_rfl) (by kernel_rfl) (by kernel_rfl) (fun _ _ _ h => h) (Or.inl ⟨by rfl, ?hy⟩) (by assumption) ?_
          case hy => intro w hSw; (try dsimp only at hSw); go_simp; try with_reducible rfl
          try simp only [Act.put, List.getElem_toArray, List.getElem_cons_succ, List.getElem_cons_zero, List.setIfInBounds_toArray, List.set_cons_zero, List.set_cons_succ]
          refine wpAnyH_take (i := 6) (v := ?_) rfl (by kernel_rfl) (by kernel_rfl) (by kernel_rfl) (fun _ _ _ h => h) (Or.inl ⟨by rfl, ?hy⟩) (by assumption) ?_
          case hy => intro w hSw; (try dsimp only at hSw); go_simp; try with_reducible rfl
          try simp only [Act.put, List.getElem_toArray, List.getElem_cons_succ, List.getElem_cons_zero, List.setIfInBounds_toArray, List.set_cons_zero, List.set_cons_succ]
          refine wpAnyH_take (i := 7) (v := ?_) rfl (by kernel_rfl) (by kernel_rfl) (by kernel_rfl) (fun _ _ _ h => h) (Or.inl ⟨by rfl, ?hy⟩) (by assumption) ?_
          case hy => intro w hSw; (try dsimp only at hSw); go_simp; try with_reducible rfl
          try simp only [Act.put, List.getElem_toArray, List.getElem_cons_succ, List.getElem_cons_zero, List.setIfInBounds_toArray, List.set_cons_zero, List.set_cons_succ]
          refine wpAnyH_ready (rs := [8]) (by kernel_rfl) (by simp) (AllReadyH.cons rfl (fun K hK => ?_) AllReadyH.nil)
          go_simp
          refine (HCOL.out _ hHeld.2).mono ?_; rintro e w11 ⟨rfl, hbc⟩
          try (go_wp2_with fail)
          refine hK.out _ _ ?_ (fun hHeld => ?_)
          · exact HSB.out _ (hHeld.2.trans (hbc.mono hHeld.2.size))
          clear hK K
          try simp only [Act.put, List.getElem_toArray, List.getElem_cons_succ, List.getElem_cons_zero, List.setIfInBounds_toArray, List.set_cons_zero, List.set_cons_succ]
          refine wpAnyH_take (i := 9) (v := ?_) rfl (by kernel_rfl) (by kernel_rfl) (by kernel_rfl) (fun _ _ _ h => h) (Or.inl ⟨by rfl, ?hy⟩) (by assumption) ?_
          case hy => intro w hSw; (try dsimp only at hSw); go_simp; try with_reducible rfl
          try simp only [Act.put, List.getElem_toArray, List.getElem_cons_succ, List.getElem_cons_zero, List.setIfInBounds_toArray, List.set_cons_zero, List.set_cons_succ]
          refine wpAnyH_take (i := 10) (v := ?_) rfl (by kernel_rfl) (by kernel_rfl) (by kernel_rfl) (fun _ _ _ h => h) (Or.inl ⟨by rfl, ?hy⟩) (by assumption) ?_
          case hy => intro w hSw; (try dsimp only at hSw); go_simp; try with_reducible rfl
          try simp only [Act.put, List.getElem_toArray, List.getElem_cons_succ, List.getElem_cons_zero, List.setIfInBounds_toArray, List.set_cons_zero, List.set_cons_succ]
          refine wpAnyH_take (i := 11) (v := ?_) rfl (by kernel_rfl) (by kernel_rfl) (by kernel_rfl) (fun _ _ _ h => h) (Or.inl ⟨by rfl, ?hy⟩) (by assumption) ?_
          case hy => intro w hSw; (try dsimp only at hSw); go_simp; try with_reducible rfl
          try simp only [Act.put, List.getElem_toArray, List.getElem_cons_succ, List.getElem_cons_zero, List.setIfInBounds_toArray, List.set_cons_zero, List.set_cons_succ]
          refine wpAnyH_take (i := 12) (v := ?_) rfl (by kernel_rfl) (by kernel_rfl) (by kernel_rfl) (fun _ _ _ h => h) (Or.inl ⟨by rfl, ?hy⟩) (by assumption) ?_
          case hy => intro w hSw; (try dsimp only at hSw); go_simp; try with_reducible rfl
          try simp only [Act.put, List.getElem_toArray, List.getElem_cons_succ, List.getElem_cons_zero, List.setIfInBounds_toArray, List.set_cons_zero, List.set_cons_succ]
          refine wpAnyH_take (i := 13) (v := ?_) rfl (by kernel_rfl) (by kernel_rfl) (by kernel_rfl) (fun _ _ _ h => h) (Or.inl ⟨by rfl, ?hy⟩) (by assumption) ?_
          case hy => intro w hSw; (try dsimp only at hSw); go_simp; try with_reducible rfl
          try simp only [Act.put, List.getElem_toArray, List.getElem_cons_succ, List.getElem_cons_zero, List.setIfInBounds_toArray, List.set_cons_zero, List.set_cons_succ]
          refine wpAnyH_done (by kernel_rfl) ?_ _
          refine NoPanic.normal ?_
          have hBG2 := hHeld.2
          clear hHeld hBEG y0 y1 y2 y3
          have hBEG := HSB.out _ (hBG2.trans (show Below w10.heap.size w11 w11.drew from ⟨rfl, rfl, rfl, Nat.le_refl _, fun _ _ => rfl⟩))
          go_wp2_with (fail)
          refine wp_region_noPanic ?_
          refine wp_region_held_drew (S := fun wx => (wx.cell? ⟨w.heap.size + 1, 2, none⟩ = some (.int .i64 row) ∧ wx.cell? ⟨w.heap.size + 1, 3, none⟩ = some (.slice (some ⟨kg, koff, none⟩) klen kcap) ∧ wx.cell? ⟨kg, koff + i, none⟩ = some (.string key)) ∧ Below w10.heap.size w10 wx) (by kernel_rfl) ?_ (fun hHeld => ?_)
          · exact hBEG
          refine wpAnyH_take (i := 0) (v := ?_) rfl (by kernel_rfl) (by kernel_rfl) (by kernel_rfl) (fun _ _ _ h => h) (Or.inl ⟨by rfl, ?hy⟩) (by assumption) ?_
          case hy => intro w hSw; (try dsimp only at hSw); go_simp; try with_reducible rfl
          try simp only [Act.put, List.getElem_toArray, List.getElem_cons_succ, List.getElem_cons_zero, List.setIfInBounds_toArray, List.set_cons_zero, List.set_cons_succ]
          refine wpAnyH_take (i := 1) (v := ?_) rfl (by kernel_rfl) (by kernel_rfl) (by kernel_rfl) (fun _ _ _ h => h) (Or.inl ⟨by rfl, ?hy⟩) (by assumption) ?_
          case hy => intro w hSw; (try dsimp only at hSw); go_simp; try with_reducible rfl
          try simp only [Act.put, List.getElem_toArray, List.getElem_cons_succ, List.getElem_cons_zero, List.setIfInBounds_toArray, List.set_cons_zero, List.set_cons_succ]
          refine wpAnyH_take (i := 2) (v := ?_) rfl (by kernel_rfl) (by kernel_rfl) (by kernel_rfl) (fun _ _ _ h => h) (Or.inl ⟨by rfl, ?hy⟩) (by assumption) ?_
          case hy => intro w hSw; (try dsimp only at hSw); go_simp; try with_reducible rfl
          try simp only [Act.put, List.getElem_toArray, List.getElem_cons_succ, List.getElem_cons_zero, List.setIfInBounds_toArray, List.set_cons_zero, List.set_cons_succ]
          refine wpAnyH_take (i := 3) (v := ?_) rfl (by kernel_rfl) (by kernel_rfl) (by kernel_rfl) (fun _ _ _ h => h) (Or.inl ⟨by rfl, ?hy⟩) (by assumption) ?_
          case hy => intro w hSw; (try dsimp only at hSw); go_simp; try with_reducible rfl
          try simp only [Act.put, List.getElem_toArray, List.getElem_cons_succ, List.getElem_cons_zero, List.setIfInBounds_toArray, List.set_cons_zero, List.set_cons_succ]
          refine wpAnyH_take (i := 4) (v := ?_) rfl (by kernel_rfl) (by kernel_rfl) (by kernel_rfl) (fun _ _ _ h => h) (Or.inl ⟨by rfl, ?hy⟩) (by assumption) ?_
          case hy => intro w hSw; (try dsimp only at hSw); go_simp; try with_reducible rfl
          try simp only [Act.put, List.getElem_toArray, List.getElem_cons_succ, List.getElem_cons_zero, List.setIfInBounds_toArray, List.set_cons_zero, List.set_cons_succ]
          refine wpAnyH_take (i := 5) (v := ?_) rfl (by kernel_rfl) (by kernel_rfl) (by kernel_rfl) (fun _ _ _ h => h) (Or.inl ⟨by rfl, ?hy⟩) (by assumption) ?_
          case hy => intro w hSw; (try dsimp only at hSw); go_simp; try with_reducible rfl
          try simp only [Act.put, List.getElem_toArray, List.getElem_cons_succ, List.getElem_cons_zero, List.setIfInBounds_toArray, List.set_cons_zero, List.set_cons_succ]
          refine wpAnyH_take (i := 6) (v := ?_) rfl (by kernel_rfl) (by kernel_rfl) (by kernel_rfl) (fun _ _ _ h => h) (Or.inl ⟨by rfl, ?hy⟩) (by assumption) ?_
          case hy => intro w hSw; (try dsimp only at hSw); go_simp; try with_reducible rfl
          try simp only [Act.put, List.getElem_toArray, List.getElem_cons_succ, List.getElem_cons_zero, List.setIfInBounds_toArray, List.set_cons_zero, List.set_cons_succ]
          refine wpAnyH_take (i := 7) (v := ?_) rfl (by kernel_rfl) (by kernel_rfl) (by kernel_rfl) (fun _ _ _ h => h) (Or.inl ⟨by rfl, ?hy⟩) (by assumption) ?_
          case hy => intro w hSw; (try dsimp only at hSw); go_simp; try with_reducible rfl
          try simp only [Act.put, List.getElem_toArray, List.getElem_cons_succ, List.getElem_cons_zero, List.setIfInBounds_toArray, List.set_cons_zero, List.set_cons_succ]
          refine wpAnyH_ready (rs := [8]) (by kernel_rfl) (by simp) (AllReadyH.cons rfl (fun K hK => ?_) AllReadyH.nil)
          go_simp
          refine (HRCL.out _ hHeld.2).mono ?_; rintro e w12 ⟨rfl, hbc⟩
          try (go_wp2_with fail)
          refine hK.out _ _ ?_ (fun hHeld => ?_)
          · exact HSB.out _ (hHeld.2.trans (hbc.mono hHeld.2.size))
          clear hK K
          try simp only [Act.put, List.getElem_toArray, List.getElem_cons_succ, List.getElem_cons_zero, List.setIfInBounds_toArray, List.set_cons_zero, List.set_cons_succ]
          refine wpAnyH_take (i := 9) (v := ?_) rfl (by kernel_rfl) (by kernel_rfl) (by kernel_rfl) (fun _ _ _ h => h) (Or.inl ⟨by rfl, ?hy⟩) (by assumption) ?_
          case hy => intro w hSw; (try dsimp only at hSw); go_simp; try with_reducible rfl
          try simp only [Act.put, List.getElem_toArray, List.getElem_cons_succ, List.getElem_cons_zero, List.setIfInBounds_toArray, List.set_cons_zero, List.set_cons_succ]
          refine wpAnyH_take (i := 10) (v := ?_) rfl (by kernel_rfl) (by kernel_rfl) (by kernel_rfl) (fun _ _ _ h => h) (Or.inl ⟨by rfl, ?hy⟩) (by assumption) ?_
          case hy => intro w hSw; (try dsimp only at hSw); go_simp; try with_reducible rfl
          try simp only [Act.put, List.getElem_toArray, List.getElem_cons_succ, List.getElem_cons_zero, List.setIfInBounds_toArray, List.set_cons_zero, List.set_cons_succ]
          refine wpAnyH_take (i := 11) (v := ?_) rfl (by kernel_rfl) (by kernel_rfl) (by kernel_rfl) (fun _ _ _ h => h) (Or.inl ⟨by rfl, ?hy⟩) (by assumption) ?_
          case hy => intro w hSw; (try dsimp only at hSw); go_simp; try with_reducible rfl
          try simp only [Act.put, List.getElem_toArray, List.getElem_cons_succ, List.getElem_cons_zero, List.setIfInBounds_toArray, List.set_cons_zero, List.set_cons_succ]
          refine wpAnyH_take (i := 12) (v := ?_) rfl (by kernel_rfl) (by kernel_rfl) (by kernel_rfl) (fun _ _ _ h => h) (Or.inl ⟨by rfl, ?hy⟩) (by assumption) ?_
          case hy => intro w hSw; (try dsimp only at hSw); go_simp; try with_reducible rfl
          try simp only [Act.put, List.getElem_toArray, List.getElem_cons_succ, List.getElem_cons_zero, List.setIfInBounds_toArray, List.set_cons_zero, List.set_cons_succ]
          refine wpAnyH_take (i := 13) (v := ?_) rfl (by kernel_rfl) (by kernel_rfl) (by kernel_rfl) (fun _ _ _ h => h) (Or.inl ⟨by rfl, ?hy⟩) (by assumption) ?_
          case hy => intro w hSw; (try dsimp only at hSw); go_simp; try with_reducible rfl
          try simp only [Act.put, List.getElem_toArray, List.getElem_cons_succ, List.getElem_cons_zero, List.setIfInBounds_toArray, List.set_cons_zero, List.set_cons_succ]
          refine wpAnyH_done (by kernel_rfl) ?_ _
          refine NoPanic.normal ?_
          have hBG3 := hHeld.2
          clear hHeld hBEG hBG2
          have hBEG := HSB.out _ (hBG3.trans (show Below w10.heap.size w12 w12.drew from ⟨rfl, rfl, rfl, Nat.le_refl _, fun _ _ => rfl⟩))
          go_wp2_with (fail)
          refine wp_region_noPanic ?_
          refine wp_region_held_drew (S := fun wx => (wx.cell? ⟨w.heap.size + 1, 2, none⟩ = some (.int .i64 row) ∧ wx.cell? ⟨w.heap.size + 1, 3, none⟩ = some (.slice (some ⟨kg, koff, none⟩) klen kcap) ∧ wx.cell? ⟨kg, koff + i, none⟩ = some (.string key)) ∧ Below w10.heap.size w10 wx) (by kernel_rfl) ?_ (fun hHeld => ?_)
          · exact hBEG
          refine wpAnyH_take (i := 0) (v := ?_) rfl (by kernel_rfl) (by kernel_rfl) (by kernel_rfl) (fun _ _ _ h => h) (Or.inl ⟨by rfl, ?hy⟩) (by assumption) ?_
          case hy => intro w hSw; (try dsimp only at hSw); go_simp; try with_reducible rfl
          try simp only [Act.put, List.getElem_toArray, List.getElem_cons_succ, List.getElem_cons_zero, List.setIfInBounds_toArray, List.set_cons_zero, List.set_cons_succ]
          refine wpAnyH_take (i := 1) (v := ?_) rfl (by kernel_rfl) (by kernel_rfl) (by kernel_rfl) (fun _ _ _ h => h) (Or.inl ⟨by rfl, ?hy⟩) (by assumption) ?_
          case hy => intro w hSw; (try dsimp only at hSw); go_simp; try with_reducible rfl
          try simp only [Act.put, List.getElem_toArray, List.getElem_cons_succ, List.getElem_cons_zero, List.setIfInBounds_toArray, List.set_cons_zero, List.set_cons_succ]
          refine wpAnyH_take (i := 2) (v := ?_) rfl (by kernel_rfl) (by kernel_rfl) (by kernel_rfl) (fun _ _ _ h => h) (Or.inl ⟨by rfl, ?hy⟩) (by assumption) ?_
          case hy => intro w hSw; (try dsimp only at hSw); go_simp; try with_reducible rfl
          try simp only [Act.put, List.getElem_toArray, List.getElem_cons_succ, List.getElem_cons_zero, List.setIfInBounds_toArray, List.set_cons_zero, List.set_cons_succ]
          refine wpAnyH_take (i := 3) (v := ?_) rfl (by kernel_rfl) (by kernel_rfl) (by kernel_rfl) (fun _ _ _ h => h) (Or.inl ⟨by rfl, ?hy⟩) (by assumption) ?_
          case hy => intro w hSw; (try dsimp only at hSw); go_simp; try with_reducible rfl
          try simp only [Act.put, List.getElem_toArray, List.getElem_cons_succ, List.getElem_cons_zero, List.setIfInBounds_toArray, List.set_cons_zero, List.set_cons_succ]
          refine wpAnyH_take (i := 4) (v := ?_) rfl (by kernel_rfl) (by kernel_rfl) (by kernel_rfl) (fun _ _ _ h => h) (Or.inl ⟨by rfl, ?hy⟩) (by assumption) ?_
          case hy => intro w hSw; (try dsimp only at hSw); go_simp; try with_reducible rfl
          try simp only [Act.put, List.getElem_toArray, List.getElem_cons_succ, List.getElem_cons_zero, List.setIfInBounds_toArray, List.set_cons_zero, List.set_cons_succ]
          refine wpAnyH_take (i := 5) (v := ?_) rfl (by kernel_rfl) (by kernel_rfl) (by kernel_rfl) (fun _ _ _ h => h) (Or.inl ⟨by rfl, ?hy⟩) (by assumption) ?_
          case hy => intro w hSw; (try dsimp only at hSw); go_simp; try with_reducible rfl
          try simp only [Act.put, List.getElem_toArray, List.getElem_cons_succ, List.getElem_cons_zero, List.setIfInBounds_toArray, List.set_cons_zero, List.set_cons_succ]
          refine wpAnyH_take (i := 6) (v := ?_) rfl (by kernel_rfl) (by kernel_rfl) (by kernel_rfl) (fun _ _ _ h => h) (Or.inl ⟨by rfl, ?hy⟩) (by assumption) ?_
          case hy => intro w hSw; (try dsimp only at hSw); go_simp; try with_reducible rfl
          try simp only [Act.put, List.getElem_toArray, List.getElem_cons_succ, List.getElem_cons_zero, List.setIfInBounds_toArray, List.set_cons_zero, List.set_cons_succ]
          refine wpAnyH_take (i := 7) (v := ?_) rfl (by kernel_rfl) (by kernel_rfl) (by kernel_rfl) (fun _ _ _ h => h) (Or.inl ⟨by rfl, ?hy⟩) (by assumption) ?_
          case hy => intro w hSw; (try dsimp only at hSw); go_simp; try with_reducible rfl
          try simp only [Act.put, List.getElem_toArray, List.getElem_cons_succ, List.getElem_cons_zero, List.setIfInBounds_toArray, List.set_cons_zero, List.set_cons_succ]
          refine wpAnyH_take (i := 8) (v := ?_) rfl (by kernel_rfl) (by kernel_rfl) (by kernel_rfl) (fun _ _ _ h => h) (Or.inl ⟨by rfl, ?hy⟩) (by assumption) ?_
          case hy => intro w hSw; (try dsimp only at hSw); go_simp; try with_reducible rfl
          try simp only [Act.put, List.getElem_toArray, List.getElem_cons_succ, List.getElem_cons_zero, List.setIfInBounds_toArray, List.set_cons_zero, List.set_cons_succ]
          refine wpAnyH_take (i := 9) (v := ?_) rfl (by kernel_rfl) (by kernel_rfl) (by kernel_rfl) (fun _ _ _ h => h) (Or.inl ⟨by rfl, ?hy⟩) (by assumption) ?_
          case hy => intro w hSw; (try dsimp only at hSw); go_simp; try with_reducible rfl
          try simp only [Act.put, List.getElem_toArray, List.getElem_cons_succ, List.getElem_cons_zero, List.setIfInBounds_toArray, List.set_cons_zero, List.set_cons_succ]
          refine wpAnyH_take (i := 10) (v := ?_) rfl (by kernel_rfl) (by kernel_rfl) (by kernel_rfl) (fun _ _ _ h => h) (Or.inl ⟨by rfl, ?hy⟩) (by assumption) ?_
          case hy => intro w hSw; (try dsimp only at hSw); go_simp; try with_reducible rfl
          try simp only [Act.put, List.getElem_toArray, List.getElem_cons_succ, List.getElem_cons_zero, List.setIfInBounds_toArray, List.set_cons_zero, List.set_cons_succ]
          refine wpAnyH_take (i := 11) (v := ?_) rfl (by kernel_rfl) (by kernel_rfl) (by kernel_rfl) (fun _ _ _ h => h) (Or.inl ⟨by rfl, ?hy⟩) (by assumption) ?_
          case hy => intro w hSw; (try dsimp only at hSw); go_simp; try with_reducible rfl
          try simp only [Act.put, List.getElem_toArray, List.getElem_cons_succ, List.getElem_cons_zero, List.setIfInBounds_toArray, List.set_cons_zero, List.set_cons_succ]
          refine wpAnyH_take (i := 12) (v := ?_) rfl (by kernel_rfl) (by kernel_rfl) (by kernel_rfl) (fun _ _ _ h => h) (Or.inl ⟨by rfl, ?hy⟩) (by assumption) ?_
          case hy => intro w hSw; (try dsimp only at hSw); go_simp; try with_reducible rfl
          try simp only [Act.put, List.getElem_toArray, List.getElem_cons_succ, List.getElem_cons_zero, List.setIfInBounds_toArray, List.set_cons_zero, List.set_cons_succ]
          refine wpAnyH_take (i := 13) (v := ?_) rfl (by kernel_rfl) (by kernel_rfl) (by kernel_rfl) (fun _ _ _ h => h) (Or.inl ⟨by rfl, ?hy⟩) (by assumption) ?_
          case hy => intro w hSw; (try dsimp only at hSw); go_simp; try with_reducible rfl
          try simp only [Act.put, List.getElem_toArray, List.getElem_cons_succ, List.getElem_cons_zero, List.setIfInBounds_toArray, List.set_cons_zero, List.set_cons_succ]
          refine wpAnyH_take (i := 15) (v := ?_) rfl (by kernel_rfl) (by kernel_rfl) (by kernel_rfl) (fun _ _ _ h => h) (Or.inl ⟨by rfl, ?hy⟩) (by assumption) ?_
          case hy => intro w hSw; (try dsimp only at hSw); go_simp; try with_reducible rfl
          try simp only [Act.put, List.getElem_toArray, List.getElem_cons_succ, List.getElem_cons_zero, List.setIfInBounds_toArray, List.set_cons_zero, List.set_cons_succ]
          refine wpAnyH_take (i := 16) (v := ?_) rfl (by kernel_rfl) (by kernel_rfl) (by kernel_rfl) (fun _ _ _ h => h) (Or.inl ⟨by rfl, ?hy⟩) (by assumption) ?_
          case hy => intro w hSw; (try dsimp only at hSw); go_simp; try with_reducible rfl
          try simp only [Act.put, List.getElem_toArray, List.getElem_cons_succ, List.getElem_cons_zero, List.setIfInBounds_toArray, List.set_cons_zero, List.set_cons_succ]
          refine wpAnyH_take (i := 17) (v := ?_) rfl (by kernel_rfl) (by kernel_rfl) (by kernel_rfl) (fun _ _ _ h => h) (Or.inl ⟨by rfl, ?hy⟩) (by assumption) ?_
          case hy => intro w hSw; (try dsimp only at hSw); go_simp; try with_reducible rfl
          try simp only [Act.put, List.getElem_toArray, List.getElem_cons_succ, List.getElem_cons_zero, List.setIfInBounds_toArray, List.set_cons_zero, List.set_cons_succ]
          refine wpAnyH_take (i := 18) (v := ?_) rfl (by kernel_rfl) (by kernel_rfl) (by kernel_rfl) (fun _ _ _ h => h) (Or.inl ⟨by rfl, ?hy⟩) (by assumption) ?_
          case hy => intro w hSw; (try dsimp only at hSw); go_simp; try with_reducible rfl
          try simp only [Act.put, List.getElem_toArray, List.getElem_cons_succ, List.getElem_cons_zero, List.setIfInBounds_toArray, List.set_cons_zero, List.set_cons_succ]
          refine wpAnyH_take (i := 19) (v := ?_) rfl (by kernel_rfl) (by kernel_rfl) (by kernel_rfl) (fun _ _ _ h => h) (Or.inl ⟨by rfl, ?hy⟩) (by assumption) ?_
          case hy => intro w hSw; (try dsimp only at hSw); go_simp; try with_reducible rfl
          try simp only [Act.put, List.getElem_toArray, List.getElem_cons_succ, List.getElem_cons_zero, List.setIfInBounds_toArray, List.set_cons_zero, List.set_cons_succ]
          refine wpAnyH_ready (rs := [14]) (by kernel_rfl) (by simp) (AllReadyH.cons rfl (fun K hK => ?_) AllReadyH.nil)
          go_simp
          refine (skhash_any key HKZ.out _).mono ?_; rintro e wc ⟨rfl, hq⟩; subst hq
          try (go_wp2_with fail)
          refine hK.out _ _ ?_ (fun hHeld => ?_)
          · exact hHeld
          clear hK K
          try simp only [Act.put, List.getElem_toArray, List.getElem_cons_succ, List.getElem_cons_zero, List.setIfInBounds_toArray, List.set_cons_zero, List.set_cons_succ]
          refine wpAnyH_ready (rs := [20]) (by kernel_rfl) (by simp) (AllReadyH.cons rfl (fun K hK => ?_) AllReadyH.nil)
          go_simp
          refine (r6hash_any key HKZ.out _).mono ?_; rintro e wc ⟨rfl, hq⟩; subst hq
          try (go_wp2_with fail)
          refine hK.out _ _ ?_ (fun hHeld => ?_)
          · exact hHeld
          clear hK K
          try simp only [Act.put, List.getElem_toArray, List.getElem_cons_succ, List.getElem_cons_zero, List.setIfInBounds_toArray, List.set_cons_zero, List.set_cons_succ]
          refine wpAnyH_take (i := 21) (v := ?_) rfl (by kernel_rfl) (by kernel_rfl) (by kernel_rfl) (fun _ _ _ h => h) (Or.inl ⟨by rfl, ?hy⟩) (by assumption) ?_
          case hy => intro w hSw; (try dsimp only at hSw); go_simp; try with_reducible rfl
          try simp only [Act.put, List.getElem_toArray, List.getElem_cons_succ, List.getElem_cons_zero, List.setIfInBounds_toArray, List.set_cons_zero, List.set_cons_succ]
          refine wpAnyH_take (i := 22) (v := ?_) rfl (by kernel_rfl) (by kernel_rfl) (by kernel_rfl) (fun _ _ _ h => h) (Or.inl ⟨by rfl, ?hy⟩) (by assumption) ?_
          case hy => intro w hSw; (try dsimp only at hSw); go_simp; try with_reducible rfl
          try simp only [Act.put, List.getElem_toArray, List.getElem_cons_succ, List.getElem_cons_zero, List.setIfInBounds_toArray, List.set_cons_zero, List.set_cons_succ]
          refine wpAnyH_done (by kernel_rfl) ?_ _
          refine NoPanic.normal ?_
          have HBF := Lib.hid hHeld.2
          clear hHeld hBEG hBG3
          go_wp2_with (fail)
          exact ⟨⟨i + 1, by omega, by go_num, HBF⟩, by first | (simp [intOf]; done) | (simp [intOf]; omega)⟩
        · have HGR := Lib.hid hgr
          have HWR := Lib.hid (HW10.out.trans (HBR.out.mono HW10.out.size))
          have hb610 := HB7.out.trans (((HB8.out.trans ((HB9.out.trans ((HB10.out.trans (HBR.out.mono HB10.out.size)).mono HB9.out.size)).mono HB8.out.size))).mono HB7.out.size)
          have HT6R := Lib.hid (HT6.out.below2 (Nat.le_refl _) hb610)
          have HU7R := Lib.hid (below_ownT HU7.out ((HB8.out.trans ((HB9.out.trans ((HB10.out.trans (HBR.out.mono HB10.out.size)).mono HB9.out.size)).mono HB8.out.size))))
          have hs76 : w6.heap.size ≤ w7.heap.size := HB7.out.size
          have hs7r : w7.heap.size ≤ wr.heap.size := (HB8.out.trans ((HB9.out.trans ((HB10.out.trans (HBR.out.mono HB10.out.size)).mono HB9.out.size)).mono HB8.out.size)).size
          have HS7 := Lib.hid (And.intro hs76 hs7r)
          clear hgr hb610 hs76 hs7r
          go_wp2_with (fail)
          refine (HT.out.top wr HWR.out _ _ HT6R.out).mono ?_
          rintro e w12 ⟨va, n2, vc, rfl, hv, hb12⟩
          have HV := Lib.hid hv
          have HB12 := Lib.hid hb12
          have hn2 : n2 ≤ 1048576 := by have h1 := (own_its hv).1; have h2 := HT.out.few; omega
          have HU12 := Lib.hid (below_ownT HU7R.out hb12)
          clear hv hb12 y0 y1 y2 y3
          obtain ⟨B, hB⟩ : ∃ B, w12.heap.size = B := ⟨_, rfl⟩
          have hb13 : Below w12.heap.size w12 (w12.alloc (.cells (bookC (.slice none 0 0)) 61)) := (Below.refl _ _).alloc (Nat.le_refl _) _
          have hbk13 : (w12.alloc (.cells (bookC (.slice none 0 0)) 61)).heap[B]? = some (.cells (bookC (.slice none 0 0)) 61) := by rw [get_allocS, if_pos hB.symm]
          have hz13 : (w12.alloc (.cells (bookC (.slice none 0 0)) 61)).heap.size = B + 1 := by simp [hB]
          have HTK1 := Lib.hid (take_any (T := B + 1) (n := 0) (xs := []) hbk13 (by omega) (by omega) (World.ownsRow_nil _ _ _ _) ua n0 uc (by omega))
          have HB13 := Lib.hid hb13
          have HZ13 := Lib.hid hz13
          have HBZ := Lib.hid hB
          clear hb13 hbk13 hz13
          rw [show bookC (.slice none 0 0) = #[.slice none 0 0, .slice none 0 0, .slice none 0 0, .slice none 0 0, .slice none 0 0, .slice none 0 0, .slice none 0 0, .slice none 0 0] from rfl] at HTK1 HB13 HZ13
          go_wp2_with (fail)
          try rw [hB]
          clear hB
          generalize w12.alloc _ = w13 at *
          refine HTK1.out.mono ?_
          rintro e w14 ⟨rfl, it1, hbk14, hr14, ho14⟩
          have HO14 := Lib.hid ho14
          obtain ⟨ia, ic, rfl⟩ := own_sliceT hr14
          have HR14 := Lib.hid hr14
          have HTK2 := Lib.hid (take_any (T := B + 1) (n := 0 + 1) hbk14 (by omega) (by have h1 := ho14.size; have h2 := HZ13.out; omega) hr14 va n2 vc (by omega))
          clear hbk14 hr14 ho14 HTK1
          go_wp2_with (fail)
          refine HTK2.out.mono ?_
          rintro e w15 ⟨rfl, it2, hbk15, hr15, ho15⟩
          obtain ⟨ja, jc, rfl⟩ := own_sliceT hr15
          obtain ⟨I, rfl, hI1, hI2, hI3, hI4⟩ := two_cellAt hr15 rfl
          have hbase := HS7.out
          have hBz := HBZ.out
          have hz13 := HZ13.out
          have hs12 := HB12.out.size
          have hz14 := HO14.out.size
          have hz15 := ho15.size
          have hkeep : ∀ k, k < B → w15.heap[k]? = w12.heap[k]? := fun k hk => by
            refine (ho15.block k (by omega) (fun e => ?_)).trans ((HO14.out.block k (by omega) (fun e => ?_)).trans (HB13.out.block k (by omega)))
            · rcases e with e | e
              · omega
              · have := (HR14.out.lt k e).1; omega
            · rcases e with e | e
              · omega
              · cases e
          have hbl : Below B w12 w15 := ⟨ho15.os.trans (HO14.out.os.trans HB13.out.os), ho15.tape.trans (HO14.out.tape.trans HB13.out.tape), ho15.output.trans (HO14.out.output.trans HB13.out.output), by omega, hkeep⟩
          have hal : AlS w15 w6.heap.size wr.heap.size B I (.slice ua n0 uc) (.slice va n2 vc) n0 n2 [] [] w15 := by
            refine ⟨Below.refl _ _, rfl, rfl, below_ownT HU12.out (by rw [hBz]; exact hbl), below_ownT HV.out (by rw [hBz]; exact hbl), fun k e => ?_, fun k e => ?_, by omega, by omega, by omega, hI2⟩
            · have := (HU7.out.lt k e).2; omega
            · have := (HV.out.lt k e).2; omega
          have HAL := Lib.hid (alone_any hal hbk15 ⟨hI3, hI4⟩ hn0 hn2)
          have hgw : Below W2.heap.size W2 w15 := (HGR.out.trans (HB12.out.mono HGR.out.size)).trans (hbl.mono (by have h1 := HGR.out.size; omega))
          have HGW := Lib.hid (HB2.out.trans (hgw.mono HB2.out.size))
          have hw6 : w.heap.size ≤ w6.heap.size := by have h1 := HG6.out.size; have h2 := HB2.out.size; omega
          have HS6 := Lib.hid hw6
          clear hbk15 hr15 ho15 hI1 hI2 hI3 hI4 hbase hBz hz13 hs12 hz14 hz15 hkeep hbl hal hgw hw6 HTK2
          go_wp2_with (fail)
          refine HAL.out.mono ?_
          rintro e w16 ⟨rfl, hb16⟩
          have HF := Lib.hid (HGW.out.trans (hb16.mono HS6.out))
          clear hb16
          go_wp2_with (fail)
          go_ret
          exact ⟨rfl, HF.out⟩

end Go.Proofs.Ytockmgcgifhepaa

/- SketchTops: the walk where a sketch is made; the law. -/
namespace Go.Proofs.Ytockmgcgifhepaa
open Go.RowKit
set_option linter.unusedVariables false
set_option linter.unusedSimpArgs false

theorem R6At.belowT {w w' : World} {q : Nat} {h : ShapeS} {last : Int} {v : Value} {ns : List NoteS} (k : R6At w q h last v ns) (hb : Below w.heap.size w w') : R6At w' q h last v ns := k.kept (fun i hi => hb.block i (by
  rcases hi with rfl | e
  · exact k.lt
  · exact (k.row.lt i e).2))
theorem r6step {w3 wr w' : World} {q : Nat} {h : ShapeS} {v6 : Value} {st : Int × List NoteS} {d : DeedS} {e : Ending} (k6 : R6At wr q h st.1 v6 st.2) (ho : ∀ k, R6Own q v6 k → q ≤ k) (hb : Below q w3 wr) (hq : q ≤ wr.heap.size) (ha : R6Add wr w' q h v6 st.1 d.at_ st.2 e d.ns d.key) (hk : d.kind = 0) :
    ∃ v', R6At w' q h (stepN st d).1 v' (stepN st d).2 ∧ (∀ k, R6Own q v' k → q ≤ k) ∧ Below q w3 w' := by
  by_cases hA : addE st.1 d.at_ d.ns = 0
  · obtain ⟨v', h1, h2, h3⟩ := ha.yes hA
    refine ⟨v', ?_, fun k hk => ?_, ?_⟩
    · unfold stepN; rw [if_pos ⟨hk, hA⟩]; exact h1
    · rcases h3 k hk with h4 | h4
      · exact ho k h4
      · omega
    · exact ⟨h2.os.trans hb.os, h2.tape.trans hb.tape, h2.output.trans hb.output, Nat.le_trans hb.size h2.size, fun k hk => (h2.block k (by omega) (fun e => by have := ho k e; omega)).trans (hb.block k hk)⟩
  · obtain ⟨m, rfl⟩ := ha.no hA
    refine ⟨v6, ?_, ho, ⟨hb.os, hb.tape, hb.output, hb.size, hb.block⟩⟩
    unfold stepN
    rw [if_neg (fun h => hA h.2)]
    exact k6.belowT ⟨rfl, rfl, rfl, Nat.le_refl _, fun _ _ => rfl⟩
theorem r6add_old {wr w' : World} {q : Nat} {h : ShapeS} {v6 : Value} {last at_ : Int} {ns : List NoteS} {nn : List Int} {key : ByteArray} {e : Ending} (ho : ∀ k, R6Own q v6 k → q ≤ k) (ha : R6Add wr w' q h v6 last at_ ns e nn key) {k : Nat} (hk : k < q) (hkl : k < wr.heap.size) : w'.heap[k]? = wr.heap[k]? := by
  by_cases hA : addE last at_ nn = 0
  · obtain ⟨v', h1, h2, h3⟩ := ha.yes hA
    exact h2.block k hkl (fun e => by have := ho k e; omega)
  · obtain ⟨m, rfl⟩ := ha.no hA
    rfl

set_option maxHeartbeats 25600000 in
set_option maxRecDepth 100000 in
theorem tops_yes {w : World} (h : ShapeS) (s0 : 0 ≤ h.seed) (s1 : h.seed ≤ 18446744073709551615) (a : Option Addr) (len cap : Nat) (ds : List DeedS) (hl : ds.length = len) (hm : len ≤ 1048576) (hd : DeedsAt w a ds) (hfew : ∀ d ∈ ds, d.ns.length ≤ 1048576)
    (at_ kk row : Int) (keys : List ByteArray) (ka : Option Addr) (klen kcap : Nat) (hkl : keys.length = klen) (hkm : klen ≤ 1048576) (hkt : TextsAt w ka keys) (hkz : ∀ s ∈ keys, s.size ≤ maxLen) (hk2 : kk ≤ 9223372036854775807) (hE : newE h = 0) :
    Calls Try.prog 3 #[.agg h.c, .slice a len cap, .agg #[.int .i64 at_, .int .i64 kk, .int .i64 row, .slice ka klen kcap]] w fun e w' => e = .returned (.bool true) ∧ Below w.heap.size w w' := by
  obtain ⟨W2, hW2⟩ : ∃ W2, (w.alloc (.cells h.c 24)).alloc (.cells #[.int .i64 at_, .int .i64 kk, .int .i64 row, .slice ka klen kcap] 28) = W2 := ⟨_, rfl⟩
  have hz2 : W2.heap.size = w.heap.size + 2 := by rw [← hW2]; simp
  have hb2 : Below w.heap.size w W2 := by rw [← hW2]; exact ((Below.refl _ _).alloc (Nat.le_refl _) _).alloc (by simp) _
  have g0 : W2.heap[w.heap.size]? = some (.cells h.c 24) := by rw [← hW2, get_allocS, if_neg (by simp), get_allocS, if_pos rfl]
  have g1 : W2.heap[w.heap.size + 1]? = some (.cells #[.int .i64 at_, .int .i64 kk, .int .i64 row, .slice ka klen kcap] 28) := by rw [← hW2, get_allocS, if_pos (by simp)]
  have HZ := Lib.hid hz2
  have HB2 := Lib.hid hb2
  have HSX : Hid (∀ wx, Below W2.heap.size W2 wx → wx.cell? ⟨w.heap.size, 0, none⟩ = some (.int .i64 h.W) ∧ wx.cell? ⟨w.heap.size, 1, none⟩ = some (.int .i64 h.B) ∧ wx.cell? ⟨w.heap.size, 2, none⟩ = some (.int .i64 h.R) ∧ wx.cell? ⟨w.heap.size, 3, none⟩ = some (.int .i64 h.C) ∧ wx.cell? ⟨w.heap.size, 4, none⟩ = some (.int .u64 h.seed)) := fun wx hx => by
    have g := (hx.block _ (by omega)).trans g0
    simp only [World.cell?, g]
    exact ⟨rfl, rfl, rfl, rfl, rfl⟩
  have HAX : Hid (∀ wx, Below W2.heap.size W2 wx → wx.cell? ⟨w.heap.size + 1, 0, none⟩ = some (.int .i64 at_) ∧ wx.cell? ⟨w.heap.size + 1, 1, none⟩ = some (.int .i64 kk) ∧ wx.cell? ⟨w.heap.size + 1, 2, none⟩ = some (.int .i64 row) ∧ wx.cell? ⟨w.heap.size + 1, 3, none⟩ = some (.slice ka klen kcap)) := fun wx hx => by
    have g := (hx.block _ (by omega)).trans g1
    simp only [World.cell?, g]
    exact ⟨rfl, rfl, rfl, rfl⟩
  have HKT : Hid (∀ wx, Below W2.heap.size W2 wx → TextsAt wx ka keys) := fun wx hx => (hkt.below2 (Nat.le_refl _) hb2).below2 (Nat.le_refl _) hx
  have HDS : Hid (DeedsAt W2 a ds) := Lib.hid (hd.belowD hb2)
  have HRUN := Lib.hid (skrun_any W2 h s0 s1 a len cap ds hl (by omega) HDS.out)
  have HKZ := Lib.hid hkz
  have HKL := Lib.hid hkl
  have HL := Lib.hid hl
  have HFEW := Lib.hid hfew
  have HS01 := Lib.hid (And.intro s0 s1)
  obtain ⟨x0, x1, x2, x3, x4⟩ := HSX.out W2 (Below.refl _ _)
  have HR6N := Lib.hid (fun wx => r6new_any h wx)
  clear g0 g1 hb2 hz2 hkt hd hkz hkl hl hfew s0 s1
  unfold ShapeS.c at hW2 HRUN ⊢
  subst hW2
  go_enter Try.func3, Try.ntmps3
  go_wp2_with (fail)
  generalize (w.alloc _).alloc _ = W2 at *
  refine HRUN.out.mono ?_
  intro e w3 hrun
  have HB3 := Lib.hid hrun.bel
  obtain ⟨s, v, bs, rfl, hsk, hso⟩ := hrun.yes hE
  obtain ⟨b, hbb⟩ : ∃ b, h.W / h.B = b := ⟨_, rfl⟩
  have hok := newE_ok hE HS01.out.1 HS01.out.2
  rw [hbb] at hok hsk
  have HOK := Lib.hid hok
  have HSK := Lib.hid hsk
  have HN := Lib.hid ((HR6N.out w3).mono fun e w' hp => hp.2 hE)
  have hbq : Below w3.heap.size w3 (w3.alloc (r6Obj h)) := (Below.refl _ _).alloc (Nat.le_refl _) _
  have hk0 : R6At (w3.alloc (r6Obj h)) w3.heap.size h 0 (.slice none 0 0) [] := r6_made w3 h
  have HBQ0 := Lib.hid hbq
  have HK0 := Lib.hid hk0
  clear x0 x1 x2 x3 x4
  obtain ⟨x0, x1, x2, x3, x4⟩ := HSX.out w3 HB3.out
  obtain ⟨q, hq⟩ : ∃ q, w3.heap.size = q := ⟨_, rfl⟩
  have HQ := Lib.hid hq
  rw [hq] at HN HBQ0 HK0
  clear hrun HRUN HR6N hsk hso hok hbq hk0 hbb hE hq
  go_wp2_with (fail)
  refine HN.out.mono ?_
  rintro e w4 ⟨rfl, hq4⟩
  subst hq4
  generalize w3.alloc (r6Obj h) = w4 at *
  clear HN
  go_wp2_with (fail)
  refine (sklive_any _).mono ?_
  rintro e w5 ⟨rfl, hb5⟩
  have hsq : q ≤ w4.heap.size := by have h1 := HBQ0.out.size; have h2 := HQ.out; omega
  have HST : Hid (R6At w5 q h (runN (ds.take 0)).1 (.slice none 0 0) (runN (ds.take 0)).2) := Lib.hid (HK0.out.belowT hb5)
  have HOW0 : Hid (∀ k, R6Own q (.slice none 0 0) k → q ≤ k) := Lib.hid (fun k hk => by rcases hk with hk | hk; (· omega); (· cases hk))
  have HB5 : Hid (Below q w3 w5) := Lib.hid (HBQ0.out.trans (hb5.mono hsq))
  have HHL := Lib.hid HL.out
  clear hb5 hsq x0 x1 x2 x3 x4 HK0
  go_wp2_with (fail)
  go_loopw [11] (fun s11 wr => ∃ (i : Nat) (v6 : Value), i ≤ len ∧ s11 = .int .i64 i ∧ Hid (R6At wr q h (runN (ds.take i)).1 v6 (runN (ds.take i)).2) ∧ Hid (∀ k, R6Own q v6 k → q ≤ k) ∧ Hid (Below q w3 wr)) (fun s11 _ => len - (intOf s11).toNat)
  case atStart => exact ⟨0, _, Nat.zero_le _, rfl, HST, HOW0, HB5⟩
  case round =>
    rename World => wr
    clear HST HOW0
    obtain ⟨i, v6, hi, rfl, HK, HOW, HBW⟩ := hrel
    have HG := Lib.hid (show Below W2.heap.size W2 wr from HB3.out.trans (HBW.out.mono (by have h1 := HB3.out.size; have h2 := HQ.out; omega)))
    by_cases hlt : i < len
    · have k0 : (0 : Int) ≤ i := by omega
      have k1 : (i : Int) < len := by omega
      have hil : i < ds.length := by rw [HL.out]; exact hlt
      obtain ⟨d, hd⟩ : ∃ d, ds[i]? = some d := ⟨_, List.getElem?_eq_getElem hil⟩
      obtain ⟨db, doff, rfl, hdb, hdc⟩ : ∃ b off, a = some ⟨b, off, none⟩ ∧ b < W2.heap.size ∧ ∀ j d, ds[j]? = some d → DeedAt W2 b (off + j * 4) d := by
        rcases HDS.out with h | h
        · rw [h] at hil; cases hil
        · exact h
      obtain ⟨da, dl, dc, e0, e1, e2, e3, e4, e5, e6, e7⟩ := hdc i d hd
      have hrs := runN_snoc hd
      have hns := notes_len (ds.take i) (fun x hx => HFEW.out x (List.mem_of_mem_take hx))
      have htl : (ds.take i).length ≤ i := List.length_take_le _ _
      have hdl := HFEW.out d (List.mem_of_getElem? hd)
      have HRS := Lib.hid hrs
      obtain ⟨st, hst⟩ : ∃ st, runN (ds.take i) = st := ⟨_, rfl⟩
      rw [hst] at HK HRS hns
      have gb := HG.out.block db hdb
      have f0 : wr.cell? ⟨db, doff + i * 4, none⟩ = some (.int .i64 d.kind) := (World.cell?_of_block (a := ⟨db, doff + i * 4, none⟩) gb).trans e0
      have f1 : wr.cell? ⟨db, doff + i * 4 + 1, none⟩ = some (.int .i64 d.at_) := (World.cell?_of_block (a := ⟨db, doff + i * 4 + 1, none⟩) gb).trans e1
      have f2 : wr.cell? ⟨db, doff + i * 4 + 2, none⟩ = some (.string d.key) := (World.cell?_of_block (a := ⟨db, doff + i * 4 + 2, none⟩) gb).trans e2
      have f3 : wr.cell? ⟨db, doff + i * 4 + 3, none⟩ = some (.slice da dl dc) := (World.cell?_of_block (a := ⟨db, doff + i * 4 + 3, none⟩) gb).trans e3
      have hroom : st.2.length + dl ≤ 1099511627776 := by
        have : i * 1048576 ≤ 1048575 * 1048576 := Nat.mul_le_mul_right _ (by omega)
        have h2 : (ds.take i).length * 1048576 ≤ i * 1048576 := Nat.mul_le_mul_right _ htl
        omega
      have hq2 := HQ.out
      have hq3 := HB3.out.size
      have hq4 := HBW.out.size
      have hdq : db < q := by omega
      have hdw : db < wr.heap.size := by omega
      have hin : IntsAt wr.drew da d.ns := e6.belowS (show Below W2.heap.size W2 wr.drew from ⟨HG.out.os, HG.out.tape, HG.out.output, HG.out.size, HG.out.block⟩)
      have HADD0 := Lib.hid (r6add_any (w := wr.drew) (HK.out.belowT ⟨rfl, rfl, rfl, Nat.le_refl _, fun _ _ => rfl⟩) HOK.out d.at_ d.key e7 da dl dc d.ns e4 (by omega) hin (fun hne g off hg => fun hown => by
        rcases e6 with h6 | ⟨g6, o6, h6, h7, _⟩
        · exact hne h6
        · rw [h6] at hg
          injection hg with hg
          injection hg with hg _ _
          have := HOW.out g hown
          omega) hroom)
      have HDQ := Lib.hid hdq
      have HDW := Lib.hid (show db < wr.drew.heap.size from hdw)
      have HQW := Lib.hid (show q ≤ wr.heap.size by omega)
      clear hdc e0 e1 e2 e3 e4 e5 e6 e7 hrs hns htl hdl hst gb hroom hq2 hq3 hq4 hdq hdw hin hil hdb
      by_cases hkd : d.kind = 0
      · have HKD := Lib.hid hkd
        rw [hkd] at f0
        obtain ⟨dat, hdat⟩ : ∃ x, d.at_ = x := ⟨_, rfl⟩
        obtain ⟨dkey, hdkey⟩ : ∃ x, d.key = x := ⟨_, rfl⟩
        have HAD := HADD0
        rw [hdat, hdkey] at HAD
        rw [hdat] at f1
        rw [hdkey] at f2
        have HDD := Lib.hid (And.intro hdat hdkey)
        have HS9 : Hid (∀ wx : World, wx.heap[db]? = wr.drew.heap[db]? → (fun wx => wx.cell? ⟨db, doff + i * 4 + 1, none⟩ = some (.int .i64 dat) ∧ wx.cell? ⟨db, doff + i * 4 + 2, none⟩ = some (.string dkey) ∧ wx.cell? ⟨db, doff + i * 4 + 3, none⟩ = some (.slice da dl dc)) wx) := fun wx hx => ⟨(World.cell?_of_block (a := ⟨db, doff + i * 4 + 1, none⟩) hx).trans f1, (World.cell?_of_block (a := ⟨db, doff + i * 4 + 2, none⟩) hx).trans f2, (World.cell?_of_block (a := ⟨db, doff + i * 4 + 3, none⟩) hx).trans f3⟩
        have hBEG : (fun wx => wx.cell? ⟨db, doff + i * 4 + 1, none⟩ = some (.int .i64 dat) ∧ wx.cell? ⟨db, doff + i * 4 + 2, none⟩ = some (.string dkey) ∧ wx.cell? ⟨db, doff + i * 4 + 3, none⟩ = some (.slice da dl dc)) wr.drew := ⟨f1, f2, f3⟩
        clear hdat hdkey HADD0 f1 f2 f3 hkd
        go_wp2_with (fail)
        refine wp_region_noPanic ?_
        refine wp_region_held_drew (S := fun wx => wx.cell? ⟨db, doff + i * 4 + 1, none⟩ = some (.int .i64 dat) ∧ wx.cell? ⟨db, doff + i * 4 + 2, none⟩ = some (.string dkey) ∧ wx.cell? ⟨db, doff + i * 4 + 3, none⟩ = some (.slice da dl dc)) (by kernel_rfl) ?_ (fun hHeld => ?_)
        · exact hBEG
        refine wpAnyH_take (i := 0) (v := ?_) rfl (by kernel_rfl) (by kernel_rfl) (by kernel_rfl) (fun _ _ _ h => h) (Or.inl ⟨by rfl, ?hy⟩) (by assumption) ?_
        case hy => intro w hSw; (try dsimp only at hSw); go_simp; try with_reducible rfl
        try simp only [Act.put, List.getElem_toArray, List.getElem_cons_succ, List.getElem_cons_zero, List.setIfInBounds_toArray, List.set_cons_zero, List.set_cons_succ]
        refine wpAnyH_take (i := 1) (v := ?_) rfl (by kernel_rfl) (by kernel_rfl) (by kernel_rfl) (fun _ _ _ h => h) (Or.inl ⟨by rfl, ?hy⟩) (by assumption) ?_
        case hy => intro w hSw; (try dsimp only at hSw); go_simp; try with_reducible rfl
        try simp only [Act.put, List.getElem_toArray, List.getElem_cons_succ, List.getElem_cons_zero, List.setIfInBounds_toArray, List.set_cons_zero, List.set_cons_succ]
        refine wpAnyH_take (i := 2) (v := ?_) rfl (by kernel_rfl) (by kernel_rfl) (by kernel_rfl) (fun _ _ _ h => h) (Or.inl ⟨by rfl, ?hy⟩) (by assumption) ?_
        case hy => intro w hSw; (try dsimp only at hSw); go_simp; try with_reducible rfl
        try simp only [Act.put, List.getElem_toArray, List.getElem_cons_succ, List.getElem_cons_zero, List.setIfInBounds_toArray, List.set_cons_zero, List.set_cons_succ]
        refine wpAnyH_take (i := 3) (v := ?_) rfl (by kernel_rfl) (by kernel_rfl) (by kernel_rfl) (fun _ _ _ h => h) (Or.inl ⟨by rfl, ?hy⟩) (by assumption) ?_
        case hy => intro w hSw; (try dsimp only at hSw); go_simp; try with_reducible rfl
        try simp only [Act.put, List.getElem_toArray, List.getElem_cons_succ, List.getElem_cons_zero, List.setIfInBounds_toArray, List.set_cons_zero, List.set_cons_succ]
        refine wpAnyH_take (i := 4) (v := ?_) rfl (by kernel_rfl) (by kernel_rfl) (by kernel_rfl) (fun _ _ _ h => h) (Or.inl ⟨by rfl, ?hy⟩) (by assumption) ?_
        case hy => intro w hSw; (try dsimp only at hSw); go_simp; try with_reducible rfl
        try simp only [Act.put, List.getElem_toArray, List.getElem_cons_succ, List.getElem_cons_zero, List.setIfInBounds_toArray, List.set_cons_zero, List.set_cons_succ]
        refine wpAnyH_take (i := 5) (v := ?_) rfl (by kernel_rfl) (by kernel_rfl) (by kernel_rfl) (fun _ _ _ h => h) (Or.inl ⟨by rfl, ?hy⟩) (by assumption) ?_
        case hy => intro w hSw; (try dsimp only at hSw); go_simp; try with_reducible rfl
        try simp only [Act.put, List.getElem_toArray, List.getElem_cons_succ, List.getElem_cons_zero, List.setIfInBounds_toArray, List.set_cons_zero, List.set_cons_succ]
        refine wpAnyH_take (i := 6) (v := ?_) rfl (by kernel_rfl) (by kernel_rfl) (by kernel_rfl) (fun _ _ _ h => h) (Or.inl ⟨by rfl, ?hy⟩) (by assumption) ?_
        case hy => intro w hSw; (try dsimp only at hSw); go_simp; try with_reducible rfl
        try simp only [Act.put, List.getElem_toArray, List.getElem_cons_succ, List.getElem_cons_zero, List.setIfInBounds_toArray, List.set_cons_zero, List.set_cons_succ]
        refine wpAnyH_take (i := 7) (v := ?_) rfl (by kernel_rfl) (by kernel_rfl) (by kernel_rfl) (fun _ _ _ h => h) (Or.inl ⟨by rfl, ?hy⟩) (by assumption) ?_
        case hy => intro w hSw; (try dsimp only at hSw); go_simp; try with_reducible rfl
        try simp only [Act.put, List.getElem_toArray, List.getElem_cons_succ, List.getElem_cons_zero, List.setIfInBounds_toArray, List.set_cons_zero, List.set_cons_succ]
        refine wpAnyH_take (i := 8) (v := ?_) rfl (by kernel_rfl) (by kernel_rfl) (by kernel_rfl) (fun _ _ _ h => h) (Or.inl ⟨by rfl, ?hy⟩) (by assumption) ?_
        case hy => intro w hSw; (try dsimp only at hSw); go_simp; try with_reducible rfl
        try simp only [Act.put, List.getElem_toArray, List.getElem_cons_succ, List.getElem_cons_zero, List.setIfInBounds_toArray, List.set_cons_zero, List.set_cons_succ]
        refine wpAnyH_take (i := 9) (v := ?_) rfl (by kernel_rfl) (by kernel_rfl) (by kernel_rfl) (fun _ _ _ h => h) (Or.inl ⟨by rfl, ?hy⟩) (by assumption) ?_
        case hy => intro w hSw; (try dsimp only at hSw); go_simp; try with_reducible rfl
        try simp only [Act.put, List.getElem_toArray, List.getElem_cons_succ, List.getElem_cons_zero, List.setIfInBounds_toArray, List.set_cons_zero, List.set_cons_succ]
        refine wpAnyH_take (i := 10) (v := ?_) rfl (by kernel_rfl) (by kernel_rfl) (by kernel_rfl) (fun _ _ _ h => h) (Or.inl ⟨by rfl, ?hy⟩) (by assumption) ?_
        case hy => intro w hSw; (try dsimp only at hSw); go_simp; try with_reducible rfl
        try simp only [Act.put, List.getElem_toArray, List.getElem_cons_succ, List.getElem_cons_zero, List.setIfInBounds_toArray, List.set_cons_zero, List.set_cons_succ]
        refine wpAnyH_take (i := 11) (v := ?_) rfl (by kernel_rfl) (by kernel_rfl) (by kernel_rfl) (fun _ _ _ h => h) (Or.inl ⟨by rfl, ?hy⟩) (by assumption) ?_
        case hy => intro w hSw; (try dsimp only at hSw); go_simp; try with_reducible rfl
        try simp only [Act.put, List.getElem_toArray, List.getElem_cons_succ, List.getElem_cons_zero, List.setIfInBounds_toArray, List.set_cons_zero, List.set_cons_succ]
        refine wpAnyH_take (i := 12) (v := ?_) rfl (by kernel_rfl) (by kernel_rfl) (by kernel_rfl) (fun _ _ _ h => h) (Or.inl ⟨by rfl, ?hy⟩) (by assumption) ?_
        case hy => intro w hSw; (try dsimp only at hSw); go_simp; try with_reducible rfl
        try simp only [Act.put, List.getElem_toArray, List.getElem_cons_succ, List.getElem_cons_zero, List.setIfInBounds_toArray, List.set_cons_zero, List.set_cons_succ]
        refine wpAnyH_take (i := 13) (v := ?_) rfl (by kernel_rfl) (by kernel_rfl) (by kernel_rfl) (fun _ _ _ h => h) (Or.inl ⟨by rfl, ?hy⟩) (by assumption) ?_
        case hy => intro w hSw; (try dsimp only at hSw); go_simp; try with_reducible rfl
        try simp only [Act.put, List.getElem_toArray, List.getElem_cons_succ, List.getElem_cons_zero, List.setIfInBounds_toArray, List.set_cons_zero, List.set_cons_succ]
        refine wpAnyH_take (i := 14) (v := ?_) rfl (by kernel_rfl) (by kernel_rfl) (by kernel_rfl) (fun _ _ _ h => h) (Or.inl ⟨by rfl, ?hy⟩) (by assumption) ?_
        case hy => intro w hSw; (try dsimp only at hSw); go_simp; try with_reducible rfl
        try simp only [Act.put, List.getElem_toArray, List.getElem_cons_succ, List.getElem_cons_zero, List.setIfInBounds_toArray, List.set_cons_zero, List.set_cons_succ]
        refine wpAnyH_take (i := 15) (v := ?_) rfl (by kernel_rfl) (by kernel_rfl) (by kernel_rfl) (fun _ _ _ h => h) (Or.inl ⟨by rfl, ?hy⟩) (by assumption) ?_
        case hy => intro w hSw; (try dsimp only at hSw); go_simp; try with_reducible rfl
        try simp only [Act.put, List.getElem_toArray, List.getElem_cons_succ, List.getElem_cons_zero, List.setIfInBounds_toArray, List.set_cons_zero, List.set_cons_succ]
        refine wpAnyH_ready (rs := [16]) (by kernel_rfl) (by simp) (AllReadyH.cons rfl (fun K hK => ?_) AllReadyH.nil)
        go_simp
        refine HAD.out.mono ?_; rintro e w6 hadd; have he := hadd.err; subst he; have HADD := Lib.hid hadd; clear hadd
        try (go_wp2_with fail)
        refine hK.out _ _ ?_ (fun hHeld => ?_)
        · exact HS9.out _ (r6add_old HOW.out HADD.out HDQ.out HDW.out)
        clear hK K
        try simp only [Act.put, List.getElem_toArray, List.getElem_cons_succ, List.getElem_cons_zero, List.setIfInBounds_toArray, List.set_cons_zero, List.set_cons_succ]
        refine wpAnyH_done (by kernel_rfl) ?_ _
        refine NoPanic.normal ?_
        clear hHeld hBEG
        have HFI := Lib.hid (r6step (d := d) (w3 := w3) (HK.out.belowT (w' := wr.drew) ⟨rfl, rfl, rfl, Nat.le_refl _, fun _ _ => rfl⟩) HOW.out ⟨HBW.out.os, HBW.out.tape, HBW.out.output, HBW.out.size, HBW.out.block⟩ (show q ≤ wr.drew.heap.size from HQW.out) (by rw [HDD.out.1, HDD.out.2]; exact HADD.out) HKD.out)
        go_wp2_with (fail)
        obtain ⟨v7, r1, r2, r3⟩ := HFI.out
        refine ⟨⟨i + 1, v7, by omega, by go_num, Lib.hid ?_, Lib.hid r2, Lib.hid r3⟩, by first | (simp [intOf]; done) | (simp [intOf]; omega)⟩
        rw [HRS.out]
        exact r1
      · have hkd2 : (d.kind == 0) = false := beq_eq_false_iff_ne.2 hkd
        have HSTP : Hid (stepN st d = st) := Lib.hid (by unfold stepN; rw [if_neg (fun h => hkd h.1)])
        clear f1 f2 f3 HADD0
        go_wp2_with (fail)
        refine ⟨⟨i + 1, v6, by omega, by go_num, Lib.hid ?_, HOW, HBW⟩, by first | (simp [intOf]; done) | (simp [intOf]; omega)⟩
        rw [HRS.out, HSTP.out]
        exact HK.out
    · have hil : i = len := by omega
      have hte : ds.take i = ds := by rw [hil, ← HL.out, List.take_length]
      rw [hte] at HK
      have hskr : SkInv wr s h b (runN ds).1 (runN ds).2 v bs := HSK.out.below (by rw [HQ.out]; exact HBW.out)
      have htell := tell_some hskr HK.out HOK.out keys klen HKL.out hkm HKZ.out at_ kk row hk2
      obtain ⟨L, hLL⟩ : ∃ L, topL (fun key => estN h b at_ key (runN ds).2) (runN ds).1 at_ kk keys = L := ⟨_, rfl⟩
      obtain ⟨E, hEE⟩ : ∃ E, topE (runN ds).1 at_ kk = E := ⟨_, rfl⟩
      obtain ⟨cv, hcv⟩ : ∃ cv, colR h row = cv := ⟨_, rfl⟩
      obtain ⟨ce, hce⟩ : ∃ ce, colE h row = ce := ⟨_, rfl⟩
      rw [hLL, hEE, hcv, hce] at htell
      have HT := Lib.hid htell
      have HB4 := HG
      have HBQ : Hid (Below wr.heap.size wr wr) := Lib.hid (Below.refl _ _)
      have hl0i : ¬ (i : Int) < len := by omega
      clear htell hLL hEE hcv hce hskr hte HK HOW HBW HSK HG HDS HFEW hlt hil
      rename World => wq
      have HGQ := Lib.hid (HB4.out.trans (HBQ.out.mono HB4.out.size))
      obtain ⟨y0, y1, y2, y3⟩ := HAX.out wq HGQ.out
      have HHT := Lib.hid (handTx_any ka klen kcap keys HKL.out (by omega) (texts_rows (HKT.out wq HGQ.out)))
      go_wp2_with (fail)
      refine HHT.out.mono ?_
      rintro e w6 ⟨rfl, ho6, hb6⟩
      have HB6 := Lib.hid hb6
      have HO6 := Lib.hid ho6
      have HT6 := Lib.hid (hand_texts HKL.out ho6)
      have HG6 := Lib.hid (HGQ.out.trans (hb6.mono HGQ.out.size))
      have HW6 := Lib.hid (HBQ.out.trans (hb6.mono HBQ.out.size))
      obtain ⟨G, hG⟩ : ∃ G, wq.heap.size = G := ⟨_, rfl⟩
      rw [hG] at HO6 HT6 ⊢
      clear ho6 hb6 HHT y0 y1 y2 y3 hG
      obtain ⟨y0, y1, y2, y3⟩ := HAX.out w6 HG6.out
      go_wp2_with (fail)
      refine (HT.out.top w6 HW6.out _ _ HT6.out).mono ?_
      rintro e w7 ⟨ua, n0, uc, rfl, hu, hb7⟩
      have HU7 := Lib.hid hu
      have HB7 := Lib.hid hb7
      have HG7 := Lib.hid (HG6.out.trans (hb7.mono HG6.out.size))
      have HW7 := Lib.hid (HW6.out.trans (hb7.mono HW6.out.size))
      clear hu hb7 y0 y1 y2 y3
      obtain ⟨y0, y1, y2, y3⟩ := HAX.out w7 HG7.out
      go_wp2_with (fail)
      refine (HT.out.rtop w7 HW7.out _ _ (HKT.out w7 HG7.out)).mono ?_
      rintro e w8 ⟨ra, n1, rc, rfl, hrl, hri, hb8⟩
      have hui := own_its HU7.out
      have hLf := HT.out.few
      have HSI := Lib.hid (sameits_any (w := w8) ua ra n0 n1 uc rc L hui.1 hrl (by omega) (hui.2.2.below (Nat.le_refl _) hb8) hri)
      have hn0 : n0 ≤ 1048576 := by omega
      have HB8 := Lib.hid hb8
      have HG8 := Lib.hid (HG7.out.trans (hb8.mono HG7.out.size))
      have HW8 := Lib.hid (HW7.out.trans (hb8.mono HW7.out.size))
      clear hrl hri hb8 hui hLf y0 y1 y2 y3
      go_wp2_with (fail)
      refine HSI.out.mono ?_
      rintro e w9 ⟨rfl, hb9⟩
      have HB9 := Lib.hid hb9
      have HG9 := Lib.hid (HG8.out.trans (hb9.mono HG8.out.size))
      have HW9 := Lib.hid (HW8.out.trans (hb9.mono HW8.out.size))
      have hO9 := below_ownT HO6.out (HB7.out.trans ((HB8.out.trans (hb9.mono HB8.out.size)).mono HB7.out.size))
      have HKP := Lib.hid (keptTx_any (w := w9) G G ka klen kcap keys HKL.out (by omega) hO9 (texts_rows (HKT.out w9 HG9.out)))
      obtain ⟨y0, y1, y2, y3⟩ := HAX.out w9 HG9.out
      clear hb9 hO9 HSI
      go_wp2_with (fail)
      refine HKP.out.mono ?_
      rintro e w10 ⟨rfl, hb10⟩
      have HB10 := Lib.hid hb10
      have HG10 := Lib.hid (HG9.out.trans (hb10.mono HG9.out.size))
      have HW10 := Lib.hid (HW9.out.trans (hb10.mono HW9.out.size))
      clear hb10 y0 y1 y2 y3 HKP
      go_wp2_with (fail)
      go_loopw [17, 18, 19, 20, 21] (fun s17 _ _ _ _ wr => ∃ i : Nat, i ≤ klen ∧ s17 = .int .i64 i ∧ Hid (Below w10.heap.size w10 wr)) (fun s17 _ _ _ _ _ => klen - (intOf s17).toNat)
      case atStart => exact ⟨0, Nat.zero_le _, rfl, Lib.hid (Below.refl _ _)⟩
      case round =>
        rename World => wr
        obtain ⟨i, hi, rfl, HBR⟩ := hrel
        have hgr := HG10.out.trans (HBR.out.mono HG10.out.size)
        obtain ⟨y0, y1, y2, y3⟩ := HAX.out wr hgr
        by_cases hlt : i < klen
        · have k0 : (0 : Int) ≤ i := by omega
          have k1 : (i : Int) < klen := by omega
          have hkl2 : i < keys.length := by rw [HKL.out]; exact hlt
          have hne : keys ≠ [] := fun e => by rw [e] at hkl2; simp at hkl2
          obtain ⟨kg, koff, rfl, hgl, hcell⟩ : ∃ b off, ka = some ⟨b, off, none⟩ ∧ b < W2.heap.size ∧ ∀ j, j < keys.length → W2.cell? ⟨b, off + j, none⟩ = some (.string (keys.getD j ⟨#[]⟩)) := by
            rcases HKT.out W2 (Below.refl _ _) with h | h
            · exact absurd h hne
            · exact h
          have hck := hcell i hkl2
          have hkz2 := HKZ.out (keys.getD i ⟨#[]⟩) (by simp [List.getD, hkl2])
          obtain ⟨key, hkey⟩ : ∃ key, keys.getD i ⟨#[]⟩ = key := ⟨_, rfl⟩
          rw [hkey] at hck hkz2
          have HSB : Hid (∀ wx, Below w10.heap.size w10 wx → (wx.cell? ⟨w.heap.size + 1, 2, none⟩ = some (.int .i64 row) ∧ wx.cell? ⟨w.heap.size + 1, 3, none⟩ = some (.slice (some ⟨kg, koff, none⟩) klen kcap) ∧ wx.cell? ⟨kg, koff + i, none⟩ = some (.string key)) ∧ Below w10.heap.size w10 wx) := fun wx hx => by
            have hg := HG10.out.trans (hx.mono HG10.out.size)
            have hy := HAX.out wx hg
            exact ⟨⟨hy.2.2.1, hy.2.2.2, (hg.cell (p := ⟨kg, koff + i, none⟩) hgl).trans hck⟩, hx⟩
          have HKZA := HKZ
          clear HKZ
          have HKZ := Lib.hid hkz2
          have HCOL := Lib.hid (fun wx (hx : Below w10.heap.size w10 wx) => HT.out.col wx (HW10.out.trans (hx.mono HW10.out.size)) key hkz2)
          have HRCL := Lib.hid (fun wx (hx : Below w10.heap.size w10 wx) => HT.out.rcol wx (HW10.out.trans (hx.mono HW10.out.size)) key hkz2)
          clear hcell hkey hne hck hkz2 hkl2 hgl hgr
          have hBEG := HSB.out _ (HBR.out.trans (show Below w10.heap.size wr wr.drew from ⟨rfl, rfl, rfl, Nat.le_refl _, fun _ _ => rfl⟩))
          go_wp2_with (fail)
          refine wp_region_noPanic ?_
          refine wp_region_held_drew (S := fun wx => (wx.cell? ⟨w.heap.size + 1, 2, none⟩ = some (.int .i64 row) ∧ wx.cell? ⟨w.heap.size + 1, 3, none⟩ = some (.slice (some ⟨kg, koff, none⟩) klen kcap) ∧ wx.cell? ⟨kg, koff + i, none⟩ = some (.string key)) ∧ Below w10.heap.size w10 wx) (by kernel_rfl) ?_ (fun hHeld => ?_)
          · exact hBEG
          refine wpAnyH_take (i := 0) (v := ?_) rfl (by kernel_rfl) (by kernel_rfl) (by kernel_rfl) (fun _ _ _ h => h) (Or.inl ⟨by rfl, ?hy⟩) (by assumption) ?_
          case hy => intro w hSw; (try dsimp only at hSw); go_simp; try with_reducible rfl
          try simp only [Act.put, List.getElem_toArray, List.getElem_cons_succ, List.getElem_cons_zero, List.setIfInBounds_toArray, List.set_cons_zero, List.set_cons_succ]
          refine wpAnyH_take (i := 1) (v := ?_) rfl (by kernel_rfl) (by kernel_rfl) (by kernel_rfl) (fun _ _ _ h => h) (Or.inl ⟨by rfl, ?hy⟩) (by assumption) ?_
          case hy => intro w hSw; (try dsimp only at hSw); go_simp; try with_reducible rfl
          try simp only [Act.put, List.getElem_toArray, List.getElem_cons_succ, List.getElem_cons_zero, List.setIfInBounds_toArray, List.set_cons_zero, List.set_cons_succ]
          refine wpAnyH_take (i := 2) (v := ?_) rfl (by kernel_rfl) (by kernel_rfl) (by kernel_rfl) (fun _ _ _ h => h) (Or.inl ⟨by rfl, ?hy⟩) (by assumption) ?_
          case hy => intro w hSw; (try dsimp only at hSw); go_simp; try with_reducible rfl
          try simp only [Act.put, List.getElem_toArray, List.getElem_cons_succ, List.getElem_cons_zero, List.setIfInBounds_toArray, List.set_cons_zero, List.set_cons_succ]
          refine wpAnyH_take (i := 3) (v := ?_) rfl (by kernel_rfl) (by kernel_rfl) (by kernel_rfl) (fun _ _ _ h => h) (Or.inl ⟨by rfl, ?hy⟩) (by assumption) ?_
          case hy => intro w hSw; (try dsimp only at hSw); go_simp; try with_reducible rfl
          try simp only [Act.put, List.getElem_toArray, List.getElem_cons_succ, List.getElem_cons_zero, List.setIfInBounds_toArray, List.set_cons_zero, List.set_cons_succ]
          refine wpAnyH_take (i := 4) (v := ?_) rfl (by kernel_rfl) (by kernel_rfl) (by kernel_rfl) (fun _ _ _ h => h) (Or.inl ⟨by rfl, ?hy⟩) (by assumption) ?_
          case hy => intro w hSw; (try dsimp only at hSw); go_simp; try with_reducible rfl
          try simp only [Act.put, List.getElem_toArray, List.getElem_cons_succ, List.getElem_cons_zero, List.setIfInBounds_toArray, List.set_cons_zero, List.set_cons_succ]
          refine wpAnyH_take (i := 5) (v := ?_) rfl (by kernel_rfl) (by kernel_rfl) (by kernel_rfl) (fun _ _ _ h => h) (Or.inl ⟨by rfl, ?hy⟩) (by assumption) ?_
          case hy => intro w hSw; (try dsimp only at hSw); go_simp; try with_reducible rfl
          try simp only [Act.put, List.getElem_toArray, List.getElem_cons_succ, List.getElem_cons_zero, List.setIfInBounds_toArray, List.set_cons_zero, List.set_cons_succ]
          refine wpAnyH_take (i := 6) (v := ?_) rfl (by kernel_rfl) (by kernel_rfl) (by kernel_rfl) (fun _ _ _ h => h) (Or.inl ⟨by rfl, ?hy⟩) (by assumption) ?_
          case hy => intro w hSw; (try dsimp only at hSw); go_simp; try with_reducible rfl
          try simp only [Act.put, List.getElem_toArray, List.getElem_cons_succ, List.getElem_cons_zero, List.setIfInBounds_toArray, List.set_cons_zero, List.set_cons_succ]
          refine wpAnyH_take (i := 7) (v := ?_) rfl (by kernel_rfl) (by kernel_rfl) (by kernel_rfl) (fun _ _ _ h => h) (Or.inl ⟨by rfl, ?hy⟩) (by assumption) ?_
          case hy => intro w hSw; (try dsimp only at hSw); go_simp; try with_reducible rfl
          try simp only [Act.put, List.getElem_toArray, List.getElem_cons_succ, List.getElem_cons_zero, List.setIfInBounds_toArray, List.set_cons_zero, List.set_cons_succ]
          refine wpAnyH_ready (rs := [8]) (by kernel_rfl) (by simp) (AllReadyH.cons rfl (fun K hK => ?_) AllReadyH.nil)
          go_simp
          refine (HCOL.out _ hHeld.2).mono ?_; rintro e w11 ⟨rfl, hbc⟩
          try (go_wp2_with fail)
          refine hK.out _ _ ?_ (fun hHeld => ?_)
          · exact HSB.out _ (hHeld.2.trans (hbc.mono hHeld.2.size))
          clear hK K
          try simp only [Act.put, List.getElem_toArray, List.getElem_cons_succ, List.getElem_cons_zero, List.setIfInBounds_toArray, List.set_cons_zero, List.set_cons_succ]
          refine wpAnyH_take (i := 9) (v := ?_) rfl (by kernel_rfl) (by kernel_rfl) (by kernel_rfl) (fun _ _ _ h => h) (Or.inl ⟨by rfl, ?hy⟩) (by assumption) ?_
          case hy => intro w hSw; (try dsimp only at hSw); go_simp; try with_reducible rfl
          try simp only [Act.put, List.getElem_toArray, List.getElem_cons_succ, List.getElem_cons_zero, List.setIfInBounds_toArray, List.set_cons_zero, List.set_cons_succ]
          refine wpAnyH_take (i := 10) (v := ?_) rfl (by kernel_rfl) (by kernel_rfl) (by kernel_rfl) (fun _ _ _ h => h) (Or.inl ⟨by rfl, ?hy⟩) (by assumption) ?_
          case hy => intro w hSw; (try dsimp only at hSw); go_simp; try with_reducible rfl
          try simp only [Act.put, List.getElem_toArray, List.getElem_cons_succ, List.getElem_cons_zero, List.setIfInBounds_toArray, List.set_cons_zero, List.set_cons_succ]
          refine wpAnyH_take (i := 11) (v := ?_) rfl (by kernel_rfl) (by kernel_rfl) (by kernel_rfl) (fun _ _ _ h => h) (Or.inl ⟨by rfl, ?hy⟩) (by assumption) ?_
          case hy => intro w hSw; (try dsimp only at hSw); go_simp; try with_reducible rfl
          try simp only [Act.put, List.getElem_toArray, List.getElem_cons_succ, List.getElem_cons_zero, List.setIfInBounds_toArray, List.set_cons_zero, List.set_cons_succ]
          refine wpAnyH_take (i := 12) (v := ?_) rfl (by kernel_rfl) (by kernel_rfl) (by kernel_rfl) (fun _ _ _ h => h) (Or.inl ⟨by rfl, ?hy⟩) (by assumption) ?_
          case hy => intro w hSw; (try dsimp only at hSw); go_simp; try with_reducible rfl
          try simp only [Act.put, List.getElem_toArray, List.getElem_cons_succ, List.getElem_cons_zero, List.setIfInBounds_toArray, List.set_cons_zero, List.set_cons_succ]
          refine wpAnyH_take (i := 13) (v := ?_) rfl (by kernel_rfl) (by kernel_rfl) (by kernel_rfl) (fun _ _ _ h => h) (Or.inl ⟨by rfl, ?hy⟩) (by assumption) ?_
          case hy => intro w hSw; (try dsimp only at hSw); go_simp; try with_reducible rfl
          try simp only [Act.put, List.getElem_toArray, List.getElem_cons_succ, List.getElem_cons_zero, List.setIfInBounds_toArray, List.set_cons_zero, List.set_cons_succ]
          refine wpAnyH_done (by kernel_rfl) ?_ _
          refine NoPanic.normal ?_
          have hBG2 := hHeld.2
          clear hHeld hBEG y0 y1 y2 y3
          have hBEG := HSB.out _ (hBG2.trans (show Below w10.heap.size w11 w11.drew from ⟨rfl, rfl, rfl, Nat.le_refl _, fun _ _ => rfl⟩))
          go_wp2_with (fail)
          refine wp_region_noPanic ?_
          refine wp_region_held_drew (S := fun wx => (wx.cell? ⟨w.heap.size + 1, 2, none⟩ = some (.int .i64 row) ∧ wx.cell? ⟨w.heap.size + 1, 3, none⟩ = some (.slice (some ⟨kg, koff, none⟩) klen kcap) ∧ wx.cell? ⟨kg, koff + i, none⟩ = some (.string key)) ∧ Below w10.heap.size w10 wx) (by kernel_rfl) ?_ (fun hHeld => ?_)
          · exact hBEG
          refine wpAnyH_take (i := 0) (v := ?_) rfl (by kernel_rfl) (by kernel_rfl) (by kernel_rfl) (fun _ _ _ h => h) (Or.inl ⟨by rfl, ?hy⟩) (by assumption) ?_
          case hy => intro w hSw; (try dsimp only at hSw); go_simp; try with_reducible rfl
          try simp only [Act.put, List.getElem_toArray, List.getElem_cons_succ, List.getElem_cons_zero, List.setIfInBounds_toArray, List.set_cons_zero, List.set_cons_succ]
          refine wpAnyH_take (i := 1) (v := ?_) rfl (by kernel_rfl) (by kernel_rfl) (by kernel_rfl) (fun _ _ _ h => h) (Or.inl ⟨by rfl, ?hy⟩) (by assumption) ?_
          case hy => intro w hSw; (try dsimp only at hSw); go_simp; try with_reducible rfl
          try simp only [Act.put, List.getElem_toArray, List.getElem_cons_succ, List.getElem_cons_zero, List.setIfInBounds_toArray, List.set_cons_zero, List.set_cons_succ]
          refine wpAnyH_take (i := 2) (v := ?_) rfl (by kernel_rfl) (by kernel_rfl) (by kernel_rfl) (fun _ _ _ h => h) (Or.inl ⟨by rfl, ?hy⟩) (by assumption) ?_
          case hy => intro w hSw; (try dsimp only at hSw); go_simp; try with_reducible rfl
          try simp only [Act.put, List.getElem_toArray, List.getElem_cons_succ, List.getElem_cons_zero, List.setIfInBounds_toArray, List.set_cons_zero, List.set_cons_succ]
          refine wpAnyH_take (i := 3) (v := ?_) rfl (by kernel_rfl) (by kernel_rfl) (by kernel_rfl) (fun _ _ _ h => h) (Or.inl ⟨by rfl, ?hy⟩) (by assumption) ?_
          case hy => intro w hSw; (try dsimp only at hSw); go_simp; try with_reducible rfl
          try simp only [Act.put, List.getElem_toArray, List.getElem_cons_succ, List.getElem_cons_zero, List.setIfInBounds_toArray, List.set_cons_zero, List.set_cons_succ]
          refine wpAnyH_take (i := 4) (v := ?_) rfl (by kernel_rfl) (by kernel_rfl) (by kernel_rfl) (fun _ _ _ h => h) (Or.inl ⟨by rfl, ?hy⟩) (by assumption) ?_
          case hy => intro w hSw; (try dsimp only at hSw); go_simp; try with_reducible rfl
          try simp only [Act.put, List.getElem_toArray, List.getElem_cons_succ, List.getElem_cons_zero, List.setIfInBounds_toArray, List.set_cons_zero, List.set_cons_succ]
          refine wpAnyH_take (i := 5) (v := ?_) rfl (by kernel_rfl) (by kernel_rfl) (by kernel_rfl) (fun _ _ _ h => h) (Or.inl ⟨by rfl, ?hy⟩) (by assumption) ?_
          case hy => intro w hSw; (try dsimp only at hSw); go_simp; try with_reducible rfl
          try simp only [Act.put, List.getElem_toArray, List.getElem_cons_succ, List.getElem_cons_zero, List.setIfInBounds_toArray, List.set_cons_zero, List.set_cons_succ]
          refine wpAnyH_take (i := 6) (v := ?_) rfl (by kernel_rfl) (by kernel_rfl) (by kernel_rfl) (fun _ _ _ h => h) (Or.inl ⟨by rfl, ?hy⟩) (by assumption) ?_
          case hy => intro w hSw; (try dsimp only at hSw); go_simp; try with_reducible rfl
          try simp only [Act.put, List.getElem_toArray, List.getElem_cons_succ, List.getElem_cons_zero, List.setIfInBounds_toArray, List.set_cons_zero, List.set_cons_succ]
          refine wpAnyH_take (i := 7) (v := ?_) rfl (by kernel_rfl) (by kernel_rfl) (by kernel_rfl) (fun _ _ _ h => h) (Or.inl ⟨by rfl, ?hy⟩) (by assumption) ?_
          case hy => intro w hSw; (try dsimp only at hSw); go_simp; try with_reducible rfl
          try simp only [Act.put, List.getElem_toArray, List.getElem_cons_succ, List.getElem_cons_zero, List.setIfInBounds_toArray, List.set_cons_zero, List.set_cons_succ]
          refine wpAnyH_ready (rs := [8]) (by kernel_rfl) (by simp) (AllReadyH.cons rfl (fun K hK => ?_) AllReadyH.nil)
          go_simp
          refine (HRCL.out _ hHeld.2).mono ?_; rintro e w12 ⟨rfl, hbc⟩
          try (go_wp2_with fail)
          refine hK.out _ _ ?_ (fun hHeld => ?_)
          · exact HSB.out _ (hHeld.2.trans (hbc.mono hHeld.2.size))
          clear hK K
          try simp only [Act.put, List.getElem_toArray, List.getElem_cons_succ, List.getElem_cons_zero, List.setIfInBounds_toArray, List.set_cons_zero, List.set_cons_succ]
          refine wpAnyH_take (i := 9) (v := ?_) rfl (by kernel_rfl) (by kernel_rfl) (by kernel_rfl) (fun _ _ _ h => h) (Or.inl ⟨by rfl, ?hy⟩) (by assumption) ?_
          case hy => intro w hSw; (try dsimp only at hSw); go_simp; try with_reducible rfl
          try simp only [Act.put, List.getElem_toArray, List.getElem_cons_succ, List.getElem_cons_zero, List.setIfInBounds_toArray, List.set_cons_zero, List.set_cons_succ]
          refine wpAnyH_take (i := 10) (v := ?_) rfl (by kernel_rfl) (by kernel_rfl) (by kernel_rfl) (fun _ _ _ h => h) (Or.inl ⟨by rfl, ?hy⟩) (by assumption) ?_
          case hy => intro w hSw; (try dsimp only at hSw); go_simp; try with_reducible rfl
          try simp only [Act.put, List.getElem_toArray, List.getElem_cons_succ, List.getElem_cons_zero, List.setIfInBounds_toArray, List.set_cons_zero, List.set_cons_succ]
          refine wpAnyH_take (i := 11) (v := ?_) rfl (by kernel_rfl) (by kernel_rfl) (by kernel_rfl) (fun _ _ _ h => h) (Or.inl ⟨by rfl, ?hy⟩) (by assumption) ?_
          case hy => intro w hSw; (try dsimp only at hSw); go_simp; try with_reducible rfl
          try simp only [Act.put, List.getElem_toArray, List.getElem_cons_succ, List.getElem_cons_zero, List.setIfInBounds_toArray, List.set_cons_zero, List.set_cons_succ]
          refine wpAnyH_take (i := 12) (v := ?_) rfl (by kernel_rfl) (by kernel_rfl) (by kernel_rfl) (fun _ _ _ h => h) (Or.inl ⟨by rfl, ?hy⟩) (by assumption) ?_
          case hy => intro w hSw; (try dsimp only at hSw); go_simp; try with_reducible rfl
          try simp only [Act.put, List.getElem_toArray, List.getElem_cons_succ, List.getElem_cons_zero, List.setIfInBounds_toArray, List.set_cons_zero, List.set_cons_succ]
          refine wpAnyH_take (i := 13) (v := ?_) rfl (by kernel_rfl) (by kernel_rfl) (by kernel_rfl) (fun _ _ _ h => h) (Or.inl ⟨by rfl, ?hy⟩) (by assumption) ?_
          case hy => intro w hSw; (try dsimp only at hSw); go_simp; try with_reducible rfl
          try simp only [Act.put, List.getElem_toArray, List.getElem_cons_succ, List.getElem_cons_zero, List.setIfInBounds_toArray, List.set_cons_zero, List.set_cons_succ]
          refine wpAnyH_done (by kernel_rfl) ?_ _
          refine NoPanic.normal ?_
          have hBG3 := hHeld.2
          clear hHeld hBEG hBG2
          have hBEG := HSB.out _ (hBG3.trans (show Below w10.heap.size w12 w12.drew from ⟨rfl, rfl, rfl, Nat.le_refl _, fun _ _ => rfl⟩))
          go_wp2_with (fail)
          refine wp_region_noPanic ?_
          refine wp_region_held_drew (S := fun wx => (wx.cell? ⟨w.heap.size + 1, 2, none⟩ = some (.int .i64 row) ∧ wx.cell? ⟨w.heap.size + 1, 3, none⟩ = some (.slice (some ⟨kg, koff, none⟩) klen kcap) ∧ wx.cell? ⟨kg, koff + i, none⟩ = some (.string key)) ∧ Below w10.heap.size w10 wx) (by kernel_rfl) ?_ (fun hHeld => ?_)
          · exact hBEG
          refine wpAnyH_take (i := 0) (v := ?_) rfl (by kernel_rfl) (by kernel_rfl) (by kernel_rfl) (fun _ _ _ h => h) (Or.inl ⟨by rfl, ?hy⟩) (by assumption) ?_
          case hy => intro w hSw; (try dsimp only at hSw); go_simp; try with_reducible rfl
          try simp only [Act.put, List.getElem_toArray, List.getElem_cons_succ, List.getElem_cons_zero, List.setIfInBounds_toArray, List.set_cons_zero, List.set_cons_succ]
          refine wpAnyH_take (i := 1) (v := ?_) rfl (by kernel_rfl) (by kernel_rfl) (by kernel_rfl) (fun _ _ _ h => h) (Or.inl ⟨by rfl, ?hy⟩) (by assumption) ?_
          case hy => intro w hSw; (try dsimp only at hSw); go_simp; try with_reducible rfl
          try simp only [Act.put, List.getElem_toArray, List.getElem_cons_succ, List.getElem_cons_zero, List.setIfInBounds_toArray, List.set_cons_zero, List.set_cons_succ]
          refine wpAnyH_take (i := 2) (v := ?_) rfl (by kernel_rfl) (by kernel_rfl) (by kernel_rfl) (fun _ _ _ h => h) (Or.inl ⟨by rfl, ?hy⟩) (by assumption) ?_
          case hy => intro w hSw; (try dsimp only at hSw); go_simp; try with_reducible rfl
          try simp only [Act.put, List.getElem_toArray, List.getElem_cons_succ, List.getElem_cons_zero, List.setIfInBounds_toArray, List.set_cons_zero, List.set_cons_succ]
          refine wpAnyH_take (i := 3) (v := ?_) rfl (by kernel_rfl) (by kernel_rfl) (by kernel_rfl) (fun _ _ _ h => h) (Or.inl ⟨by rfl, ?hy⟩) (by assumption) ?_
          case hy => intro w hSw; (try dsimp only at hSw); go_simp; try with_reducible rfl
          try simp only [Act.put, List.getElem_toArray, List.getElem_cons_succ, List.getElem_cons_zero, List.setIfInBounds_toArray, List.set_cons_zero, List.set_cons_succ]
          refine wpAnyH_take (i := 4) (v := ?_) rfl (by kernel_rfl) (by kernel_rfl) (by kernel_rfl) (fun _ _ _ h => h) (Or.inl ⟨by rfl, ?hy⟩) (by assumption) ?_
          case hy => intro w hSw; (try dsimp only at hSw); go_simp; try with_reducible rfl
          try simp only [Act.put, List.getElem_toArray, List.getElem_cons_succ, List.getElem_cons_zero, List.setIfInBounds_toArray, List.set_cons_zero, List.set_cons_succ]
          refine wpAnyH_take (i := 5) (v := ?_) rfl (by kernel_rfl) (by kernel_rfl) (by kernel_rfl) (fun _ _ _ h => h) (Or.inl ⟨by rfl, ?hy⟩) (by assumption) ?_
          case hy => intro w hSw; (try dsimp only at hSw); go_simp; try with_reducible rfl
          try simp only [Act.put, List.getElem_toArray, List.getElem_cons_succ, List.getElem_cons_zero, List.setIfInBounds_toArray, List.set_cons_zero, List.set_cons_succ]
          refine wpAnyH_take (i := 6) (v := ?_) rfl (by kernel_rfl) (by kernel_rfl) (by kernel_rfl) (fun _ _ _ h => h) (Or.inl ⟨by rfl, ?hy⟩) (by assumption) ?_
          case hy => intro w hSw; (try dsimp only at hSw); go_simp; try with_reducible rfl
          try simp only [Act.put, List.getElem_toArray, List.getElem_cons_succ, List.getElem_cons_zero, List.setIfInBounds_toArray, List.set_cons_zero, List.set_cons_succ]
          refine wpAnyH_take (i := 7) (v := ?_) rfl (by kernel_rfl) (by kernel_rfl) (by kernel_rfl) (fun _ _ _ h => h) (Or.inl ⟨by rfl, ?hy⟩) (by assumption) ?_
          case hy => intro w hSw; (try dsimp only at hSw); go_simp; try with_reducible rfl
          try simp only [Act.put, List.getElem_toArray, List.getElem_cons_succ, List.getElem_cons_zero, List.setIfInBounds_toArray, List.set_cons_zero, List.set_cons_succ]
          refine wpAnyH_take (i := 8) (v := ?_) rfl (by kernel_rfl) (by kernel_rfl) (by kernel_rfl) (fun _ _ _ h => h) (Or.inl ⟨by rfl, ?hy⟩) (by assumption) ?_
          case hy => intro w hSw; (try dsimp only at hSw); go_simp; try with_reducible rfl
          try simp only [Act.put, List.getElem_toArray, List.getElem_cons_succ, List.getElem_cons_zero, List.setIfInBounds_toArray, List.set_cons_zero, List.set_cons_succ]
          refine wpAnyH_take (i := 9) (v := ?_) rfl (by kernel_rfl) (by kernel_rfl) (by kernel_rfl) (fun _ _ _ h => h) (Or.inl ⟨by rfl, ?hy⟩) (by assumption) ?_
          case hy => intro w hSw; (try dsimp only at hSw); go_simp; try with_reducible rfl
          try simp only [Act.put, List.getElem_toArray, List.getElem_cons_succ, List.getElem_cons_zero, List.setIfInBounds_toArray, List.set_cons_zero, List.set_cons_succ]
          refine wpAnyH_take (i := 10) (v := ?_) rfl (by kernel_rfl) (by kernel_rfl) (by kernel_rfl) (fun _ _ _ h => h) (Or.inl ⟨by rfl, ?hy⟩) (by assumption) ?_
          case hy => intro w hSw; (try dsimp only at hSw); go_simp; try with_reducible rfl
          try simp only [Act.put, List.getElem_toArray, List.getElem_cons_succ, List.getElem_cons_zero, List.setIfInBounds_toArray, List.set_cons_zero, List.set_cons_succ]
          refine wpAnyH_take (i := 11) (v := ?_) rfl (by kernel_rfl) (by kernel_rfl) (by kernel_rfl) (fun _ _ _ h => h) (Or.inl ⟨by rfl, ?hy⟩) (by assumption) ?_
          case hy => intro w hSw; (try dsimp only at hSw); go_simp; try with_reducible rfl
          try simp only [Act.put, List.getElem_toArray, List.getElem_cons_succ, List.getElem_cons_zero, List.setIfInBounds_toArray, List.set_cons_zero, List.set_cons_succ]
          refine wpAnyH_take (i := 12) (v := ?_) rfl (by kernel_rfl) (by kernel_rfl) (by kernel_rfl) (fun _ _ _ h => h) (Or.inl ⟨by rfl, ?hy⟩) (by assumption) ?_
          case hy => intro w hSw; (try dsimp only at hSw); go_simp; try with_reducible rfl
          try simp only [Act.put, List.getElem_toArray, List.getElem_cons_succ, List.getElem_cons_zero, List.setIfInBounds_toArray, List.set_cons_zero, List.set_cons_succ]
          refine wpAnyH_take (i := 13) (v := ?_) rfl (by kernel_rfl) (by kernel_rfl) (by kernel_rfl) (fun _ _ _ h => h) (Or.inl ⟨by rfl, ?hy⟩) (by assumption) ?_
          case hy => intro w hSw; (try dsimp only at hSw); go_simp; try with_reducible rfl
          try simp only [Act.put, List.getElem_toArray, List.getElem_cons_succ, List.getElem_cons_zero, List.setIfInBounds_toArray, List.set_cons_zero, List.set_cons_succ]
          refine wpAnyH_take (i := 15) (v := ?_) rfl (by kernel_rfl) (by kernel_rfl) (by kernel_rfl) (fun _ _ _ h => h) (Or.inl ⟨by rfl, ?hy⟩) (by assumption) ?_
          case hy => intro w hSw; (try dsimp only at hSw); go_simp; try with_reducible rfl
          try simp only [Act.put, List.getElem_toArray, List.getElem_cons_succ, List.getElem_cons_zero, List.setIfInBounds_toArray, List.set_cons_zero, List.set_cons_succ]
          refine wpAnyH_take (i := 16) (v := ?_) rfl (by kernel_rfl) (by kernel_rfl) (by kernel_rfl) (fun _ _ _ h => h) (Or.inl ⟨by rfl, ?hy⟩) (by assumption) ?_
          case hy => intro w hSw; (try dsimp only at hSw); go_simp; try with_reducible rfl
          try simp only [Act.put, List.getElem_toArray, List.getElem_cons_succ, List.getElem_cons_zero, List.setIfInBounds_toArray, List.set_cons_zero, List.set_cons_succ]
          refine wpAnyH_take (i := 17) (v := ?_) rfl (by kernel_rfl) (by kernel_rfl) (by kernel_rfl) (fun _ _ _ h => h) (Or.inl ⟨by rfl, ?hy⟩) (by assumption) ?_
          case hy => intro w hSw; (try dsimp only at hSw); go_simp; try with_reducible rfl
          try simp only [Act.put, List.getElem_toArray, List.getElem_cons_succ, List.getElem_cons_zero, List.setIfInBounds_toArray, List.set_cons_zero, List.set_cons_succ]
          refine wpAnyH_take (i := 18) (v := ?_) rfl (by kernel_rfl) (by kernel_rfl) (by kernel_rfl) (fun _ _ _ h => h) (Or.inl ⟨by rfl, ?hy⟩) (by assumption) ?_
          case hy => intro w hSw; (try dsimp only at hSw); go_simp; try with_reducible rfl
          try simp only [Act.put, List.getElem_toArray, List.getElem_cons_succ, List.getElem_cons_zero, List.setIfInBounds_toArray, List.set_cons_zero, List.set_cons_succ]
          refine wpAnyH_take (i := 19) (v := ?_) rfl (by kernel_rfl) (by kernel_rfl) (by kernel_rfl) (fun _ _ _ h => h) (Or.inl ⟨by rfl, ?hy⟩) (by assumption) ?_
          case hy => intro w hSw; (try dsimp only at hSw); go_simp; try with_reducible rfl
          try simp only [Act.put, List.getElem_toArray, List.getElem_cons_succ, List.getElem_cons_zero, List.setIfInBounds_toArray, List.set_cons_zero, List.set_cons_succ]
          refine wpAnyH_ready (rs := [14]) (by kernel_rfl) (by simp) (AllReadyH.cons rfl (fun K hK => ?_) AllReadyH.nil)
          go_simp
          refine (skhash_any key HKZ.out _).mono ?_; rintro e wc ⟨rfl, hq⟩; subst hq
          try (go_wp2_with fail)
          refine hK.out _ _ ?_ (fun hHeld => ?_)
          · exact hHeld
          clear hK K
          try simp only [Act.put, List.getElem_toArray, List.getElem_cons_succ, List.getElem_cons_zero, List.setIfInBounds_toArray, List.set_cons_zero, List.set_cons_succ]
          refine wpAnyH_ready (rs := [20]) (by kernel_rfl) (by simp) (AllReadyH.cons rfl (fun K hK => ?_) AllReadyH.nil)
          go_simp
          refine (r6hash_any key HKZ.out _).mono ?_; rintro e wc ⟨rfl, hq⟩; subst hq
          try (go_wp2_with fail)
          refine hK.out _ _ ?_ (fun hHeld => ?_)
          · exact hHeld
          clear hK K
          try simp only [Act.put, List.getElem_toArray, List.getElem_cons_succ, List.getElem_cons_zero, List.setIfInBounds_toArray, List.set_cons_zero, List.set_cons_succ]
          refine wpAnyH_take (i := 21) (v := ?_) rfl (by kernel_rfl) (by kernel_rfl) (by kernel_rfl) (fun _ _ _ h => h) (Or.inl ⟨by rfl, ?hy⟩) (by assumption) ?_
          case hy => intro w hSw; (try dsimp only at hSw); go_simp; try with_reducible rfl
          try simp only [Act.put, List.getElem_toArray, List.getElem_cons_succ, List.getElem_cons_zero, List.setIfInBounds_toArray, List.set_cons_zero, List.set_cons_succ]
          refine wpAnyH_take (i := 22) (v := ?_) rfl (by kernel_rfl) (by kernel_rfl) (by kernel_rfl) (fun _ _ _ h => h) (Or.inl ⟨by rfl, ?hy⟩) (by assumption) ?_
          case hy => intro w hSw; (try dsimp only at hSw); go_simp; try with_reducible rfl
          try simp only [Act.put, List.getElem_toArray, List.getElem_cons_succ, List.getElem_cons_zero, List.setIfInBounds_toArray, List.set_cons_zero, List.set_cons_succ]
          refine wpAnyH_done (by kernel_rfl) ?_ _
          refine NoPanic.normal ?_
          have HBF := Lib.hid hHeld.2
          clear hHeld hBEG hBG3
          go_wp2_with (fail)
          exact ⟨⟨i + 1, by omega, by go_num, HBF⟩, by first | (simp [intOf]; done) | (simp [intOf]; omega)⟩
        · have HGR := Lib.hid hgr
          have HWR := Lib.hid (HW10.out.trans (HBR.out.mono HW10.out.size))
          have hb610 := HB7.out.trans (((HB8.out.trans ((HB9.out.trans ((HB10.out.trans (HBR.out.mono HB10.out.size)).mono HB9.out.size)).mono HB8.out.size))).mono HB7.out.size)
          have HT6R := Lib.hid (HT6.out.below2 (Nat.le_refl _) hb610)
          have HU7R := Lib.hid (below_ownT HU7.out ((HB8.out.trans ((HB9.out.trans ((HB10.out.trans (HBR.out.mono HB10.out.size)).mono HB9.out.size)).mono HB8.out.size))))
          have hs76 : w6.heap.size ≤ w7.heap.size := HB7.out.size
          have hs7r : w7.heap.size ≤ wr.heap.size := (HB8.out.trans ((HB9.out.trans ((HB10.out.trans (HBR.out.mono HB10.out.size)).mono HB9.out.size)).mono HB8.out.size)).size
          have HS7 := Lib.hid (And.intro hs76 hs7r)
          clear hgr hb610 hs76 hs7r
          go_wp2_with (fail)
          refine (HT.out.top wr HWR.out _ _ HT6R.out).mono ?_
          rintro e w12 ⟨va, n2, vc, rfl, hv, hb12⟩
          have HV := Lib.hid hv
          have HB12 := Lib.hid hb12
          have hn2 : n2 ≤ 1048576 := by have h1 := (own_its hv).1; have h2 := HT.out.few; omega
          have HU12 := Lib.hid (below_ownT HU7R.out hb12)
          clear hv hb12 y0 y1 y2 y3
          obtain ⟨B, hB⟩ : ∃ B, w12.heap.size = B := ⟨_, rfl⟩
          have hb13 : Below w12.heap.size w12 (w12.alloc (.cells (bookC (.slice none 0 0)) 61)) := (Below.refl _ _).alloc (Nat.le_refl _) _
          have hbk13 : (w12.alloc (.cells (bookC (.slice none 0 0)) 61)).heap[B]? = some (.cells (bookC (.slice none 0 0)) 61) := by rw [get_allocS, if_pos hB.symm]
          have hz13 : (w12.alloc (.cells (bookC (.slice none 0 0)) 61)).heap.size = B + 1 := by simp [hB]
          have HTK1 := Lib.hid (take_any (T := B + 1) (n := 0) (xs := []) hbk13 (by omega) (by omega) (World.ownsRow_nil _ _ _ _) ua n0 uc (by omega))
          have HB13 := Lib.hid hb13
          have HZ13 := Lib.hid hz13
          have HBZ := Lib.hid hB
          clear hb13 hbk13 hz13
          rw [show bookC (.slice none 0 0) = #[.slice none 0 0, .slice none 0 0, .slice none 0 0, .slice none 0 0, .slice none 0 0, .slice none 0 0, .slice none 0 0, .slice none 0 0] from rfl] at HTK1 HB13 HZ13
          go_wp2_with (fail)
          try rw [hB]
          clear hB
          generalize w12.alloc _ = w13 at *
          refine HTK1.out.mono ?_
          rintro e w14 ⟨rfl, it1, hbk14, hr14, ho14⟩
          have HO14 := Lib.hid ho14
          obtain ⟨ia, ic, rfl⟩ := own_sliceT hr14
          have HR14 := Lib.hid hr14
          have HTK2 := Lib.hid (take_any (T := B + 1) (n := 0 + 1) hbk14 (by omega) (by have h1 := ho14.size; have h2 := HZ13.out; omega) hr14 va n2 vc (by omega))
          clear hbk14 hr14 ho14 HTK1
          go_wp2_with (fail)
          refine HTK2.out.mono ?_
          rintro e w15 ⟨rfl, it2, hbk15, hr15, ho15⟩
          obtain ⟨ja, jc, rfl⟩ := own_sliceT hr15
          obtain ⟨I, rfl, hI1, hI2, hI3, hI4⟩ := two_cellAt hr15 rfl
          have hbase := HS7.out
          have hBz := HBZ.out
          have hz13 := HZ13.out
          have hs12 := HB12.out.size
          have hz14 := HO14.out.size
          have hz15 := ho15.size
          have hkeep : ∀ k, k < B → w15.heap[k]? = w12.heap[k]? := fun k hk => by
            refine (ho15.block k (by omega) (fun e => ?_)).trans ((HO14.out.block k (by omega) (fun e => ?_)).trans (HB13.out.block k (by omega)))
            · rcases e with e | e
              · omega
              · have := (HR14.out.lt k e).1; omega
            · rcases e with e | e
              · omega
              · cases e
          have hbl : Below B w12 w15 := ⟨ho15.os.trans (HO14.out.os.trans HB13.out.os), ho15.tape.trans (HO14.out.tape.trans HB13.out.tape), ho15.output.trans (HO14.out.output.trans HB13.out.output), by omega, hkeep⟩
          have hal : AlS w15 w6.heap.size wr.heap.size B I (.slice ua n0 uc) (.slice va n2 vc) n0 n2 L L w15 := by
            refine ⟨Below.refl _ _, rfl, rfl, below_ownT HU12.out (by rw [hBz]; exact hbl), below_ownT HV.out (by rw [hBz]; exact hbl), fun k e => ?_, fun k e => ?_, by omega, by omega, by omega, hI2⟩
            · have := (HU7.out.lt k e).2; omega
            · have := (HV.out.lt k e).2; omega
          have HAL := Lib.hid (alone_any hal hbk15 ⟨hI3, hI4⟩ hn0 hn2)
          have hgw : Below W2.heap.size W2 w15 := (HGR.out.trans (HB12.out.mono HGR.out.size)).trans (hbl.mono (by have h1 := HGR.out.size; omega))
          have HGW := Lib.hid (HB2.out.trans (hgw.mono HB2.out.size))
          have hw6 : w.heap.size ≤ w6.heap.size := by have h1 := HG6.out.size; have h2 := HB2.out.size; omega
          have HS6 := Lib.hid hw6
          clear hbk15 hr15 ho15 hI1 hI2 hI3 hI4 hbase hBz hz13 hs12 hz14 hz15 hkeep hbl hal hgw hw6 HTK2
          go_wp2_with (fail)
          refine HAL.out.mono ?_
          rintro e w16 ⟨rfl, hb16⟩
          have HF := Lib.hid (HGW.out.trans (hb16.mono HS6.out))
          clear hb16
          go_wp2_with (fail)
          go_ret
          exact ⟨rfl, HF.out⟩


theorem tops_law {w : World} (h : ShapeS) (s0 : 0 ≤ h.seed) (s1 : h.seed ≤ 18446744073709551615) (a : Option Addr) (len cap : Nat) (ds : List DeedS) (hl : ds.length = len) (hm : len ≤ 1048576) (hd : DeedsAt w a ds) (hfew : ∀ d ∈ ds, d.ns.length ≤ 1048576)
    (at_ kk row : Int) (keys : List ByteArray) (ka : Option Addr) (klen kcap : Nat) (hkl : keys.length = klen) (hkm : klen ≤ 1048576) (hkt : TextsAt w ka keys) (hkz : ∀ s ∈ keys, s.size ≤ maxLen) (hk2 : kk ≤ 9223372036854775807) :
    Calls Try.prog 3 #[.agg h.c, .slice a len cap, .agg #[.int .i64 at_, .int .i64 kk, .int .i64 row, .slice ka klen kcap]] w fun e w' => e = .returned (.bool true) ∧ Below w.heap.size w w' := by
  by_cases hE : newE h = 0
  · exact tops_yes h s0 s1 a len cap ds hl hm hd hfew at_ kk row keys ka klen kcap hkl hkm hkt hkz hk2 hE
  · exact tops_no h s0 s1 a len cap ds hl hm hd hfew at_ kk row keys ka klen kcap hkl hkm hkt hkz hk2 hE
end Go.Proofs.Ytockmgcgifhepaa

/- SketchTops: the law in the form that its openers give. -/
namespace Go.Proofs.Ytockmgcgifhepaa
open Go.RowKit
set_option linter.unusedVariables false

theorem deeds_ofT {w : World} {a : Option Addr} {V : Nat → Nat → Value} : ∀ {len : Nat}, RecsAt w a 4 len V →
    (∀ j, j < len → V j 0 = .int .i64 (intOf (V j 0)) ∧ (Lit.int .i64 (intOf (V j 0))).wf = true) → (∀ j, j < len → V j 1 = .int .i64 (intOf (V j 1)) ∧ (Lit.int .i64 (intOf (V j 1))).wf = true) →
    (∀ j, j < len → V j 2 = .string (strOf (V j 2)) ∧ (strOf (V j 2)).size ≤ maxLen) →
    (∀ j, j < len → ∃ (a : Option Addr) (l c : Nat) (ns : List Int), V j 3 = .slice a l c ∧ ns.length = l ∧ l ≤ 1048576 ∧ IntsAt w a ns) →
    ∃ ds : List DeedS, ds.length = len ∧ DeedsAt w a ds ∧ ∀ d, d ∈ ds → d.ns.length ≤ 1048576 := by
  intro len hr h0 h1 h2 h3
  have hch : ∀ j, ∃ d : DeedS, j < len → (∃ (a' : Option Addr) (l c : Nat), V j 0 = .int .i64 d.kind ∧ V j 1 = .int .i64 d.at_ ∧ V j 2 = .string d.key ∧ V j 3 = .slice a' l c ∧ d.ns.length = l ∧ l ≤ 1048576 ∧ IntsAt w a' d.ns ∧ d.key.size ≤ maxLen) := fun j => by
    by_cases hj : j < len
    · obtain ⟨a', l, c, ns, e3, hl, hl2, hn⟩ := h3 j hj
      exact ⟨⟨intOf (V j 0), intOf (V j 1), strOf (V j 2), ns⟩, fun _ => ⟨a', l, c, (h0 j hj).1, (h1 j hj).1, (h2 j hj).1, e3, hl, hl2, hn, (h2 j hj).2⟩⟩
    · exact ⟨⟨0, 0, ⟨#[]⟩, []⟩, fun h => absurd h hj⟩
  obtain ⟨f, hf⟩ := Classical.axiomOfChoice hch
  refine ⟨(List.range len).map f, by simp, ?_, fun d hd => ?_⟩
  · rcases hr with h | ⟨b, off, rfl, hb, hc⟩
    · subst h; exact Or.inl rfl
    · refine Or.inr ⟨b, off, rfl, hb, fun j d hd => ?_⟩
      have hj : j < len := by have := (List.getElem?_eq_some_iff.1 hd).1; simpa using this
      obtain rfl : f j = d := by simpa [hj] using hd
      obtain ⟨a', l, c, e0, e1, e2, e3, hl, hl2, hn, hk⟩ := hf j hj
      have hcell := hc j hj
      have c0 := hcell 0 (by omega)
      have c1 := hcell 1 (by omega)
      have c2 := hcell 2 (by omega)
      have c3 := hcell 3 (by omega)
      rw [e0] at c0
      rw [e1, show off + (j * 4 + 1) = off + j * 4 + 1 by omega] at c1
      rw [e2, show off + (j * 4 + 2) = off + j * 4 + 2 by omega] at c2
      rw [e3, show off + (j * 4 + 3) = off + j * 4 + 3 by omega] at c3
      exact ⟨a', l, c, c0, c1, c2, c3, hl, by omega, hn, hk⟩
  · obtain ⟨j, hj, rfl⟩ := List.mem_map.1 hd
    obtain ⟨a', l, c, e0, e1, e2, e3, hl, hl2, hn, hk⟩ := hf j (List.mem_range.1 hj)
    omega
theorem tops_open {w : World} (W : Int) (wW : (Lit.int .i64 W).wf = true) (B : Int) (wB : (Lit.int .i64 B).wf = true) (R : Int) (wR : (Lit.int .i64 R).wf = true) (C : Int) (wC : (Lit.int .i64 C).wf = true) (seed : Int) (ws : (Lit.int .u64 seed).wf = true)
    (a : Option Addr) (len cap : Nat) (V : Nat → Nat → Value) (hm : len ≤ 1048576) (hr : RecsAt w a 4 len V)
    (h0 : ∀ j, j < len → V j 0 = .int .i64 (intOf (V j 0)) ∧ (Lit.int .i64 (intOf (V j 0))).wf = true) (h1 : ∀ j, j < len → V j 1 = .int .i64 (intOf (V j 1)) ∧ (Lit.int .i64 (intOf (V j 1))).wf = true)
    (h2 : ∀ j, j < len → V j 2 = .string (strOf (V j 2)) ∧ (strOf (V j 2)).size ≤ maxLen)
    (h3 : ∀ j, j < len → ∃ (a : Option Addr) (l c : Nat) (ns : List Int), V j 3 = .slice a l c ∧ ns.length = l ∧ l ≤ 1048576 ∧ IntsAt w a ns)
    (at_ : Int) (wat : (Lit.int .i64 at_).wf = true) (kk : Int) (wkk : (Lit.int .i64 kk).wf = true) (row : Int) (wrow : (Lit.int .i64 row).wf = true) (ka : Option Addr) (klen kcap : Nat) (keys : List ByteArray) (hkl : keys.length = klen) (hkm : klen ≤ 1048576) (hkt : TextsAt w ka keys) (hkz : ∀ s, s ∈ keys → s.size ≤ maxLen) :
    Calls Try.prog 3 #[.agg #[.int .i64 W, .int .i64 B, .int .i64 R, .int .i64 C, .int .u64 seed], .slice a len cap, .agg #[.int .i64 at_, .int .i64 kk, .int .i64 row, .slice ka klen kcap]] w fun e w' => e = .returned (.bool true) ∧ Below w.heap.size w w' := by
  obtain ⟨ds, hl, hd, hn⟩ := deeds_ofT hr h0 h1 h2 h3
  simp only [Lit.wf, IntKind.min, IntKind.max, IntKind.signed, IntKind.bits, Bool.and_eq_true, decide_eq_true_eq] at ws wkk
  exact tops_law ⟨W, B, R, C, seed⟩ (by simpa using ws.1) (by simpa using ws.2) a len cap ds hl hm hd hn at_ kk row keys ka klen kcap hkl hkm hkt hkz (by simpa using wkk.2)
end Go.Proofs.Ytockmgcgifhepaa
