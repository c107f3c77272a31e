/- Texts of one chain, one behind the other: SkC, SkD, SkE. -/
import Derived.Laws.AppendOwn
import Derived.Deep.RegionHeld3
import Derived.Test.YtockmgcgifhepaaGSkB

/- sketch: how it lies in memory; its sums. -/
namespace Go.Proofs.Ytockmgcgifhepaa
open Go.RowKit
set_option linter.unusedVariables false
set_option linter.unusedSimpArgs false

/-- A bucket: when it begins, its total, its map's block, and what the map counts. -/
structure BkS where
  at_ : Int
  tot : Int
  m : Nat
  cnt : Int → Int → Int
def BkS.vals (x : BkS) : List Value := [.int .i64 x.at_, .int .i64 x.tot, .map (some x.m)]
def BkS.v (x : BkS) : Value := .agg #[.int .i64 x.at_, .int .i64 x.tot, .map (some x.m)]
def BkS.a (x : BkS) : BkA := ⟨x.at_, x.tot, x.cnt⟩
def flatB (bs : List BkS) : List Value := bs.flatMap BkS.vals
theorem flatB_len : ∀ bs : List BkS, (flatB bs).length = bs.length * 3
  | [] => rfl
  | x :: bs => by simp only [flatB, List.flatMap_cons, List.length_append, List.length_cons]; rw [show (bs.flatMap BkS.vals).length = bs.length * 3 from flatB_len bs]; simp [BkS.vals]; omega
theorem flatB_get : ∀ {bs : List BkS} {j : Nat} {x : BkS}, bs[j]? = some x → ∀ k, k < 3 → (flatB bs)[j * 3 + k]? = x.vals[k]?
  | y :: bs, 0, x, h, k, hk => by
    obtain rfl : y = x := by simpa using h
    simp only [flatB, List.flatMap_cons, Nat.zero_mul, Nat.zero_add]
    rw [List.getElem?_append_left (by simp [BkS.vals]; omega)]
  | y :: bs, j + 1, x, h, k, hk => by
    have h' : bs[j]? = some x := by simpa using h
    have := flatB_get h' k hk
    simp only [flatB, List.flatMap_cons] at this ⊢
    rw [List.getElem?_append_right (by simp [BkS.vals]; omega), ← this]
    congr 1
    simp [BkS.vals]; omega

/-- Block m is a map that counts so. -/
def CntAt (w : World) (m : Nat) (cnt : Int → Int → Int) : Prop :=
  ∃ f n, MapV w 97 m f n ∧ (∀ r c, 0 ≤ r → r < 8 → 0 ≤ c → c < 4096 → (f (cellV r c)).getD (.int .i64 0) = .int .i64 (cnt r c)) ∧ (∀ key, (f key).isSome = true → ∃ r c : Nat, r < 8 ∧ c < 4096 ∧ key = cellV r c) ∧
    ∀ r c, 0 ≤ cnt r c ∧ cnt r c ≤ 4611686018427387904
theorem CntAt.lt {w : World} {m : Nat} {cnt : Int → Int → Int} (h : CntAt w m cnt) : m < w.heap.size := by
  obtain ⟨f, n, h1, _⟩ := h
  exact h1.lt
theorem CntAt.kept {w w' : World} {m : Nat} {cnt : Int → Int → Int} (h : CntAt w m cnt) (hk : w'.heap[m]? = w.heap[m]?) : CntAt w' m cnt := by
  obtain ⟨f, n, h1, h2⟩ := h
  exact ⟨f, n, h1.kept hk, h2⟩
theorem cntAt_made (w : World) : CntAt (w.alloc (.map #[] 0)) w.heap.size (fun _ _ => 0) :=
  ⟨_, _, mapV_made w _, fun _ _ _ _ _ _ => rfl, fun _ h => by simp at h, fun _ _ => ⟨by show (0 : Int) ≤ 0; omega, by show (0 : Int) ≤ _; omega⟩⟩

theorem wf_small {n : Int} (h0 : 0 ≤ n) (h1 : n ≤ 4611686018427387904) : (Lit.int .i64 n).wf = true := by
  simp only [Lit.wf, IntKind.min, IntKind.max, IntKind.signed, IntKind.bits, Bool.and_eq_true, decide_eq_true_eq, if_true]
  omega
theorem zero_intS (w : World) : (zeroValue 3).run Try.prog w = .ok (.int .i64 0) w := by kernel_rfl
theorem CntAt.look {w : World} {m : Nat} {cnt : Int → Int → Int} (h : CntAt w m cnt) {r c : Int} (r0 : 0 ≤ r) (r1 : r < 8) (c0 : 0 ≤ c) (c1 : c < 4096) :
    (Instr.lookup 90 (.map (some m)) (.agg #[.int .i64 r, .int .i64 c]) false).run Try.prog w = .ok (.int .i64 (cnt r c)) w := by
  obtain ⟨f, n, h1, h2, _⟩ := h
  obtain ⟨kl, hkl⟩ := keyOf_cell (wf_small r0 (by omega)) (wf_small c0 (by omega))
  have := h1.look false cellKeyed Try.underlying90 (zero_intS w) hkl
  rw [if_neg (by simp), h2 r c r0 r1 c0 c1] at this
  exact this

/-- Where a slice of buckets lies: in which block, and the slice itself. -/
def RowB (w : World) (v : Value) (bs : List BkS) : Prop := w.ownsRow 0 92 3 v bs.length (flatB bs)
theorem RowB.cells {w : World} {v : Value} {bs : List BkS} (h : RowB w v bs) (hne : bs ≠ []) : ∃ g cap, v = .slice (some ⟨g, 0, none⟩) bs.length cap ∧ v.ownBlock = some g ∧ bs.length ≤ cap ∧ g < w.heap.size ∧
    ∀ j x, bs[j]? = some x → w.cell? ⟨g, j * 3, none⟩ = some (.int .i64 x.at_) ∧ w.cell? ⟨g, j * 3 + 1, none⟩ = some (.int .i64 x.tot) ∧ w.cell? ⟨g, j * 3 + 2, none⟩ = some (.map (some x.m)) := by
  obtain ⟨h1, h2⟩ := h
  rcases h2 with ⟨_, h2⟩ | ⟨g, cap, cur, rfl, hb, hg, hnc, hcm, hcs, htake⟩
  · exfalso
    cases bs with
    | nil => exact hne rfl
    | cons x bs => simp [flatB, BkS.vals] at h2
  · have hc := World.ownsRow.cells (w := w) (base := 0) (e := 92) (size := 3) (n := bs.length) (xs := flatB bs) ⟨h1, Or.inr ⟨g, cap, cur, rfl, hb, hg, hnc, hcm, hcs, htake⟩⟩ (g := g) rfl
    refine ⟨g, cap, rfl, rfl, hnc, (Array.getElem?_eq_some_iff.1 hg).1, fun j x hx => ?_⟩
    have r0 := hc (j * 3) (.int .i64 x.at_) (by have := flatB_get hx 0 (by omega); simpa [BkS.vals] using this)
    have r1 := hc (j * 3 + 1) (.int .i64 x.tot) (by have := flatB_get hx 1 (by omega); simpa [BkS.vals] using this)
    have r2 := hc (j * 3 + 2) (.map (some x.m)) (by have := flatB_get hx 2 (by omega); simpa [BkS.vals] using this)
    rw [WideShapes.add_plain] at r0 r1 r2
    exact ⟨by simpa using r0, by simpa using r1, by simpa using r2⟩

theorem RowB.slice {w : World} {v : Value} {bs : List BkS} (h : RowB w v bs) : ∃ a cap, v = .slice a bs.length cap ∧ bs.length ≤ cap := by
  obtain ⟨h1, h2⟩ := h
  rcases h2 with ⟨rfl, h2⟩ | ⟨g, cap, cur, rfl, hb, hg, hnc, hcm, hcs, htake⟩
  · have : bs.length = 0 := by
      have := flatB_len bs
      rw [h2] at this
      simp at this; omega
    rw [this]
    exact ⟨none, 0, rfl, Nat.le_refl _⟩
  · exact ⟨_, cap, rfl, hnc⟩

/-- How a sketch lies in memory. -/
structure SkAt (w : World) (s : Nat) (h : ShapeS) (last : Int) (v : Value) (bs : List BkS) : Prop where
  head : w.heap[s]? = some (.cells #[.int .i64 h.W, .int .i64 h.B, .int .i64 h.R, .int .i64 h.C, .int .u64 h.seed, v, .int .i64 last] 86)
  row : RowB w v bs
  maps : ∀ x, x ∈ bs → CntAt w x.m x.cnt
  apart : (s :: (v.ownBlock.toList ++ bs.map (·.m))).Nodup
  few : bs.length ≤ 9223372036854775807
  tots : ∀ x, x ∈ bs → 0 ≤ x.at_ ∧ x.at_ ≤ 1152921504606846976 ∧ 0 ≤ x.tot ∧ x.tot ≤ 4611686018427387904
  l0 : 0 ≤ last
  l1 : last ≤ 1152921504606846976
def SkOwn (s : Nat) (v : Value) (bs : List BkS) (k : Nat) : Prop := k ∈ s :: (v.ownBlock.toList ++ bs.map (·.m))
theorem SkAt.lt {w : World} {s : Nat} {h : ShapeS} {last : Int} {v : Value} {bs : List BkS} (k : SkAt w s h last v bs) {i : Nat} (hi : SkOwn s v bs i) : i < w.heap.size := by
  rcases List.mem_cons.1 hi with rfl | hi
  · exact (Array.getElem?_eq_some_iff.1 k.head).1
  · rcases List.mem_append.1 hi with hi | hi
    · obtain ⟨_, h2⟩ := k.row
      rcases h2 with ⟨rfl, _⟩ | ⟨g, cap, cur, rfl, hb, hg, _⟩
      · simp [Value.ownBlock] at hi
      · simp [Value.ownBlock] at hi
        subst hi
        exact (Array.getElem?_eq_some_iff.1 hg).1
    · obtain ⟨x, hx, rfl⟩ := List.mem_map.1 hi
      exact (k.maps x hx).lt
theorem RowB.kept {w w' : World} {v : Value} {bs : List BkS} (h : RowB w v bs) (hk : ∀ g, v.ownBlock = some g → w'.heap[g]? = w.heap[g]?) : RowB w' v bs := by
  obtain ⟨h1, h2⟩ := h
  refine ⟨h1, ?_⟩
  rcases h2 with h2 | ⟨g, cap, cur, rfl, hb, hg, hrest⟩
  · exact Or.inl h2
  · exact Or.inr ⟨g, cap, cur, rfl, hb, (hk g rfl).trans hg, hrest⟩
theorem SkAt.kept {w w' : World} {s : Nat} {h : ShapeS} {last : Int} {v : Value} {bs : List BkS} (k : SkAt w s h last v bs) (hk : ∀ i, SkOwn s v bs i → w'.heap[i]? = w.heap[i]?) : SkAt w' s h last v bs :=
  ⟨(hk s (by simp [SkOwn])).trans k.head, k.row.kept (fun g hg => hk g (by simp [SkOwn, hg])), fun x hx => (k.maps x hx).kept (hk x.m (by simp only [SkOwn, List.mem_cons, List.mem_append, List.mem_map]; exact Or.inr (Or.inr ⟨x, hx, rfl⟩))), k.apart, k.few, k.tots, k.l0, k.l1⟩
theorem SkAt.below {w w' : World} {s : Nat} {h : ShapeS} {last : Int} {v : Value} {bs : List BkS} (k : SkAt w s h last v bs) (hb : Below w.heap.size w w') : SkAt w' s h last v bs :=
  k.kept (fun i hi => hb.block i (k.lt hi))
theorem SkAt.headCells {w : World} {s : Nat} {h : ShapeS} {last : Int} {v : Value} {bs : List BkS} (k : SkAt w s h last v bs) : w.cell? ⟨s, 0, none⟩ = some (.int .i64 h.W) ∧ w.cell? ⟨s, 1, none⟩ = some (.int .i64 h.B) ∧ w.cell? ⟨s, 2, none⟩ = some (.int .i64 h.R) ∧ w.cell? ⟨s, 3, none⟩ = some (.int .i64 h.C) ∧ w.cell? ⟨s, 4, none⟩ = some (.int .u64 h.seed) ∧ w.cell? ⟨s, 5, none⟩ = some v ∧ w.cell? ⟨s, 6, none⟩ = some (.int .i64 last) := by
  simp only [World.cell?, k.head]
  exact ⟨rfl, rfl, rfl, rfl, rfl, rfl, rfl⟩

theorem sumB_bd {lim : Int} {sel : BkA → Int} : ∀ {bs : List BkA} {A : Int}, 0 ≤ A → A ≤ 4611686018427387904 → (∀ x, x ∈ bs → 0 ≤ sel x) → 0 ≤ sumB lim sel A bs ∧ sumB lim sel A bs ≤ 4611686018427387904
  | [], A, h0, h1, _ => ⟨h0, h1⟩
  | x :: bs, A, h0, h1, h => by
    rw [sumB]
    split
    · have := plusS_bd h0 (h x (by simp))
      exact sumB_bd this.1 this.2 (fun y hy => h y (by simp [hy]))
    · exact sumB_bd h0 h1 (fun y hy => h y (by simp [hy]))
theorem sumB_snoc {lim : Int} {sel : BkA → Int} {x : BkA} : ∀ {bs : List BkA} {A : Int}, sumB lim sel A (bs ++ [x]) = (if lim < x.at_ then plusS (sumB lim sel A bs) (sel x) else sumB lim sel A bs)
  | [], A => rfl
  | y :: bs, A => by rw [List.cons_append, sumB, sumB, sumB_snoc]

set_option maxHeartbeats 3200000 in
set_option maxRecDepth 100000 in
theorem sksum_any {w : World} {s : Nat} {h : ShapeS} {last : Int} {v : Value} {bs : List BkS} (hs : SkAt w s h last v bs) {b : Int} (hb : ShapeOk h b) (at_ : Int) (a0 : 0 ≤ at_) (a1 : at_ ≤ 1152921504606846976) (id : FuncId) (caps : Array Value) (sel : BkA → Int)
    (hsel : ∀ x, x ∈ bs → 0 ≤ sel x.a ∧ sel x.a ≤ 4611686018427387904)
    (he : ∀ x : BkS, x ∈ bs → ∀ wx, (callFunc id (#[x.v] ++ caps)).run Try.prog wx = .ok (.enter id (#[x.v] ++ caps)) wx)
    (hf : ∀ x : BkS, x ∈ bs → ∀ wx, Below w.heap.size w wx → Calls Try.prog id (#[x.v] ++ caps) wx fun e w' => e = .returned (.int .i64 (sel x.a)) ∧ Below wx.heap.size wx w') :
    Calls Try.prog 48 #[.pointer (some ⟨s, 0, none⟩), .int .i64 at_, .func (.func id) #[] caps] w fun e w' => e = .returned (.int .i64 (sumB (beginS b at_ - h.W) sel 0 (bs.map BkS.a))) ∧ Below w.heap.size w w' := by
  obtain ⟨c0, c1, c2, c3, c4, c5, c6⟩ := hs.headCells
  have HS := Lib.hid hs
  have HE := Lib.hid he
  have HF := Lib.hid hf
  have HSEL := Lib.hid hsel
  have HBG := Lib.hid (fun wx => skbegin_any h b at_ hb a0 (by omega) wx)
  have HSB := Lib.hid (fun k => (sumB_bd (lim := beginS b at_ - h.W) (sel := sel) (bs := (bs.take k).map BkS.a) (A := 0) (by omega) (by omega) (fun x hx => by
    obtain ⟨y, hy, rfl⟩ := List.mem_map.1 hx
    exact (hsel y (List.mem_of_mem_take hy)).1)))
  have hbg0 := beginS_nonneg (b := b) (t := at_) (by have := hb.b1; omega) a0
  have hbg1 := beginS_le (b := b) (t := at_) (by have := hb.b1; omega)
  obtain ⟨g, hg⟩ : ∃ g, beginS b at_ = g := ⟨_, rfl⟩
  rw [hg] at HBG hbg0 hbg1
  have HG := Lib.hid hg
  rw [hg] at HSB
  rw [hg]
  have w1 := hb.W1
  have w2 := hb.W2
  obtain ⟨L, hL⟩ : ∃ L, g - h.W = L := ⟨_, rfl⟩
  rw [hL] at HSB ⊢
  have hgw : IntKind.i64.wrap (g - h.W) = L := by rw [IntWalk.i64_in _ (by omega), hL]
  have HL := Lib.hid hL
  have hlen := hs.few
  clear hs he hf hb hsel hg hL
  obtain ⟨a, cap, hv, hcap⟩ : ∃ a cap, v = .slice a bs.length cap ∧ bs.length ≤ cap := HS.out.row.slice
  subst hv
  obtain ⟨n, hn⟩ : ∃ n, bs.length = n := ⟨_, rfl⟩
  have HN := Lib.hid hn
  rw [hn] at c5 hcap hlen
  clear hn
  go_enter Try.func48, Try.ntmps48
  go_wp2_with (fail)
  go_loopw [7, 9, 15] (fun x y i wr => ∃ (k : Nat) (S : Int), k ≤ n ∧ i = .int .i64 k ∧ x = .int .i64 S ∧ 0 ≤ S ∧ S ≤ 4611686018427387904 ∧ Hid (S = sumB L sel 0 ((bs.take k).map BkS.a)) ∧ Hid (Below w.heap.size w wr)) (fun _ _ i _ => n - (intOf i).toNat)
  case atStart => exact ⟨0, 0, Nat.zero_le _, rfl, rfl, by omega, by omega, rfl, Below.refl _ _⟩
  case round =>
    rename World => wy
    obtain ⟨k, S, hk, rfl, rfl, s0, s1, HSS, HB⟩ := hrel
    have hbz := HB.out.size
    by_cases hlt : k < n
    · have hkl : k < bs.length := by rw [HN.out]; exact hlt
      obtain ⟨gb, capb, hv, _, _, hgb, hcells⟩ := HS.out.row.cells (by intro e; rw [e] at hkl; simp at hkl)
      injection hv with e1 e2 e3
      subst e1
      have k0 : (0 : Int) ≤ k := by omega
      have k1 : (k : Int) < n := by omega
      have hkx : bs[k]? = some (bs[k]'hkl) := List.getElem?_eq_getElem hkl
      have hmem : (bs[k]'hkl) ∈ bs := List.getElem_mem hkl
      obtain ⟨d0, d1, d2⟩ := hcells k _ hkx
      have d0 := (HB.out.cell (p := ⟨gb, k * 3, none⟩) hgb).trans d0
      have d1 := (HB.out.cell (p := ⟨gb, k * 3 + 1, none⟩) hgb).trans d1
      have d2 := (HB.out.cell (p := ⟨gb, k * 3 + 2, none⟩) hgb).trans d2
      have hsl := HS.out.lt (i := s) (by simp [SkOwn])
      have c0 := (HB.out.cell (p := ⟨s, 0, none⟩) hsl).trans c0
      have c1 := (HB.out.cell (p := ⟨s, 1, none⟩) hsl).trans c1
      have c2 := (HB.out.cell (p := ⟨s, 2, none⟩) hsl).trans c2
      have c3 := (HB.out.cell (p := ⟨s, 3, none⟩) hsl).trans c3
      have c4 := (HB.out.cell (p := ⟨s, 4, none⟩) hsl).trans c4
      have hstep : sumB L sel 0 ((bs.take (k + 1)).map BkS.a) = (if L < (bs[k]'hkl).at_ then plusS (sumB L sel 0 ((bs.take k).map BkS.a)) (sel (bs[k]'hkl).a) else sumB L sel 0 ((bs.take k).map BkS.a)) := by
        rw [List.take_succ_eq_append_getElem hkl, List.map_append, List.map_singleton, sumB_snoc]
        rfl
      rw [← HSS.out] at hstep
      have hsx := HSEL.out _ hmem
      have HX := Lib.hid (HF.out _ hmem)
      have hen := HE.out _ hmem
      have htx := HS.out.tots _ hmem
      generalize bs[k]'hkl = X at *
      obtain ⟨xa, xt, xm, xc⟩ := X
      dsimp only [BkS.v] at *
      have HSB := Lib.hid (show ∀ wx : World, Below (wy.heap.size + 1) (wy.alloc (.cells #[.int .i64 xa, .int .i64 xt, .map (some xm)] 92)) wx → (fun wx => (wx.cell? ⟨wy.heap.size, 0, none⟩ = some (.int .i64 xa) ∧ wx.cell? ⟨wy.heap.size, 1, none⟩ = some (.int .i64 xt) ∧ wx.cell? ⟨wy.heap.size, 2, none⟩ = some (.map (some xm)) ∧ wx.cell? ⟨s, 0, none⟩ = some (.int .i64 h.W) ∧ wx.cell? ⟨s, 1, none⟩ = some (.int .i64 h.B) ∧ wx.cell? ⟨s, 2, none⟩ = some (.int .i64 h.R) ∧ wx.cell? ⟨s, 3, none⟩ = some (.int .i64 h.C) ∧ wx.cell? ⟨s, 4, none⟩ = some (.int .u64 h.seed)) ∧ Below (wy.heap.size + 1) (wy.alloc (.cells #[.int .i64 xa, .int .i64 xt, .map (some xm)] 92)) wx) wx from fun wx hb => by
        have hz : (wy.alloc (.cells #[.int .i64 xa, .int .i64 xt, .map (some xm)] 92)).heap.size = wy.heap.size + 1 := by simp
        have hal : Below wy.heap.size wy (wy.alloc (.cells #[.int .i64 xa, .int .i64 xt, .map (some xm)] 92)) := (Below.refl _ _).alloc (Nat.le_refl _) _
        have hb2 := hal.trans (hb.mono (by omega))
        have hnew := (hb.block wy.heap.size (by omega)).trans (new_blockS wy _)
        refine ⟨⟨by simp only [World.cell?, hnew]; rfl, by simp only [World.cell?, hnew]; rfl, by simp only [World.cell?, hnew]; rfl, ?_, ?_, ?_, ?_, ?_⟩, hb⟩
        · exact (hb2.cell (p := ⟨s, 0, none⟩) (show s < wy.heap.size by omega)).trans c0
        · exact (hb2.cell (p := ⟨s, 1, none⟩) (show s < wy.heap.size by omega)).trans c1
        · exact (hb2.cell (p := ⟨s, 2, none⟩) (show s < wy.heap.size by omega)).trans c2
        · exact (hb2.cell (p := ⟨s, 3, none⟩) (show s < wy.heap.size by omega)).trans c3
        · exact (hb2.cell (p := ⟨s, 4, none⟩) (show s < wy.heap.size by omega)).trans c4)
      have HSS2 := Lib.hid (show ∀ wa wb : World, (fun wx => (wx.cell? ⟨wy.heap.size, 0, none⟩ = some (.int .i64 xa) ∧ wx.cell? ⟨wy.heap.size, 1, none⟩ = some (.int .i64 xt) ∧ wx.cell? ⟨wy.heap.size, 2, none⟩ = some (.map (some xm)) ∧ wx.cell? ⟨s, 0, none⟩ = some (.int .i64 h.W) ∧ wx.cell? ⟨s, 1, none⟩ = some (.int .i64 h.B) ∧ wx.cell? ⟨s, 2, none⟩ = some (.int .i64 h.R) ∧ wx.cell? ⟨s, 3, none⟩ = some (.int .i64 h.C) ∧ wx.cell? ⟨s, 4, none⟩ = some (.int .u64 h.seed)) ∧ Below (wy.heap.size + 1) (wy.alloc (.cells #[.int .i64 xa, .int .i64 xt, .map (some xm)] 92)) wx) wa → Below wa.heap.size wa wb → (fun wx => (wx.cell? ⟨wy.heap.size, 0, none⟩ = some (.int .i64 xa) ∧ wx.cell? ⟨wy.heap.size, 1, none⟩ = some (.int .i64 xt) ∧ wx.cell? ⟨wy.heap.size, 2, none⟩ = some (.map (some xm)) ∧ wx.cell? ⟨s, 0, none⟩ = some (.int .i64 h.W) ∧ wx.cell? ⟨s, 1, none⟩ = some (.int .i64 h.B) ∧ wx.cell? ⟨s, 2, none⟩ = some (.int .i64 h.R) ∧ wx.cell? ⟨s, 3, none⟩ = some (.int .i64 h.C) ∧ wx.cell? ⟨s, 4, none⟩ = some (.int .u64 h.seed)) ∧ Below (wy.heap.size + 1) (wy.alloc (.cells #[.int .i64 xa, .int .i64 xt, .map (some xm)] 92)) wx) wb from fun wa wb hs hb => HSB.out wb (hs.2.trans (hb.mono (by have := hs.2.size; simp only [World.size_alloc] at this; omega))))
      have hwy : Hid (Below w.heap.size w (wy.alloc (.cells #[.int .i64 xa, .int .i64 xt, .map (some xm)] 92))) := HB.out.alloc hbz _
      have HKX := Lib.hid hkx
      clear hkx e2 e3 hcells
      by_cases hin : L < xa
      · have hin2 : decide (L < xa) = true := decide_eq_true hin
        rw [if_pos hin] at hstep
        have HST := Lib.hid hstep
        clear hstep
        go_wp2_with (fail)
        go_region_held3 (fun wx => (wx.cell? ⟨wy.heap.size, 0, none⟩ = some (.int .i64 xa) ∧ wx.cell? ⟨wy.heap.size, 1, none⟩ = some (.int .i64 xt) ∧ wx.cell? ⟨wy.heap.size, 2, none⟩ = some (.map (some xm)) ∧ wx.cell? ⟨s, 0, none⟩ = some (.int .i64 h.W) ∧ wx.cell? ⟨s, 1, none⟩ = some (.int .i64 h.B) ∧ wx.cell? ⟨s, 2, none⟩ = some (.int .i64 h.R) ∧ wx.cell? ⟨s, 3, none⟩ = some (.int .i64 h.C) ∧ wx.cell? ⟨s, 4, none⟩ = some (.int .u64 h.seed)) ∧ Below (wy.heap.size + 1) (wy.alloc (.cells #[.int .i64 xa, .int .i64 xt, .map (some xm)] 92)) wx) (first | exact HSB.out _ (Below.refl _ _).drew | exact HSS2.out _ _ (by assumption) (by assumption)) (first | (go_at_call 44; refine (HBG.out _).mono ?_; rintro e wa ⟨rfl, ha⟩))
        rename_i hHeld
        obtain ⟨⟨f0, f1, f2, _⟩, hbw⟩ := hHeld
        have hbw2 := hwy.out.trans (hbw.mono (by omega))
        have HBW := Lib.hid hbw2
        have HX2 := Lib.hid (HX.out wa hbw2)
        have HPL := Lib.hid (fun wx => skplus_any S _ s0 s1 hsx.1 hsx.2 wx)
        have hbd := Lib.hid (plusS_bd s0 hsx.1)
        clear ha hbw hbw2 HSS2 HSB
        generalize sel (BkS.a _) = Y at *
        go_wp2_with (fail)
        refine HX2.out.mono ?_
        rintro e wb ⟨rfl, hbb⟩
        have HBB := Lib.hid (HBW.out.trans (hbb.mono HBW.out.size))
        clear hbb
        go_wp2_with (fail)
        refine (HPL.out _).mono ?_
        rintro e wc ⟨rfl, hq⟩
        subst hq
        go_wp2_with (fail)
        exact ⟨⟨k + 1, _, by omega, by go_num, rfl, hbd.out.1, hbd.out.2, HST.out.symm, HBB⟩, by first | (simp [intOf]; done) | (simp [intOf]; omega)⟩
      · have hin2 : decide (L < xa) = false := decide_eq_false hin
        rw [if_neg hin] at hstep
        have HST := Lib.hid hstep
        clear hstep
        go_wp2_with (fail)
        go_region_held3 (fun wx => (wx.cell? ⟨wy.heap.size, 0, none⟩ = some (.int .i64 xa) ∧ wx.cell? ⟨wy.heap.size, 1, none⟩ = some (.int .i64 xt) ∧ wx.cell? ⟨wy.heap.size, 2, none⟩ = some (.map (some xm)) ∧ wx.cell? ⟨s, 0, none⟩ = some (.int .i64 h.W) ∧ wx.cell? ⟨s, 1, none⟩ = some (.int .i64 h.B) ∧ wx.cell? ⟨s, 2, none⟩ = some (.int .i64 h.R) ∧ wx.cell? ⟨s, 3, none⟩ = some (.int .i64 h.C) ∧ wx.cell? ⟨s, 4, none⟩ = some (.int .u64 h.seed)) ∧ Below (wy.heap.size + 1) (wy.alloc (.cells #[.int .i64 xa, .int .i64 xt, .map (some xm)] 92)) wx) (first | exact HSB.out _ (Below.refl _ _).drew | exact HSS2.out _ _ (by assumption) (by assumption)) (first | (go_at_call 44; refine (HBG.out _).mono ?_; rintro e wa ⟨rfl, ha⟩))
        rename_i hHeld
        obtain ⟨⟨f0, f1, f2, _⟩, hbw⟩ := hHeld
        have hbw2 := hwy.out.trans (hbw.mono (by omega))
        have HBW := Lib.hid hbw2
        clear ha hbw hbw2 HSS2 HSB
        go_wp2_with (fail)
        exact ⟨⟨k + 1, _, by omega, by go_num, rfl, s0, s1, HST.out.symm, HBW⟩, by first | (simp [intOf]; done) | (simp [intOf]; omega)⟩
    · have hall : Hid (S = sumB L sel 0 (bs.map BkS.a)) := by
        have h1 := HSS.out
        rw [List.take_of_length_le (by rw [HN.out]; omega)] at h1
        exact h1
      have k1 : ¬ (k : Int) < n := by omega
      clear HSS
      go_wp2_with (fail)
      go_ret
      exact ⟨by rw [← hall.out]; rfl, HB.out⟩
end Go.Proofs.Ytockmgcgifhepaa

/- sketch: estimates, totals. -/
namespace Go.Proofs.Ytockmgcgifhepaa
open Go.RowKit
set_option linter.unusedVariables false
set_option linter.unusedSimpArgs false

theorem enT1 (a b : Int) (m : Nat) (wx : World) : (callFunc 49 #[.agg #[.int .i64 a, .int .i64 b, .map (some m)]]).run Try.prog wx = .ok (.enter 49 #[.agg #[.int .i64 a, .int .i64 b, .map (some m)]]) wx := by kernel_rfl
theorem enE1 (a b : Int) (m q : Nat) (wx : World) : (callFunc 51 #[.agg #[.int .i64 a, .int .i64 b, .map (some m)], .pointer (some ⟨q, 0, none⟩)]).run Try.prog wx = .ok (.enter 51 #[.agg #[.int .i64 a, .int .i64 b, .map (some m)], .pointer (some ⟨q, 0, none⟩)]) wx := by kernel_rfl

set_option maxHeartbeats 200000 in
theorem sktot1_any (a b : Int) (m : Nat) (w : World) : Calls Try.prog 49 #[.agg #[.int .i64 a, .int .i64 b, .map (some m)]] w fun e w' => e = .returned (.int .i64 b) ∧ Below w.heap.size w w' := by
  go_enter Try.func49, Try.ntmps49
  go_wp2_with (fail)
  go_ret
  exact ⟨rfl, (Below.refl _ _).alloc (Nat.le_refl _) _⟩

set_option maxHeartbeats 200000 in
theorem skest1_any (a b : Int) (m : Nat) (cnt : Int → Int → Int) (q : Nat) (r c : Int) (r0 : 0 ≤ r) (r1 : r < 8) (c0 : 0 ≤ c) (c1 : c < 4096) (w : World) (hm : CntAt w m cnt) (hq : w.cell? ⟨q, 0, none⟩ = some (.int .i64 r)) (hq1 : w.cell? ⟨q, 1, none⟩ = some (.int .i64 c)) :
    Calls Try.prog 51 #[.agg #[.int .i64 a, .int .i64 b, .map (some m)], .pointer (some ⟨q, 0, none⟩)] w fun e w' => e = .returned (.int .i64 (cnt r c)) ∧ Below w.heap.size w w' := by
  have hb : Below w.heap.size w (w.alloc (.cells #[.int .i64 a, .int .i64 b, .map (some m)] 92)) := (Below.refl _ _).alloc (Nat.le_refl _) _
  have hl := (hm.kept (hb.block m hm.lt)).look r0 r1 c0 c1
  have hlt := World.block_lt_of_cell? w _ hq
  clear hm
  go_enter Try.func51, Try.ntmps51
  go_wp2_with (fail)
  go_ret
  exact ⟨rfl, hb⟩

def estS (h : ShapeS) (b at_ : Int) (key : ByteArray) (bs : List BkA) : Int := leastS (fun r => sumB (beginS b at_ - h.W) (fun x => x.cnt r (colS h r key)) 0 bs) h.R.toNat

theorem leastS_bd {f : Int → Int} (hf : ∀ r : Nat, 0 ≤ f r) : ∀ n : Nat, 0 ≤ leastS f n ∧ leastS f n ≤ 4611686018427387904
  | 0 => by unfold leastS; omega
  | n + 1 => by
    have := leastS_bd hf n
    have := hf n
    rw [leastS]; omega

set_option maxHeartbeats 1600000 in
set_option maxRecDepth 100000 in
theorem skestimate_any {w : World} {s : Nat} {h : ShapeS} {last : Int} {v : Value} {bs : List BkS} (hs : SkAt w s h last v bs) {b : Int} (hb : ShapeOk h b) (at_ : Int) (a0 : 0 ≤ at_) (a1 : at_ ≤ 1152921504606846976) (key : ByteArray) (hk : key.size ≤ maxLen) :
    Calls Try.prog 26 #[.pointer (some ⟨s, 0, none⟩), .int .i64 at_, .string key] w fun e w' => e = .returned (.int .i64 (estS h b at_ key (bs.map BkS.a))) ∧ Below w.heap.size w w' := by
  obtain ⟨c0, c1, c2, c3, c4, c5, c6⟩ := hs.headCells
  have HS := Lib.hid hs
  have hsl := hs.lt (i := s) (by simp [SkOwn])
  have r1 := hb.R1
  have r2 := hb.R2
  have HC := Lib.hid (fun row (r0 : 0 ≤ row) (r1 : row ≤ 64) wx => skcolumn_any h b row hb r0 r1 key hk wx)
  have HCB := Lib.hid (fun row => colS_bd hb row key)
  have hC2 := hb.C2
  obtain ⟨n, hn⟩ : ∃ n : Nat, h.R = n := ⟨h.R.toNat, by omega⟩
  rw [show h.c = #[.int .i64 h.W, .int .i64 h.B, .int .i64 n, .int .i64 h.C, .int .u64 h.seed] by unfold ShapeS.c; rw [hn]] at HC
  have HSUM : Hid (∀ wx, Below w.heap.size w wx → ∀ (q r : Nat), r < n → wx.cell? ⟨q, 0, none⟩ = some (.int .i64 r) → wx.cell? ⟨q, 1, none⟩ = some (.int .i64 (colS h r key)) →
      Calls Try.prog 48 #[.pointer (some ⟨s, 0, none⟩), .int .i64 at_, .func (.func 51) #[] #[.pointer (some ⟨q, 0, none⟩)]] wx fun e w' => e = .returned (.int .i64 (sumB (beginS b at_ - h.W) (fun x => x.cnt r (colS h r key)) 0 (bs.map BkS.a))) ∧ Below wx.heap.size wx w') := fun wx hwx q r hr hq hq1 => by
    have hcb := colS_bd hb r key
    have hql := World.block_lt_of_cell? wx _ hq
    refine sksum_any (hs.below hwx) hb at_ a0 a1 _ _ (fun x => x.cnt r (colS h r key)) (fun x hx => ?_) (fun x _ wy => enE1 _ _ _ _ wy) (fun x hx wy hwy => ?_)
    · obtain ⟨f, n, _, _, _, hbd⟩ := hs.maps x hx
      exact hbd _ _
    · exact skest1_any x.at_ x.tot x.m x.cnt q r (colS h r key) (by omega) (by omega) hcb.1 (by omega) wy (((hs.maps x hx).kept (hwx.block _ (hs.maps x hx).lt)).kept (hwy.block _ (Nat.lt_of_lt_of_le (hs.maps x hx).lt hwx.size)))
        ((hwy.cell (p := ⟨q, 0, none⟩) hql).trans hq) ((hwy.cell (p := ⟨q, 1, none⟩) hql).trans hq1)
  have HBD := Lib.hid (leastS_bd (f := fun r => sumB (beginS b at_ - h.W) (fun x => x.cnt r (colS h r key)) 0 (bs.map BkS.a)) (fun r => (sumB_bd (Int.le_refl 0) (by omega) (fun x hx => by
    obtain ⟨y, hy, rfl⟩ := List.mem_map.1 hx
    obtain ⟨f, n, _, _, _, hbd⟩ := hs.maps y hy
    exact (hbd _ _).1)).1))
  have HE : Hid (estS h b at_ key (bs.map BkS.a) = leastS (fun r => sumB (beginS b at_ - h.W) (fun x => x.cnt r (colS h r key)) 0 (bs.map BkS.a)) n) := by
    show leastS _ h.R.toNat = _
    rw [hn]; rfl
  rw [hn] at c2
  have HSB : Hid (∀ r : Nat, 0 ≤ sumB (beginS b at_ - h.W) (fun x => x.cnt r (colS h r key)) 0 (bs.map BkS.a) ∧ sumB (beginS b at_ - h.W) (fun x => x.cnt r (colS h r key)) 0 (bs.map BkS.a) ≤ 4611686018427387904) := fun r => sumB_bd (Int.le_refl 0) (by omega) (fun x hx => by
    obtain ⟨y, hy, rfl⟩ := List.mem_map.1 hx
    obtain ⟨f, n, _, _, _, hbd⟩ := hs.maps y hy
    exact (hbd _ _).1)
  have hn8 : n ≤ 8 := by omega
  clear hs hb hn r1 r2
  go_enter Try.func26, Try.ntmps26
  go_wp2_with (fail)
  go_loopw [7, 8, 9, 15] (fun x y z i wr => ∃ (k : Nat) (S : Int), k ≤ n ∧ i = .int .i64 k ∧ x = .int .i64 S ∧ 0 ≤ S ∧ S ≤ 4611686018427387904 ∧ Hid (S = leastS (fun r => sumB (beginS b at_ - h.W) (fun x => x.cnt r (colS h r key)) 0 (bs.map BkS.a)) k) ∧ Hid (Below w.heap.size w wr)) (fun _ _ _ i _ => n - (intOf i).toNat)
  case atStart => exact ⟨0, _, Nat.zero_le _, rfl, rfl, by omega, by omega, rfl, Below.refl _ _⟩
  case round =>
    rename World => wy
    obtain ⟨k, S, hk, rfl, rfl, s0, s1, HSS, HB⟩ := hrel
    have hbz := HB.out.size
    by_cases hlt : k < n
    · have k0 : (0 : Int) ≤ k := by omega
      have k1 : (k : Int) < n := by omega
      have c0 := (HB.out.cell (p := ⟨s, 0, none⟩) hsl).trans c0
      have c1 := (HB.out.cell (p := ⟨s, 1, none⟩) hsl).trans c1
      have c2 := (HB.out.cell (p := ⟨s, 2, none⟩) hsl).trans c2
      have c3 := (HB.out.cell (p := ⟨s, 3, none⟩) hsl).trans c3
      have c4 := (HB.out.cell (p := ⟨s, 4, none⟩) hsl).trans c4
      have hc := HC.out k k0 (by omega) wy
      have hcb := HCB.out k
      have hsum := HSUM.out
      have hst : Hid (leastS (fun r => sumB (beginS b at_ - h.W) (fun x => x.cnt r (colS h r key)) 0 (bs.map BkS.a)) (k + 1) = min S (sumB (beginS b at_ - h.W) (fun x => x.cnt (k : Int) (colS h k key)) 0 (bs.map BkS.a))) := by
        show leastS _ (k + 1) = _
        rw [leastS, ← HSS.out]
      have hsb := HSB.out k
      obtain ⟨T, hT⟩ : ∃ T, sumB (beginS b at_ - h.W) (fun x => x.cnt (k : Int) (colS h k key)) 0 (bs.map BkS.a) = T := ⟨_, rfl⟩
      have hs1 := fun wx hwx q => hsum wx hwx q k hlt
      rw [hT] at hst hsb
      simp only [hT] at hs1
      generalize colS h k key = CC at hc hcb hs1
      have HC1 := Lib.hid hc
      have HS1 := Lib.hid hs1
      clear hc hsum hs1 hT
      go_wp2_with (fail)
      refine HC1.out.mono ?_
      rintro e wa ⟨rfl, ha⟩
      have hba := HB.out.trans (ha.mono hbz)
      have HBA := Lib.hid hba
      have hza := hba.size
      have hba2 : Below w.heap.size w (wa.alloc (.cells #[.int .i64 k, .int .i64 CC] 97)) := hba.alloc hza _
      have hnew := new_blockS wa (.cells #[.int .i64 k, .int .i64 CC] 97)
      have HS2 := Lib.hid (HS1.out _ hba2 wa.heap.size (by simp only [World.cell?, hnew]; rfl) (by simp only [World.cell?, hnew]; rfl))
      have HBA2 := Lib.hid hba2
      clear hba ha hba2 hnew
      go_wp2_with (fail)
      refine HS2.out.mono ?_
      rintro e wb ⟨rfl, hbb⟩
      have HBB := Lib.hid (HBA2.out.trans (hbb.mono HBA2.out.size))
      clear hbb
      go_wp2_with (fail)
      exact ⟨⟨k + 1, _, by omega, by go_num, rfl, by first | omega | (split <;> omega), by first | omega | (split <;> omega), by (show _ = _); first | (rw [hst.out]; done) | (rw [hst.out]; split <;> omega), HBB⟩, by first | (simp [intOf]; done) | (simp [intOf]; omega)⟩
    · have k1 : ¬ (k : Int) < n := by omega
      have e1 : k = n := by omega
      have hall : Hid (S = leastS (fun r => sumB (beginS b at_ - h.W) (fun x => x.cnt r (colS h r key)) 0 (bs.map BkS.a)) n) := e1 ▸ HSS.out
      clear HSS e1
      go_wp2_with (fail)
      go_ret
      exact ⟨by rw [HE.out, ← hall.out]; rfl, HB.out⟩

theorem lookS_ok {last at_ : Int} (h : lookS last at_ = 0) : 0 ≤ at_ ∧ at_ ≤ 1152921504606846976 ∧ last ≤ at_ := by
  unfold lookS at h
  split at h
  · omega
  · split at h
    · omega
    · omega
set_option maxHeartbeats 1600000 in
theorem skEstimate_any {w : World} {s : Nat} {h : ShapeS} {last : Int} {v : Value} {bs : List BkS} (hs : SkAt w s h last v bs) {b : Int} (hb : ShapeOk h b) (at_ : Int) (key : ByteArray) (hk : key.size ≤ maxLen) :
    Calls Try.prog 21 #[.pointer (some ⟨s, 0, none⟩), .int .i64 at_, .string key] w fun e w' => e = .returned (.tuple #[.int .i64 (if lookS last at_ = 0 then estS h b at_ key (bs.map BkS.a) else 0), .int .i64 (lookS last at_)]) ∧ Below w.heap.size w w' := by
  have HL := Lib.hid (sklook_any s last at_ w hs.headCells.2.2.2.2.2.2)
  by_cases hE : lookS last at_ = 0
  · obtain ⟨a0, a1, _⟩ := lookS_ok hE
    have HT := Lib.hid (skestimate_any hs hb at_ a0 a1 key hk)
    rw [if_pos hE]
    rw [hE] at HL ⊢
    generalize estS h b at_ key (bs.map BkS.a) = E at *
    clear hs hb hE
    go_enter Try.func21, Try.ntmps21
    go_wp2_with (fail)
    refine HL.out.mono ?_
    rintro e wq ⟨rfl, hq⟩
    subst hq
    go_wp2_with (fail)
    refine HT.out.mono ?_
    rintro e wb ⟨rfl, hbb⟩
    have HBB := Lib.hid hbb
    clear hbb
    go_wp2_with (fail)
    go_ret2
    exact ⟨rfl, HBB.out⟩
  · rw [if_neg hE]
    generalize lookS last at_ = LE at *
    have hne : (LE != 0) = true := by simpa using hE
    clear hs hb
    go_enter Try.func21, Try.ntmps21
    go_wp2_with (fail)
    refine HL.out.mono ?_
    rintro e wq ⟨rfl, hq⟩
    subst hq
    go_wp2_with (fail)
    go_ret2
    exact ⟨rfl, Below.refl _ _⟩

def totS (h : ShapeS) (b at_ : Int) (bs : List BkA) : Int := sumB (beginS b at_ - h.W) (·.tot) 0 bs
set_option maxHeartbeats 1600000 in
theorem skTotal_any {w : World} {s : Nat} {h : ShapeS} {last : Int} {v : Value} {bs : List BkS} (hs : SkAt w s h last v bs) {b : Int} (hb : ShapeOk h b) (at_ : Int) :
    Calls Try.prog 22 #[.pointer (some ⟨s, 0, none⟩), .int .i64 at_] w fun e w' => e = .returned (.tuple #[.int .i64 (if lookS last at_ = 0 then totS h b at_ (bs.map BkS.a) else 0), .int .i64 (lookS last at_)]) ∧ Below w.heap.size w w' := by
  have HL := Lib.hid (sklook_any s last at_ w hs.headCells.2.2.2.2.2.2)
  by_cases hE : lookS last at_ = 0
  · obtain ⟨a0, a1, _⟩ := lookS_ok hE
    have HT := Lib.hid (sksum_any hs hb at_ a0 a1 49 #[] (·.tot) (fun x hx => ⟨(hs.tots x hx).2.2.1, (hs.tots x hx).2.2.2⟩) (fun x _ wx => enT1 _ _ _ wx) (fun x _ wx _ => sktot1_any _ _ _ wx))
    rw [if_pos hE]
    rw [hE] at HL ⊢
    rw [show sumB (beginS b at_ - h.W) (·.tot) 0 (bs.map BkS.a) = totS h b at_ (bs.map BkS.a) from rfl] at HT
    generalize totS h b at_ (bs.map BkS.a) = E at *
    clear hs hb hE
    go_enter Try.func22, Try.ntmps22
    go_wp2_with (fail)
    refine HL.out.mono ?_
    rintro e wq ⟨rfl, hq⟩
    subst hq
    go_wp2_with (fail)
    refine HT.out.mono ?_
    rintro e wb ⟨rfl, hbb⟩
    have HBB := Lib.hid hbb
    clear hbb
    go_wp2_with (fail)
    go_ret2
    exact ⟨rfl, HBB.out⟩
  · rw [if_neg hE]
    generalize lookS last at_ = LE at *
    have hne : (LE != 0) = true := by simpa using hE
    clear hs hb
    go_enter Try.func22, Try.ntmps22
    go_wp2_with (fail)
    refine HL.out.mono ?_
    rintro e wq ⟨rfl, hq⟩
    subst hq
    go_wp2_with (fail)
    go_ret2
    exact ⟨rfl, Below.refl _ _⟩

end Go.Proofs.Ytockmgcgifhepaa

/- sketch: a new one. -/
namespace Go.Proofs.Ytockmgcgifhepaa
open Go.RowKit
set_option linter.unusedVariables false
set_option linter.unusedSimpArgs false

def inB (n most : Int) : Bool := decide (1 ≤ n) && decide (n ≤ most)
theorem inB_iff {n most : Int} : inB n most = true ↔ 1 ≤ n ∧ n ≤ most := by simp [inB]
theorem inB_no {n most : Int} (h : inB n most = false) : ¬ (1 ≤ n ∧ n ≤ most) := by
  intro h'; rw [inB_iff.2 h'] at h; cases h
set_option maxHeartbeats 800000 in
theorem skin_any (n most : Int) (w : World) : Calls Try.prog 43 #[.int .i64 n, .int .i64 most] w fun e w' => e = .returned (.bool (inB n most)) ∧ w' = w := by
  unfold inB
  by_cases h : 1 ≤ n
  · go_enter Try.func43, Try.ntmps43
    go_wp2_with (fail)
    go_ret
    exact ⟨by simp [h], rfl⟩
  · rw [decide_eq_false h, Bool.false_and]
    go_enter Try.func43, Try.ntmps43
    go_wp2_with (fail)
    go_ret
    exact ⟨rfl, rfl⟩

def shapeB (h : ShapeS) : Bool := inB h.W 1099511627776 && (inB h.B 60 && (inB h.R 8 && inB h.C 4096))
def newE (h : ShapeS) : Int := if shapeB h then (if h.W % h.B = 0 then 0 else 6) else 2
theorem newE_ok {h : ShapeS} (hE : newE h = 0) (s0 : 0 ≤ h.seed) (s1 : h.seed ≤ 18446744073709551615) : ShapeOk h (h.W / h.B) := by
  unfold newE at hE
  split at hE
  · rename_i hs
    split at hE
    · rename_i hm
      simp only [shapeB, Bool.and_eq_true, inB_iff] at hs
      obtain ⟨⟨a1, a2⟩, ⟨a3, a4⟩, ⟨a5, a6⟩, a7, a8⟩ := hs
      have e := Int.mul_ediv_add_emod h.W h.B
      rw [hm, Int.add_zero] at e
      refine ⟨a1, a2, a3, a4, a5, a6, a7, a8, ?_, ?_, s0, s1⟩
      · rw [Int.mul_comm]; exact e.symm
      · have h0 : 0 ≤ h.W / h.B := Int.ediv_nonneg (by omega) (by omega)
        have h1 : h.W / h.B ≠ 0 := fun e1 => by rw [e1, Int.mul_zero] at e; omega
        omega
    · cases hE
  · cases hE

def skObj (h : ShapeS) : Obj := .cells #[.int .i64 h.W, .int .i64 h.B, .int .i64 h.R, .int .i64 h.C, .int .u64 h.seed, .slice none 0 0, .int .i64 0] 86
theorem skAt_made (w : World) (h : ShapeS) : SkAt (w.alloc (skObj h)) w.heap.size h 0 (.slice none 0 0) [] :=
  ⟨new_blockS w _, ⟨by simp [maxLen, flatB], Or.inl ⟨rfl, rfl⟩⟩, by simp, by simp [Value.ownBlock], by simp, by simp, by omega, by omega⟩

/-- What New gives. -/
def NewPost (h : ShapeS) (w : World) (e : Ending) (w' : World) : Prop := (newE h ≠ 0 → e = .returned (.tuple #[.pointer none, .int .i64 (newE h)]) ∧ w' = w) ∧ (newE h = 0 → e = .returned (.tuple #[.pointer (some ⟨w.heap.size, 0, none⟩), .int .i64 0]) ∧ w' = w.alloc (skObj h))
theorem newPost_no {h : ShapeS} {w : World} {e : Ending} {x : Int} (hE : newE h = x) (hx : x ≠ 0) (he : e = .returned (.tuple #[.pointer none, .int .i64 x])) : NewPost h w e w :=
  ⟨fun _ => ⟨by rw [hE]; exact he, rfl⟩, fun h0 => absurd (hE.symm.trans h0) hx⟩
theorem newPost_yes {h : ShapeS} {w w' : World} {e : Ending} (hE : newE h = 0) (he : e = .returned (.tuple #[.pointer (some ⟨w.heap.size, 0, none⟩), .int .i64 0])) (hw : w' = w.alloc (skObj h)) : NewPost h w e w' :=
  ⟨fun h0 => absurd hE h0, fun _ => ⟨he, hw⟩⟩

set_option maxHeartbeats 3200000 in
theorem sknew_any (h : ShapeS) (w : World) : Calls Try.prog 19 #[.int .i64 h.W, .int .i64 h.B, .int .i64 h.R, .int .i64 h.C, .int .u64 h.seed] w (NewPost h w) := by
  have H1 := Lib.hid (fun wx => skin_any h.W 1099511627776 wx)
  have H2 := Lib.hid (fun wx => skin_any h.B 60 wx)
  have H3 := Lib.hid (fun wx => skin_any h.R 8 wx)
  have H4 := Lib.hid (fun wx => skin_any h.C 4096 wx)
  have HW := Lib.hid (inB_iff (n := h.W) (most := 1099511627776))
  have HB := Lib.hid (inB_iff (n := h.B) (most := 60))
  have HE := Lib.hid (show newE h = if (inB h.W 1099511627776 && (inB h.B 60 && (inB h.R 8 && inB h.C 4096))) then (if h.W % h.B = 0 then 0 else 6) else 2 from rfl)
  obtain ⟨W, B, R, C, seed⟩ := h
  dsimp only at *
  generalize inB W 1099511627776 = b1 at *
  generalize inB B 60 = b2 at *
  generalize inB R 8 = b3 at *
  generalize inB C 4096 = b4 at *
  go_enter Try.func19, Try.ntmps19
  go_wp2_with (fail)
  refine (H1.out _).mono ?_
  rintro e wq ⟨rfl, hq⟩
  subst hq
  cases b1
  case false =>
    go_wp2_with (fail)
    go_ret2
    exact newPost_no (x := 2) HE.out (by decide) rfl
  go_wp2_with (fail)
  refine (H2.out _).mono ?_
  rintro e wq ⟨rfl, hq⟩
  subst hq
  cases b2
  case false =>
    go_wp2_with (fail)
    go_ret2
    exact newPost_no (x := 2) HE.out (by decide) rfl
  go_wp2_with (fail)
  refine (H3.out _).mono ?_
  rintro e wq ⟨rfl, hq⟩
  subst hq
  cases b3
  case false =>
    go_wp2_with (fail)
    go_ret2
    exact newPost_no (x := 2) HE.out (by decide) rfl
  go_wp2_with (fail)
  refine (H4.out _).mono ?_
  rintro e wq ⟨rfl, hq⟩
  subst hq
  cases b4
  case false =>
    go_wp2_with (fail)
    go_ret2
    exact newPost_no (x := 2) HE.out (by decide) rfl
  obtain ⟨w1, w2⟩ := HW.out.1 trivial
  obtain ⟨b1, b2⟩ := HB.out.1 trivial
  have hne : (B == 0) = false := by rw [beq_eq_false_iff_ne]; omega
  by_cases hm : W % B = 0
  · have HE2 : Hid (newE ⟨W, B, R, C, seed⟩ = 0) := by
      have := HE.out
      rw [if_pos (by rfl), if_pos hm] at this
      exact this
    clear HE
    go_wp2_with (fail)
    go_ret2
    exact newPost_yes HE2.out rfl rfl
  · have hm2 : (W % B != 0) = true := by simpa using hm
    have HE2 : Hid (newE ⟨W, B, R, C, seed⟩ = 6) := by
      have := HE.out
      rw [if_pos (by rfl), if_neg hm] at this
      exact this
    clear HE
    go_wp2_with (fail)
    go_ret2
    exact newPost_no (x := 6) HE2.out (by decide) rfl
end Go.Proofs.Ytockmgcgifhepaa
