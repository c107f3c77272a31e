import Derived.Shelf.SlGeneric
import Derived.Ground.SlgnProg
import Derived.Ground.SlmcProg
import Derived.Shelf.SlicesE.Clone
import Derived.Shelf.SlMaps.Clone
import Derived.Test.YtemlafbkkaloiaaGreatProg
import Derived.Test.YtemlafbkkaloiaaGreatGGGWinF
import Derived.Test.YtemlafbkkaloiaaGreatRowsOf
import Derived.Test.YtemlafbkkaloiaaGreatGGSkF
/-
  DERIVED: THE SHELF's CONTRACTS AT THIS DUMP, IN PLAIN WORDS (tools/lay-plain.mjs out of 'YtemlafbkkaloiaaGreatLay2.lean', which tools/lay-shelf.mjs wrote): THE SAME DECLARATIONS UNDER THE SAME NAMES: 'import', 'namespace', 'open', 'def', 'theorem' AND NOTHING ELSE: no command of the shelf's: FOR A HAND-IN. Each laying: the table of numbers ('.._ren') and one theorem, a field a fact of the dump's own or the kernel's comparison; each contract: ONE APPLICATION.
-/
set_option linter.unusedVariables false
set_option linter.unusedSimpArgs false
namespace Go.Proofs
open Go.Shelf
def Tryz.lcloneI_ren : Go.Shelf.Ren := ⟨fun | 41 => 22 | n => n, fun | 22 => 22 | 23 => 52 | 4 => 4 | n => n, fun | n => n⟩
theorem Tryz.lcloneI : Go.Proofs.SlLaysE0.n41 Tryz.prog Tryz.lcloneI_ren := {
  mixed := by kernel_rfl
  f41 := ⟨Tryz.f22.name, by decide, Tryz.func22.trans (congrArg some (by kernel_rfl))⟩
  t4 := Tryz.underlying4
  a4 := Tryz.isAgg4
  z4 := Tryz.sizeOf4
  v4 := Tryz.zeroValue4
  t22 := Tryz.underlying22
  a22 := Tryz.isAgg22
  z22 := Tryz.sizeOf22
  v22 := Tryz.zeroValue22 }
def Tryz.lcloneM_ren : Go.Shelf.Ren := ⟨fun | 5 => 64 | 7 => 97 | n => n, fun | 23 => 142 | 25 => 3 | 3 => 92 | 4 => 4 | 20 => 20 | n => n, fun | n => n⟩
theorem Tryz.lcloneM : Go.Proofs.SlLaysW.n5 Tryz.prog Tryz.lcloneM_ren := {
  mixed := by kernel_rfl
  f5 := ⟨Tryz.f64.name, by decide, Tryz.func64.trans (congrArg some (by kernel_rfl))⟩
  f7 := Tryz.func97.trans (congrArg some (by kernel_rfl))
  t4 := Tryz.underlying4
  a4 := Tryz.isAgg4
  z4 := Tryz.sizeOf4
  v4 := Tryz.zeroValue4
  t20 := Tryz.underlying20
  a20 := Tryz.isAgg20
  z20 := Tryz.sizeOf20
  v20 := Tryz.zeroValue20
  t23 := Tryz.underlying142
  a23 := Tryz.isAgg142
  z23 := Tryz.sizeOf142
  v23 := Tryz.zeroValue142 }
end Go.Proofs
namespace Go.Proofs.YtemlafbkkaloiaaGreat
open Go.RowKit
theorem cs_len_itH (xs : List ItemS) : ∀ r ∈ xs.map ItemS.cs, r.length = 2 := by intro r hr; obtain ⟨x, _, rfl⟩ := List.mem_map.1 hr; rfl
theorem rows_ownH {w : World} {base m n : Nat} {e : TypeId} {v : Value} {rs : List (List Value)} (hL : ∀ r ∈ rs, r.length = n) (hm : rs.length = m) (h : w.ownsRow base e n v m rs.flatten) : ∃ a c, v = .slice a m c ∧ m ≤ c ∧ (a = none → m = 0 ∧ c = 0) ∧ RowsAt w a n rs ∧ ∀ g off, a = some ⟨g, off, none⟩ → base ≤ g ∧ g < w.heap.size := by
  rcases h.2 with ⟨h1, h2⟩ | ⟨g, cap, cur, rfl, hb, hg, hnc, _⟩
  · subst h2
    exact ⟨none, 0, h1, Nat.le_refl _, fun _ => ⟨rfl, rfl⟩, Or.inl (List.length_eq_zero_iff.1 hm), fun g off e => by cases e⟩
  · refine ⟨_, cap, rfl, hnc, (fun e => by cases e), Or.inr ⟨g, 0, rfl, (Array.getElem?_eq_some_iff.1 hg).1, fun j r hj k u hk hu => ?_⟩, fun g' off e => ?_⟩
    · rw [Nat.zero_add, rows_cell hL hm h hj k hk]
      exact hu
    · injection e with e; injection e with e
      subst e
      exact ⟨hb, (Array.getElem?_eq_some_iff.1 hg).1⟩
theorem rowsAt_cellsH {w : World} {a : Option Addr} {n : Nat} {rs : List (List Value)} (hL : ∀ r ∈ rs, r.length = n) (hn : 0 < n) (h : RowsAt w a n rs) : ∀ b, a = some b → ∀ j u, rs.flatten[j]? = some u → w.cell? (b.add j) = some u := by
  intro b0 e j u hu
  rcases h with h | ⟨b, off, rfl, _, hc⟩
  · subst h; simp at hu
  · injection e with e; subst e
    have hj : j < rs.length * n := by rw [← flatten_len hL]; exact (List.getElem?_eq_some_iff.1 hu).1
    have hd : j / n < rs.length := Nat.div_lt_of_lt_mul (by rw [Nat.mul_comm]; exact hj)
    have hr : rs[j / n]? = some (rs[j / n]'hd) := List.getElem?_eq_getElem hd
    have h2 := flatten_get hL hr (j % n) (Nat.mod_lt _ hn)
    rw [Nat.div_add_mod' j n, hu] at h2
    rw [Go.WideShapes.add_plain]
    have h3 := hc _ _ hr (j % n) u (Nat.mod_lt _ hn) h2.symm
    rw [Nat.add_assoc, Nat.div_add_mod' j n] at h3
    exact h3
set_option maxHeartbeats 3200000 in
set_option maxRecDepth 100000 in
theorem itclone_zero {w : World} (a : Addr) (c : Nat) : Calls Tryz.prog 22 #[.slice (some a) 0 c] w fun e w' => e = .returned (.slice (some ⟨w.heap.size, 0, none⟩) 0 0) ∧ Below w.heap.size w w' ∧ w'.heap.size = w.heap.size + 1 := by
  have HB := Lib.hid (fun o => (Below.refl w.heap.size w).alloc (Nat.le_refl _) o)
  have hq := fun w => Lib.run_eql_slice_nil (P := Tryz.prog) w 22 _ (some a) 0 c 0 0 Tryz.underlying22
  go_enter Tryz.func22, Tryz.ntmps22
  go_wp2_with (fail)
  go_ret
  exact ⟨rfl, HB.out _, by simp⟩
theorem info_itemH : (Tryz.prog.info? 52).map (fun i => (i.zero, i.size, i.bytes)) = some (some (.agg #[.string ⟨#[]⟩, .int .i64 0]), 2, 24) := by kernel_rfl
theorem info_partsH {P : Program} {t : TypeId} {z : Value} {sz by_ : Nat} (h : (P.info? t).map (fun i => (i.zero, i.size, i.bytes)) = some (some z, sz, by_)) : ∃ i, P.info? t = some i ∧ i.zero = some z ∧ i.size = sz ∧ i.bytes = by_ := by
  cases hi : P.info? t with
  | none => rw [hi] at h; cases h
  | some i =>
    rw [hi] at h
    simp only [Option.map_some, Option.some.injEq, Prod.mk.injEq] at h
    exact ⟨i, rfl, h.1, h.2.1, h.2.2⟩
def HotS.at (R : HotS) (a : Option Addr) (c : Nat) : HotS := ⟨R.res, R.idx, R.cnt, R.secs, a, R.il, c, R.items⟩
theorem itclone_any {w : World} (R : HotS) (ok : HotOk w R) : Calls Tryz.prog 22 #[.slice R.ia R.il R.ic] w fun e w' => ∃ a' c', e = .returned (.slice a' R.il c') ∧ HotOk w' (R.at a' c') ∧ Below w.heap.size w w' ∧ ∀ g off, a' = some ⟨g, off, none⟩ → w.heap.size ≤ g ∧ g < w'.heap.size := by
  cases hia : R.ia with
  | none =>
    obtain ⟨h1, h2⟩ := ok.nil hia
    have h : Calls Tryz.prog 22 #[.slice none R.il R.ic] w _ := AnyE.slices_Clone_nil Tryz.lcloneI R.il R.ic w
    refine h.mono ?_
    rintro e w' ⟨rfl, rfl⟩
    exact ⟨none, 0, by rw [h1], ⟨ok.z, ok.l, by show R.il ≤ 0; omega, ok.b, fun _ => ⟨h1, rfl⟩, hia ▸ ok.at_, ok.iz⟩, Below.refl _ _, fun g off e => by cases e⟩
  | some a =>
    by_cases hz : R.il = 0
    · rw [hz]
      refine (itclone_zero a R.ic).mono ?_
      rintro e w' ⟨rfl, hb, hsz⟩
      refine ⟨_, 0, rfl, ⟨ok.z, ok.l, by show R.il ≤ 0; omega, ok.b, (fun e => by cases e), Or.inl ?_, ok.iz⟩, hb, fun g off e => ?_⟩
      · have := ok.l
        rw [hz] at this
        show R.items.map ItemS.cs = []
        rw [List.length_eq_zero_iff.1 this]; rfl
      · injection e with e; injection e with e; subst e
        exact ⟨Nat.le_refl _, by omega⟩
    · rcases ok.at_ with h | ⟨b, off, h1, h2, h3⟩
      · exfalso
        have := ok.l
        rw [List.map_eq_nil_iff.1 h] at this
        simp at this; omega
      · rw [hia] at h1
        injection h1 with h1
        subst h1
        obtain ⟨i0, hi, hz0, hz1, hz2⟩ := info_partsH info_itemH
        have hL := cs_len_itH R.items
        have hm : (R.items.map ItemS.cs).length = R.il := by rw [List.length_map]; exact ok.l
        have h : Calls Tryz.prog 22 #[.slice (some ⟨b, off, none⟩) R.il R.ic] w _ :=
          AnyE.slices_Clone Tryz.lcloneI i0 _ 2 24 hi hz0 hz1 hz2 rfl (by omega) Tryz.sizeOf52 b off R.il R.ic (R.items.map ItemS.cs).flatten w (by rw [flatten_len hL, hm]) (by have := ok.b; unfold maxLen; omega) (by have := ok.b; omega)
            (fun j u hj => by
              have := rowsAt_cellsH hL (by omega) (hia ▸ ok.at_) _ rfl j u hj
              rw [Go.WideShapes.add_plain] at this
              exact this) (fun u hu => by
              obtain ⟨r, hr, hu⟩ := List.mem_flatten.1 hu
              obtain ⟨x, _, rfl⟩ := List.mem_map.1 hr
              simp only [ItemS.cs, List.mem_cons, List.not_mem_nil, or_false] at hu
              rcases hu with rfl | rfl <;> rfl)
        refine h.mono ?_
        rintro e w' ⟨v', rfl, hown, hne, hb⟩
        obtain ⟨a', c', rfl, g1, g2, g3, g4⟩ := rows_ownH hL hm hown
        exact ⟨a', c', rfl, ⟨ok.z, ok.l, g1, ok.b, fun e => g2 e, g3, ok.iz⟩, hb, g4⟩
end Go.Proofs.YtemlafbkkaloiaaGreat
namespace Go.Proofs.YtemlafbkkaloiaaGreat
open Go.RowKit
def newHE (R : HotS) (keys : Int) : Int := if hotE R ≠ 0 then hotE R else if 1 ≤ keys ∧ keys ≤ 4096 then 0 else 2
structure NewHot (w : World) (R : HotS) (keys seed : Int) (w' : World) (c : HotC) (s : HotV) : Prop where
  hot : HotAt w' c s
  own : ∀ i, HOwn c s i → w.heap.size ≤ i
  items : ∀ g off, c.R.ia = some ⟨g, off, none⟩ → w.heap.size ≤ g
  R : ∃ a' c', c.R = R.at a' c'
  N : (c.N : Int) = keys
  seed : c.seed = seed
  L : s.L = []
  WS : s.WS = []
  last : s.last = 0
  ls : s.ls = 0
  sn : s.sn = []
theorem hot_made {w7 : World} {R : HotS} {seed : Int} {hb B M mw N : Nat} (h1 : w7.heap[hb]? = some (.cells #[.string R.res, .int .i64 R.idx, .int .i64 R.cnt, .int .i64 R.secs, .slice R.ia R.il R.ic, .pointer (some ⟨B, 0, none⟩), .map (some mw), .pointer none, .int .i64 0] 64))
    (h2 : Lru w7 B M N []) (h3 : MapV w7 9 mw (fun _ => none) 0) (h4 : HotOk w7 R) (h5 : hotE R = 0) (h6 : ∀ g off, R.ia = some ⟨g, off, none⟩ → g < w7.heap.size ∧ g ≠ hb ∧ g ≠ B ∧ g ≠ M ∧ g ≠ mw)
    (n1 : hb ≠ B) (n2 : hb ≠ M) (n3 : hb ≠ mw) (n4 : mw ≠ B) (n5 : mw ≠ M) (s0 : 0 ≤ seed) (s1 : seed ≤ 18446744073709551615) :
    HotAt ((w7.setCell ⟨hb, 7, none⟩ (.pointer (some ⟨w7.heap.size, 0, none⟩))).alloc (skObj ⟨R.secs * 1000000, 10, 4, 256, seed⟩)) ⟨R, seed, hb, B, M, N, mw, w7.heap.size⟩ ⟨[], [], 0, 0, [], .slice none 0 0, []⟩ := by
  obtain ⟨_, ⟨r1, r2⟩, _⟩ := hot_parts h5
  have hz : (w7.setCell ⟨hb, 7, none⟩ (.pointer (some ⟨w7.heap.size, 0, none⟩))).heap.size = w7.heap.size := by simp [World.setCell]
  have hk : ∀ i, i < w7.heap.size → i ≠ hb → ((w7.setCell ⟨hb, 7, none⟩ (.pointer (some ⟨w7.heap.size, 0, none⟩))).alloc (skObj ⟨R.secs * 1000000, 10, 4, 256, seed⟩)).heap[i]? = w7.heap[i]? := fun i hi hne =>
    (Below.heap_alloc _ _ _ (by rw [hz]; exact hi)).trans (Below.heap_setCell _ _ _ _ hne)
  have hbl := (Array.getElem?_eq_some_iff.1 h1).1
  have l1 := h2.lt (Or.inl rfl)
  have l2 := h2.lt (Or.inr (Or.inl rfl))
  have l3 := h3.lt
  have hsk := skInv_made (w7.setCell ⟨hb, 7, none⟩ (.pointer (some ⟨w7.heap.size, 0, none⟩))) (HotC.shOk (c := ⟨R, seed, hb, B, M, N, mw, w7.heap.size⟩) r1 r2 s0 s1)
  rw [hz] at hsk
  have hLo : ∀ i, Lown B M [] i → i = B ∨ i = M := fun i hi => by
    rcases hi with h | h | h
    · exact Or.inl h
    · exact Or.inr h
    · simp at h
  have hSo : ∀ i, SkOwn w7.heap.size (.slice none 0 0) [] i → i = w7.heap.size := fun i hi => by
    unfold SkOwn at hi
    simpa [Value.ownBlock] using hi
  refine ⟨⟨?_, h4.kept (by simp) (fun g off e => hk g (h6 g off e).1 (h6 g off e).2.1), h5, fun g off e => by have := (h6 g off e).1; simp; omega, h2.kept (fun i hi => ?_), ⟨_, 0, h3.kept (hk mw l3 (fun e => n3 e.symm)), Nat.le_refl _, fun _ _ => rfl⟩, by simp, hsk, Int.le_refl _, by simp, Int.le_refl _, by show (0 : Int) ≤ _; omega, by simp, by simp, s0, s1, fun i => if i = B ∨ i = M then 1 else if i = w7.heap.size then 2 else if i = mw then 3 else if i = hb then 4 else 5, ?_⟩, fun k => rfl, by simp⟩
  · exact (Below.heap_alloc _ _ _ (by rw [hz]; exact hbl)).trans (heap_setCell_same _ _ 7 _ _ _ h1)
  · rcases hLo i hi with rfl | rfl
    · exact hk i l1 (fun e => n1 e.symm)
    · exact hk i l2 (fun e => n2 e.symm)
  · refine ⟨fun i hi => if_pos (hLo i hi), fun i hi => ?_, ?_, ?_, fun g off e => ?_, by simp⟩
    · have := hSo i hi
      subst this
      show (if _ then _ else _) = _
      rw [if_neg (by rintro (h | h) <;> omega), if_pos rfl]
    · show (if _ then _ else _) = _
      rw [if_neg (by rintro (h | h); exact n4 h; exact n5 h), if_neg (by show ¬ mw = w7.heap.size; omega), if_pos rfl]
    · show (if _ then _ else _) = _
      rw [if_neg (by rintro (h | h); exact n1 h; exact n2 h), if_neg (by show ¬ hb = w7.heap.size; omega), if_neg n3, if_pos rfl]
    · obtain ⟨q1, q2, q3, q4, q5⟩ := h6 g off e
      show (if _ then _ else _) = _
      rw [if_neg (by rintro (h | h); exact q3 h; exact q4 h), if_neg (by omega), if_neg q5, if_neg q2]
set_option maxHeartbeats 12800000 in
set_option maxRecDepth 100000 in
theorem hnew_any {w : World} (R : HotS) (ok : HotOk w R) (keys seed : Int) (s0 : 0 ≤ seed) (s1 : seed ≤ 18446744073709551615) :
    Calls Tryz.prog 5 #[R.v, .int .i64 keys, .int .u64 seed] w fun e w' => Below w.heap.size w w' ∧ (newHE R keys ≠ 0 → e = .returned (.tuple #[.pointer none, .int .i64 (newHE R keys)])) ∧
      (newHE R keys = 0 → ∃ c s, e = .returned (.tuple #[.pointer (some ⟨c.hb, 0, none⟩), .int .i64 0]) ∧ NewHot w R keys seed w' c s) := by
  have HOK := Lib.hid ok
  have hbx : Below w.heap.size w (w.alloc (hotO R)) := (Below.refl _ _).alloc (Nat.le_refl _) _
  have HBX := Lib.hid hbx
  have HNW := Lib.hid (new_blockS w (hotO R))
  have hzx : (w.alloc (hotO R)).heap.size = w.heap.size + 1 := by simp
  have HZX := Lib.hid hzx
  have okx : HotOk (w.alloc (hotO R)) R := ⟨ok.z, ok.l, ok.lc, ok.b, ok.nil, ok.at_.below (Nat.le_refl _) hbx, ok.iz⟩
  have HOKX := Lib.hid okx
  have HRH := Lib.hid (rhot_any R okx)
  clear ok hbx hzx okx
  obtain ⟨X, hX⟩ : ∃ X, newHE R keys = X := ⟨_, rfl⟩
  rw [hX]
  have HX := Lib.hid hX
  clear hX
  unfold HotS.v at HRH ⊢
  unfold hotO at HBX HNW HZX HOKX HRH
  go_enter Tryz.func5, Tryz.ntmps5
  go_wp2_with (fail)
  refine HRH.out.mono ?_
  rintro e w1 ⟨rfl, h1⟩
  have HB1 := Lib.hid (HBX.out.trans (h1.mono HBX.out.size))
  have HN1 := Lib.hid ((h1.block w.heap.size (by rw [HZX.out]; omega)).trans HNW.out)
  have HZ1 := Lib.hid (show w.heap.size < w1.heap.size by have := h1.size; rw [HZX.out] at this; omega)
  by_cases hE : hotE R = 0
  · rw [hE]
    have HE := Lib.hid hE
    have HOK1 := Lib.hid (show HotOk w1 R from ⟨HOKX.out.z, HOKX.out.l, HOKX.out.lc, HOKX.out.b, HOKX.out.nil, HOKX.out.at_.below (Nat.le_refl _) h1, HOKX.out.iz⟩)
    by_cases hK : 1 ≤ keys ∧ keys ≤ 4096
    · have hNE : newHE R keys = 0 := by unfold newHE; rw [if_neg (by simp [hE]), if_pos hK]
      have HNE := Lib.hid hNE
      have HLN := Lib.hid (lnew_any w1 keys hK)
      have HKK := Lib.hid hK
      clear h1 hE HRH HNW HBX HOKX HZX hNE hK
      go_wp2_with (fail)
      refine HLN.out.mono ?_
      rintro e w2 ⟨rfl, hl2, hb2, z2⟩
      have hn2 := (hb2.block w.heap.size HZ1.out).trans HN1.out
      have c4 : w2.cell? ⟨w.heap.size, 4, none⟩ = some (.slice R.ia R.il R.ic) := by simp only [World.cell?, hn2]; rfl
      have HOK2 := Lib.hid (show HotOk w2 R from ⟨HOK1.out.z, HOK1.out.l, HOK1.out.lc, HOK1.out.b, HOK1.out.nil, HOK1.out.at_.below (Nat.le_refl _) hb2, HOK1.out.iz⟩)
      have HCL := Lib.hid (itclone_any R HOK2.out)
      have HN2 := Lib.hid hn2
      have HB2 := Lib.hid hb2
      have HL2 := Lib.hid hl2
      have HZ2 := Lib.hid z2
      clear hn2 hb2 hl2 z2 HLN
      go_wp2_with (fail)
      refine HCL.out.mono ?_
      rintro e w3 ⟨a', c', rfl, ok3, hb3, hg3⟩
      have hn3 := (hb3.block w.heap.size (by have := HZ1.out; have := HZ2.out; omega)).trans HN2.out
      have f4 : w3.frozen? ⟨w.heap.size, 4, none⟩ = false := by simp only [World.frozen?, hn3]; simp
      have e4 : w3.cell? ⟨w.heap.size, 4, none⟩ = some (.slice R.ia R.il R.ic) := by simp only [World.cell?, hn3]; rfl
      have hn4 : (w3.setCell ⟨w.heap.size, 4, none⟩ (.slice a' R.il c')).heap[w.heap.size]? = some (.cells #[.string R.res, .int .i64 R.idx, .int .i64 R.cnt, .int .i64 R.secs, .slice a' R.il c'] 24) := heap_setCell_same _ _ 4 _ _ _ hn3
      have hz4 : (w3.setCell ⟨w.heap.size, 4, none⟩ (.slice a' R.il c')).heap.size = w3.heap.size := by simp [World.setCell]
      have d0 : (w3.setCell ⟨w.heap.size, 4, none⟩ (.slice a' R.il c')).cell? ⟨w.heap.size, 0, none⟩ = some (.string R.res) := by simp only [World.cell?, hn4]; rfl
      have d1 : (w3.setCell ⟨w.heap.size, 4, none⟩ (.slice a' R.il c')).cell? ⟨w.heap.size, 1, none⟩ = some (.int .i64 R.idx) := by simp only [World.cell?, hn4]; rfl
      have d2 : (w3.setCell ⟨w.heap.size, 4, none⟩ (.slice a' R.il c')).cell? ⟨w.heap.size, 2, none⟩ = some (.int .i64 R.cnt) := by simp only [World.cell?, hn4]; rfl
      have d3 : (w3.setCell ⟨w.heap.size, 4, none⟩ (.slice a' R.il c')).cell? ⟨w.heap.size, 3, none⟩ = some (.int .i64 R.secs) := by simp only [World.cell?, hn4]; rfl
      have d4 : (w3.setCell ⟨w.heap.size, 4, none⟩ (.slice a' R.il c')).cell? ⟨w.heap.size, 4, none⟩ = some (.slice a' R.il c') := by simp only [World.cell?, hn4]; rfl
      have hmk : ∀ wx : World, (Instr.makeMap 61 none).run Tryz.prog wx = .ok (.map (some wx.heap.size)) (wx.alloc (.map #[] 0)) := fun wx => run_makeMap _ wx
      have l2 := HL2.out.lt (Or.inl rfl)
      have hz2 := HZ2.out
      have hz1 := HZ1.out
      have hz3 := hb3.size
      have ok4 : HotOk (w3.setCell ⟨w.heap.size, 4, none⟩ (.slice a' R.il c')) (R.at a' c') := ok3.kept (by rw [hz4]; exact Nat.le_refl _) (fun g off e => Below.heap_setCell _ _ _ _ (by have := (hg3 g off e).1; show g ≠ w.heap.size; omega))
      have lru4 : Lru (w3.setCell ⟨w.heap.size, 4, none⟩ (.slice a' R.il c')) (w1.heap.size + 1) w1.heap.size keys.toNat [] := (HL2.out.below hb3).kept (fun i hi => Below.heap_setCell _ _ _ _ (by
        show i ≠ w.heap.size
        rcases hi with h | h | h
        · omega
        · omega
        · simp at h))
      have hB4 : Below w.heap.size w (w3.setCell ⟨w.heap.size, 4, none⟩ (.slice a' R.il c')) := ((HB1.out.trans (HB2.out.mono HB1.out.size)).trans (hb3.mono (by omega))).setCell (Nat.le_refl _) _
      have HQ := Lib.hid (And.intro ok4 (And.intro lru4 (And.intro hB4 (And.intro hg3 hz4))))
      have HZZ := Lib.hid (show w.heap.size < w1.heap.size ∧ w2.heap.size = w1.heap.size + 2 ∧ w2.heap.size ≤ w3.heap.size from ⟨hz1, hz2, hz3⟩)
      obtain ⟨_, ⟨r1, r2⟩, _⟩ := hot_parts HE.out
      have HWD : Hid (∀ wx, Calls Tryz.prog 24 #[.agg #[.string R.res, .int .i64 R.idx, .int .i64 R.cnt, .int .i64 R.secs, .slice a' R.il c']] wx fun e w' => e = .returned (.int .i64 (R.secs * 1000000)) ∧ Below wx.heap.size wx w') := fun wx => hwidth_any (R.at a' c') r1 r2 wx
      have HSN : Hid (∀ wx, Calls Tryz.prog 23 #[.int .i64 (R.secs * 1000000), .int .i64 10, .int .i64 4, .int .i64 256, .int .u64 seed] wx (NewPost ⟨R.secs * 1000000, 10, 4, 256, seed⟩ wx)) := fun wx => sknew_any ⟨R.secs * 1000000, 10, 4, 256, seed⟩ wx
      have hSE : newE ⟨R.secs * 1000000, 10, 4, 256, seed⟩ = 0 := by
        unfold newE shapeB inB
        dsimp only
        rw [decide_eq_true (show 1 ≤ R.secs * 1000000 by omega), decide_eq_true (show R.secs * 1000000 ≤ 1099511627776 by omega)]
        simp
        omega
      have HSE := Lib.hid hSE
      have HR := Lib.hid (And.intro r1 r2)
      clear hn3 hn4 ok3 hb3 hg3 l2 hz2 hz1 hz3 ok4 lru4 hB4 hSE r1 r2 HCL HN2 c4
      have HZ4 := Lib.hid hz4
      clear hz4
      go_wp2_with (fail)
      refine (HWD.out _).mono ?_
      rintro e w7 ⟨rfl, h7⟩
      have hz4 := HZ4.out
      have hQ := HQ.out
      clear d0 d1 d2 d3 d4 e4 f4 hmk HZ4 HQ HWD
      generalize w3.setCell ⟨w.heap.size, 4, none⟩ (.slice a' R.il c') = w4 at *
      obtain ⟨q1, q2, q3, q4, _⟩ := hQ
      have hm5 := mapV_made w4 9
      have hal5 : Below w4.heap.size w4 (w4.alloc (.map #[] 0)) := (Below.refl _ _).alloc (Nat.le_refl _) _
      have hz5 : (w4.alloc (.map #[] 0)).heap.size = w3.heap.size + 1 := by simp [hz4]
      rw [hz4] at hm5
      generalize w4.alloc (.map #[] 0) = w5 at *
      have hn6 := new_blockS w5 (.cells #[.string R.res, .int .i64 R.idx, .int .i64 R.cnt, .int .i64 R.secs, .slice a' R.il c', .pointer (some ⟨w1.heap.size + 1, 0, none⟩), .map (some w3.heap.size), .pointer none, .int .i64 0] 64)
      have hal6 : Below w5.heap.size w5 (w5.alloc (.cells #[.string R.res, .int .i64 R.idx, .int .i64 R.cnt, .int .i64 R.secs, .slice a' R.il c', .pointer (some ⟨w1.heap.size + 1, 0, none⟩), .map (some w3.heap.size), .pointer none, .int .i64 0] 64)) := (Below.refl _ _).alloc (Nat.le_refl _) _
      have hz6 : (w5.alloc (.cells #[.string R.res, .int .i64 R.idx, .int .i64 R.cnt, .int .i64 R.secs, .slice a' R.il c', .pointer (some ⟨w1.heap.size + 1, 0, none⟩), .map (some w3.heap.size), .pointer none, .int .i64 0] 64)).heap.size = w3.heap.size + 2 := by simp [hz5]
      rw [hz5] at hn6
      generalize w5.alloc _ = w6 at *
      have hz7 := h7.size
      have g1 := (h7.block (w3.heap.size + 1) (by omega)).trans hn6
      have g3 := (hm5.below hal6).below h7
      have hb47 : Below w4.heap.size w4 w7 := (hal5.trans (hal6.mono hal5.size)).trans (h7.mono (by omega))
      have g2 := q2.below hb47
      have g4 : HotOk w7 (R.at a' c') := ⟨q1.z, q1.l, q1.lc, q1.b, q1.nil, q1.at_.below (Nat.le_refl _) hb47, q1.iz⟩
      have hzz := HZZ.out
      have hB7 := q3.trans (hb47.mono q3.size)
      have HM := Lib.hid (hot_made (seed := seed) (R := R.at a' c') g1 g2 g3 g4 HE.out (fun g off e => by have := q4 g off e; omega) (by omega) (by omega) (by omega) (by omega) (by omega) s0 s1)
      have HOW := Lib.hid (And.intro q4 (And.intro hzz (And.intro hz6 hz7)))
      have c7 : w7.cell? ⟨w3.heap.size + 1, 7, none⟩ = some (.pointer none) := by simp only [World.cell?, g1]; rfl
      have f7 : w7.frozen? ⟨w3.heap.size + 1, 7, none⟩ = false := by simp only [World.frozen?, g1]; simp
      have l7 := World.block_lt_of_cell? _ _ c7
      have HB7 := Lib.hid hB7
      clear hm5 hal5 hz5 hn6 hal6 hz6 hz7 g1 g2 g3 g4 hzz hB7 hb47 q1 q2 q3 q4 h7 hz4
      go_wp2_with (fail)
      refine (HSN.out _).mono ?_
      rintro e w8 hp
      obtain ⟨rfl, rfl⟩ := hp.2 HSE.out
      have hk8 : ∀ o : Obj, (w7.alloc o).cell? ⟨w3.heap.size + 1, 7, none⟩ = some (.pointer none) := fun o => (World.cell?_alloc_lt w7 o _ l7).trans c7
      have HB8 := Lib.hid (show Below w.heap.size w ((w7.setCell ⟨w3.heap.size + 1, 7, none⟩ (.pointer (some ⟨w7.heap.size, 0, none⟩))).alloc (skObj ⟨R.secs * 1000000, 10, 4, 256, seed⟩)) from (HB7.out.setCell (by have := HB1.out.size; have := HZZ.out; show w.heap.size ≤ w3.heap.size + 1; omega) _).alloc (by simp [World.setCell]; have := HB7.out.size; omega) _)
      clear hp hk8 HSN
      unfold skObj at HM HB8 ⊢
      dsimp only at HM HB8 ⊢
      go_wp2_with (fail)
      go_ret2
      refine ⟨HB8.out, fun h => absurd (HX.out.symm.trans HNE.out) h, fun _ => ⟨_, _, rfl, ⟨HM.out, fun i hi => ?_, fun g off e => ?_, ⟨a', c', rfl⟩, ?_, rfl, rfl, rfl, rfl, rfl, rfl⟩⟩⟩
      · obtain ⟨r1, ⟨r2, r3, r4⟩, r5, r6⟩ := HOW.out
        rcases hi with h | h | h | h | ⟨y, hy, h⟩
        · rcases h with h | h | h
          · dsimp only at h; show w.heap.size ≤ i; omega
          · dsimp only at h; show w.heap.size ≤ i; omega
          · simp at h
        · unfold SkOwn at h
          simp [Value.ownBlock] at h
          show w.heap.size ≤ i; omega
        · show w.heap.size ≤ i; dsimp only at h; omega
        · show w.heap.size ≤ i; dsimp only at h; omega
        · simp at hy
      · obtain ⟨r1, ⟨r2, r3, r4⟩, r5, r6⟩ := HOW.out
        have := r1 g off e
        omega
      · have := HKK.out
        show ((keys.toNat : Nat) : Int) = keys
        omega
    · have hNE : newHE R keys = 2 := by unfold newHE; rw [if_neg (by simp [hE]), if_neg hK]
      have HLN := Lib.hid (lnew_no w1 keys hK)
      have hX2 := Lib.hid (HX.out.symm.trans hNE)
      clear h1 hE hNE HRH HNW HBX HOKX HZX hK
      go_wp2_with (fail)
      refine HLN.out.mono ?_
      rintro e w2 ⟨rfl, hq⟩
      have hq := hq.symm
      subst hq
      go_wp2_with (fail)
      go_ret2
      exact ⟨HB1.out, fun _ => by rw [hX2.out]; rfl, fun h => absurd (hX2.out.symm.trans h) (by decide)⟩
  · have hNE : newHE R keys = hotE R := by unfold newHE; rw [if_pos hE]
    have hne : (hotE R != 0) = true := by simpa using hE
    have HE := Lib.hid hE
    have hX2 := Lib.hid (HX.out.symm.trans hNE)
    generalize hotE R = E at *
    clear h1 hE hNE HRH HNW HBX HOKX HZX
    go_wp2_with (fail)
    go_ret2
    exact ⟨HB1.out, fun _ => by rw [hX2.out]; rfl, fun h => absurd (hX2.out.symm.trans h) HE.out⟩
end Go.Proofs.YtemlafbkkaloiaaGreat
namespace Go.Proofs.YtemlafbkkaloiaaGreat
open Go.RowKit
set_option maxHeartbeats 800000 in
theorem rplusS_any (a b : Int) (a0 : 0 ≤ a) (a1 : a ≤ 4611686018427387904) (b0 : 0 ≤ b) (b1 : b ≤ 4611686018427387904) (w : World) :
    Calls Tryz.prog 108 #[.int .i64 a, .int .i64 b] w fun e w' => e = .returned (.int .i64 (plusS a b)) ∧ w' = w := by
  by_cases h : 4611686018427387904 - a < b
  · go_enter Tryz.func108, Tryz.ntmps108
    go_wp2_with (fail)
    go_ret
    exact ⟨by unfold plusS; rw [if_pos (by omega)]; rfl, rfl⟩
  · go_enter Tryz.func108, Tryz.ntmps108
    go_wp2_with (fail)
    go_ret
    exact ⟨by unfold plusS; rw [if_neg (by omega)]; rfl, rfl⟩
structure DoneS where
  d : DeedS
  a : Option Addr
  l : Nat
  c : Nat
def DoneS.vals (x : DoneS) : List Value := [.int .i64 x.d.kind, .int .i64 x.d.at_, .string x.d.key, .slice x.a x.l x.c]
structure DoneOk (w : World) (x : DoneS) : Prop where
  len : x.d.ns.length = x.l
  small : x.l ≤ 9223372036854775807
  row : IntsAt w x.a x.d.ns
  fine : ∀ y, y ∈ x.d.ns → 0 ≤ y ∧ y ≤ 1099511627776
  a0 : 0 ≤ x.d.at_
  a1 : x.d.at_ ≤ 1152921504606846976
theorem est_le_tot {h : ShapeS} {b at_ : Int} {key : ByteArray} {notes : List NoteS} (hR : 1 ≤ h.R) (hn : NonNeg notes) : estN h b at_ key notes ≤ totN h b at_ notes := by
  refine Int.le_trans (leastS_le (r := 0) (by omega)) (capS_mono (sumP_mono hn (fun y _ hy => ?_)))
  simp only [Bool.and_eq_true, decide_eq_true_eq] at hy
  simp [hy.1]
end Go.Proofs.YtemlafbkkaloiaaGreat
namespace Go.Proofs.YtemlafbkkaloiaaGreat
open Go.RowKit
theorem est_nil {h : ShapeS} {b at_ : Int} (hR : 1 ≤ h.R) (key : ByteArray) : estN h b at_ key [] = 0 := by
  have h1 := est_le_tot (h := h) (b := b) (at_ := at_) (key := key) hR (notes := []) (by intro x hx; cases hx)
  have h2 := (estN_bd (h := h) (b := b) (at_ := at_) (key := key) (notes := []) (by intro x hx; cases hx)).1
  have h3 : totN h b at_ [] = 0 := by unfold totN sumP; exact capS_zero
  omega
theorem usedH_V (c : HotC) (s : HotV) (at_ : Int) (key : ByteArray) : usedH c s at_ key = match s.V key with | some ns => (winC (c.R.secs * 100000) 10 at_ ns).p | none => estN c.sh (c.R.secs * 100000) at_ key s.sn := by
  unfold usedH HotV.V
  cases findW s.WS key <;> rfl
theorem winC_p (b B at_ : Int) (ns : List NoteW) : (winC b B at_ ns).p = capW (sumW (fun x => decide (at_ / b - B < x.at_ / b)) ns).p := rfl
def liveHot : HotS := ⟨⟨#[97]⟩, 0, 2, 1, none, 0, 0, []⟩
def liveXH : ByteArray := ⟨#[120]⟩
theorem liveHot_ok (w : World) : HotOk w liveHot := ⟨by decide, rfl, Nat.le_refl _, by decide, fun _ => ⟨rfl, rfl⟩, Or.inl rfl, by intro x hx; simp [liveHot] at hx⟩
theorem liveHot_new : newHE liveHot 1 = 0 := by decide
theorem live_limit (a : Option Addr) (c : Nat) (k : ByteArray) : limI (liveHot.at a c) k = 2 := rfl
end Go.Proofs.YtemlafbkkaloiaaGreat
