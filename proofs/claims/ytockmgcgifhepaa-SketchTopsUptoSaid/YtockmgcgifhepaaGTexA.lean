/- Texts of one chain, one behind the other: TexA, TexB. -/
import Derived.Laws.IdiomStrings
import Derived.Test.YtockmgcgifhepaaGTxB
import Derived.Deep.RegionHeld3

/- spillwaymem: text, HandTexts, SameTexts, KeptTexts. -/
namespace Go.Proofs.Ytockmgcgifhepaa
open Go.RowKit
set_option linter.unusedVariables false
set_option linter.unusedSimpArgs false

def chr3 (a b c : Int) : ByteArray := ⟨#[109, 97, 114, 107, 32, UInt8.ofNat (97 + a).toNat, UInt8.ofNat (97 + b).toNat, UInt8.ofNat (97 + c).toNat]⟩
/-- The mark of a number. -/
def markT (n : Int) : ByteArray := chr3 (n.tmod 26) ((n.tdiv 26).tmod 26) ((n.tdiv 676).tmod 26)
theorem chr_cells (w : World) (a b c : Int) (ha : 0 ≤ a ∧ a < 26) (hb : 0 ≤ b ∧ b < 26) (hc : 0 ≤ c ∧ c < 26) :
    (convert 101 9 (.slice (some ⟨w.heap.size, 0, none⟩) 3 3)).run Try.prog (w.alloc (.cells #[.int .u8 (97 + a), .int .u8 (97 + b), .int .u8 (97 + c)] 5)) = .ok (.string ⟨#[UInt8.ofNat (97 + a).toNat, UInt8.ofNat (97 + b).toNat, UInt8.ofNat (97 + c).toNat]⟩) (w.alloc (.cells #[.int .u8 (97 + a), .int .u8 (97 + b), .int .u8 (97 + c)] 5)) := by
  have h := run_convert_bytes_back (P := Try.prog) (w.alloc (.cells #[.int .u8 (97 + a), .int .u8 (97 + b), .int .u8 (97 + c)] 5)) 101 9 5 ⟨w.heap.size, 0, none⟩ 3 [UInt8.ofNat (97 + a).toNat, UInt8.ofNat (97 + b).toNat, UInt8.ofNat (97 + c).toNat] Try.underlying101 Try.underlying5 Try.underlying9 (fun j hj => by
    have key : ∀ x : Int, 0 ≤ x ∧ x < 26 → ((UInt8.ofNat (97 + x).toNat).toNat : Int) = 97 + x := fun x hx => by
      rw [UInt8.toNat_ofNat']; omega
    match j, hj with
    | 0, _ => show _ = some (Value.int .u8 ((UInt8.ofNat (97 + a).toNat).toNat : Int)); rw [key a ha]; simp [go_sem, Addr.add]
    | 1, _ => show _ = some (Value.int .u8 ((UInt8.ofNat (97 + b).toNat).toNat : Int)); rw [key b hb]; simp [go_sem, Addr.add]
    | 2, _ => show _ = some (Value.int .u8 ((UInt8.ofNat (97 + c).toNat).toNat : Int)); rw [key c hc]; simp [go_sem, Addr.add]
    | j + 3, hj => simp at hj; omega)
  exact h

set_option maxHeartbeats 1600000 in
set_option maxRecDepth 100000 in
theorem text_any (n : Int) (n0 : 0 ≤ n) (n1 : n ≤ 9223372036854775807) (w : World) : Calls Try.prog 24 #[.int .i64 n] w fun e w' => e = .returned (.string (markT n)) ∧ Below w.heap.size w w' := by
  have hB : Below w.heap.size w (w.alloc (.cells #[.int .u8 (97 + n.tmod 26), .int .u8 (97 + (n.tdiv 26).tmod 26), .int .u8 (97 + (n.tdiv 676).tmod 26)] 5)) := (Below.refl _ _).alloc (Nat.le_refl _) _
  have bd : ∀ x : Int, 0 ≤ x → 0 ≤ x.tmod 26 ∧ x.tmod 26 < 26 := fun x hx => ⟨Int.tmod_nonneg _ hx, Int.tmod_lt_of_pos _ (by omega)⟩
  have p0 := bd n n0
  have p1 := bd (n.tdiv 26) (Int.tdiv_nonneg n0 (by omega))
  have p2 := bd (n.tdiv 676) (Int.tdiv_nonneg n0 (by omega))
  have w1 : IntKind.i64.wrap (n.tdiv 26) = n.tdiv 26 := by rw [IntKind.wrap_i64]; rw [Int.tdiv_eq_ediv_of_nonneg n0]; omega
  have w2 : IntKind.i64.wrap (n.tdiv 676) = n.tdiv 676 := by rw [IntKind.wrap_i64]; rw [Int.tdiv_eq_ediv_of_nonneg n0]; omega
  have HK := Lib.hid (chr_cells w _ _ _ p0 p1 p2)
  have HM := Lib.hid (show markT n = chr3 (n.tmod 26) ((n.tdiv 26).tmod 26) ((n.tdiv 676).tmod 26) from rfl)
  obtain ⟨D1, hD1⟩ : ∃ D, n.tdiv 26 = D := ⟨_, rfl⟩
  obtain ⟨D2, hD2⟩ : ∃ D, n.tdiv 676 = D := ⟨_, rfl⟩
  obtain ⟨A, hA⟩ : ∃ D, n.tmod 26 = D := ⟨_, rfl⟩
  rw [hD1] at w1 p1 HK HM hB
  rw [hD2] at w2 p2 HK HM hB
  obtain ⟨B, hBb⟩ : ∃ D, D1.tmod 26 = D := ⟨_, rfl⟩
  obtain ⟨C, hC⟩ : ∃ D, D2.tmod 26 = D := ⟨_, rfl⟩
  rw [hA] at p0 HK HM hB
  rw [hBb] at p1 HK HM hB
  rw [hC] at p2 HK HM hB
  have a1 : IntKind.i64.wrap A = A := by rw [IntKind.wrap_i64]; omega
  have b1 : IntKind.i64.wrap B = B := by rw [IntKind.wrap_i64]; omega
  have c1 : IntKind.i64.wrap C = C := by rw [IntKind.wrap_i64]; omega
  have a2 : IntKind.i64.wrap (97 + A) = 97 + A := by rw [IntKind.wrap_i64]; omega
  have b2 : IntKind.i64.wrap (97 + B) = 97 + B := by rw [IntKind.wrap_i64]; omega
  have c2 : IntKind.i64.wrap (97 + C) = 97 + C := by rw [IntKind.wrap_i64]; omega
  have HB := Lib.hid hB
  have hk := HK.out
  clear hB bd
  go_enter Try.func24, Try.ntmps24
  go_wp2_with (fail)
  go_ret
  exact ⟨by rw [HM.out]; rfl, HB.out⟩
end Go.Proofs.Ytockmgcgifhepaa

/- spillwaymem: HandTexts, SameTexts, KeptTexts. -/
namespace Go.Proofs.Ytockmgcgifhepaa
open Go.RowKit
set_option linter.unusedVariables false
set_option linter.unusedSimpArgs false

def strR (s : ByteArray) : List Value := [.string s]
def markTx (j : Nat) : List Value := strR (markT (700 + (j : Int)))
def zeroTx : List Value := strR ⟨#[]⟩
def fullTx (rs : List (List Value)) : List (List Value) := rs ++ (List.range 9).map markTx
theorem infoTx : (Try.prog.info? 9).map (fun i => (i.zero, i.size, i.bytes)) = some (some (.string ⟨#[]⟩), 1, 16) := by kernel_rfl
theorem madeTx (m : Nat) : (madeCells (Value.string ⟨#[]⟩).cells (m * 1)).toList = (List.replicate m zeroTx).flatten := made_rows #[.string ⟨#[]⟩] m (by decide)
theorem lenTx (xs : List ByteArray) : ∀ r ∈ xs.map strR, r.length = 1 := by intro r hr; obtain ⟨x, _, rfl⟩ := List.mem_map.1 hr; rfl
theorem texts_rows {w : World} {a : Option Addr} {ss : List ByteArray} (h : TextsAt w a ss) : RowsAt w a 1 (ss.map strR) := by
  rcases h with h | ⟨b, off, e, hl, hc⟩
  · exact Or.inl (by rw [h]; rfl)
  · refine Or.inr ⟨b, off, e, hl, fun j r hj k u hk hu => ?_⟩
    rw [List.getElem?_map] at hj
    cases hs : ss[j]? with
    | none => rw [hs] at hj; cases hj
    | some s =>
      rw [hs] at hj
      obtain rfl : strR s = r := Option.some.inj hj
      have hjl := (List.getElem?_eq_some_iff.1 hs).1
      match k, hk with
      | 0, _ =>
        obtain rfl : Value.string s = u := Option.some.inj hu
        rw [Nat.mul_one, Nat.add_zero, hc j hjl, List.getD_eq_getElem?_getD, hs]; rfl
theorem rows_texts {w : World} {a : Option Addr} {ss : List ByteArray} (h : RowsAt w a 1 (ss.map strR)) : TextsAt w a ss := by
  rcases h with h | ⟨b, off, e, hl, hc⟩
  · exact Or.inl (List.map_eq_nil_iff.1 h)
  · refine Or.inr ⟨b, off, e, hl, fun j hj => ?_⟩
    have h1 := hc j (strR ss[j]) (by rw [List.getElem?_map, List.getElem?_eq_getElem hj]; rfl) 0 (.string ss[j]) (by decide) rfl
    rw [Nat.mul_one, Nat.add_zero] at h1
    rw [h1, List.getD_eq_getElem?_getD, List.getElem?_eq_getElem hj]; rfl
theorem text_cell {w : World} {a : Option Addr} {ss : List ByteArray} (h : RowsAt w a 1 (ss.map strR)) {j : Nat} {s : ByteArray} (hs : ss[j]? = some s) : ∃ b off, a = some ⟨b, off, none⟩ ∧ b < w.heap.size ∧ w.cell? ⟨b, off + j, none⟩ = some (.string s) := by
  obtain ⟨b, off, e, hl, hc⟩ := rowsAt_getH h (j := j) (x := strR s) (by rw [List.getElem?_map, hs]; rfl)
  have h1 := hc 0 (.string s) (by decide) rfl
  rw [Nat.mul_one, Nat.add_zero] at h1
  exact ⟨b, off, e, hl, h1⟩
theorem below_ownT {wr wx : World} {base size n : Nat} {e : TypeId} {v : Value} {xs : List Value} (h : wr.ownsRow base e size v n xs) (hb : Below wr.heap.size wr wx) : wx.ownsRow base e size v n xs :=
  h.kept (row := none) ⟨hb.os, hb.tape, hb.output, hb.size, fun k hk _ => hb.block k hk⟩ (by cases v.ownBlock <;> simp)

set_option maxHeartbeats 6400000 in
set_option maxRecDepth 100000 in
theorem handTx_any {w : World} (a : Option Addr) (len cap : Nat) (xs : List ByteArray) (hl : xs.length = len) (hb : len * 16 ≤ 140737488351232) (hr : RowsAt w a 1 (xs.map strR)) :
    Calls Try.prog 8 #[.slice a len cap] w fun e w' => e = .returned (.slice (some ⟨w.heap.size, 0, none⟩) len (len + 9)) ∧ w'.ownsRow w.heap.size 9 1 (.slice (some ⟨w.heap.size, 0, none⟩) (len + 9) (len + 9)) (len + 9) (fullTx (xs.map strR)).flatten ∧ Below w.heap.size w w' := by
  obtain ⟨i0, hi, hz0, hz1, hz2⟩ := info_partsO infoTx
  have HR := Lib.hid hr
  have HXL := Lib.hid hl
  have HL := Lib.hid (show (xs.map strR).length = len by rw [List.length_map]; exact hl)
  have HN := Lib.hid (lenTx xs)
  have hw9 : IntKind.i64.wrap ((len : Int) + 9) = (len : Int) + 9 := by rw [IntKind.wrap_i64]; omega
  clear hr hl
  obtain ⟨rs, hrs⟩ : ∃ rs, xs.map strR = rs := ⟨_, rfl⟩
  have HRS := Lib.hid hrs
  rw [hrs] at HL HN ⊢
  clear hrs
  go_enter Try.func8, Try.ntmps8
  go_wp2_with (at_make; refine wpList_make_full _ rfl (.tmp 8) (.tmp 8) 26 rfl w.heap.size 9 i0 _ 1 Try.underlying26 hi hz0 hz1 .i64 .i64 _ _ (len + 9) rfl rfl (by simp) (by simp) (by rw [hz2]; omega) (by unfold maxLen; omega) (Nat.le_refl _) ?_; intro w1 hown1 hg1; rw [madeTx] at hown1; have HO1 := Lib.hid hown1; have HG1 := Lib.hid (below_grownH hg1); clear hown1 hg1)
  go_wp2_with (fail)
  have HGS := Lib.hid (HO1.out.lt w.heap.size rfl).2
  obtain ⟨G, hG⟩ : ∃ G, w.heap.size = G := ⟨_, rfl⟩
  rw [hG] at HO1 HGS ⊢
  have HGW := Lib.hid hG
  clear hG
  go_loopw [4] (fun s wr => ∃ k : Nat, k ≤ len ∧ s = .int .i64 k ∧ Hid (wr.ownsRow G 9 1 (.slice (some ⟨G, 0, none⟩) (len + 9) (len + 9)) (len + 9) (rs.take k ++ List.replicate (len + 9 - k) zeroTx).flatten) ∧ Hid (Below G w wr)) (fun s _ => len - (intOf s).toNat)
  case atStart => exact ⟨0, Nat.zero_le _, rfl, Lib.hid (by simpa using HO1.out), Lib.hid (by rw [← HGW.out]; exact HG1.out)⟩
  case round =>
    obtain ⟨k, hk, rfl, HO, HB⟩ := hrel
    have k0 : (0 : Int) ≤ k := by omega
    have hLn : ∀ r ∈ rs.take k ++ List.replicate (len + 9 - k) zeroTx, r.length = 1 := by
      intro r hr
      rcases List.mem_append.1 hr with h | h
      · exact HN.out r (List.mem_of_mem_take h)
      · rw [List.eq_of_mem_replicate h]; rfl
    have HLN := Lib.hid hLn
    clear hLn
    by_cases hlt : k < len
    · have k1 : (k : Int) < len := by omega
      have k2 : (k : Int) < (len : Int) + 9 := by omega
      have hkl : k < rs.length := by rw [HL.out]; exact hlt
      have hkx : k < xs.length := by rw [HXL.out]; exact hlt
      obtain ⟨b, off, rfl, hbl, hc⟩ := text_cell HR.out (List.getElem?_eq_getElem hkx)
      have HE := Lib.hid (show rs[k]'hkl = strR (xs[k]'hkx) by simp only [← HRS.out, List.getElem_map])
      generalize xs[k]'hkx = s at *
      have d0 : wr.cell? ⟨b, off + k, none⟩ = some (.string s) := (HB.out.cell (p := ⟨b, off + k, none⟩) (by rw [← HGW.out]; exact hbl)).trans hc
      have hset := rows_put HLN.out HO.out (i := k) (by rw [List.length_append, List.length_take, List.length_replicate]; omega) (r := strR s) rfl
      have hrow := fun j hj => rows_cell HLN.out (m := len + 9) (by rw [List.length_append, List.length_take, List.length_replicate]; omega) HO.out (i := k) (r := zeroTx) (by rw [List.getElem?_append_right (by rw [List.length_take]; omega), List.length_take, List.getElem?_replicate, if_pos (by omega)]) j hj
      have e0 : wr.cell? ⟨G, k, none⟩ = some (.string ⟨#[]⟩) := by have := hrow 0 (by decide); rwa [Nat.mul_one] at this
      have f0 : wr.frozen? ⟨G, k, none⟩ = false := HO.out.frozenAt _
      have HS := Lib.hid hset
      have HT := Lib.hid (show (rs.take k ++ List.replicate (len + 9 - k) zeroTx).set k (strR s) = rs.take (k + 1) ++ List.replicate (len + 9 - (k + 1)) zeroTx by
        rw [show len + 9 - k = (len + 9 - (k + 1)) + 1 by omega, set_fill (by rw [List.length_take]; omega), ← HE.out]
        rw [show rs.take (k + 1) = rs.take k ++ [rs[k]'hkl] from List.take_succ_eq_append_getElem hkl])
      clear hset hrow hc
      unfold strR at HS
      simp only [Nat.mul_one] at HS
      go_wp2_with (fail)
      refine ⟨⟨k + 1, by omega, by go_num, Lib.hid ?_, Lib.hid (HB.out.grown HS.out.2 (by have := HB.out.size; have := HGW.out; omega) (fun j e => by cases e; exact Nat.le_refl _))⟩, by first | (simp [intOf]; done) | (simp [intOf]; omega)⟩
      rw [← HT.out]
      exact HS.out.1
    · have hkn : k = len := by omega
      subst hkn
      have HO2 : Hid (wr.ownsRow G 9 1 (.slice (some ⟨G, 0, none⟩) (k + 9) (k + 9)) (k + 9) (rs ++ List.replicate 9 zeroTx).flatten) := Lib.hid (by
        have := HO.out
        rwa [List.take_of_length_le (by rw [HL.out]; exact Nat.le_refl _), show k + 9 - k = 9 by omega] at this)
      clear HO HLN
      go_wp2_with (fail)
      go_loopw [5] (fun s wr => ∃ j : Nat, j ≤ 9 ∧ s = .int .i64 ((k : Int) + j) ∧ Hid (wr.ownsRow G 9 1 (.slice (some ⟨G, 0, none⟩) (k + 9) (k + 9)) (k + 9) (rs ++ ((List.range j).map markTx ++ List.replicate (9 - j) zeroTx)).flatten) ∧ Hid (Below G w wr)) (fun s _ => k + 9 - (intOf s).toNat)
      case atStart => exact ⟨0, by omega, by go_num, HO2, HB⟩
      case round =>
        rename World => wz
        obtain ⟨j, hj, rfl, HO, HB⟩ := hrel
        have j0 : (0 : Int) ≤ (k : Int) + j := by omega
        by_cases hlt : j < 9
        · have j1 : (k : Int) + j < (k : Int) + 9 := by omega
          have hLn : ∀ r ∈ rs ++ ((List.range j).map markTx ++ List.replicate (9 - j) zeroTx), r.length = 1 := by
            intro r hr
            rcases List.mem_append.1 hr with h | h
            · exact HN.out r h
            · rcases List.mem_append.1 h with h | h
              · obtain ⟨q, _, rfl⟩ := List.mem_map.1 h; rfl
              · rw [List.eq_of_mem_replicate h]; rfl
          have HLn := Lib.hid hLn
          have hlenL : (rs ++ ((List.range j).map markTx ++ List.replicate (9 - j) zeroTx)).length = k + 9 := by simp; have := HL.out; omega
          have HlenL := Lib.hid hlenL
          have hget : (rs ++ ((List.range j).map markTx ++ List.replicate (9 - j) zeroTx))[k + j]? = some zeroTx := by
            rw [List.getElem?_append_right (by rw [HL.out]; omega), HL.out, List.getElem?_append_right (by simp), List.length_map, List.length_range, List.getElem?_replicate, if_pos (by omega)]
          have Hget := Lib.hid hget
          have HT := Lib.hid (show (rs ++ ((List.range j).map markTx ++ List.replicate (9 - j) zeroTx)).set (k + j) (markTx j) = rs ++ ((List.range (j + 1)).map markTx ++ List.replicate (9 - (j + 1)) zeroTx) by
            rw [← List.append_assoc, show 9 - j = (9 - (j + 1)) + 1 by omega, set_fill (by simp; have := HL.out; omega), List.range_succ, List.map_append]
            simp)
          have HMK := Lib.hid (show markTx j = [Value.string (markT (700 + (j : Int)))] from rfl)
          have HTX := Lib.hid (fun wx => text_any (700 + (j : Int)) (by omega) (by omega) wx)
          have hmk : 700 + ((k : Int) + j) - (k : Int) = 700 + (j : Int) := by omega
          generalize markT (700 + (j : Int)) = MT at *
          clear hget hlenL hLn
          go_wp2_with (fail)
          first | rw [hmk] | skip
          refine (HTX.out _).mono ?_
          rintro e wb ⟨rfl, hbb⟩
          have HOB := Lib.hid (below_ownT HO.out hbb)
          have HBB := Lib.hid (HB.out.trans (hbb.mono (by rw [← HGW.out]; exact HB.out.size)))
          have hset := rows_put HLn.out HOB.out (i := k + j) (by rw [HlenL.out]; omega) (r := markTx j) rfl
          have e0 : wb.cell? ⟨G, k + j, none⟩ = some (.string ⟨#[]⟩) := by have := rows_cell HLn.out HlenL.out HOB.out Hget.out 0 (by decide); rwa [Nat.mul_one] at this
          have f0 : wb.frozen? ⟨G, k + j, none⟩ = false := HOB.out.frozenAt _
          rw [HMK.out] at hset
          simp only [Nat.mul_one] at hset
          have HS := Lib.hid hset
          clear hset hbb
          go_wp2_with (fail)
          refine ⟨⟨j + 1, by omega, by go_num, Lib.hid ?_, Lib.hid (HBB.out.grown HS.out.2 (by have := HBB.out.size; have := HGW.out; omega) (fun q e => by cases e; exact Nat.le_refl _))⟩, by first | (simp [intOf]; done) | (simp [intOf]; omega)⟩
          rw [← HT.out, HMK.out]
          exact HS.out.1
        · have hj9 : j = 9 := by omega
          subst hj9
          go_wp2_with (fail)
          go_ret
          refine ⟨by first | rfl | (rw [← HGW.out]; rfl) | (rw [HGW.out]; rfl), ?_, by rw [HGW.out]; exact HB.out⟩
          have := HO.out
          simp only [Nat.sub_self, List.replicate_zero, List.append_nil] at this
          rw [HGW.out]
          exact this

set_option maxHeartbeats 6400000 in
set_option maxRecDepth 100000 in
theorem sameTx_any {w : World} (a b : Option Addr) (len ca cb : Nat) (xs : List ByteArray) (hl : xs.length = len) (hb : len * 16 ≤ 140737488351232) (ha : RowsAt w a 1 (xs.map strR)) (hb2 : RowsAt w b 1 (xs.map strR)) :
    Calls Try.prog 32 #[.slice a len ca, .slice b len cb] w fun e w' => e = .returned (.bool true) ∧ Below w.heap.size w w' := by
  have HA := Lib.hid ha
  have HB := Lib.hid hb2
  have HL := Lib.hid hl
  clear ha hb2 hl
  go_enter Try.func32, Try.ntmps32
  go_wp2_with (fail)
  go_loopw [5] (fun s wr => ∃ k : Nat, k ≤ len ∧ s = .int .i64 k ∧ Hid (Below w.heap.size w wr)) (fun s _ => len - (intOf s).toNat)
  case atStart => exact ⟨0, Nat.zero_le _, rfl, Lib.hid (Below.refl _ _)⟩
  case round =>
    obtain ⟨k, hk, rfl, HW⟩ := hrel
    have k0 : (0 : Int) ≤ k := by omega
    by_cases hlt : k < len
    · have k1 : (k : Int) < len := by omega
      obtain ⟨x, hx⟩ : ∃ x, xs[k]? = some x := ⟨_, List.getElem?_eq_getElem (by rw [HL.out]; exact hlt)⟩
      obtain ⟨p, po, rfl, hpl, hpc⟩ := text_cell HA.out hx
      obtain ⟨q, qo, rfl, hql, hqc⟩ := text_cell HB.out hx
      have d0 := (HW.out.cell (p := ⟨p, po + k, none⟩) hpl).trans hpc
      have e0 := (HW.out.cell (p := ⟨q, qo + k, none⟩) hql).trans hqc
      clear hx hpc hqc
      go_wp2_with (fail)
      go_quiet (fail)
      go_wp2_with (fail)
      exact ⟨⟨k + 1, by omega, by go_num, Lib.hid (below_drewH HW.out _)⟩, by first | (simp [intOf]; done) | (simp [intOf]; omega)⟩
    · go_wp2_with (fail)
      go_ret
      exact ⟨rfl, HW.out⟩

set_option maxHeartbeats 6400000 in
set_option maxRecDepth 100000 in
theorem keptTx_any {w : World} (G : Nat) (base : Nat) (b : Option Addr) (len cb : Nat) (xs : List ByteArray) (hl : xs.length = len) (hb : len * 16 ≤ 140737488351232) (ho : w.ownsRow base 9 1 (.slice (some ⟨G, 0, none⟩) (len + 9) (len + 9)) (len + 9) (fullTx (xs.map strR)).flatten) (hb2 : RowsAt w b 1 (xs.map strR)) :
    Calls Try.prog 12 #[.slice (some ⟨G, 0, none⟩) len (len + 9), .slice b len cb] w fun e w' => e = .returned (.bool true) ∧ Below w.heap.size w w' := by
  have hLn : ∀ r ∈ fullTx (xs.map strR), r.length = 1 := by
    intro r hr
    rcases List.mem_append.1 hr with h | h
    · exact lenTx xs r h
    · obtain ⟨q, _, rfl⟩ := List.mem_map.1 h; rfl
  have hlenL : (fullTx (xs.map strR)).length = len + 9 := by unfold fullTx; simp [hl]
  have hcell := fun i r (hi : (fullTx (xs.map strR))[i]? = some r) j hj => rows_cell hLn hlenL ho hi j hj
  have hrow : RowsAt w (some ⟨G, 0, none⟩) 1 (xs.map strR) := Or.inr ⟨G, 0, rfl, (ho.lt G rfl).2, fun j r hj q u hq hu => by
    rw [Nat.zero_add]
    refine (hcell j r ?_ q hq).trans hu
    unfold fullTx
    rw [List.getElem?_append_left (List.getElem?_eq_some_iff.1 hj).1]; exact hj⟩
  have HS := Lib.hid (sameTx_any (some ⟨G, 0, none⟩) b len (len + 9) cb xs hl hb hrow hb2)
  have HG := Lib.hid (ho.lt G rfl).2
  have HC := Lib.hid (show ∀ j, j < 9 → w.cell? ⟨G, len + j, none⟩ = some (.string (markT (700 + (j : Int)))) from fun j hj => by
    have h := hcell (len + j) (markTx j) (by
      unfold fullTx
      rw [List.getElem?_append_right (by rw [List.length_map, hl]; omega), List.length_map, hl, Nat.add_sub_cancel_left, List.getElem?_map, List.getElem?_range hj]; rfl) 0 (by decide)
    rwa [Nat.mul_one] at h)
  have hw9 : IntKind.i64.wrap ((len : Int) + 9) = (len : Int) + 9 := by rw [IntKind.wrap_i64]; omega
  clear hLn hlenL hcell hrow ho hb2 hl
  go_enter Try.func12, Try.ntmps12
  go_wp2_with (fail)
  refine HS.out.mono ?_
  rintro e w1 ⟨rfl, hb1⟩
  have HB1 := Lib.hid hb1
  clear hb1
  go_wp2_with (fail)
  go_loopw [6] (fun s wr => ∃ t : Nat, len ≤ t ∧ t ≤ len + 9 ∧ s = .int .i64 t ∧ Hid (Below w.heap.size w wr)) (fun s _ => len + 9 - (intOf s).toNat)
  case atStart => exact ⟨len, Nat.le_refl _, by omega, rfl, HB1⟩
  case round =>
    rename World => wz
    obtain ⟨t, ht0, ht, rfl, HW⟩ := hrel
    have j0 : (0 : Int) ≤ t := by omega
    by_cases hlt : t < len + 9
    · have j1 : (t : Int) < (len : Int) + 9 := by omega
      have hcj : w.cell? ⟨G, t, none⟩ = some (.string (markT (700 + (t : Int) - (len : Int)))) := by
        have h := HC.out (t - len) (by omega)
        rw [show len + (t - len) = t by omega, show 700 + ((t - len : Nat) : Int) = 700 + (t : Int) - (len : Int) by omega] at h
        exact h
      have HTX := Lib.hid (fun wx => text_any (700 + (t : Int) - (len : Int)) (by omega) (by omega) wx)
      have hR1 : IntKind.i64.wrap (700 + (t : Int)) = 700 + (t : Int) := by rw [IntKind.wrap_i64]; omega
      have hR2 : IntKind.i64.wrap (700 + (t : Int) - (len : Int)) = 700 + (t : Int) - (len : Int) := by rw [IntKind.wrap_i64]; omega
      generalize markT (700 + (t : Int) - (len : Int)) = MT at *
      have SB : Hid (∀ wx, Below w.heap.size w wx → (fun wx => wx.cell? ⟨G, t, none⟩ = some (.string MT) ∧ Below w.heap.size w wx) wx) := Lib.hid (fun wx hx => ⟨(hx.cell (p := ⟨G, t, none⟩) HG.out).trans hcj, hx⟩)
      clear hcj
      go_wp2_with (fail)
      refine wp_region_noPanic ?_
      refine wp_region_held_drew (S := (fun wx => wx.cell? ⟨G, t, none⟩ = some (.string MT) ∧ Below w.heap.size w wx)) (by kernel_rfl) ?_ (fun hHeld => ?_)
      · exact SB.out _ HW.out.drew
      refine wpAnyH_take (i := 0) (v := ?_) rfl (by kernel_rfl) (by kernel_rfl) (by kernel_rfl) (fun _ _ _ h => h) (Or.inl ⟨by rfl, ?hy⟩) (by assumption) ?_
      case hy => intro w hSw; (try dsimp only at hSw); go_simp; try with_reducible rfl
      try simp only [Act.put, List.getElem_toArray, List.getElem_cons_succ, List.getElem_cons_zero, List.setIfInBounds_toArray, List.set_cons_zero, List.set_cons_succ]
      refine wpAnyH_take (i := 1) (v := ?_) rfl (by kernel_rfl) (by kernel_rfl) (by kernel_rfl) (fun _ _ _ h => h) (Or.inl ⟨by rfl, ?hy⟩) (by assumption) ?_
      case hy => intro w hSw; (try dsimp only at hSw); go_simp; try with_reducible rfl
      try simp only [Act.put, List.getElem_toArray, List.getElem_cons_succ, List.getElem_cons_zero, List.setIfInBounds_toArray, List.set_cons_zero, List.set_cons_succ]
      refine wpAnyH_take (i := 2) (v := ?_) rfl (by kernel_rfl) (by kernel_rfl) (by kernel_rfl) (fun _ _ _ h => h) (Or.inl ⟨by rfl, ?hy⟩) (by assumption) ?_
      case hy => intro w hSw; (try dsimp only at hSw); go_simp; try with_reducible rfl
      try simp only [Act.put, List.getElem_toArray, List.getElem_cons_succ, List.getElem_cons_zero, List.setIfInBounds_toArray, List.set_cons_zero, List.set_cons_succ]
      refine wpAnyH_take (i := 3) (v := ?_) rfl (by kernel_rfl) (by kernel_rfl) (by kernel_rfl) (fun _ _ _ h => h) (Or.inl ⟨by rfl, ?hy⟩) (by assumption) ?_
      case hy => intro w hSw; (try dsimp only at hSw); go_simp; try with_reducible rfl
      try simp only [Act.put, List.getElem_toArray, List.getElem_cons_succ, List.getElem_cons_zero, List.setIfInBounds_toArray, List.set_cons_zero, List.set_cons_succ]
      refine wpAnyH_take (i := 4) (v := ?_) rfl (by kernel_rfl) (by kernel_rfl) (by kernel_rfl) (fun _ _ _ h => h) (Or.inl ⟨by rfl, ?hy⟩) (by assumption) ?_
      case hy => intro w hSw; (try dsimp only at hSw); go_simp; try with_reducible rfl
      try simp only [Act.put, List.getElem_toArray, List.getElem_cons_succ, List.getElem_cons_zero, List.setIfInBounds_toArray, List.set_cons_zero, List.set_cons_succ]
      refine wpAnyH_take (i := 5) (v := ?_) rfl (by kernel_rfl) (by kernel_rfl) (by kernel_rfl) (fun _ _ _ h => h) (Or.inl ⟨by rfl, ?hy⟩) (by assumption) ?_
      case hy => intro w hSw; (try dsimp only at hSw); go_simp; try with_reducible rfl
      try simp only [Act.put, List.getElem_toArray, List.getElem_cons_succ, List.getElem_cons_zero, List.setIfInBounds_toArray, List.set_cons_zero, List.set_cons_succ]
      refine wpAnyH_take (i := 6) (v := ?_) rfl (by kernel_rfl) (by kernel_rfl) (by kernel_rfl) (fun _ _ _ h => h) (Or.inl ⟨by rfl, ?hy⟩) (by assumption) ?_
      case hy => intro w hSw; (try dsimp only at hSw); go_simp; try with_reducible rfl
      try simp only [Act.put, List.getElem_toArray, List.getElem_cons_succ, List.getElem_cons_zero, List.setIfInBounds_toArray, List.set_cons_zero, List.set_cons_succ]
      refine wpAnyH_take (i := 7) (v := ?_) rfl (by kernel_rfl) (by kernel_rfl) (by kernel_rfl) (fun _ _ _ h => h) (Or.inl ⟨by rfl, ?hy⟩) (by assumption) ?_
      case hy => intro w hSw; (try dsimp only at hSw); go_simp; try with_reducible rfl
      try simp only [Act.put, List.getElem_toArray, List.getElem_cons_succ, List.getElem_cons_zero, List.setIfInBounds_toArray, List.set_cons_zero, List.set_cons_succ]
      refine wpAnyH_take (i := 8) (v := ?_) rfl (by kernel_rfl) (by kernel_rfl) (by kernel_rfl) (fun _ _ _ h => h) (Or.inl ⟨by rfl, ?hy⟩) (by assumption) ?_
      case hy => intro w hSw; (try dsimp only at hSw); go_simp; try with_reducible rfl
      try simp only [Act.put, List.getElem_toArray, List.getElem_cons_succ, List.getElem_cons_zero, List.setIfInBounds_toArray, List.set_cons_zero, List.set_cons_succ]
      refine wpAnyH_ready (rs := [9]) (by kernel_rfl) (by simp) (AllReadyH.cons rfl (fun K hK => ?_) AllReadyH.nil)
      go_simp
      go_at_call 24; refine (HTX.out _).mono ?_; rintro e wq ⟨rfl, hbq⟩
      try (go_wp2_with fail)
      refine hK.out _ _ ?_ (fun hHeld => ?_)
      · exact SB.out _ (hHeld.2.trans (hbq.mono hHeld.2.size))
      clear hK K
      try simp only [Act.put, List.getElem_toArray, List.getElem_cons_succ, List.getElem_cons_zero, List.setIfInBounds_toArray, List.set_cons_zero, List.set_cons_succ]
      refine wpAnyH_take (i := 10) (v := ?_) rfl (by kernel_rfl) (by kernel_rfl) (by kernel_rfl) (fun _ _ _ h => h) (Or.inl ⟨by rfl, ?hy⟩) (by assumption) ?_
      case hy => intro w hSw; (try dsimp only at hSw); go_simp; try with_reducible rfl
      try simp only [Act.put, List.getElem_toArray, List.getElem_cons_succ, List.getElem_cons_zero, List.setIfInBounds_toArray, List.set_cons_zero, List.set_cons_succ]
      refine wpAnyH_done (by kernel_rfl) ?_ _
      refine NoPanic.normal ?_
      go_wp2_with (fail)
      exact ⟨⟨t + 1, by omega, by omega, by go_num, Lib.hid hHeld.2⟩, by first | (simp [intOf]; done) | (simp [intOf]; omega)⟩
    · have j1 : ¬ (t : Int) < (len : Int) + 9 := by omega
      go_wp2_with (fail)
      go_ret
      exact ⟨rfl, HW.out⟩
end Go.Proofs.Ytockmgcgifhepaa
