/- rules.Resources: the names that rules have, each once. -/
import Derived.Test.YtgkdpkpiejjfmaaRCpI
namespace Go.Proofs.Ytgkdpkpiejjfmaa
open Go.RowKit
set_option linter.unusedVariables false
set_option linter.unusedSimpArgs false

def pushN (l : List ByteArray) (s : ByteArray) : List ByteArray := if Lib.containsS l s then l else l ++ [s]
/-- Each once. -/
def ded (l : List ByteArray) : List ByteArray := l.foldl pushN []
theorem ded_snoc (l : List ByteArray) (s : ByteArray) : ded (l ++ [s]) = pushN (ded l) s := by unfold ded; rw [List.foldl_append]; rfl
theorem pushN_len (l : List ByteArray) (s : ByteArray) : (pushN l s).length ≤ l.length + 1 := by unfold pushN; split <;> simp
theorem fold_len (xs : List ByteArray) : ∀ l, (xs.foldl pushN l).length ≤ l.length + xs.length := by
  induction xs with
  | nil => intro l; simp
  | cons x xs ih => intro l; have h1 := ih (pushN l x); have h2 := pushN_len l x; simp only [List.foldl_cons, List.length_cons]; omega
theorem ded_len (l : List ByteArray) : (ded l).length ≤ l.length := by have := fold_len l []; simpa [ded] using this
def nmF (f : FlowS) : List ByteArray := if f.ref.toList == [] then [f.res] else [f.res, f.ref]
def pre1 (r : RulesS) (k : Nat) : List ByteArray := (r.fl.take k).flatMap nmF
def pre2 (r : RulesS) (k : Nat) : List ByteArray := pre1 r r.n0 ++ (r.br.take k).map (·.res)
def pre3 (r : RulesS) (k : Nat) : List ByteArray := pre2 r r.n1 ++ (r.ho.take k).map (·.res)
def pre4 (r : RulesS) (k : Nat) : List ByteArray := pre3 r r.n2 ++ (r.au.take k).map (·.res)
/-- All the names. -/
def allR (r : RulesS) : List ByteArray := pre4 r r.n4
theorem pre1_len (r : RulesS) (k : Nat) : (pre1 r k).length ≤ 2 * k := by
  have h : ∀ xs : List FlowS, (xs.flatMap nmF).length ≤ 2 * xs.length := by
    intro xs
    induction xs with
    | nil => simp
    | cons x xs ih => rw [List.flatMap_cons, List.length_append, List.length_cons]; have : (nmF x).length ≤ 2 := (by unfold nmF; split <;> simp); rw [Nat.mul_add]; omega
  have := h (r.fl.take k); have := List.length_take_le k r.fl; unfold pre1; omega
theorem pre2_len (r : RulesS) (k : Nat) : (pre2 r k).length ≤ 2 * r.n0 + k := by have := pre1_len r r.n0; have := List.length_take_le k r.br; unfold pre2; simp; omega
theorem pre3_len (r : RulesS) (k : Nat) : (pre3 r k).length ≤ 2 * r.n0 + r.n1 + k := by have := pre2_len r r.n1; have := List.length_take_le k r.ho; unfold pre3; simp; omega
theorem pre4_len (r : RulesS) (k : Nat) : (pre4 r k).length ≤ 2 * r.n0 + r.n1 + r.n2 + k := by have := pre3_len r r.n2; have := List.length_take_le k r.au; unfold pre4; simp; omega
theorem pre1_next {r : RulesS} {k : Nat} {x : FlowS} (h : r.fl[k]? = some x) : pre1 r (k + 1) = pre1 r k ++ nmF x := flatMap_next h
theorem mapnext {α : Type} {f : α → ByteArray} {xs : List α} {k : Nat} {x : α} (h : xs[k]? = some x) : (xs.take (k + 1)).map f = (xs.take k).map f ++ [f x] := by rw [List.take_add_one, h]; simp
theorem pre2_next {r : RulesS} {k : Nat} {x : BreakS} (h : r.br[k]? = some x) : pre2 r (k + 1) = pre2 r k ++ [x.res] := by unfold pre2; rw [mapnext h, List.append_assoc]
theorem pre3_next {r : RulesS} {k : Nat} {x : HotS} (h : r.ho[k]? = some x) : pre3 r (k + 1) = pre3 r k ++ [x.res] := by unfold pre3; rw [mapnext h, List.append_assoc]
theorem pre4_next {r : RulesS} {k : Nat} {x : AuthS} (h : r.au[k]? = some x) : pre4 r (k + 1) = pre4 r k ++ [x.res] := by unfold pre4; rw [mapnext h, List.append_assoc]
theorem pre2_zero (r : RulesS) : pre2 r 0 = pre1 r r.n0 := by simp [pre2]
theorem pre3_zero (r : RulesS) : pre3 r 0 = pre2 r r.n1 := by simp [pre3]
theorem pre4_zero (r : RulesS) : pre4 r 0 = pre3 r r.n2 := by simp [pre4]

theorem texts_own {w : World} {base n c : Nat} {a : Option Addr} {ss : List ByteArray} (h : w.ownsRow base 9 1 (.slice a n c) n (ss.map Value.string)) : ss.length = n ∧ n ≤ c ∧ TextsAt w a ss := by
  have hl : ss.length = n := by have h1 := h.1; simpa using h1
  rcases h.2 with ⟨h1, h2⟩ | ⟨g, cap, cur, h1, hb, hg, hnc, _⟩
  · injection h1 with e1 e2 e3
    exact ⟨hl, by omega, Or.inl (List.length_eq_zero_iff.1 (by omega))⟩
  · injection h1 with e1 e2 e3
    refine ⟨hl, by omega, Or.inr ⟨g, 0, e1, (Array.getElem?_eq_some_iff.1 hg).1, fun j hj => ?_⟩⟩
    have hw := h
    rw [e1] at hw
    rw [Nat.zero_add, hw.cellAt j (by omega)]
    simp [List.getD, hj]
theorem contains_textsJ {w : World} (a : Option Addr) (len cap : Nat) (ss : List ByteArray) (hl : ss.length = len) (hm : len ≤ 9223372036854775807) (hs : TextsAt w a ss) (x : ByteArray) :
    Calls Try.prog 30 #[.slice a len cap, .string x] w fun e w' => e = .returned (.bool (Lib.containsS ss x)) ∧ w' = w := by
  rcases hs with rfl | ⟨b, off, rfl, hbl, hcell⟩
  · simp at hl
    subst hl
    exact Try.slices_Contains_string_empty a cap x w
  · have := Try.slices_Contains_string b off len cap ss x w (by omega) hm hcell
    rwa [List.take_of_length_le (by omega)] at this

/-- What lies in memory while the closure notes. -/
structure ResI (w0 : World) (base bl : Nat) (ns : List ByteArray) (w : World) : Prop where
  bel : Below w0.heap.size w0 w
  b0 : w0.heap.size ≤ bl
  l0 : bl < base
  bs : base ≤ w.heap.size
  row : ∃ v, w.heap[bl]? = some (.cells #[v] 36) ∧ w.ownsRow base 9 1 v ns.length (ns.map Value.string)
theorem ResI.below {w0 w w' : World} {base bl : Nat} {ns : List ByteArray} (h : ResI w0 base bl ns w) (hb : Below w.heap.size w w') : ResI w0 base bl ns w' := by
  obtain ⟨v, h1, h2⟩ := h.row
  have hl := h.l0
  have hs := h.bs
  refine ⟨h.bel.trans (hb.mono h.bel.size), h.b0, h.l0, Nat.le_trans h.bs hb.size, v, (hb.block bl (by omega)).trans h1, ?_⟩
  exact h2.kept (row := none) ⟨hb.os, hb.tape, hb.output, hb.size, fun k hk _ => hb.block k hk⟩ (by cases v.ownBlock <;> simp)
theorem ResI.alloc {w0 w : World} {base bl : Nat} {ns : List ByteArray} (h : ResI w0 base bl ns w) (o : Obj) : ResI w0 base bl ns (w.alloc o) := h.below ((Below.refl _ _).alloc (Nat.le_refl _) o)
def TextsP (w : World) (xs : List ByteArray) (e : Ending) (w' : World) : Prop := ∃ v, e = .returned v ∧ w'.ownsRow w.heap.size 9 1 v xs.length (xs.map Value.string) ∧ Below w.heap.size w w'
theorem info_strJ : (Try.prog.info? 9).map (fun i => (i.zero, i.size, i.bytes)) = some (some (.string ⟨#[]⟩), 1, 16) := by kernel_rfl

set_option maxHeartbeats 3200000 in
set_option maxRecDepth 100000 in
theorem rnote_any {w0 w : World} {base bl : Nat} {ns : List ByteArray} (h : ResI w0 base bl ns w) (s : ByteArray) (hroom : ns.length + 1 ≤ 8796093022208) :
    Calls Try.prog 29 #[.string s, .pointer (some ⟨bl, 0, none⟩)] w fun e w' => e = .returned (.tuple #[]) ∧ ResI w0 base bl (pushN ns s) w' ∧ ∀ k, k < w.heap.size → k ≠ bl → typeAt w k ≠ some 9 → w'.heap[k]? = w.heap[k]? := by
  obtain ⟨i0, hi, hz0, hz1, hz2⟩ := info_partsO info_strJ
  have HH := Lib.hid h
  obtain ⟨v, h1, h2⟩ := h.row
  have c1 := box_one h1
  have c2 := box_oneF h1
  have HB := Lib.hid h1
  obtain ⟨va, vc, rfl⟩ := own_sliceO h2
  have hbs := h.bs
  have HR := Lib.hid h2
  obtain ⟨hl1, hl2, hta⟩ := texts_own h2
  have HC := Lib.hid (contains_textsJ va ns.length vc ns hl1 (by omega) hta s)
  clear h h1 h2 hl1 hl2 hta
  cases hs : Lib.containsS ns s
  · have HP := Lib.hid (show pushN ns s = ns ++ [s] by unfold pushN; rw [hs]; rfl)
    go_enter Try.func29, Try.ntmps29
    go_wp2_with (fail)
    refine HC.out.mono ?_
    rintro e w1 ⟨rfl, rfl⟩
    rw [hs]
    go_wp2_with (at_builtin; refine wpList_append_own _ rfl (.tmp 7) (.tmp 9) 36 rfl base 9 i0 (.string ⟨#[]⟩) 1 16 Try.underlying36 hi hz0 hz1 hz2 rfl (by decide) (.slice va ns.length vc) ns.length (ns.map Value.string) rfl (HR.out.alloc _) ⟨w1.heap.size, 0, none⟩ 1 1 [.string s] rfl rfl (one_cellO _ _ _) (by simp [Value.oneCell']) (by unfold maxLen; omega) (by omega) (by simp; omega) ?_; intro v3 w3 hown3 hg3 _; obtain ⟨va3, vc3, rfl⟩ := own_sliceO hown3; have hl0 := HH.out.l0; have hb3 : w3.heap[bl]? = some (.cells #[.slice va ns.length vc] 36) := (hg3.block bl (by simp; omega) (fun e => by have := HR.out.lt bl e.symm; omega)).trans ((Below.heap_alloc _ _ _ (by omega)).trans HB.out); have c3 := box_one hb3; have c4 := box_oneF hb3)
    go_wp2_with (fail)
    go_end0
    rw [HP.out]
    have hgb : Below w0.heap.size w0 w3 := ((HH.out.bel.alloc HH.out.bel.size _).grown hg3 (by have := HH.out.bel.size; simp; omega) (fun k e => by have := HR.out.lt k e; have := HH.out.b0; omega))
    have hsz3 := hg3.size
    simp at hsz3
    refine ⟨rfl, ⟨hgb.setCell HH.out.b0 _, HH.out.b0, hl0, by simp [World.setCell]; omega, _, heap_setCell_same w3 bl 0 _ _ _ hb3, ?_⟩, fun k hk hkb hkt => ?_⟩
    case refine_2 =>
      rw [heap_setCell_other _ _ _ _ hkb, hg3.block k (by simp; omega) (fun e => hkt (typeAt_own HR.out e.symm).1), get_allocC, if_neg (by omega)]
    have : (ns ++ [s]).map Value.string = ns.map Value.string ++ [.string s] := by simp
    rw [this, List.length_append]
    refine ⟨hown3.1, ?_⟩
    rcases hown3.2 with h | ⟨g, cap, cur, e1, e2, e3, e4⟩
    · exact Or.inl h
    · exact Or.inr ⟨g, cap, cur, e1, e2, (heap_setCell_other _ _ _ _ (by dsimp only; omega)).trans e3, e4⟩
  · have HP := Lib.hid (show pushN ns s = ns by unfold pushN; rw [hs]; rfl)
    go_enter Try.func29, Try.ntmps29
    go_wp2_with (fail)
    refine HC.out.mono ?_
    rintro e w1 ⟨rfl, rfl⟩
    rw [hs]
    go_wp2_with (fail)
    go_end0
    exact ⟨rfl, by rw [HP.out]; exact HH.out, fun k _ _ _ => rfl⟩
theorem ResI.post {w w0 : World} {base bl : Nat} {ns : List ByteArray} {w' : World} {v : Value} (h : ResI w0 base bl ns w') (hb : Below w.heap.size w w0) (hc : w'.heap[bl]? = some (.cells #[v] 36)) : TextsP w ns (.returned v) w' := by
  obtain ⟨v', h1, h2⟩ := h.row
  obtain rfl : v' = v := by rw [hc] at h1; injection h1 with h1; injection h1 with h1; injection h1 with h1; injection h1 with h1; exact h1.symm
  exact ⟨v', rfl, ownsG h2 (by have := h.b0; have := h.l0; have := hb.size; omega), hb.trans (h.bel.mono hb.size)⟩

set_option maxHeartbeats 12800000 in
set_option maxRecDepth 100000 in
theorem pres_any {w : World} (r : RulesS) (hr : RulesAt w r) (q0 : r.n0 ≤ 1048576) (q1 : r.n1 ≤ 1048576) (q2 : r.n2 ≤ 1048576) (q4 : r.n4 ≤ 1048576) :
    Calls Try.prog 11 #[.agg r.cs] w (TextsP w (ded (allR r))) := by
  have HR := Lib.hid hr
  obtain ⟨W1, hW1⟩ : ∃ W1, w.alloc (.cells r.cs 28) = W1 := ⟨_, rfl⟩
  have hz1 : W1.heap.size = w.heap.size + 1 := by rw [← hW1]; simp
  have hb1 : Below w.heap.size w W1 := by rw [← hW1]; exact (Below.refl _ _).alloc (Nat.le_refl _) _
  have g1 : W1.heap[w.heap.size]? = some (.cells r.cs 28) := by rw [← hW1, get_allocC, if_pos rfl]
  have hc := get5J W1 _ _ _ _ _ _ g1
  have HB1 := Lib.hid hb1
  have HIO : Hid (∀ wx, Below W1.heap.size W1 wx → ∀ b, b < w.heap.size → wx.heap[b]? = w.heap[b]?) := fun wx h b hb => (h.block b (by omega)).trans (hb1.block b hb)
  have HST : Hid (ResI W1 (w.heap.size + 2) (w.heap.size + 1) (ded (pre1 r 0)) (W1.alloc (.cells #[.slice none 0 0] 36))) := by
    refine ⟨(Below.refl _ _).alloc (Nat.le_refl _) _, by omega, by omega, by simp; omega, .slice none 0 0, by rw [get_allocC, if_pos hz1.symm], ?_⟩
    have : ded (pre1 r 0) = [] := by simp [pre1, ded]
    rw [this]
    exact World.ownsRow_nil _ _ _ _
  have hWC : ∀ wx, Below W1.heap.size W1 wx → wx.heap[w.heap.size]? = some (.cells r.cs 28) := fun wx h => (h.block w.heap.size (by omega)).trans g1
  unfold RulesS.cs at hW1 g1 hWC ⊢
  obtain ⟨n0, hn0⟩ : ∃ n, r.n0 = n := ⟨_, rfl⟩
  obtain ⟨n1, hn1⟩ : ∃ n, r.n1 = n := ⟨_, rfl⟩
  obtain ⟨n2, hn2⟩ : ∃ n, r.n2 = n := ⟨_, rfl⟩
  obtain ⟨n4, hn4⟩ : ∃ n, r.n4 = n := ⟨_, rfl⟩
  obtain ⟨a0, ha0⟩ : ∃ a, r.a0 = a := ⟨_, rfl⟩
  obtain ⟨a1, ha1⟩ : ∃ a, r.a1 = a := ⟨_, rfl⟩
  obtain ⟨a2, ha2⟩ : ∃ a, r.a2 = a := ⟨_, rfl⟩
  obtain ⟨a4, ha4⟩ : ∃ a, r.a4 = a := ⟨_, rfl⟩
  have HN0 := Lib.hid hn0
  have HN1 := Lib.hid hn1
  have HN2 := Lib.hid hn2
  have HN4 := Lib.hid hn4
  have HA0 := Lib.hid ha0
  have HA1 := Lib.hid ha1
  have HA2 := Lib.hid ha2
  have HA4 := Lib.hid ha4
  rw [hn0] at q0
  rw [hn1] at q1
  rw [hn2] at q2
  rw [hn4] at q4
  simp only [hn0, hn1, hn2, hn4, ha0, ha1, ha2, ha4] at hW1 g1 hWC hc ⊢
  have HE1 : Hid (∀ wx, Below W1.heap.size W1 wx → wx.cell? ⟨w.heap.size, 1, none⟩ = some (.slice a1 n1 r.c1)) := fun wx h => (get5J wx _ _ _ _ _ _ (hWC wx h)).2.1
  have HE2 : Hid (∀ wx, Below W1.heap.size W1 wx → wx.cell? ⟨w.heap.size, 2, none⟩ = some (.slice a2 n2 r.c2)) := fun wx h => (get5J wx _ _ _ _ _ _ (hWC wx h)).2.2.1
  have HE4 : Hid (∀ wx, Below W1.heap.size W1 wx → wx.cell? ⟨w.heap.size, 4, none⟩ = some (.slice a4 n4 r.c4)) := fun wx h => (get5J wx _ _ _ _ _ _ (hWC wx h)).2.2.2.2
  have e0 : (W1.alloc (.cells #[.slice none 0 0] 36)).cell? ⟨w.heap.size, 0, none⟩ = some (.slice a0 n0 r.c0) := (get5J _ _ _ _ _ _ _ (hWC _ ((Below.refl _ _).alloc (Nat.le_refl _) _))).1
  have HZ1 := Lib.hid hz1
  clear hr hb1 g1 hWC hc hn0 hn1 hn2 hn4 ha0 ha1 ha2 ha4 hz1
  subst hW1
  go_enter Try.func11, Try.ntmps11
  go_wp2_with (fail)
  generalize w.alloc _ = W1 at *
  generalize W1.alloc _ = W at *
  go_loopw [6, 17] (fun _ i wr => ∃ k : Nat, k ≤ n0 ∧ i = .int .i64 k ∧ Hid (ResI W1 (w.heap.size + 2) (w.heap.size + 1) (ded (pre1 r k)) wr)) (fun _ i _ => n0 - (intOf i).toNat)
  case atStart => exact ⟨0, Nat.zero_le _, rfl, HST⟩
  case round =>
    rename World => wr
    obtain ⟨k, hk, rfl, HI⟩ := hrel
    by_cases hlt : k < n0
    · obtain ⟨x, hx⟩ : ∃ x, r.fl[k]? = some x := ⟨_, List.getElem?_eq_getElem (by rw [HR.out.l0, HN0.out]; exact hlt)⟩
      obtain ⟨b, off, hab, hbl, hfa⟩ := flowsAt_get HR.out.fl hx
      obtain ⟨d0, d1, d2, d3, d4, d5, d6, d7, d8, d9, d10, d11⟩ := hfa.of_block (HIO.out _ HI.out.bel b hbl)
      rw [HA0.out] at hab
      subst hab
      have HNT := Lib.hid (rnote_any (HI.out.alloc (.cells #[.string x.res, .string x.org, .bool x.thr, .int .i64 x.cnt, .int .u8 x.strat, .string x.ref, .int .u8 x.shape, .int .i64 x.warm, .int .i64 x.queue, .bool x.cl, .int .i64 x.id, .bool x.fb] 41)) x.res (by have h1 := ded_len (pre1 r k); have h2 := pre1_len r k; omega))
      have k0 : (0 : Int) ≤ k := by omega
      have k1 : (k : Int) < n0 := by omega
      have HPL := Lib.hid (show (pushN (ded (pre1 r k)) x.res).length + 1 ≤ 8796093022208 by have h1 := ded_len (pre1 r k); have h2 := pre1_len r k; have h3 := pushN_len (ded (pre1 r k)) x.res; omega)
      cases hrf : (x.ref.toList == [])
      · have HS := Lib.hid (show ded (pre1 r (k + 1)) = pushN (pushN (ded (pre1 r k)) x.res) x.ref by rw [pre1_next hx]; unfold nmF; rw [hrf, if_neg (by decide), show pre1 r k ++ [x.res, x.ref] = (pre1 r k ++ [x.res]) ++ [x.ref] by simp, ded_snoc, ded_snoc])
        clear hx
        go_wp2_with (fail)
        refine HNT.out.mono ?_
        rintro e w2 ⟨rfl, h1, hkp⟩
        have hx2 := (hkp wr.heap.size (by simp) (by have := HI.out.bs; omega) (by unfold typeAt; rw [get_allocC, if_pos rfl]; exact fun e => absurd (Option.some.inj e) (by decide))).trans (show _ = some (.cells #[.string x.res, .string x.org, .bool x.thr, .int .i64 x.cnt, .int .u8 x.strat, .string x.ref, .int .u8 x.shape, .int .i64 x.warm, .int .i64 x.queue, .bool x.cl, .int .i64 x.id, .bool x.fb] 41) by rw [get_allocC, if_pos rfl])
        have x5 : w2.cell? ⟨wr.heap.size, 5, none⟩ = some (.string x.ref) := by simp only [World.cell?, hx2]; rfl
        have HNT2 := Lib.hid (rnote_any h1 x.ref HPL.out)
        clear h1 hkp hx2 HNT
        go_wp2_with (fail)
        refine HNT2.out.mono ?_
        rintro e w3 ⟨rfl, h1, hkp⟩
        rw [← HS.out] at h1
        have HI1 := Lib.hid h1
        clear h1 hkp
        go_wp2_with (fail)
        exact ⟨⟨k + 1, by omega, by go_num, HI1⟩, by first | (simp [intOf]; done) | (simp [intOf]; omega)⟩
      · have HS := Lib.hid (show ded (pre1 r (k + 1)) = pushN (ded (pre1 r k)) x.res by rw [pre1_next hx]; unfold nmF; rw [hrf, if_pos rfl, ded_snoc])
        clear hx
        go_wp2_with (fail)
        refine HNT.out.mono ?_
        rintro e w2 ⟨rfl, h1, hkp⟩
        have hx2 := (hkp wr.heap.size (by simp) (by have := HI.out.bs; omega) (by unfold typeAt; rw [get_allocC, if_pos rfl]; exact fun e => absurd (Option.some.inj e) (by decide))).trans (show _ = some (.cells #[.string x.res, .string x.org, .bool x.thr, .int .i64 x.cnt, .int .u8 x.strat, .string x.ref, .int .u8 x.shape, .int .i64 x.warm, .int .i64 x.queue, .bool x.cl, .int .i64 x.id, .bool x.fb] 41) by rw [get_allocC, if_pos rfl])
        have x5 : w2.cell? ⟨wr.heap.size, 5, none⟩ = some (.string x.ref) := by simp only [World.cell?, hx2]; rfl
        rw [← HS.out] at h1
        have HI1 := Lib.hid h1
        clear h1 hkp
        go_wp2_with (fail)
        exact ⟨⟨k + 1, by omega, by go_num, HI1⟩, by first | (simp [intOf]; done) | (simp [intOf]; omega)⟩
    · have hkn : k = n0 := by omega
      rw [hkn] at HI
      clear hkn
      have HIN2 : Hid (ResI W1 (w.heap.size + 2) (w.heap.size + 1) (ded (pre2 r 0)) wr) := Lib.hid (by rw [pre2_zero, HN0.out]; exact HI.out)
      have e1 := (HE1.out _ HI.out.bel)
      clear HI
      go_wp2_with (fail)
      go_loopw [8, 36] (fun _ i wr => ∃ k : Nat, k ≤ n1 ∧ i = .int .i64 k ∧ Hid (ResI W1 (w.heap.size + 2) (w.heap.size + 1) (ded (pre2 r k)) wr)) (fun _ i _ => n1 - (intOf i).toNat)
      case atStart => exact ⟨0, Nat.zero_le _, rfl, HIN2⟩
      case round =>
        rename World => wr
        obtain ⟨k, hk, rfl, HI⟩ := hrel
        by_cases hlt : k < n1
        · obtain ⟨x, hx⟩ : ∃ x, r.br[k]? = some x := ⟨_, List.getElem?_eq_getElem (by rw [HR.out.l1, HN1.out]; exact hlt)⟩
          obtain ⟨b, off, hab, hbl, hca⟩ := rowsAt_get HR.out.br (j := k) (x := x.cs) (by rw [List.getElem?_map, hx]; rfl)
          have d0 : wr.cell? ⟨b, off + k * 7, none⟩ = some (.string x.res) := (World.cell?_of_block (a := ⟨b, off + k * 7 + 0, none⟩) (HIO.out _ HI.out.bel b hbl)).trans (hca 0 (.string x.res) (by decide) rfl)
          have d1 : wr.cell? ⟨b, off + k * 7 + 1, none⟩ = some (.int .u8 x.gr) := (World.cell?_of_block (a := ⟨b, off + k * 7 + 1, none⟩) (HIO.out _ HI.out.bel b hbl)).trans (hca 1 (.int .u8 x.gr) (by decide) rfl)
          have d2 : wr.cell? ⟨b, off + k * 7 + 2, none⟩ = some (.int .i64 x.cnt) := (World.cell?_of_block (a := ⟨b, off + k * 7 + 2, none⟩) (HIO.out _ HI.out.bel b hbl)).trans (hca 2 (.int .i64 x.cnt) (by decide) rfl)
          have d3 : wr.cell? ⟨b, off + k * 7 + 3, none⟩ = some (.int .i64 x.slow) := (World.cell?_of_block (a := ⟨b, off + k * 7 + 3, none⟩) (HIO.out _ HI.out.bel b hbl)).trans (hca 3 (.int .i64 x.slow) (by decide) rfl)
          have d4 : wr.cell? ⟨b, off + k * 7 + 4, none⟩ = some (.int .i64 x.least) := (World.cell?_of_block (a := ⟨b, off + k * 7 + 4, none⟩) (HIO.out _ HI.out.bel b hbl)).trans (hca 4 (.int .i64 x.least) (by decide) rfl)
          have d5 : wr.cell? ⟨b, off + k * 7 + 5, none⟩ = some (.int .i64 x.win) := (World.cell?_of_block (a := ⟨b, off + k * 7 + 5, none⟩) (HIO.out _ HI.out.bel b hbl)).trans (hca 5 (.int .i64 x.win) (by decide) rfl)
          have d6 : wr.cell? ⟨b, off + k * 7 + 6, none⟩ = some (.int .i64 x.rec_) := (World.cell?_of_block (a := ⟨b, off + k * 7 + 6, none⟩) (HIO.out _ HI.out.bel b hbl)).trans (hca 6 (.int .i64 x.rec_) (by decide) rfl)
          rw [HA1.out] at hab
          subst hab
          have HNT := Lib.hid (rnote_any (HI.out.alloc (.cells #[.string x.res, .int .u8 x.gr, .int .i64 x.cnt, .int .i64 x.slow, .int .i64 x.least, .int .i64 x.win, .int .i64 x.rec_] 51)) x.res (by have h1 := ded_len (pre2 r k); have h2 := pre2_len r k; have := HN0.out; omega))
          have k0 : (0 : Int) ≤ k := by omega
          have k1 : (k : Int) < n1 := by omega
          have HS := Lib.hid (show ded (pre2 r (k + 1)) = pushN (ded (pre2 r k)) x.res by rw [pre2_next hx, ded_snoc])
          clear hx
          go_wp2_with (fail)
          refine HNT.out.mono ?_
          rintro e w2 ⟨rfl, h1, hkp⟩
          rw [← HS.out] at h1
          have HI1 := Lib.hid h1
          clear h1 hkp
          go_wp2_with (fail)
          exact ⟨⟨k + 1, by omega, by go_num, HI1⟩, by first | (simp [intOf]; done) | (simp [intOf]; omega)⟩
        · have hkn : k = n1 := by omega
          rw [hkn] at HI
          clear hkn
          have HIN3 : Hid (ResI W1 (w.heap.size + 2) (w.heap.size + 1) (ded (pre3 r 0)) wr) := Lib.hid (by rw [pre3_zero, HN1.out]; exact HI.out)
          have e2 := (HE2.out _ HI.out.bel)
          clear HI
          go_wp2_with (fail)
          go_loopw [10, 48] (fun _ i wr => ∃ k : Nat, k ≤ n2 ∧ i = .int .i64 k ∧ Hid (ResI W1 (w.heap.size + 2) (w.heap.size + 1) (ded (pre3 r k)) wr)) (fun _ i _ => n2 - (intOf i).toNat)
          case atStart => exact ⟨0, Nat.zero_le _, rfl, HIN3⟩
          case round =>
            rename World => wr
            obtain ⟨k, hk, rfl, HI⟩ := hrel
            by_cases hlt : k < n2
            · obtain ⟨x, hx⟩ : ∃ x, r.ho[k]? = some x := ⟨_, List.getElem?_eq_getElem (by rw [HR.out.l2, HN2.out]; exact hlt)⟩
              obtain ⟨b, off, hab, hbl, hca⟩ := rowsAt_get HR.out.ho (j := k) (x := x.cs) (by rw [List.getElem?_map, hx]; rfl)
              have d0 : wr.cell? ⟨b, off + k * 5, none⟩ = some (.string x.res) := (World.cell?_of_block (a := ⟨b, off + k * 5 + 0, none⟩) (HIO.out _ HI.out.bel b hbl)).trans (hca 0 (.string x.res) (by decide) rfl)
              have d1 : wr.cell? ⟨b, off + k * 5 + 1, none⟩ = some (.int .i64 x.idx) := (World.cell?_of_block (a := ⟨b, off + k * 5 + 1, none⟩) (HIO.out _ HI.out.bel b hbl)).trans (hca 1 (.int .i64 x.idx) (by decide) rfl)
              have d2 : wr.cell? ⟨b, off + k * 5 + 2, none⟩ = some (.int .i64 x.cnt) := (World.cell?_of_block (a := ⟨b, off + k * 5 + 2, none⟩) (HIO.out _ HI.out.bel b hbl)).trans (hca 2 (.int .i64 x.cnt) (by decide) rfl)
              have d3 : wr.cell? ⟨b, off + k * 5 + 3, none⟩ = some (.int .i64 x.secs) := (World.cell?_of_block (a := ⟨b, off + k * 5 + 3, none⟩) (HIO.out _ HI.out.bel b hbl)).trans (hca 3 (.int .i64 x.secs) (by decide) rfl)
              have d4 : wr.cell? ⟨b, off + k * 5 + 4, none⟩ = some (.slice x.ia x.il x.ic) := (World.cell?_of_block (a := ⟨b, off + k * 5 + 4, none⟩) (HIO.out _ HI.out.bel b hbl)).trans (hca 4 (.slice x.ia x.il x.ic) (by decide) rfl)
              rw [HA2.out] at hab
              subst hab
              have HNT := Lib.hid (rnote_any (HI.out.alloc (.cells #[.string x.res, .int .i64 x.idx, .int .i64 x.cnt, .int .i64 x.secs, .slice x.ia x.il x.ic] 44)) x.res (by have h1 := ded_len (pre3 r k); have h2 := pre3_len r k; have := HN0.out; have := HN1.out; omega))
              have k0 : (0 : Int) ≤ k := by omega
              have k1 : (k : Int) < n2 := by omega
              have HS := Lib.hid (show ded (pre3 r (k + 1)) = pushN (ded (pre3 r k)) x.res by rw [pre3_next hx, ded_snoc])
              clear hx
              go_wp2_with (fail)
              refine HNT.out.mono ?_
              rintro e w2 ⟨rfl, h1, hkp⟩
              rw [← HS.out] at h1
              have HI1 := Lib.hid h1
              clear h1 hkp
              go_wp2_with (fail)
              exact ⟨⟨k + 1, by omega, by go_num, HI1⟩, by first | (simp [intOf]; done) | (simp [intOf]; omega)⟩
            · have hkn : k = n2 := by omega
              rw [hkn] at HI
              clear hkn
              have HIN4 : Hid (ResI W1 (w.heap.size + 2) (w.heap.size + 1) (ded (pre4 r 0)) wr) := Lib.hid (by rw [pre4_zero, HN2.out]; exact HI.out)
              have e4 := (HE4.out _ HI.out.bel)
              clear HI
              go_wp2_with (fail)
              go_loopw [12, 60] (fun _ i wr => ∃ k : Nat, k ≤ n4 ∧ i = .int .i64 k ∧ Hid (ResI W1 (w.heap.size + 2) (w.heap.size + 1) (ded (pre4 r k)) wr)) (fun _ i _ => n4 - (intOf i).toNat)
              case atStart => exact ⟨0, Nat.zero_le _, rfl, HIN4⟩
              case round =>
                rename World => wr
                obtain ⟨k, hk, rfl, HI⟩ := hrel
                by_cases hlt : k < n4
                · obtain ⟨x, hx⟩ : ∃ x, r.au[k]? = some x := ⟨_, List.getElem?_eq_getElem (by rw [HR.out.l4, HN4.out]; exact hlt)⟩
                  obtain ⟨b, off, hab, hbl, hca⟩ := rowsAt_get HR.out.au (j := k) (x := x.cs) (by rw [List.getElem?_map, hx]; rfl)
                  have d0 : wr.cell? ⟨b, off + k * 3, none⟩ = some (.string x.res) := (World.cell?_of_block (a := ⟨b, off + k * 3 + 0, none⟩) (HIO.out _ HI.out.bel b hbl)).trans (hca 0 (.string x.res) (by decide) rfl)
                  have d1 : wr.cell? ⟨b, off + k * 3 + 1, none⟩ = some (.bool x.white) := (World.cell?_of_block (a := ⟨b, off + k * 3 + 1, none⟩) (HIO.out _ HI.out.bel b hbl)).trans (hca 1 (.bool x.white) (by decide) rfl)
                  have d2 : wr.cell? ⟨b, off + k * 3 + 2, none⟩ = some (.slice x.oa x.ol x.oc) := (World.cell?_of_block (a := ⟨b, off + k * 3 + 2, none⟩) (HIO.out _ HI.out.bel b hbl)).trans (hca 2 (.slice x.oa x.ol x.oc) (by decide) rfl)
                  rw [HA4.out] at hab
                  subst hab
                  have HNT := Lib.hid (rnote_any (HI.out.alloc (.cells #[.string x.res, .bool x.white, .slice x.oa x.ol x.oc] 48)) x.res (by have h1 := ded_len (pre4 r k); have h2 := pre4_len r k; have := HN0.out; have := HN1.out; have := HN2.out; omega))
                  have k0 : (0 : Int) ≤ k := by omega
                  have k1 : (k : Int) < n4 := by omega
                  have HS := Lib.hid (show ded (pre4 r (k + 1)) = pushN (ded (pre4 r k)) x.res by rw [pre4_next hx, ded_snoc])
                  clear hx
                  go_wp2_with (fail)
                  refine HNT.out.mono ?_
                  rintro e w2 ⟨rfl, h1, hkp⟩
                  rw [← HS.out] at h1
                  have HI1 := Lib.hid h1
                  clear h1 hkp
                  go_wp2_with (fail)
                  exact ⟨⟨k + 1, by omega, by go_num, HI1⟩, by first | (simp [intOf]; done) | (simp [intOf]; omega)⟩
                · have hkn : k = n4 := by omega
                  rw [hkn] at HI
                  clear hkn
                  obtain ⟨v, hv1, hv2⟩ := HI.out.row
                  have cv := box_one hv1
                  have HB := Lib.hid hv1
                  obtain ⟨va, vc, rfl⟩ := own_sliceO hv2
                  clear hv1 hv2
                  go_wp2_with (fail)
                  go_ret
                  rw [show allR r = pre4 r n4 by unfold allR; rw [HN4.out]]
                  exact HI.out.post HB1.out HB.out
end Go.Proofs.Ytgkdpkpiejjfmaa
