/- lru: the walk of LruKeeps. -/
import Derived.Test.YtidcbjgiohkidaaLruQ
import Derived.Test.YtidcbjgiohkidaaLruR
import Derived.OwnWalk
namespace Go.Proofs.Ytidcbjgiohkidaa
open Go.RowKit
set_option linter.unusedVariables false
set_option linter.unusedSimpArgs false

/-- An own row of texts, read. -/
theorem StrsAt.own {w : World} {base : Nat} {v : Value} {n : Nat} {ss : List ByteArray} (h : w.ownsRow base 9 1 v n (ss.map Value.string)) : ∃ a cap, v = .slice a n cap ∧ StrsAt w a ss ∧ n = ss.length := by
  obtain ⟨h1, h2⟩ := h
  have hn : n = ss.length := by simpa using h1.symm
  rcases h2 with ⟨rfl, rfl⟩ | ⟨g, cap, cur, rfl, hb, hg, hnc, hcm, hcs, htake⟩
  · exact ⟨none, 0, rfl, Or.inl (by cases ss; rfl; simp at hn), hn⟩
  · refine ⟨_, cap, rfl, Or.inr ⟨g, 0, rfl, (Array.getElem?_eq_some_iff.1 hg).1, fun j hj => ?_⟩, hn⟩
    have := World.ownsRow.cells (w := w) (base := base) (e := 9) (size := 1) (n := n) (xs := ss.map Value.string) ⟨h1, Or.inr ⟨g, cap, cur, rfl, hb, hg, hnc, hcm, hcs, htake⟩⟩ (g := g) rfl j (.string (ss.getD j ⟨#[]⟩)) (by simp [hj, List.getD])
    simpa [WideShapes.add_plain] using this


theorem below_drewF {B : Nat} {a w : World} (h : Below B a w) (n : Nat) : Below B a (w.drewN n) := by
  induction n with
  | zero => exact h
  | succ n ih => exact ih.drew
theorem toList_injK {a b : ByteArray} (h : a.toList = b.toList) : a = b := by
  rw [ByteArray.toList_eq, ByteArray.toList_eq] at h
  rcases a with ⟨⟨l⟩⟩; rcases b with ⟨⟨l'⟩⟩; simpa using h

/-- Keys seen so far, at the place c. -/
def seenK (ks : List ByteArray) (i c : Nat) : List KV := ded ((zs ks i).take (i - c))
theorem seenK_next {ks : List ByteArray} {i c : Nat} (hc : c < i) : seenK ks i c = if inK (seenK ks i (c + 1)) (ks.getD c ⟨#[]⟩) then seenK ks i (c + 1) else seenK ks i (c + 1) ++ [(ks.getD c ⟨#[]⟩, (c : Int))] := by
  have hz := zs_get ks i (i - (c + 1)) (by omega)
  rw [show i - 1 - (i - (c + 1)) = c by omega] at hz
  have ht : (zs ks i).take (i - c) = (zs ks i).take (i - (c + 1)) ++ [(ks.getD c ⟨#[]⟩, (c : Int))] := by
    rw [show i - c = (i - (c + 1)) + 1 by omega, List.take_add_one, hz]; rfl
  unfold seenK
  rw [ht, ded_snoc]
theorem seenK_held {n : Nat} {A : List KV} {ks : List ByteArray} {i c : Nat} (hc : c < i) (h : A.reverse = (ded (zs ks i)).take n) (hnew : inK (seenK ks i (c + 1)) (ks.getD c ⟨#[]⟩) = false) (hroom : (seenK ks i (c + 1)).length < n) :
    hasA A (ks.getD c ⟨#[]⟩) = true ∧ valA A (ks.getD c ⟨#[]⟩) = (c : Int) := by
  have := held_there (n := n) (A := A) (ks := ks) (i := i) (j := i - (c + 1)) (by omega) h
  rw [show i - 1 - (i - (c + 1)) = c by omega] at this
  exact this hnew hroom
theorem seenK_start (ks : List ByteArray) (i : Nat) : seenK ks i i = [] := by simp [seenK, ded]
theorem seenK_le (ks : List ByteArray) (i c : Nat) : (seenK ks i c).length ≤ i := by
  have key : ∀ Z : List KV, (ded Z).length ≤ Z.length := by
    intro Z
    induction Z with
    | nil => simp [ded]
    | cons x Z ih => simp only [ded, List.length_cons]; have := List.length_filter_le (fun p : KV => !decide (p.1 = x.1)) (ded Z); omega
  have h := key ((zs ks i).take (i - c))
  rw [List.length_take, zs_len] at h
  unfold seenK
  omega
def stK (D : List KV) : List ByteArray := D.map (·.1)
theorem stK_len (D : List KV) : (stK D).length = D.length := by simp [stK]
theorem inK_take (D : List KV) (s : ByteArray) {q : Nat} (hq : q < D.length) : inK (D.take (q + 1)) s = (inK (D.take q) s || ((stK D).getD q ⟨#[]⟩).toList == s.toList) := by
  rw [List.take_add_one, inK, List.any_append]
  have : D[q]? = some D[q] := List.getElem?_eq_getElem hq
  rw [this]
  simp only [Option.toList_some, List.any_cons, List.any_nil, Bool.or_false]
  have e : (stK D).getD q ⟨#[]⟩ = D[q].1 := by simp [stK, List.getD, hq]
  rw [e]
  have e2 : decide (D[q].1 = s) = (D[q].1.toList == s.toList) := by
    by_cases h : D[q].1 = s
    · simp [h]
    · have : D[q].1.toList ≠ s.toList := fun e => h (toList_injK e)
      simp [h, this]
  rw [e2]; rfl


set_option maxHeartbeats 12800000 in
set_option maxRecDepth 100000 in
theorem lkeeps_walk (w : World) (most : Int) (wm : (Lit.int .u8 most).wf = true) (a : Option Addr) (len cap : Nat) (ss : List ByteArray) (hl : ss.length = len) (hm : len ≤ 140737488351232) (hs : StrsAt w a ss) (hsz : ∀ s, s ∈ ss → s.size ≤ maxLen) :
    Calls Try.prog 3 #[.int .u8 most, .slice a len cap] w fun e w' => e = .returned (.bool true) ∧ Below w.heap.size w w' := by
  have hm0 : 0 ≤ most ∧ most ≤ 255 := by
    simp only [Lit.wf, IntKind.min, IntKind.max, IntKind.signed, IntKind.bits, Bool.and_eq_true, decide_eq_true_eq] at wm
    simpa using wm
  obtain ⟨m0, m1⟩ := hm0
  obtain ⟨i0, hi, hz0, hz1, hz2⟩ := info_parts info_strK
  have Hs := Lib.hid hs
  have Hsz := Lib.hid hsz
  have Hl := Lib.hid hl
  clear wm hs hsz hl
  go_enter Try.func3, Try.ntmps3
  go_wp2_with (fail)
  refine (lnew_any w (most % 6 + 1) (by omega)).mono ?_
  rintro e w1 ⟨rfl, hl1, hb1, z1⟩
  obtain ⟨N, hN, hN1, hN2⟩ : ∃ N : Nat, most % 6 + 1 = (N : Int) ∧ 1 ≤ N ∧ N ≤ 6 := ⟨(most % 6 + 1).toNat, by omega, by omega, by omega⟩
  rw [hN] at hl1 ⊢
  rw [show Int.toNat (N : Int) = N from rfl] at hl1
  have hown := own_empty (m := w.heap.size + 1) (mp := w.heap.size) (base := w.heap.size) (by omega) (by omega)
  generalize hB : w.heap.size + 1 = B at hl1 hown ⊢
  generalize hM : w.heap.size = M at hl1 hown hb1 ⊢
  have H1 := Lib.hid (And.intro hl1 (And.intro hb1 hown))
  have HZ := Lib.hid hM
  clear hl1 hb1 z1 hown hB hM hN m0 m1
  go_wp2_with (fail)
  go_loopw [8] (fun i wr => ∃ (k : Nat) (L : List LNode), k ≤ len ∧ i = .int .i64 k ∧ Hid (Lru wr B M N L ∧ (pr L).reverse = (ded (zs ss k)).take N ∧ (∀ b, Lown B M L b → M ≤ b) ∧ Below M w wr)) (fun i _ => len - (intOf i).toNat)
  case atStart => exact ⟨0, [], Nat.zero_le _, rfl, H1.out.1, by simp [pr, zs, ded], H1.out.2.2, H1.out.2.1⟩
  case round =>
    obtain ⟨k, L, hk, rfl, HK⟩ := hrel
    by_cases hlt : k < len ∧ k < 200
    · obtain ⟨hlt, h200⟩ := hlt
      rcases Hs.out with h | ⟨b, off, rfl, hbl, hcell⟩
      · exfalso; have := Hl.out; subst h; simp at this; omega
      · have hbl' : b < M := by have := HZ.out; omega
        have d1 := (HK.out.2.2.2.cell (p := ⟨b, off + k, none⟩) hbl').trans (hcell k (by rw [Hl.out]; exact hlt))
        have hkl : k < ss.length := by rw [Hl.out]; exact hlt
        have hs1 := Lib.hid (Hsz.out (ss.getD k ⟨#[]⟩) (by simp [List.getD, hkl]))
        have HC := Lib.hid hcell
        clear hcell hkl
        have k0 : (0 : Int) ≤ k := by omega
        have k1 : (k : Int) < len := by omega
        have k2 : (k : Int) < 200 := by omega
        go_wp2_with (fail)
        refine (lput_any HK.out.1 hs1.out k).mono ?_
        rintro e w2 ⟨L2, rfl, hl2, p2, o2, s2⟩
        have H2 := Lib.hid (And.intro hl2 (And.intro p2 (And.intro o2 s2)))
        clear hl2 p2 o2 s2 d1
        go_wp2_with (fail)
        refine (llen_any H2.out.1.body).mono ?_
        rintro e w3 ⟨rfl, rfl⟩
        have hcap := H2.out.1.cap
        have hgt : ¬ N < L2.length := by omega
        go_wp2_with (fail)
        have hheld : (pr L2).reverse = (ded (zs ss (k + 1))).take N := by
          rw [H2.out.2.1]
          exact held_next hN1 (by rw [pr_len]; exact HK.out.1.cap) HK.out.2.1
        have HH := Lib.hid hheld
        have hbw : Below M w w3 := below_off HK.out.2.2.2 (by have := HK.out.2.2.2.size; have := HZ.out; omega) H2.out.2.2.1 HK.out.2.2.1
        have HB3 := Lib.hid hbw
        have how : ∀ b, Lown B M L2 b → M ≤ b := own_next HK.out.2.2.1 (by have := HK.out.2.2.2.size; have := HZ.out; omega) H2.out.2.2.2
        have HO3 := Lib.hid how
        have Hz3 : M ≤ w3.heap.size := by have := hbw.size; have := HZ.out; omega
        clear hheld hbw how hgt hcap
        go_loopw [9, 10] (fun v kk wr => ∃ c : Nat, c ≤ k + 1 ∧ kk = .int .i64 ((c : Int) - 1) ∧ Hid (wr.ownsRow w3.heap.size 9 1 v (seenK ss (k + 1) c).length ((stK (seenK ss (k + 1) c)).map Value.string)) ∧ Below w3.heap.size w3 wr) (fun _ kk _ => (intOf kk + 1).toNat)
        case atStart => exact ⟨k + 1, by omega, by rw [show (((k + 1 : Nat) : Int) - 1) = k by omega], by rw [seenK_start]; exact World.ownsRow_nil _ _ _ _, Below.refl _ _⟩
        case round =>
          obtain ⟨c, hc, rfl, hrow, hb4⟩ := hrel
          obtain ⟨sa, scap, rfl, hsat, hsn⟩ := StrsAt.own hrow.out
          have hout : ∀ wz : World, Below w3.heap.size w3 wz → ∃ L', Lru wz B M N L' ∧ (pr L').reverse = (ded (zs ss (k + 1))).take N ∧ (∀ b, Lown B M L' b → M ≤ b) ∧ Below M w wz := fun wz hz =>
            ⟨L2, H2.out.1.below hz, HH.out, HO3.out, HB3.out.trans (hz.mono Hz3)⟩
          have HOUT := Lib.hid hout
          clear hout
          cases c with
          | zero =>
            go_wp2_with (fail)
            obtain ⟨L', q1, q2, q3, q4⟩ := HOUT.out _ hb4
            exact ⟨⟨k + 1, L', by omega, by go_num, q1, q2, q3, q4⟩, by first | (simp [intOf]; done) | (simp [intOf]; omega)⟩
          | succ c =>
            rw [show (((c + 1 : Nat) : Int) - 1) = c by omega]
            have hck : c < ss.length := by rw [Hl.out]; omega
            have hbl4 : Below M w wr := HB3.out.trans (hb4.mono Hz3)
            have hcc := HC.out c hck
            have d2 := (hbl4.cell (p := ⟨b, off + c, none⟩) hbl').trans hcc
            have hkey := Hsz.out (ss.getD c ⟨#[]⟩) (by simp [List.getD, hck])
            have hnext := seenK_next (ks := ss) (i := k + 1) (c := c) (by omega)
            have hin := seenK_held (n := N) (A := pr L2) (ks := ss) (i := k + 1) (c := c) (by omega) HH.out
            have hle := seenK_le ss (k + 1) (c + 1)
            generalize seenK ss (k + 1) (c + 1) = D at hrow hsat hsn hnext hin hle ⊢
            generalize ss.getD c ⟨#[]⟩ = key at hcc d2 hkey hnext hin
            have HCC := Lib.hid hcc
            clear hcc
            have HKEY := Lib.hid hkey
            have HNEXT := Lib.hid hnext
            have HIN := Lib.hid hin
            have HSAT := Lib.hid hsat
            have c0 : (0 : Int) ≤ c := by omega
            have c1 : (c : Int) ≤ 200 := by omega
            have c2 : (c : Int) < len := by omega
            clear hkey hnext hin hsat hsn hck
            by_cases hroom : D.length < N
            · have hr0 : (D.length : Int) < (N : Int) := by omega
              have HD2 := Lib.hid d2
              have hbb : b < wr.heap.size := World.block_lt_of_cell? wr _ d2
              have HROW := Lib.hid (fun (wy : World) (h : Below wr.heap.size wr wy) => krm_kept hrow.out h)
              clear d2
              go_wp2_with (fail)
              go_loopw [11, 12] (fun o q wy => ∃ q' : Nat, q' ≤ D.length ∧ q = .int .i64 q' ∧ o = .bool (inK (D.take q') key) ∧ Below wr.heap.size wr wy) (fun _ q _ => D.length - (intOf q).toNat)
              case atStart => exact ⟨0, Nat.zero_le _, rfl, by simp [inK], Below.refl _ _⟩
              case round =>
                obtain ⟨q, hq, rfl, rfl, hb5⟩ := hrel
                by_cases hqd : q < D.length
                · rcases HSAT.out with h | ⟨sb, so, rfl, hsb, hsc⟩
                  · exfalso; have := stK_len D; rw [h] at this; simp at this; omega
                  · have e1 := hsc q (by rw [stK_len]; exact hqd)
                    have e2 := (hb5.cell (p := ⟨sb, so + q, none⟩) hsb).trans e1
                    have htk := inK_take D key hqd
                    generalize (stK D).getD q ⟨#[]⟩ = sq at e1 e2 htk
                    have HTK := Lib.hid htk
                    have d3 := (hb5.cell (p := ⟨b, off + c, none⟩) hbb).trans HD2.out
                    have q0 : (0 : Int) ≤ q := by omega
                    have q1 : (q : Int) < D.length := by omega
                    clear htk e1 hsc
                    cases ho : inK (D.take q) key
                    · rw [ho] at HTK
                      cases heq : (sq.toList == key.toList)
                      · rw [heq] at HTK
                        go_wp2_with (fail)
                        go_quiet (fail)
                        go_wp2_with (fail)
                        exact ⟨⟨q + 1, by omega, by go_num, by rw [HTK.out]; rfl, below_drewF hb5 _⟩, by first | (simp [intOf]; done) | (simp [intOf]; omega)⟩
                      · rw [heq] at HTK
                        go_wp2_with (fail)
                        go_quiet (fail)
                        go_wp2_with (fail)
                        exact ⟨⟨q + 1, by omega, by go_num, by rw [HTK.out]; rfl, below_drewF hb5 _⟩, by first | (simp [intOf]; done) | (simp [intOf]; omega)⟩
                    · rw [ho, Bool.true_or] at HTK
                      go_wp2_with (fail)
                      go_quiet (fail)
                      go_wp2_with (fail)
                      exact ⟨⟨q + 1, by omega, by go_num, by rw [HTK.out], below_drewF hb5 _⟩, by first | (simp [intOf]; done) | (simp [intOf]; omega)⟩
                · have htq : D.take q = D := List.take_of_length_le (by omega)
                  have hrow5 := HROW.out _ hb5
                  have d3 := (hb5.cell (p := ⟨b, off + c, none⟩) hbb).trans HD2.out
                  have hb45 : Below w3.heap.size w3 wr := hb4.trans (hb5.mono hb4.size)
                  rw [htq]
                  cases hik : inK D key
                  · rw [hik] at HNEXT HIN
                    obtain ⟨n1, n2⟩ := HIN.out rfl hroom
                    have hnx := HNEXT.out
                    rw [if_neg (by simp)] at hnx
                    have HNX := Lib.hid hnx
                    have hn5 := Nat.zero_le D.length
                    clear hnx
                    go_wp2_with (at_builtin; refine wpList_append_own _ rfl _ _ 22 rfl w3.heap.size 9 i0 (.string ⟨#[]⟩) 1 16 Try.underlying22 hi hz0 hz1 hz2 rfl (by decide) (.slice sa D.length scap) D.length ((stK D).map Value.string) rfl (hrow5.alloc _) ⟨_, 0, none⟩ 1 1 [.string key] rfl rfl (kcell_one _ _ _) (by simp [Value.oneCell']) (by unfold maxLen; omega) (by omega) (by have := hb45.size; simp; omega) ?_; intro v' w5 hown' hgrow _; have hb55 := after_append (w3 := w3) hrow5 (by have := hb45.size; omega) hb45 hgrow; have d5 := ((HB3.out.trans (hb55.mono Hz3)).cell (p := ⟨b, off + c, none⟩) hbl').trans HCC.out; clear hgrow)
                    have HO5 := Lib.hid hown'
                    clear hown' hrow5 hrow d3
                    refine (peek_any (H2.out.1.below hb55).body HKEY.out).mono ?_
                    rintro e w6 ⟨rfl, rfl⟩
                    rw [has_pr, val_pr, n1, n2]
                    go_wp2_with (fail)
                    refine ⟨⟨c, by omega, by go_num, ?_, hb55⟩, by first | (simp [intOf]; done) | (simp [intOf]; omega)⟩
                    have e1 : (seenK ss (k + 1) c).length = D.length + 1 := by rw [HNX.out]; simp
                    have e2 : (stK (seenK ss (k + 1) c)).map Value.string = (stK D).map Value.string ++ [.string key] := by rw [HNX.out]; simp [stK]
                    rw [e1, e2]
                    exact HO5.out
                  · rw [hik] at HNEXT
                    have hnx := HNEXT.out
                    rw [if_pos rfl] at hnx
                    go_wp2_with (fail)
                    exact ⟨⟨c, by omega, by go_num, by rw [hnx]; exact hrow5, hb45⟩, by first | (simp [intOf]; done) | (simp [intOf]; omega)⟩
            · have hr0 : ¬ (D.length : Int) < (N : Int) := by omega
              go_wp2_with (fail)
              obtain ⟨L', q1, q2, q3, q4⟩ := HOUT.out _ hb4
              exact ⟨⟨k + 1, L', by omega, by go_num, q1, q2, q3, q4⟩, by first | (simp [intOf]; done) | (simp [intOf]; omega)⟩
    · go_wp2_with (fail)
      all_goals
        refine (llive_any wr).mono ?_
        rintro e w9 ⟨rfl, hb9⟩
        go_wp2_with (fail)
        go_ret
        rw [HZ.out]
        exact ⟨rfl, HK.out.2.2.2.trans (hb9.mono (by have := HK.out.2.2.2.size; have := HZ.out; omega))⟩
end Go.Proofs.Ytidcbjgiohkidaa
