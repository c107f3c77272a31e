/- lru: the walk of LruNone. -/
import Derived.Test.YtidcbjgiohkidaaLruL
namespace Go.Proofs.Ytidcbjgiohkidaa
open Go.RowKit
set_option linter.unusedVariables false
set_option linter.unusedSimpArgs false

/-- An own row of texts can be written. -/
theorem own_write {w : World} {base : Nat} {v : Value} {n : Nat} {ss : List ByteArray} (h : w.ownsRow base 9 1 v n (ss.map Value.string)) : ∃ a cap, v = .slice a n cap ∧ (0 < n → ∃ g, a = some ⟨g, 0, none⟩ ∧ base ≤ g ∧ (∀ j, j < n → ∃ u, w.cell? ⟨g, j, none⟩ = some u) ∧ (∀ o, w.frozen? ⟨g, o, none⟩ = false)) := by
  obtain ⟨h1, h2⟩ := h
  rcases h2 with ⟨rfl, h2⟩ | ⟨g, cap, cur, rfl, hb, hg, hnc, hcm, hcs, htake⟩
  · exact ⟨none, 0, by rw [h2], fun h => by omega⟩
  · refine ⟨some ⟨g, 0, none⟩, cap, rfl, fun _ => ⟨g, rfl, hb, fun j hj => ?_, fun o => ?_⟩⟩
    · have hc := World.ownsRow.cells (w := w) (base := base) (e := 9) (size := 1) (n := n) (xs := ss.map Value.string) ⟨h1, Or.inr ⟨g, cap, cur, rfl, hb, hg, hnc, hcm, hcs, htake⟩⟩ (g := g) rfl
      have hl : j < (ss.map Value.string).length := by omega
      have := hc j _ (List.getElem?_eq_getElem hl)
      rw [WideShapes.add_plain, Nat.zero_add] at this
      exact ⟨_, this⟩
    · simp only [World.frozen?, hg]; simp

set_option maxHeartbeats 25600000 in
set_option maxRecDepth 100000 in
theorem lnone_walk (w : World) (a : Option Addr) (len cap : Nat) (V : Nat → Nat → Value) (hm : len ≤ 140737488351232) (hd : DeedsAt w a len V) :
    Calls Try.prog 5 #[.slice a len cap] w fun e w' => e = .returned (.bool true) ∧ Below w.heap.size w w' := by
  have HD := Lib.hid hd
  clear hd
  go_enter Try.func5, Try.ntmps5
  go_wp2_with (fail)
  refine (lput_nil _ _ _).mono ?_
  rintro e w1 ⟨rfl, rfl⟩
  go_wp2_with (fail)
  refine (lget_nil _ _).mono ?_
  rintro e w1 ⟨rfl, rfl⟩
  go_wp2_with (fail)
  refine (peek_nil _ _).mono ?_
  rintro e w1 ⟨rfl, rfl⟩
  go_wp2_with (fail)
  refine (lnew_any w1 3 (by omega)).mono ?_
  rintro e w2 ⟨rfl, hl1, hb1, z1⟩
  have H1 := Lib.hid (And.intro hl1 (And.intro hb1 z1))
  clear hl1 hb1 z1
  go_wp2_with (fail)
  refine (rnew_any w2 3 (by omega)).mono ?_
  rintro e w3 ⟨rfl, hr2, hb2, z2⟩
  have hboth : ∃ S, Both w3 (w1.heap.size + 1) w2.heap.size 3 [] S ∧ (∀ b, S b → w1.heap.size ≤ b) ∧ Below w1.heap.size w1 w3 :=
    both_fork H1.out.1 rfl H1.out.2.1 (own_empty (by omega) (by omega)) hr2 hb2
  obtain ⟨S0, B1, B2, B3⟩ := hboth
  have HB := Lib.hid (And.intro B1 (And.intro B2 B3))
  clear hr2 hb2 z2 B1 B2 B3
  generalize hM : w1.heap.size + 1 = m0 at HB ⊢
  generalize hR : w2.heap.size = r0 at HB ⊢
  clear H1 hM hR
  go_wp2_with (fail)
  go_loopw [15] (fun i wr => ∃ (k : Nat) (A : List (ByteArray × Int)) (S : Nat → Prop), k ≤ len ∧ i = .int .i64 k ∧ Hid (Both wr m0 r0 3 A S ∧ (∀ b, S b → w1.heap.size ≤ b) ∧ Below w1.heap.size w1 wr)) (fun i _ => len - (intOf i).toNat)
  case atStart => exact ⟨0, [], S0, Nat.zero_le _, rfl, HB⟩
  case round =>
    clear HB
    obtain ⟨k, A, S1, hk, rfl, HI⟩ := hrel
    by_cases hlt : k < len ∧ k < 100
    · obtain ⟨hlt, h100⟩ := hlt
      obtain ⟨b, off, kind, key, val, da, dl, dc, ss, rfl, hbl, hcell, z1, l1, l2, z3, hsep⟩ := HD.out.at hlt
      have HC := Lib.hid (And.intro hcell (And.intro z1 (And.intro l1 (And.intro l2 (And.intro z3 hsep)))))
      clear hcell z1 l1 l2 z3 hsep
      have k0 : (0 : Int) ≤ k := by omega
      have k1 : (k : Int) < len := by omega
      have k2 : (k : Int) < 100 := by omega
      obtain ⟨d0, d1, d2, d3, dS⟩ := HC.out.1 _ HI.out.2.2
      have DS := Lib.hid dS
      clear dS
      go_wp2_with (fail)
      refine (do_any HI.out.1 kind key val da dl dc ss HC.out.2.1 HC.out.2.2.1 HC.out.2.2.2.1 DS.out (fun b' off' e hne hS => by
        rcases HC.out.2.2.2.2.2 b' off' e with h | h
        · exact hne h
        · have := HI.out.2.1 b' hS; omega) HC.out.2.2.2.2.1).mono ?_
      rintro e w6 ⟨rfl, S6, p1, p2, p3⟩
      have hI6 : Both w6 m0 r0 3 (deedA 3 A kind key val ss) S6 ∧ (∀ b, S6 b → w1.heap.size ≤ b) ∧ Below w1.heap.size w1 w6 :=
        ⟨p1, fun b hb => by
          rcases p3 b hb with e | e
          · exact HI.out.2.1 b e
          · have := HI.out.2.2.size; omega, below_off HI.out.2.2 HI.out.2.2.size p2 HI.out.2.1⟩
      have HI6 := Lib.hid hI6
      generalize deedA 3 A kind key val ss = A6 at HI6
      clear p1 p2 p3 d0 d1 d2 d3 hI6
      obtain ⟨mp6, L6, v6, e1, e2, e3, e4, e5⟩ := HI6.out.1
      have hlen : L6.length ≤ 4096 := by have := e1.cap; have := e1.big; omega
      have E1 := Lib.hid e1
      clear e1 e2 e3 e4 e5
      go_wp2_with (fail)
      refine (lkeys_any E1.out).mono ?_
      rintro e w7 ⟨v7, rfl, r7, b7⟩
      obtain ⟨a7, c7, rfl, hwr⟩ := own_write r7
      have HW := Lib.hid hwr
      have HB7 := Lib.hid b7
      generalize L6.length = n at hlen HW r7 ⊢
      clear r7 hwr b7
      go_wp2_with (fail)
      go_loopw [17] (fun x wy => ∃ q : Nat, q ≤ n ∧ x = .int .i64 q ∧ Hid (0 < n → ∃ g, a7 = some ⟨g, 0, none⟩ ∧ w6.heap.size ≤ g ∧ (∀ j, j < n → ∃ u, wy.cell? ⟨g, j, none⟩ = some u) ∧ (∀ o, wy.frozen? ⟨g, o, none⟩ = false)) ∧ Below w6.heap.size w6 wy) (fun x _ => n - (intOf x).toNat)
      case atStart => exact ⟨0, Nat.zero_le _, rfl, HW, HB7.out⟩
      case round =>
        obtain ⟨q, hq, rfl, HWy, hby⟩ := hrel
        by_cases hqn : q < n
        · obtain ⟨g, rfl, hg, hu, hf⟩ := HWy.out (by omega)
          obtain ⟨u, hu1⟩ := hu q hqn
          have hf1 := hf q
          have HU := Lib.hid hu
          have HF := Lib.hid hf
          have q0 : (0 : Int) ≤ q := by omega
          have q1 : (q : Int) < n := by omega
          have q2 : (n : Int) ≤ 4096 := by omega
          clear hu hf
          go_wp2_with (fail)
          exact ⟨⟨q + 1, by omega, by go_num, fun _ => ⟨g, rfl, hg, fun j hj => by obtain ⟨u', hu'⟩ := HU.out j hj; exact cell_in hu', fun o => by rw [World.frozen?_setCell]; exact HF.out o⟩, hby.setCell hg _⟩, by first | (simp [intOf]; done) | (simp [intOf]; omega)⟩
        · go_wp2_with (fail)
          exact ⟨⟨k + 1, A6, S6, by omega, by go_num, HI6.out.1.below hby, HI6.out.2.1, HI6.out.2.2.trans (hby.mono HI6.out.2.2.size)⟩, by first | (simp [intOf]; done) | (simp [intOf]; omega)⟩
    · go_wp2_with (fail)
      all_goals
        refine (llive_any _).mono ?_
        rintro e w4 ⟨rfl, hb4⟩
        have hI4 : Both w4 m0 r0 3 A S1 ∧ (∀ b, S1 b → w1.heap.size ≤ b) ∧ Below w1.heap.size w1 w4 := ⟨HI.out.1.below hb4, HI.out.2.1, HI.out.2.2.trans (hb4.mono HI.out.2.2.size)⟩
        have HI4 := Lib.hid hI4
        clear hI4 hb4
        go_wp2_with (fail)
        refine (ldrop_nil1 ⟨#[97]⟩ _ w4.heap.size (by simp [go_sem])).mono ?_
        rintro e w5 ⟨rfl, hw5⟩
        have hb5 : Below w4.heap.size w4 w5 := by rw [hw5]; exact (Below.refl _ _).alloc (Nat.le_refl _) _
        have hI5 : Both w5 m0 r0 3 A S1 ∧ (∀ b, S1 b → w1.heap.size ≤ b) ∧ Below w1.heap.size w1 w5 := ⟨HI4.out.1.below hb5, HI4.out.2.1, HI4.out.2.2.trans (hb5.mono HI4.out.2.2.size)⟩
        have HI5 := Lib.hid hI5
        clear hI5 hb5 hw5
        go_wp2_with (fail)
        refine (lkeys_nil _).mono ?_
        rintro e w9 ⟨rfl, rfl⟩
        go_wp2_with (fail)
        refine (llen_nil _).mono ?_
        rintro e w9 ⟨rfl, rfl⟩
        go_wp2_with (fail)
        refine (lmost_nil _).mono ?_
        rintro e w9 ⟨rfl, rfl⟩
        go_wp2_with (fail)
        refine (lfork_nil _).mono ?_
        rintro e w9 ⟨rfl, rfl⟩
        go_wp2_with (fail)
        obtain ⟨mp6, L6, v6, e1, e2, e3, e4, e5⟩ := HI5.out.1
        have E := Lib.hid (And.intro e1 (And.intro e2 (And.intro e3 (And.intro e4 e5))))
        have hlen : L6.length = A.length := by rw [← e3, pr_len]
        clear e1 e2 e3 e4 e5
        refine (lkeys_any E.out.1).mono ?_
        rintro e w7 ⟨v7, rfl, r7, b7⟩
        have H7 := Lib.hid (And.intro r7 b7)
        obtain ⟨a7, c7, rfl, s7, n7⟩ := StrsAt.own r7
        clear r7 b7 s7 n7
        go_wp2_with (fail)
        refine (rkeys_any (E.out.2.1.below H7.out.2)).mono ?_
        rintro e w8 ⟨v8, rfl, r8, b8⟩
        have H8 := Lib.hid (And.intro r8 b8)
        obtain ⟨a8, c8, rfl, s8, n8⟩ := StrsAt.own r8
        have S8 := Lib.hid s8
        have hN8 : (pr L6).length ≤ 4096 := by rw [pr_len]; have := E.out.1.cap; have := E.out.1.big; omega
        have hp : pr L6 = A := E.out.2.2.1
        have S7 : Hid (StrsAt w8 a7 (A.map (·.1))) := by
          obtain ⟨a, c, e, hs, hn⟩ := StrsAt.own (krm_kept H7.out.1 H8.out.2)
          injection e with e1 e2 e3
          rw [e1, ← hp]; exact hs
        rw [hp] at hN8
        have HB8 := Lib.hid (HI5.out.2.2.trans ((H7.out.2.trans (H8.out.2.mono H7.out.2.size)).mono HI5.out.2.2.size))
        try rw [hlen]
        clear r8 b8 s8 n8 hp
        go_wp2_with (fail)
        refine (same_any a7 a8 A.length c7 c8 (A.map (·.1)) (by simp) (by omega) S7.out S8.out).mono ?_
        rintro e w10 ⟨rfl, b9⟩
        go_wp2_with (fail)
        go_ret
        exact ⟨rfl, HB8.out.trans (b9.mono HB8.out.size)⟩

theorem lnone_law {w : World} (a : Option Addr) (len cap : Nat) (V : Nat → Nat → Value) (hm : len ≤ 140737488351232) (hr : RecsAt w a 4 len V) (hB : len * 56 ≤ 140737488351232)
    (f0 : ∀ j, j < len → V j 0 = .int .i64 (intOf (V j 0)) ∧ (Lit.int .i64 (intOf (V j 0))).wf = true) (f1 : ∀ j, j < len → V j 1 = .string (strOf (V j 1)) ∧ (strOf (V j 1)).size ≤ maxLen)
    (f2 : ∀ j, j < len → V j 2 = .int .i64 (intOf (V j 2)) ∧ (Lit.int .i64 (intOf (V j 2))).wf = true) (f3 : ∀ j, j < len → ∃ (a : Option Addr) (l c : Nat) (ss : List ByteArray), V j 3 = .slice a l c ∧ ss.length = l ∧ l ≤ maxLen ∧ StrsAt w a ss ∧ (∀ s, s ∈ ss → s.size ≤ maxLen)) :
    Calls Try.prog 5 #[.slice a len cap] w fun e w' => e = .returned (.bool true) ∧ Below w.heap.size w w' :=
  lnone_walk w a len cap V hm (deeds_of hr f0 f1 f2 f3)
end Go.Proofs.Ytidcbjgiohkidaa
