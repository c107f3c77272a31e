/- lru: the walk of LruPlays. -/
import Derived.Test.YtidcbjgiohkidaaLruN
import Derived.Test.YtidcbjgiohkidaaRecs2
namespace Go.Proofs.Ytidcbjgiohkidaa
open Go.RowKit
set_option linter.unusedVariables false
set_option linter.unusedSimpArgs false

/-- The deeds, as they came in. -/
structure DeedsAt (w : World) (a : Option Addr) (len : Nat) (V : Nat → Nat → Value) : Prop where
  r : RecsAt w a 4 len V
  f0 : ∀ j, j < len → ∃ n, V j 0 = .int .i64 n
  f1 : ∀ j, j < len → ∃ s : ByteArray, V j 1 = .string s ∧ s.size ≤ maxLen
  f2 : ∀ j, j < len → ∃ n, V j 2 = .int .i64 n
  f3 : ∀ j, j < len → ∃ (a : Option Addr) (l c : Nat) (ss : List ByteArray), V j 3 = .slice a l c ∧ ss.length = l ∧ l ≤ maxLen ∧ StrsAt w a ss ∧ (∀ s, s ∈ ss → s.size ≤ maxLen)
theorem DeedsAt.at {w : World} {a : Option Addr} {len : Nat} {V : Nat → Nat → Value} (h : DeedsAt w a len V) {k : Nat} (hk : k < len) :
    ∃ b off kind key val da dl dc ss, a = some ⟨b, off, none⟩ ∧ b < w.heap.size ∧ (∀ w', Below w.heap.size w w' → w'.cell? ⟨b, off + k * 4, none⟩ = some (.int .i64 kind) ∧ w'.cell? ⟨b, off + k * 4 + 1, none⟩ = some (.string key) ∧ w'.cell? ⟨b, off + k * 4 + 2, none⟩ = some (.int .i64 val) ∧ w'.cell? ⟨b, off + k * 4 + 3, none⟩ = some (.slice da dl dc) ∧ StrsAt w' da ss) ∧
      key.size ≤ maxLen ∧ ss.length = dl ∧ dl ≤ maxLen ∧ (∀ s, s ∈ ss → s.size ≤ maxLen) ∧ (∀ b off, da = some ⟨b, off, none⟩ → ss = [] ∨ b < w.heap.size) := by
  obtain ⟨kind, e0⟩ := h.f0 k hk
  obtain ⟨key, e1, z1⟩ := h.f1 k hk
  obtain ⟨val, e2⟩ := h.f2 k hk
  obtain ⟨da, dl, dc, ss, e3, l1, l2, hs, z3⟩ := h.f3 k hk
  rcases h.r with h0 | ⟨b, off, rfl, hb, hc⟩
  · omega
  · refine ⟨b, off, kind, key, val, da, dl, dc, ss, rfl, hb, fun w' hw => ?_, z1, l1, l2, z3, fun b' off' e => ?_⟩
    · have c := fun i hi => (hw.cell (p := ⟨b, off + (k * 4 + i), none⟩) hb).trans (hc k hk i hi)
      have c0 := c 0 (by omega)
      have c1 := c 1 (by omega)
      have c2 := c 2 (by omega)
      have c3 := c 3 (by omega)
      rw [e0] at c0; rw [e1] at c1; rw [e2] at c2; rw [e3] at c3
      refine ⟨c0, by rw [Nat.add_assoc]; exact c1, by rw [Nat.add_assoc]; exact c2, by rw [Nat.add_assoc]; exact c3, ?_⟩
      rcases hs with e | ⟨b', off', e, hb', hc'⟩
      · exact Or.inl e
      · exact Or.inr ⟨b', off', e, Nat.lt_of_lt_of_le hb' hw.size, fun j hj => (hw.cell (p := ⟨b', off' + j, none⟩) hb').trans (hc' j hj)⟩
    · rcases hs with e' | ⟨b'', off'', e', hb', _⟩
      · exact Or.inl e'
      · right
        rw [e'] at e
        injection e with e
        injection e with e _
        omega

/-- A copy of both. -/
theorem both_fork {w w2 w3 : World} {most : Nat} {A : List (ByteArray × Int)} {L' : List LNode} {v' : Value} (h1 : Lru w2 (w.heap.size + 1) w.heap.size most L') (h2 : pr L' = A) (h3 : Below w.heap.size w w2) (h4 : ∀ b, Lown (w.heap.size + 1) w.heap.size L' b → w.heap.size ≤ b)
    (q1 : RefM w3 w2.heap.size most v' A) (q2 : Below w2.heap.size w2 w3) : ∃ S', Both w3 (w.heap.size + 1) w2.heap.size most A S' ∧ (∀ b, S' b → w.heap.size ≤ b) ∧ Below w.heap.size w w3 := by
  have z := h3.size
  refine ⟨fun b => Lown (w.heap.size + 1) w.heap.size L' b ∨ Rown w2.heap.size v' b, ⟨w.heap.size, L', v', h1.below q2, q1, h2, fun b hb hr => ?_, fun b => Iff.rfl⟩, fun b hb => ?_, h3.trans (q2.mono z)⟩
  · have := h1.lt hb
    have := (q1.lt hr).2
    omega
  · rcases hb with hb | hb
    · exact h4 b hb
    · have := (q1.lt hb).2; omega

/-- Two pairs of both, apart. -/
def Inv (w wr : World) (m r N : Nat) (A : List (ByteArray × Int)) (S : Nat → Prop) (g s : Nat) (A2 : List (ByteArray × Int)) (S2 : Nat → Prop) : Prop :=
  Both wr m r N A S ∧ Both wr g s N A2 S2 ∧ (∀ b, S b → ¬ S2 b) ∧ (∀ b, S b → w.heap.size ≤ b) ∧ (∀ b, S2 b → w.heap.size ≤ b) ∧ Below w.heap.size w wr
theorem inv_new {w w1 w3 : World} {m r N g s : Nat} {A : List (ByteArray × Int)} {S S2 : Nat → Prop} (h1 : Both w1 m r N A S) (h2 : ∀ b, S b → w.heap.size ≤ b) (h3 : Below w.heap.size w w1) (q1 : Both w3 g s N A S2) (q2 : ∀ b, S2 b → w1.heap.size ≤ b) (q3 : Below w1.heap.size w1 w3) : Inv w w3 m r N A S g s A S2 := by
  have z := h3.size
  exact ⟨h1.below q3, q1, fun b hb hb2 => by have := h1.lt hb; have := q2 b hb2; omega, h2, fun b hb => by have := q2 b hb; omega, h3.trans (q3.mono z)⟩
theorem inv_do {w wr w3 : World} {m r N g s : Nat} {A A2 A3 : List (ByteArray × Int)} {S S2 S3 : Nat → Prop} (h : Inv w wr m r N A S g s A2 S2) (q1 : Both w3 m r N A3 S3) (q2 : Off S wr w3) (q3 : ∀ b, S3 b → S b ∨ wr.heap.size ≤ b) : Inv w w3 m r N A3 S3 g s A2 S2 := by
  obtain ⟨h1, h2, h3, h4, h5, h6⟩ := h
  have z := h6.size
  refine ⟨q1, h2.off q2 (fun b hb hs => h3 b hs hb), fun b hb hb2 => ?_, fun b hb => ?_, h5, below_off h6 z q2 h4⟩
  · rcases q3 b hb with e | e
    · exact h3 b e hb2
    · have := h2.lt hb2; omega
  · rcases q3 b hb with e | e
    · exact h4 b e
    · omega
theorem inv_below {w wr w3 : World} {m r N g s : Nat} {A A2 : List (ByteArray × Int)} {S S2 : Nat → Prop} (h : Inv w wr m r N A S g s A2 S2) (hb : Below wr.heap.size wr w3) : Inv w w3 m r N A S g s A2 S2 := by
  obtain ⟨h1, h2, h3, h4, h5, h6⟩ := h
  exact ⟨h1.below hb, h2.below hb, h3, h4, h5, h6.trans (hb.mono h6.size)⟩

set_option maxHeartbeats 25600000 in
set_option maxRecDepth 100000 in
theorem lplays_walk (w : World) (most : Int) (a : Option Addr) (len cap : Nat) (V : Nat → Nat → Value) (hm : len ≤ 140737488351232) (hd : DeedsAt w a len V) :
    Calls Try.prog 4 #[.int .i64 most, .slice a len cap] w fun e w' => e = .returned (.bool true) ∧ Below w.heap.size w w' := by
  have HD := Lib.hid hd
  clear hd
  by_cases hr : 1 ≤ most ∧ most ≤ 4096
  · go_enter Try.func4, Try.ntmps4
    go_wp2_with (fail)
    refine (lnew_any w most hr).mono ?_
    rintro e w1 ⟨rfl, hl1, hb1, z1⟩
    have H1 := Lib.hid (And.intro hl1 (And.intro hb1 z1))
    clear hl1 hb1 z1
    go_wp2_with (fail)
    refine (rnew_any w1 most hr).mono ?_
    rintro e w2 ⟨rfl, hr2, hb2, z2⟩
    have hboth : ∃ S, Both w2 (w.heap.size + 1) w1.heap.size most.toNat [] S ∧ (∀ b, S b → w.heap.size ≤ b) ∧ Below w.heap.size w w2 :=
      both_fork H1.out.1 rfl H1.out.2.1 (own_empty (by omega) (by omega)) hr2 hb2
    obtain ⟨S, B1, B2, B3⟩ := hboth
    have HB := Lib.hid (And.intro B1 (And.intro B2 B3))
    obtain ⟨N, hN⟩ : ∃ N : Nat, most.toNat = N := ⟨_, rfl⟩
    rw [hN] at HB
    have hw2 : w.heap.size ≤ w2.heap.size := B3.size
    clear hr2 hb2 z2 B1 B2 B3
    generalize hM : w.heap.size + 1 = m0 at HB ⊢
    generalize hR : w1.heap.size = r0 at HB ⊢
    clear H1 hM hR hN
    go_wp2_with (fail)
    refine (llive_any w2).mono ?_
    rintro e w3 ⟨rfl, hb3⟩
    have HB3 := Lib.hid (And.intro (HB.out.1.below hb3) (And.intro HB.out.2.1 (HB.out.2.2.trans (hb3.mono hw2))))
    clear hb3 HB hw2
    go_wp2_with (fail)
    obtain ⟨mp, L, v, k1, k2, k3, k4, k5⟩ := HB3.out.1
    refine (lfork_any k1).mono ?_
    rintro e w4 ⟨rfl, L', j1, j2, j3, j4⟩
    have K2 := Lib.hid (k2.below j3)
    have J := Lib.hid (And.intro j1 (And.intro (j2.trans k3) (And.intro j3 j4)))
    clear k1 k2 k3 k4 k5 j1 j2 j3 j4
    go_wp2_with (fail)
    refine (rfork_any K2.out).mono ?_
    rintro e w5 ⟨rfl, v5, q1, q2⟩
    obtain ⟨S5, b1, b2, b3⟩ := both_fork J.out.1 J.out.2.1 J.out.2.2.1 J.out.2.2.2 q1 q2
    have HI := Lib.hid (inv_new HB3.out.1 HB3.out.2.1 HB3.out.2.2 b1 b2 b3)
    clear HB3 K2 J q1 q2 b1 b2 b3
    generalize w3.heap.size + 1 = g0 at HI ⊢
    generalize w4.heap.size = s0 at HI ⊢
    go_wp2_with (fail)
    go_loopw [9, 10, 11] (fun g s i wr => ∃ (k g0 s0 : Nat) (A : List (ByteArray × Int)) (S : Nat → Prop) (A2 : List (ByteArray × Int)) (S2 : Nat → Prop), k ≤ len ∧ i = .int .i64 k ∧ g = .pointer (some ⟨g0, 0, none⟩) ∧ s = .pointer (some ⟨s0, 0, none⟩) ∧ Hid (Inv w wr m0 r0 N A S g0 s0 A2 S2)) (fun _ _ i _ => len - (intOf i).toNat)
    case atStart => exact ⟨0, g0, s0, [], S, [], S5, Nat.zero_le _, rfl, rfl, rfl, HI⟩
    case round =>
      clear HI
      obtain ⟨k, g1, s1, A, S1, A2, S2, hk, rfl, rfl, rfl, HI⟩ := hrel
      by_cases hlt : k < len ∧ k < 200
      · obtain ⟨hlt, h200⟩ := hlt
        obtain ⟨b, off, kind, key, val, da, dl, dc, ss, rfl, hbl, hcell, z1, l1, l2, z3, hsep⟩ := HD.out.at hlt
        have HC := Lib.hid (And.intro hcell (And.intro z1 (And.intro l1 (And.intro l2 (And.intro z3 hsep)))))
        clear hcell z1 l1 l2 z3 hsep
        have k0 : (0 : Int) ≤ k := by omega
        have k1 : (k : Int) < len := by omega
        have k2 : (k : Int) < 200 := by omega
        by_cases hh : k = len / 2
        · have hq : ((k : Int) == (len : Int) / 2) = true := by rw [beq_iff_eq]; omega
          clear hh
          obtain ⟨mp, L, v, k1', k2', k3', k4', k5'⟩ := HI.out.1
          have K := Lib.hid (And.intro k1' (And.intro k2' k3'))
          clear k1' k2' k3' k4' k5'
          go_wp2_with (fail)
          refine (lfork_any K.out.1).mono ?_
          rintro e w4 ⟨rfl, L', j1, j2, j3, j4⟩
          have K2 := Lib.hid (K.out.2.1.below j3)
          have J := Lib.hid (And.intro j1 (And.intro (j2.trans K.out.2.2) (And.intro j3 j4)))
          clear j1 j2 j3 j4
          go_wp2_with (fail)
          refine (rfork_any K2.out).mono ?_
          rintro e w5 ⟨rfl, v5, q1, q2⟩
          obtain ⟨S7', b1, b2, b3⟩ := both_fork J.out.1 J.out.2.1 J.out.2.2.1 J.out.2.2.2 q1 q2
          have HI' := Lib.hid (inv_new HI.out.1 HI.out.2.2.2.1 HI.out.2.2.2.2.2 b1 b2 b3)
          clear HI K K2 J q1 q2 b1 b2 b3 A2 S2
          have HI := HI'
          clear HI'
          generalize wr.heap.size + 1 = g2 at HI ⊢
          generalize w4.heap.size = s2 at HI ⊢
          obtain ⟨d0, d1, d2, d3, dS⟩ := HC.out.1 _ HI.out.2.2.2.2.2
          have DS := Lib.hid dS
          clear dS
          go_wp2_with (fail)
          refine (do_any HI.out.1 kind key val da dl dc ss HC.out.2.1 HC.out.2.2.1 HC.out.2.2.2.1 DS.out (fun b' off' e hne hS => by
            rcases HC.out.2.2.2.2.2 b' off' e with h | h
            · exact hne h
            · have := HI.out.2.2.2.1 b' hS; omega) HC.out.2.2.2.2.1).mono ?_
          rintro e w6 ⟨rfl, S6, p1, p2, p3⟩
          have HI6 := Lib.hid (inv_do HI.out p1 p2 p3)
          generalize deedA N A kind key val ss = A6 at HI6
          clear p1 p2 p3 d0 d1 d2 d3
          obtain ⟨mp6, L6, v6, e1, e2, e3, e4, e5⟩ := HI6.out.1
          have E := Lib.hid (And.intro e1 (And.intro e2 (And.intro e3 (And.intro e4 e5))))
          have hlen : L6.length = A6.length := by rw [← e3, pr_len]
          clear e1 e2 e3 e4 e5
          go_wp2_with (fail)
          refine (lkeys_any E.out.1).mono ?_
          rintro e w7 ⟨v7, rfl, r7, b7⟩
          have H7 := Lib.hid (And.intro r7 b7)
          obtain ⟨a7, c7, rfl, s7, n7⟩ := StrsAt.own r7
          clear r7 b7 s7 n7
          go_wp2_with (fail)
          refine (rkeys_any (E.out.2.1.below H7.out.2)).mono ?_
          rintro e w8 ⟨v8, rfl, r8, b8⟩
          have H8 := Lib.hid (And.intro r8 b8)
          obtain ⟨a8, c8, rfl, s8, n8⟩ := StrsAt.own r8
          have S8 := Lib.hid s8
          have hN8 : (pr L6).length ≤ 4096 := by rw [pr_len]; have := E.out.1.cap; have := E.out.1.big; omega
          have hp : pr L6 = A6 := E.out.2.2.1
          have S7 : Hid (StrsAt w8 a7 (A6.map (·.1))) := by
            obtain ⟨a, c, e, hs, hn⟩ := StrsAt.own (krm_kept H7.out.1 H8.out.2)
            injection e with e1 e2 e3
            rw [e1, ← hp]; exact hs
          rw [hp] at hN8
          have b78 : Below w6.heap.size w6 w8 := H7.out.2.trans (H8.out.2.mono H7.out.2.size)
          have HB8 := Lib.hid b78
          try rw [hlen]
          clear r8 b8 s8 n8 hp b78
          go_wp2_with (fail)
          refine (same_any a7 a8 A6.length c7 c8 (A6.map (·.1)) (by simp) (by omega) S7.out S8.out).mono ?_
          rintro e w9 ⟨rfl, b9⟩
          have HB9 := Lib.hid (HB8.out.trans (b9.mono HB8.out.size))
          clear b9
          go_wp2_with (fail)
          refine (llen_any (E.out.1.below HB9.out).body).mono ?_
          rintro e w10 ⟨rfl, rfl⟩
          try rw [hlen]
          go_wp2_with (fail)
          refine (rlen_any (E.out.2.1.below HB9.out)).mono ?_
          rintro e w11 ⟨rfl, rfl⟩
          go_wp2_with (fail)
          refine (lmost_any (E.out.1.below HB9.out).body).mono ?_
          rintro e w12 ⟨rfl, rfl⟩
          go_wp2_with (fail)
          refine (rmost_any (E.out.2.1.below HB9.out)).mono ?_
          rintro e w13 ⟨rfl, rfl⟩
          go_wp2_with (fail)
          exact ⟨⟨k + 1, _, _, A6, S6, A, S7', by omega, by go_num, rfl, rfl, inv_below HI6.out HB9.out⟩, by first | (simp [intOf]; done) | (simp [intOf]; omega)⟩
        · have hq : ((k : Int) == (len : Int) / 2) = false := by rw [beq_eq_false_iff_ne]; omega
          clear hh
          obtain ⟨d0, d1, d2, d3, dS⟩ := HC.out.1 _ HI.out.2.2.2.2.2
          have DS := Lib.hid dS
          clear dS
          go_wp2_with (fail)
          refine (do_any HI.out.1 kind key val da dl dc ss HC.out.2.1 HC.out.2.2.1 HC.out.2.2.2.1 DS.out (fun b' off' e hne hS => by
            rcases HC.out.2.2.2.2.2 b' off' e with h | h
            · exact hne h
            · have := HI.out.2.2.2.1 b' hS; omega) HC.out.2.2.2.2.1).mono ?_
          rintro e w6 ⟨rfl, S6, p1, p2, p3⟩
          have HI6 := Lib.hid (inv_do HI.out p1 p2 p3)
          generalize deedA N A kind key val ss = A6 at HI6
          clear p1 p2 p3 d0 d1 d2 d3
          obtain ⟨mp6, L6, v6, e1, e2, e3, e4, e5⟩ := HI6.out.1
          have E := Lib.hid (And.intro e1 (And.intro e2 (And.intro e3 (And.intro e4 e5))))
          have hlen : L6.length = A6.length := by rw [← e3, pr_len]
          clear e1 e2 e3 e4 e5
          go_wp2_with (fail)
          refine (lkeys_any E.out.1).mono ?_
          rintro e w7 ⟨v7, rfl, r7, b7⟩
          have H7 := Lib.hid (And.intro r7 b7)
          obtain ⟨a7, c7, rfl, s7, n7⟩ := StrsAt.own r7
          clear r7 b7 s7 n7
          go_wp2_with (fail)
          refine (rkeys_any (E.out.2.1.below H7.out.2)).mono ?_
          rintro e w8 ⟨v8, rfl, r8, b8⟩
          have H8 := Lib.hid (And.intro r8 b8)
          obtain ⟨a8, c8, rfl, s8, n8⟩ := StrsAt.own r8
          have S8 := Lib.hid s8
          have hN8 : (pr L6).length ≤ 4096 := by rw [pr_len]; have := E.out.1.cap; have := E.out.1.big; omega
          have hp : pr L6 = A6 := E.out.2.2.1
          have S7 : Hid (StrsAt w8 a7 (A6.map (·.1))) := by
            obtain ⟨a, c, e, hs, hn⟩ := StrsAt.own (krm_kept H7.out.1 H8.out.2)
            injection e with e1 e2 e3
            rw [e1, ← hp]; exact hs
          rw [hp] at hN8
          have b78 : Below w6.heap.size w6 w8 := H7.out.2.trans (H8.out.2.mono H7.out.2.size)
          have HB8 := Lib.hid b78
          try rw [hlen]
          clear r8 b8 s8 n8 hp b78
          go_wp2_with (fail)
          refine (same_any a7 a8 A6.length c7 c8 (A6.map (·.1)) (by simp) (by omega) S7.out S8.out).mono ?_
          rintro e w9 ⟨rfl, b9⟩
          have HB9 := Lib.hid (HB8.out.trans (b9.mono HB8.out.size))
          clear b9
          go_wp2_with (fail)
          refine (llen_any (E.out.1.below HB9.out).body).mono ?_
          rintro e w10 ⟨rfl, rfl⟩
          try rw [hlen]
          go_wp2_with (fail)
          refine (rlen_any (E.out.2.1.below HB9.out)).mono ?_
          rintro e w11 ⟨rfl, rfl⟩
          go_wp2_with (fail)
          refine (lmost_any (E.out.1.below HB9.out).body).mono ?_
          rintro e w12 ⟨rfl, rfl⟩
          go_wp2_with (fail)
          refine (rmost_any (E.out.2.1.below HB9.out)).mono ?_
          rintro e w13 ⟨rfl, rfl⟩
          go_wp2_with (fail)
          exact ⟨⟨k + 1, _, _, A6, S6, A2, S2, by omega, by go_num, rfl, rfl, inv_below HI6.out HB9.out⟩, by first | (simp [intOf]; done) | (simp [intOf]; omega)⟩
      · go_wp2_with (fail)
        all_goals
          obtain ⟨mp6, L6, v6, e1, e2, e3, e4, e5⟩ := HI.out.2.1
          have E := Lib.hid (And.intro e1 (And.intro e2 (And.intro e3 (And.intro e4 e5))))
          have hlen : L6.length = A2.length := by rw [← e3, pr_len]
          clear e1 e2 e3 e4 e5
          refine (lkeys_any E.out.1).mono ?_
          rintro e w7 ⟨v7, rfl, r7, b7⟩
          have H7 := Lib.hid (And.intro r7 b7)
          obtain ⟨a7, c7, rfl, s7, n7⟩ := StrsAt.own r7
          clear r7 b7 s7 n7
          go_wp2_with (fail)
          refine (rkeys_any (E.out.2.1.below H7.out.2)).mono ?_
          rintro e w8 ⟨v8, rfl, r8, b8⟩
          have H8 := Lib.hid (And.intro r8 b8)
          obtain ⟨a8, c8, rfl, s8, n8⟩ := StrsAt.own r8
          have S8 := Lib.hid s8
          have hN8 : (pr L6).length ≤ 4096 := by rw [pr_len]; have := E.out.1.cap; have := E.out.1.big; omega
          have hp : pr L6 = A2 := E.out.2.2.1
          have S7 : Hid (StrsAt w8 a7 (A2.map (·.1))) := by
            obtain ⟨a, c, e, hs, hn⟩ := StrsAt.own (krm_kept H7.out.1 H8.out.2)
            injection e with e1 e2 e3
            rw [e1, ← hp]; exact hs
          rw [hp] at hN8
          have b78 : Below wr.heap.size wr w8 := H7.out.2.trans (H8.out.2.mono H7.out.2.size)
          have HB8 := Lib.hid b78
          try rw [hlen]
          clear r8 b8 s8 n8 hp b78
          go_wp2_with (fail)
          refine (same_any a7 a8 A2.length c7 c8 (A2.map (·.1)) (by simp) (by omega) S7.out S8.out).mono ?_
          rintro e w9 ⟨rfl, b9⟩
          go_wp2_with (fail)
          go_ret
          exact ⟨rfl, HI.out.2.2.2.2.2.trans ((HB8.out.trans (b9.mono HB8.out.size)).mono HI.out.2.2.2.2.2.size)⟩
  · go_enter Try.func4, Try.ntmps4
    go_wp2_with (fail)
    refine (lnew_no w most hr).mono ?_
    rintro e w1 ⟨rfl, rfl⟩
    go_wp2_with (fail)
    refine (rnew_no w1 most hr).mono ?_
    rintro e w2 ⟨rfl, rfl⟩
    go_wp2_with (fail)
    refine (llive_any w2).mono ?_
    rintro e w3 ⟨rfl, hb3⟩
    have HB3 := Lib.hid hb3
    clear hb3 hr
    go_wp2_with (fail)
    refine (lfork_nil w3).mono ?_
    rintro e w4 ⟨rfl, rfl⟩
    go_wp2_with (fail)
    refine (rfork_nil w4).mono ?_
    rintro e w5 ⟨rfl, rfl⟩
    go_wp2_with (fail)
    go_loopw [9, 10, 11] (fun g s i wr => ∃ k : Nat, k ≤ len ∧ i = .int .i64 k ∧ g = .pointer none ∧ s = .pointer none ∧ Below w2.heap.size w2 wr) (fun _ _ i _ => len - (intOf i).toNat)
    case atStart => exact ⟨0, Nat.zero_le _, rfl, rfl, rfl, HB3.out⟩
    case round =>
      obtain ⟨k, hk, rfl, rfl, rfl, hbr⟩ := hrel
      by_cases hlt : k < len ∧ k < 200
      · obtain ⟨hlt, h200⟩ := hlt
        obtain ⟨b, off, kind, key, val, da, dl, dc, ss, rfl, hbl, hcell, z1, l1, l2, z3, hsep⟩ := HD.out.at hlt
        have HC := Lib.hid (And.intro hcell (And.intro z1 (And.intro l1 (And.intro l2 (And.intro z3 hsep)))))
        clear hcell z1 l1 l2 z3 hsep
        have k0 : (0 : Int) ≤ k := by omega
        have k1 : (k : Int) < len := by omega
        have k2 : (k : Int) < 200 := by omega
        by_cases hh : k = len / 2
        · have hq : ((k : Int) == (len : Int) / 2) = true := by rw [beq_iff_eq]; omega
          clear hh
          go_wp2_with (fail)
          refine (lfork_nil _).mono ?_
          rintro e w4 ⟨rfl, rfl⟩
          go_wp2_with (fail)
          refine (rfork_nil _).mono ?_
          rintro e w5 ⟨rfl, rfl⟩
          obtain ⟨d0, d1, d2, d3, dS⟩ := HC.out.1 _ hbr
          have DS := Lib.hid dS
          clear dS
          go_wp2_with (fail)
          refine (do_nil _ kind key val da dl dc ss HC.out.2.2.1 HC.out.2.2.2.1 DS.out).mono ?_
          rintro e w6 ⟨rfl, b6⟩
          have HB6 := Lib.hid (hbr.trans (b6.mono hbr.size))
          clear b6 d0 d1 d2 d3
          go_wp2_with (fail)
          refine (lkeys_nil _).mono ?_
          rintro e w7 ⟨rfl, rfl⟩
          go_wp2_with (fail)
          refine (rkeys_nil _).mono ?_
          rintro e w8 ⟨rfl, rfl⟩
          go_wp2_with (fail)
          refine (same_any none none 0 0 0 [] rfl (by omega) (Or.inl rfl) (Or.inl rfl)).mono ?_
          rintro e w9 ⟨rfl, b9⟩
          have HB9 := Lib.hid (HB6.out.trans (b9.mono HB6.out.size))
          clear b9
          go_wp2_with (fail)
          refine (llen_nil _).mono ?_
          rintro e w10 ⟨rfl, rfl⟩
          go_wp2_with (fail)
          refine (rlen_nil _).mono ?_
          rintro e w11 ⟨rfl, rfl⟩
          go_wp2_with (fail)
          refine (lmost_nil _).mono ?_
          rintro e w12 ⟨rfl, rfl⟩
          go_wp2_with (fail)
          refine (rmost_nil _).mono ?_
          rintro e w13 ⟨rfl, rfl⟩
          go_wp2_with (fail)
          exact ⟨⟨k + 1, by omega, by go_num, rfl, rfl, HB9.out⟩, by first | (simp [intOf]; done) | (simp [intOf]; omega)⟩
        · have hq : ((k : Int) == (len : Int) / 2) = false := by rw [beq_eq_false_iff_ne]; omega
          clear hh
          obtain ⟨d0, d1, d2, d3, dS⟩ := HC.out.1 _ hbr
          have DS := Lib.hid dS
          clear dS
          go_wp2_with (fail)
          refine (do_nil _ kind key val da dl dc ss HC.out.2.2.1 HC.out.2.2.2.1 DS.out).mono ?_
          rintro e w6 ⟨rfl, b6⟩
          have HB6 := Lib.hid (hbr.trans (b6.mono hbr.size))
          clear b6 d0 d1 d2 d3
          go_wp2_with (fail)
          refine (lkeys_nil _).mono ?_
          rintro e w7 ⟨rfl, rfl⟩
          go_wp2_with (fail)
          refine (rkeys_nil _).mono ?_
          rintro e w8 ⟨rfl, rfl⟩
          go_wp2_with (fail)
          refine (same_any none none 0 0 0 [] rfl (by omega) (Or.inl rfl) (Or.inl rfl)).mono ?_
          rintro e w9 ⟨rfl, b9⟩
          have HB9 := Lib.hid (HB6.out.trans (b9.mono HB6.out.size))
          clear b9
          go_wp2_with (fail)
          refine (llen_nil _).mono ?_
          rintro e w10 ⟨rfl, rfl⟩
          go_wp2_with (fail)
          refine (rlen_nil _).mono ?_
          rintro e w11 ⟨rfl, rfl⟩
          go_wp2_with (fail)
          refine (lmost_nil _).mono ?_
          rintro e w12 ⟨rfl, rfl⟩
          go_wp2_with (fail)
          refine (rmost_nil _).mono ?_
          rintro e w13 ⟨rfl, rfl⟩
          go_wp2_with (fail)
          exact ⟨⟨k + 1, by omega, by go_num, rfl, rfl, HB9.out⟩, by first | (simp [intOf]; done) | (simp [intOf]; omega)⟩
      · go_wp2_with (fail)
        all_goals
          refine (lkeys_nil _).mono ?_
          rintro e w7 ⟨rfl, rfl⟩
          go_wp2_with (fail)
          refine (rkeys_nil _).mono ?_
          rintro e w8 ⟨rfl, rfl⟩
          go_wp2_with (fail)
          refine (same_any none none 0 0 0 [] rfl (by omega) (Or.inl rfl) (Or.inl rfl)).mono ?_
          rintro e w9 ⟨rfl, b9⟩
          go_wp2_with (fail)
          go_ret
          exact ⟨rfl, hbr.trans (b9.mono hbr.size)⟩

theorem deeds_of {w : World} {a : Option Addr} {len : Nat} {V : Nat → Nat → Value} (hr : RecsAt w a 4 len V) (f0 : ∀ j, j < len → V j 0 = .int .i64 (intOf (V j 0)) ∧ (Lit.int .i64 (intOf (V j 0))).wf = true) (f1 : ∀ j, j < len → V j 1 = .string (strOf (V j 1)) ∧ (strOf (V j 1)).size ≤ maxLen)
    (f2 : ∀ j, j < len → V j 2 = .int .i64 (intOf (V j 2)) ∧ (Lit.int .i64 (intOf (V j 2))).wf = true) (f3 : ∀ j, j < len → ∃ (a : Option Addr) (l c : Nat) (ss : List ByteArray), V j 3 = .slice a l c ∧ ss.length = l ∧ l ≤ maxLen ∧ StrsAt w a ss ∧ (∀ s, s ∈ ss → s.size ≤ maxLen)) : DeedsAt w a len V :=
  ⟨hr, fun j hj => ⟨_, (f0 j hj).1⟩, fun j hj => ⟨_, f1 j hj⟩, fun j hj => ⟨_, (f2 j hj).1⟩, f3⟩

theorem lplays_law {w : World} (most : Int) (wm : (Lit.int .i64 most).wf = true) (a : Option Addr) (len cap : Nat) (V : Nat → Nat → Value) (hm : len ≤ 140737488351232) (hr : RecsAt w a 4 len V) (hB : len * 56 ≤ 140737488351232)
    (f0 : ∀ j, j < len → V j 0 = .int .i64 (intOf (V j 0)) ∧ (Lit.int .i64 (intOf (V j 0))).wf = true) (f1 : ∀ j, j < len → V j 1 = .string (strOf (V j 1)) ∧ (strOf (V j 1)).size ≤ maxLen)
    (f2 : ∀ j, j < len → V j 2 = .int .i64 (intOf (V j 2)) ∧ (Lit.int .i64 (intOf (V j 2))).wf = true) (f3 : ∀ j, j < len → ∃ (a : Option Addr) (l c : Nat) (ss : List ByteArray), V j 3 = .slice a l c ∧ ss.length = l ∧ l ≤ maxLen ∧ StrsAt w a ss ∧ (∀ s, s ∈ ss → s.size ≤ maxLen)) :
    Calls Try.prog 4 #[.int .i64 most, .slice a len cap] w fun e w' => e = .returned (.bool true) ∧ Below w.heap.size w w' :=
  lplays_walk w most a len cap V hm (deeds_of hr f0 f1 f2 f3)
end Go.Proofs.Ytidcbjgiohkidaa
