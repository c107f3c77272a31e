/- lru: Put. -/
import Derived.Test.YtglielpiojnnhaaLruG
namespace Go.Proofs.Ytglielpiojnnhaa
open Go.RowKit
set_option linter.unusedVariables false
set_option linter.unusedSimpArgs false

set_option maxHeartbeats 1600000 in
theorem lput_nil (s : ByteArray) (v : Int) (w : World) :
    Calls Try.prog 7 #[.pointer none, .string s, .int .i64 v] w fun e w' => e = .returned (.tuple #[.string ⟨#[]⟩, .bool false, .int .i64 1]) ∧ w' = w := by
  go_enter Try.func7, Try.ntmps7
  go_wp2_with (fail)
  go_ret3
  exact ⟨rfl, rfl⟩

set_option maxHeartbeats 6400000 in
set_option maxRecDepth 100000 in
theorem lput_old {w : World} {m mp most : Nat} {A C : List LNode} {x : LNode} (h : Lru w m mp most (A ++ x :: C)) (v : Int) :
    Calls Try.prog 7 #[.pointer (some ⟨m, 0, none⟩), .string x.k, .int .i64 v] w fun e w' => e = .returned (.tuple #[.string ⟨#[]⟩, .bool false, .int .i64 0]) ∧ Lru w' m mp most (A ++ C ++ [⟨x.b, x.k, v⟩]) ∧ Off (Lown m mp (A ++ x :: C)) w w' := by
  have HL := Lib.hid h
  clear h
  have hx : x ∈ A ++ x :: C := by simp
  have hlook := HL.out.body.lookup (HL.out.body.small x hx)
  rw [look_some HL.out.body.keys hx rfl] at hlook
  simp only [Option.map_some, ptrV] at hlook
  have c1 := HL.out.body.c1
  have cv := HL.out.body.val x hx
  have fv := HL.out.ring.fr x.b (by simp)
  go_enter Try.func7, Try.ntmps7
  go_wp2_with (fail)
  have hr0 : Ring (w.setCell ⟨x.b, 1, none⟩ (.int .i64 v)) m ((A ++ ⟨x.b, x.k, v⟩ :: C).map (·.b)) := by
    have := HL.out.ring.set x.b 1 (by omega) (.int .i64 v)
    simpa using this
  refine (lout_any _ m mp most A C (A ++ ⟨x.b, x.k, v⟩ :: C) ⟨x.b, x.k, v⟩ hr0 (HL.out.body.setVal HL.out.ring.nodup v)).mono ?_
  rintro e w2 ⟨rfl, hr2, hb2, ho2, f2, k2, k3⟩
  have H2 := Lib.hid (And.intro hr2 (And.intro hb2 (And.intro ho2 (And.intro f2 (And.intro k2 k3)))))
  clear hr2 hb2 ho2 f2 k2 k3 hlook c1 cv fv
  go_wp2_with (fail)
  refine (ltouch_any _ m mp most x.b ((A ++ C).map (·.b)) (A ++ ⟨x.b, x.k, v⟩ :: C) H2.out.1 H2.out.2.1 (nodup_out HL.out.ring.nodup) H2.out.2.2.2.1 H2.out.2.2.2.2.1 H2.out.2.2.2.2.2).mono ?_
  rintro e w3 ⟨rfl, hr3, hb3, ho3⟩
  have H3 := Lib.hid (And.intro hr3 (And.intro hb3 ho3))
  clear hr3 hb3 ho3
  go_wp2_with (fail)
  go_ret3
  refine ⟨rfl, lru_moved (w1 := w2) (w2 := w2) (x := ⟨x.b, x.k, v⟩) (by have := HL.out.cap; simp at this ⊢; omega) HL.out.big H3.out.1 H3.out.2.1, ?_⟩
  have o0 : Off (Lown m mp (A ++ x :: C)) w (w.setCell ⟨x.b, 1, none⟩ (.int .i64 v)) := (Off.refl _ w).setCell (fun _ => Or.inr (Or.inr (by simp))) _
  refine (o0.trans H2.out.2.2.1 ?_).trans H3.out.2.2 ?_
  · intro i _ hi
    refine own_ring ?_
    simpa using hi
  · intro i _ hi
    refine own_ring ?_
    simp only [List.map_append, List.map_cons, List.mem_append, List.mem_cons] at hi ⊢
    rcases hi with h | (h | h) | h
    · exact Or.inl h
    · exact Or.inr (Or.inl h)
    · exact Or.inr (Or.inr (Or.inr h))
    · exact Or.inr (Or.inr (Or.inl h))

/-- A new link laid in: the end of Put. -/
theorem lru_added {w1 w2 : World} {m mp most c : Nat} {L : List LNode} {s : ByteArray} {v : Int} (hcap : L.length < most) (hbig : 1 ≤ most ∧ most ≤ 4096) (hr : Ring w2 m (L.map (·.b) ++ [c])) (hb : LBody w2 m mp most (L ++ [⟨c, s, v⟩])) :
    Lru w2 m mp most (L ++ [⟨c, s, v⟩]) :=
  ⟨by simpa using hr, hb, by simp; omega, hbig⟩

/-- What the laying in of a new link meets. -/
theorem lput_prep {w : World} {m mp most : Nat} {L : List LNode} (h : Lru w m mp most L) {s : ByteArray} (hs : s.size ≤ maxLen) (v : Int) (hlk : look L s = none) (t : TypeId) :
    (w.alloc (.cells #[.string s, .int .i64 v, .pointer none, .pointer none] t)).cell? ⟨m, 1, none⟩ = some (.map (some mp)) ∧
    ∃ w3, (Instr.mapUpdate 41 (.map (some mp)) (.string s) (.pointer (some ⟨w.heap.size, 0, none⟩))).run Try.prog (w.alloc (.cells #[.string s, .int .i64 v, .pointer none, .pointer none] t)) = .ok () w3 ∧
      Ring w3 m (L.map (·.b)) ∧ LBody w3 m mp most (L ++ [⟨w.heap.size, s, v⟩]) ∧ Off (Lown m mp L) w w3 ∧ w.heap.size ∉ m :: L.map (·.b) ∧ (∀ o, w3.frozen? ⟨w.heap.size, o, none⟩ = false) ∧ (∃ u, w3.cell? ⟨w.heap.size, 2, none⟩ = some u) ∧ (∃ u, w3.cell? ⟨w.heap.size, 3, none⟩ = some u) := by
  have hb : Below w.heap.size w (w.alloc (.cells #[.string s, .int .i64 v, .pointer none, .pointer none] t)) := (Below.refl _ _).alloc (Nat.le_refl _) _
  have h1 := h.below hb
  have hz : (w.alloc (.cells #[.string s, .int .i64 v, .pointer none, .pointer none] t)).heap[w.heap.size]? = some (.cells #[.string s, .int .i64 v, .pointer none, .pointer none] t) := by
    show (Array.push w.heap _)[_]? = _
    rw [Array.getElem?_push, if_pos rfl]
  refine ⟨h1.body.c1, ?_⟩
  have hsize : (w.alloc (.cells #[.string s, .int .i64 v, .pointer none, .pointer none] t)).heap.size = w.heap.size + 1 := by simp
  generalize w.alloc (.cells #[.string s, .int .i64 v, .pointer none, .pointer none] t) = W at *
  have hnew : w.heap.size ∉ m :: L.map (·.b) := by
    intro hm
    have := h.lt (mp := mp) (b := w.heap.size) (by rcases List.mem_cons.1 hm with e | hm; exact Or.inl e; exact Or.inr (Or.inr hm))
    omega
  obtain ⟨w3, hrun, hb3, hg3⟩ := h1.body.add (c := w.heap.size) (s := s) (v := v) (by have := h.cap; have := h.big; simp only [maxLen]; omega) hs hlk (by simp only [World.cell?, hz]; rfl) (by simp only [World.cell?, hz]; rfl)
  have hne : w.heap.size ≠ mp := by
    have := h.lt (mp := mp) (b := mp) (Or.inr (Or.inl rfl))
    omega
  have hk : w3.heap[w.heap.size]? = W.heap[w.heap.size]? := hg3.block _ (by omega) (fun e => hne (by injection e))
  refine ⟨w3, hrun, h1.ring.kept (fun b hbm => ?_), hb3, (Off.ofBelow hb).grown hg3 (fun _ => Or.inr (Or.inl rfl)), hnew, fun o => ?_, ⟨.pointer none, ?_⟩, ⟨.pointer none, ?_⟩⟩
  · obtain ⟨e1, e2⟩ := h1.body.apart hbm
    exact hg3.block b e2 (fun e => e1 (by injection e))
  · simp only [World.frozen?, hk, hz]
    simp
  · simp only [World.cell?, hk, hz]; rfl
  · simp only [World.cell?, hk, hz]; rfl

set_option maxHeartbeats 6400000 in
set_option maxRecDepth 100000 in
theorem lput_new {w : World} {m mp most : Nat} {L : List LNode} (h : Lru w m mp most L) {s : ByteArray} (hs : s.size ≤ maxLen) (v : Int) (hlk : look L s = none) (hroom : L.length ≠ most) :
    Calls Try.prog 7 #[.pointer (some ⟨m, 0, none⟩), .string s, .int .i64 v] w fun e w' => e = .returned (.tuple #[.string ⟨#[]⟩, .bool false, .int .i64 0]) ∧ Lru w' m mp most (L ++ [⟨w.heap.size, s, v⟩]) ∧ Off (Lown m mp L) w w' := by
  have HL := Lib.hid h
  have HS := Lib.hid hs
  have hlook := HL.out.body.lookup hs
  rw [hlk] at hlook
  simp only [Option.map_none, ptrV] at hlook
  have c1 := HL.out.body.c1
  have c0 := HL.out.body.c0
  have hlen := HL.out.body.len
  have hlen' := HL.out.body.drew.len
  have hdec : ((L.length : Int) == (most : Int)) = false := by simp; omega
  have HK := Lib.hid hlk
  have HR := Lib.hid hroom
  clear h hs hlk hroom
  go_enter Try.func7, Try.ntmps7
  go_wp2_with (fail)
  go_region
  all_goals
    have HD := Lib.hid (And.intro (HL.out.below (w' := w.drew) ((Below.refl _ _).drew)) (And.intro (show w.drew.heap.size = w.heap.size from rfl) ((Off.refl (Lown m mp L) w).drew)))
    generalize w.drew = w2 at HD hlen' ⊢
    obtain ⟨c1W, w3, hrun, P⟩ := lput_prep HD.out.1 HS.out v HK.out 46
    have HP := Lib.hid P
    clear P c1 c0 hlook hlen hlen'
    go_wp2_with (fail)
    refine (ltouch_any w3 m mp most w2.heap.size (L.map (·.b)) (L ++ [⟨w2.heap.size, s, v⟩]) HP.out.1 HP.out.2.1 HP.out.2.2.2.1 HP.out.2.2.2.2.1 HP.out.2.2.2.2.2.1 HP.out.2.2.2.2.2.2).mono ?_
    rintro e w4 ⟨rfl, hr4, hb4, ho4⟩
    have H4 := Lib.hid (And.intro hr4 (And.intro hb4 ho4))
    clear hr4 hb4 ho4
    go_wp2_with (fail)
    go_ret3
    have hcap := HL.out.cap
    have hne := HR.out
    rw [← HD.out.2.1]
    refine ⟨rfl, lru_added (w1 := w) (by omega) HL.out.big H4.out.1 H4.out.2.1, (HD.out.2.2.trans HP.out.2.2.1 (fun _ _ h => h)).trans H4.out.2.2 ?_⟩
    intro i hi h
    rcases h with h | h | h
    · exact Or.inl h
    · exact Or.inr (Or.inr h)
    · have := HD.out.2.1
      omega

theorem one_str (w : World) (s : ByteArray) : StrsAt (w.alloc (.cells #[.string s] 9)) (some ⟨w.heap.size, 0, none⟩) [s] :=
  Or.inr ⟨_, 0, rfl, by simp, fun j hj => by
    have : j = 0 := by simp at hj; omega
    subst this
    simp [go_sem]⟩
theorem drop_one {x : LNode} {C : List LNode} (hn : ((x :: C).map (·.k)).Nodup) : dropA (pr (x :: C)) [x.k] = (pr C, 1) := by
  have h1 := del_pr (A := []) (C := C) (x := x) (by simpa using hn)
  simp only [List.nil_append] at h1
  have h2 : hasA (pr (x :: C)) x.k = true := by simp [hasA, pr]
  simp [dropA, h2, ← h1]

set_option maxHeartbeats 6400000 in
set_option maxRecDepth 100000 in
theorem lput_full {w : World} {m mp most : Nat} {x : LNode} {C : List LNode} (h : Lru w m mp most (x :: C)) {s : ByteArray} (hs : s.size ≤ maxLen) (v : Int) (hlk : look (x :: C) s = none) (hfull : (x :: C).length = most) :
    Calls Try.prog 7 #[.pointer (some ⟨m, 0, none⟩), .string s, .int .i64 v] w fun e w' => e = .returned (.tuple #[.string x.k, .bool true, .int .i64 0]) ∧ ∃ L', Lru w' m mp most L' ∧ pr L' = pr C ++ [(s, v)] ∧ Off (Lown m mp (x :: C)) w w' ∧ (∀ b, Lown m mp L' b → Lown m mp (x :: C) b ∨ w.heap.size ≤ b) := by
  have HL := Lib.hid h
  have HS := Lib.hid hs
  have hlook := HL.out.body.lookup hs
  rw [hlk] at hlook
  simp only [Option.map_none, ptrV] at hlook
  have c1 := HL.out.body.c1
  have c0 := HL.out.body.c0
  have c5 := HL.out.ring.behind 0 (by omega)
  rw [show rb m (List.map (fun x : LNode => x.b) (x :: C)) 0 = m from rfl, show ro (List.map (fun x : LNode => x.b) (x :: C)) 0 + 3 = 5 from rfl, show rp m (List.map (fun x : LNode => x.b) (x :: C)) (0 + 1) = .pointer (some ⟨x.b, 0, none⟩) from rfl] at c5
  have cx := HL.out.body.key x (by simp)
  have hlen := HL.out.body.len
  have hlen' := HL.out.body.drew.len
  have hdec : (((x :: C).length : Int) == (most : Int)) = true := by rw [hfull]; simp
  have HK := Lib.hid hlk
  have HR := Lib.hid hfull
  clear h hs hlk hfull
  generalize hN : (x :: C).length = N at hlen hlen' hdec
  clear hN
  go_enter Try.func7, Try.ntmps7
  go_wp2_with (fail)
  go_region
  all_goals
    have HD := Lib.hid (And.intro (HL.out.below (w' := w.drew) ((Below.refl _ _).drew)) (And.intro (show w.drew.heap.size = w.heap.size from rfl) (And.intro ((Off.refl (Lown m mp (x :: C)) w).drew) (And.intro (show w.drew.cell? ⟨m, 5, none⟩ = some (.pointer (some ⟨x.b, 0, none⟩)) from c5) (show w.drew.cell? ⟨x.b, 0, none⟩ = some (.string x.k) from cx)))))
    generalize w.drew = w2 at HD hlen' ⊢
    have c5' := HD.out.2.2.2.1
    have cx' := HD.out.2.2.2.2
    clear c1 c0 c5 cx hlook hlen hlen'
    go_wp2_with (fail)
    have hb3 : Below w2.heap.size w2 (w2.alloc (.cells #[.string x.k] 9)) := (Below.refl _ _).alloc (Nat.le_refl _) _
    refine (ldrop_any (HD.out.1.below hb3) (some ⟨w2.heap.size, 0, none⟩) 1 1 [x.k] rfl (by decide) (one_str w2 x.k) (fun b off e _ hb => by
      injection e with e; injection e with e _
      have := HD.out.1.lt hb
      omega) (fun t ht => by simp at ht; subst ht; exact HL.out.body.small x (by simp))).mono ?_
    rintro e w3 ⟨L1, rfl, hl1, hp1, ho1, hs1⟩
    rw [drop_one HL.out.body.keys] at hp1
    have hno : hasA (pr L1) s = false := by
      rw [hp1]
      have h1 := (hasA_no HK.out).1
      simp only [pr, List.map_cons, hasA, List.any_cons, Bool.or_eq_false_iff] at h1
      exact h1.2
    have hlk1 : look L1 s = none := by
      rw [← has_pr] at hno
      simpa [lhas] using hno
    have hlen1 : L1.length < most := by
      have h1 := congrArg List.length hp1
      rw [pr_len, pr_len] at h1
      have h2 := HR.out
      simp only [List.length_cons] at h2
      omega
    have H3 := Lib.hid (And.intro hl1 (And.intro hp1 (And.intro ho1 (And.intro hs1 (And.intro hlk1 hlen1)))))
    obtain ⟨c1W, w4, hrun, P⟩ := lput_prep hl1 HS.out v hlk1 46
    have HP := Lib.hid P
    have HB3 := Lib.hid hb3
    clear P hl1 hp1 ho1 hs1 hlk1 hlen1 hno c5' cx' hb3
    rw [drop_one HL.out.body.keys]
    go_wp2_with (fail)
    refine (ltouch_any w4 m mp most w3.heap.size (L1.map (·.b)) (L1 ++ [⟨w3.heap.size, s, v⟩]) HP.out.1 HP.out.2.1 HP.out.2.2.2.1 HP.out.2.2.2.2.1 HP.out.2.2.2.2.2.1 HP.out.2.2.2.2.2.2).mono ?_
    rintro e w5 ⟨rfl, hr5, hb5, ho5⟩
    have H5 := Lib.hid (And.intro hr5 (And.intro hb5 ho5))
    clear hr5 hb5 ho5
    go_wp2_with (fail)
    go_ret3
    obtain ⟨hl1, hp1, ho1, hs1, hlk1, hlen1⟩ := H3.out
    have z1 := HB3.out.size
    have z2 := ho1.size
    have z3 := HD.out.2.1
    refine ⟨rfl, L1 ++ [⟨w3.heap.size, s, v⟩], lru_added (w1 := w) hlen1 HL.out.big H5.out.1 H5.out.2.1, by rw [← hp1]; simp [pr], ?_, fun b hb => ?_⟩
    · refine (((HD.out.2.2.1.trans (Off.ofBelow (S := Lown m mp (x :: C)) HB3.out) (fun _ _ h => h)).trans ho1 (fun _ _ h => h)).trans HP.out.2.2.1 (fun i _ h => hs1 i h)).trans H5.out.2.2 ?_
      intro i hi h
      rcases h with h | h | h
      · exact Or.inl h
      · exact hs1 i (Or.inr (Or.inr h))
      · omega
    · rcases hb with h | h | h
      · exact Or.inl (Or.inl h)
      · exact Or.inl (Or.inr (Or.inl h))
      · simp only [List.map_append, List.map_cons, List.map_nil, List.mem_append, List.mem_singleton] at h
        rcases h with h | h
        · exact Or.inl (hs1 b (Or.inr (Or.inr h)))
        · right; omega
end Go.Proofs.Ytglielpiojnnhaa
