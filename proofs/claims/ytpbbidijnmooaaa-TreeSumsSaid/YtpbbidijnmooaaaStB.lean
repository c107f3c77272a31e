/- stat: note, Pass, Block, Done, Sum, Past. -/
import Derived.Test.YtpbbidijnmooaaaStA
namespace Go.Proofs.Ytpbbidijnmooaaa
open Go.RowKit
set_option linter.unusedVariables false
set_option linter.unusedSimpArgs false

theorem NodeAt.sumOff {w w' : World} {k : NBk} {last flight at_ : Int} {notes more : List NoteW} (h : NodeAt w k last flight notes) (hs : WinN w' k.s1 k.m1 1000000 10 at_ (notes ++ more)) (ho : Off (fun i => i = k.s1 ∨ i = k.m1) w w') :
    w'.heap[k.q]? = some (.cells #[.pointer (some ⟨k.s1, 0, none⟩), .pointer (some ⟨k.s2, 0, none⟩), .int .i64 flight] 70) ∧ WinN w' k.s2 k.m2 2000000 2 last notes := by
  obtain ⟨p1, p2, p3, p4, p5, p6, p7, p8, p9, p10⟩ := h.parts
  obtain ⟨o1, o2, o3, o4, o5⟩ := nown k
  refine ⟨(ho.block _ (h.lt o1) (by omega)).trans h.head, h.pair.kept (ho.block _ (h.lt o4) (by omega)) (ho.block _ (h.lt o5) (by omega))⟩

set_option maxHeartbeats 1600000 in
set_option maxRecDepth 100000 in
theorem snote_any {w : World} {k : NBk} {last flight : Int} {notes : List NoteW} (h : NodeAt w k last flight notes) (at_ : Int) (hE : lookW last at_ = 0) (a : Option Addr) (len cap : Nat) (cs : List CntS) (hl : cs.length = len) (hm : len ≤ 1099511627776) (hnil : a = none → len = 0 ∧ cap = 0)
    (hc : CtsAt w a cs) (hr : ∀ c, c ∈ cs → RightC c) (hap : ∀ g off, a = some ⟨g, off, none⟩ → ¬ NOwn k g) :
    Calls Try.prog 29 #[.pointer (some ⟨k.q, 0, none⟩), .int .i64 at_, .slice a len cap] w fun e w' => e = .returned (.tuple #[]) ∧ NodeAt w' k at_ flight (notes ++ newW at_ cs) ∧ Off (NOwn k) w w' := by
  obtain ⟨c0, c1, c2⟩ := h.cells
  obtain ⟨o1, o2, o3, o4, o5⟩ := nown k
  have HP := Lib.hid h.parts
  have HH := Lib.hid h
  have HC := Lib.hid hc
  have H1 := Lib.hid (wAddN_any h.sec at_ hE a len cap cs hl hm hnil hc hr (fun g off e => ⟨fun e2 => hap g off e (e2 ▸ o2), fun e2 => hap g off e (e2 ▸ o3)⟩))
  have H2 := Lib.hid (fun (wx : World) (hp : WinN wx k.s2 k.m2 2000000 2 last notes) (hc : CtsAt wx a cs) => wAddN_any hp at_ hE a len cap cs hl hm hnil hc hr (fun g off e => ⟨fun e2 => hap g off e (e2 ▸ o4), fun e2 => hap g off e (e2 ▸ o5)⟩))
  have HAP := Lib.hid hap
  clear h hl hm hnil hc hr hap o1 o2 o3 o4 o5 hE
  go_enter Try.func29, Try.ntmps29
  go_wp2_with (fail)
  refine H1.out.mono ?_
  rintro e w1 ⟨rfl, hw1, ho1⟩
  obtain ⟨hh, hp⟩ := HH.out.sumOff hw1 ho1
  have hc1 : CtsAt w1 a cs := by
    rcases HC.out with h0 | ⟨b, off, e, hlt, hcc⟩
    · exact Or.inl h0
    · refine CtsAt.kept (Or.inr ⟨b, off, e, hlt, hcc⟩) ho1.size (fun g off' e2 => ?_)
      have hna := HAP.out g off' e2
      rw [e] at e2
      cases e2
      refine ho1.block b hlt (fun e3 => hna ?_)
      rcases e3 with e3 | e3 <;> rw [e3]
      · exact (nown k).2.1
      · exact (nown k).2.2.1
  have H2' := Lib.hid (H2.out w1 hp hc1)
  have d1 : w1.cell? ⟨k.q, 1, none⟩ = some (.pointer (some ⟨k.s2, 0, none⟩)) := by simp only [World.cell?, hh]; rfl
  have HW1 := Lib.hid hw1
  have HO1 := Lib.hid ho1
  have HHD := Lib.hid hh
  clear H1 H2 hw1 ho1 hh hp hc1 c0 c1 c2
  go_wp2_with (fail)
  refine H2'.out.mono ?_
  rintro e w2 ⟨rfl, hw2, ho2⟩
  have HW2 := Lib.hid hw2
  have HO2 := Lib.hid ho2
  clear hw2 ho2 d1
  go_wp2_with (fail)
  go_end0
  obtain ⟨p1, p2, p3, p4, p5, p6, p7, p8, p9, p10⟩ := HP.out
  obtain ⟨o1, o2, o3, o4, o5⟩ := nown k
  have q := HO1.out.size
  refine ⟨rfl, ⟨(HO2.out.block _ (by have := HH.out.lt o1; omega) (by omega)).trans HHD.out, HW1.out.kept (HO2.out.block _ (by have := HH.out.lt o2; omega) (by omega)) (HO2.out.block _ (by have := HH.out.lt o3; omega) (by omega)), HW2.out, HH.out.apart, HH.out.f0, HH.out.f1⟩, ?_⟩
  refine (HO1.out.mono (fun i _ h => ?_)).trans (HO2.out.mono (S' := NOwn k) (fun i _ h => ?_)) (fun _ _ h => h)
  · rcases h with rfl | rfl
    · exact o2
    · exact o3
  · rcases h with rfl | rfl
    · exact o4
    · exact o5

theorem NodeAt.setFlight {w : World} {k : NBk} {last flight : Int} {notes : List NoteW} (h : NodeAt w k last flight notes) {f : Int} (f0 : 0 ≤ f) (f1 : f ≤ 4096) : NodeAt (w.setCell ⟨k.q, 2, none⟩ (.int .i64 f)) k last f notes := by
  obtain ⟨p1, p2, p3, p4, p5, p6, p7, p8, p9, p10⟩ := h.parts
  exact ⟨heap_setCell_same w k.q 2 _ _ _ h.head, h.sec.kept (heap_setCell_other w ⟨k.q, 2, none⟩ _ _ p1.symm) (heap_setCell_other w ⟨k.q, 2, none⟩ _ _ p2.symm), h.pair.kept (heap_setCell_other w ⟨k.q, 2, none⟩ _ _ p3.symm) (heap_setCell_other w ⟨k.q, 2, none⟩ _ _ p4.symm), h.apart, f0, f1⟩
def passC (c : Int) : CntS := ⟨c, 0, 0, 0, 0, 0⟩
def blockC (c : Int) : CntS := ⟨0, c, 0, 0, 0, 0⟩
theorem passC_right {c : Int} (h0 : 1 ≤ c) (h1 : c ≤ 1099511627776) : RightC (passC c) := by constructor <;> simp [passC] <;> omega
theorem blockC_right {c : Int} (h0 : 1 ≤ c) (h1 : c ≤ 1099511627776) : RightC (blockC c) := by constructor <;> simp [blockC] <;> omega
theorem newsC (w : World) (c : CntS) : ∀ j u, (flatC [c])[j]? = some u → (w.alloc (ctO c 32)).cell? ((⟨w.heap.size, 0, none⟩ : Addr).add j) = some u := by
  intro j u hu
  have hn : (w.alloc (ctO c 32)).heap[w.heap.size]? = some (ctO c 32) := (get_allocW w _ _).trans (if_pos rfl)
  rw [WideShapes.add_plain, Nat.zero_add]
  obtain ⟨⟨z0, z1, z2, z3, z4, z5⟩, _⟩ := ct_cells hn
  have hl : j < 6 := by have := (List.getElem?_eq_some_iff.1 hu).1; simpa [flatC, CntS.vals] using this
  match j, hl with
  | 0, _ => have e : Value.int .i64 c.p = u := by simpa [flatC, CntS.vals] using hu
            rw [← e]; exact z0
  | 1, _ => have e : Value.int .i64 c.b = u := by simpa [flatC, CntS.vals] using hu
            rw [← e]; exact z1
  | 2, _ => have e : Value.int .i64 c.d = u := by simpa [flatC, CntS.vals] using hu
            rw [← e]; exact z2
  | 3, _ => have e : Value.int .i64 c.e = u := by simpa [flatC, CntS.vals] using hu
            rw [← e]; exact z3
  | 4, _ => have e : Value.int .i64 c.r = u := by simpa [flatC, CntS.vals] using hu
            rw [← e]; exact z4
  | 5, _ => have e : Value.int .i64 c.m = u := by simpa [flatC, CntS.vals] using hu
            rw [← e]; exact z5
theorem flatC_snoc (l : List CntS) (c : CntS) : flatC (l ++ [c]) = flatC l ++ flatC [c] := by simp [flatC]
/-- One more behind a row of its own. -/
theorem run_append_one {w wr : World} {v : Value} {j : Nat} {cs : List CntS} (hown : wr.ownsRow w.heap.size 32 6 v j (flatC cs)) (hb : Below w.heap.size w wr) (hj : j < 1099511627776) (c : CntS) (ty : TypeId) :
    ∃ v' w', (Builtin.append_ #[71, 71] ty #[v, .slice (some ⟨wr.heap.size, 0, none⟩) 1 1]).run Try.prog (wr.alloc (ctO c 32)) = .ok v' w' ∧ w'.ownsRow w.heap.size 32 6 v' (j + 1) (flatC (cs ++ [c])) ∧ Below w.heap.size w w' := by
  obtain ⟨i0, hi, hz0, hz1, hz2⟩ := info_parts info_ct
  obtain ⟨v', w', hr, h2, h3, h4⟩ := run_append_own (P := Try.prog) (wr.alloc (ctO c 32)) w.heap.size 71 ty 32 i0 _ 6 48 Try.underlying71 hi hz0 hz1 hz2 rfl (by decide) v j (flatC cs) (hown.alloc _) ⟨wr.heap.size, 0, none⟩ 1 1 (flatC [c]) rfl (newsC wr c) (flatC_one [c]) (by unfold maxLen; omega) (by omega) (by have := hb.size; simp; omega)
  refine ⟨v', w', hr, by rw [flatC_snoc]; exact h2, (hb.alloc hb.size _).grown h3 (by have := hb.size; simp; omega) (fun k e => ?_)⟩
  exact (hown.lt k e).1

/-- The error of Pass. -/
def passE (last flight at_ : Int) (ns : List Int) : Int := if lookN last at_ ns ≠ 0 then lookN last at_ ns else if 4096 - flight < ns.length then 3 else 0
def blockE (last flight at_ : Int) (ns : List Int) : Int := if lookN last at_ ns ≠ 0 then lookN last at_ ns else 0

/-- What Pass leaves. -/
structure PassPost (w : World) (k : NBk) (last flight : Int) (notes : List NoteW) (at_ : Int) (ns : List Int) (e : Ending) (w' : World) : Prop where
  e : e = .returned (.int .i64 (passE last flight at_ ns))
  no : passE last flight at_ ns ≠ 0 → Below w.heap.size w w'
  yes : passE last flight at_ ns = 0 → NodeAt w' k at_ (flight + ns.length) (notes ++ newW at_ (ns.map passC)) ∧ Off (NOwn k) w w'
set_option maxHeartbeats 3200000 in
set_option maxRecDepth 100000 in
theorem spass_any {w : World} {k : NBk} {last flight : Int} {notes : List NoteW} (h : NodeAt w k last flight notes) (at_ : Int) (a : Option Addr) (len cap : Nat) (ns : List Int) (hl : ns.length = len) (hm : len ≤ 9223372036854775807) (hn : IntsAt w a ns) :
    Calls Try.prog 15 #[.pointer (some ⟨k.q, 0, none⟩), .int .i64 at_, .slice a len cap] w (PassPost w k last flight notes at_ ns) := by
  have HLK := Lib.hid (slook_any h at_ a len cap ns hl (by omega) hn)
  have HH := Lib.hid h
  have HN := Lib.hid hn
  have HL := Lib.hid hl
  obtain ⟨c0, c1, c2⟩ := h.cells
  have hf0 := h.f0
  have hf1 := h.f1
  clear h hn hl
  by_cases hE : lookN last at_ ns = 0
  · rw [hE] at HLK
    have HE := Lib.hid hE
    clear hE
    by_cases hfull : 4096 - flight < len
    · have HC := Lib.hid (show passE last flight at_ ns = 3 by unfold passE; rw [if_neg (by rw [HE.out]; simp), if_pos (by rw [HL.out]; exact hfull)])
      go_enter Try.func15, Try.ntmps15
      go_wp2_with (fail)
      refine HLK.out.mono ?_
      rintro e wq ⟨rfl, hq⟩
      subst hq
      go_wp2_with (fail)
      go_ret
      exact ⟨by rw [HC.out]; rfl, fun _ => Below.refl _ _, fun h0 => absurd (HC.out.symm.trans h0) (by decide)⟩
    · have HC := Lib.hid (show passE last flight at_ ns = 0 by unfold passE; rw [if_neg (by rw [HE.out]; simp), if_neg (by rw [HL.out]; exact hfull)])
      have hfull2 : (len : Int) ≤ 4096 - flight := by omega
      have HMM := Lib.hid (show len ≤ 1099511627776 by omega)
      go_enter Try.func15, Try.ntmps15
      go_wp2_with (fail)
      refine HLK.out.mono ?_
      rintro e wq ⟨rfl, hq⟩
      subst hq
      go_wp2_with (fail)
      go_loopw [8, 10, 28] (fun l _ i wr => ∃ (j : Nat) (v : Value), j ≤ len ∧ i = .int .i64 j ∧ l = v ∧ Hid (wr.ownsRow wq.heap.size 32 6 v j (flatC ((ns.take j).map passC))) ∧ Hid (Below wq.heap.size wq wr)) (fun _ _ i _ => len - (intOf i).toNat)
      case atStart => exact ⟨0, _, Nat.zero_le _, rfl, rfl, Lib.hid (World.ownsRow_nil _ _ _ _), Lib.hid (Below.refl _ _)⟩
      case round =>
        rename World => wy
        obtain ⟨j, v, hj, rfl, rfl, HO, HB⟩ := hrel
        by_cases hlt : j < len
        · have hjl : j < ns.length := by rw [HL.out]; exact hlt
          have j0 : (0 : Int) ≤ j := by omega
          have j1 : (j : Int) < len := by omega
          obtain ⟨y, hy⟩ : ∃ y, ns[j]? = some y := ⟨_, List.getElem?_eq_getElem hjl⟩
          obtain ⟨b, off, ha, hbl, hc⟩ := HN.out.getN hy
          subst ha
          have hc := (HB.out.cell (p := ⟨b, off + j, none⟩) hbl).trans hc
          have HTK := Lib.hid (show (ns.take (j + 1)).map passC = (ns.take j).map passC ++ [passC y] by
            rw [List.take_succ_eq_append_getElem hjl, List.map_append, show ns[j] = y from Option.some.inj ((List.getElem?_eq_getElem hjl).symm.trans hy)]
            rfl)
          obtain ⟨v', w', hap, hown', hbel'⟩ := run_append_one HO.out HB.out (by omega) (passC y) 71
          have HAP := Lib.hid hap
          have HOW := Lib.hid hown'
          have HBE := Lib.hid hbel'
          clear hap hown' hbel' hy hbl
          unfold passC ctO at HAP
          dsimp only at HAP
          go_wp2_with (at_builtin; refine wpList_append_run (by rfl) (.tmp 32) (.tmp 35) 71 71 (by rfl) (by rfl) (by rfl) (by rfl) HAP.out ?_)
          exact ⟨⟨j + 1, v', by omega, by go_num, rfl, by rw [HTK.out]; exact HOW, HBE⟩, by first | (simp [intOf]; done) | (simp [intOf]; omega)⟩
        · have j1 : ¬ (j : Int) < len := by omega
          have e1 : ns.take j = ns := List.take_of_length_le (by rw [HL.out]; omega)
          rw [e1] at HO
          have hjn : j = len := by omega
          rw [hjn] at HO
          clear e1 hjn
          obtain ⟨a', cap', hv, hcts, hlen, hnil, hge⟩ := ownsC_cts HO.out
          subst hv
          have HNT := Lib.hid (snote_any (HH.out.below HB.out) at_ (lookN_ok HE.out).1 a' len cap' (ns.map passC) hlen HMM.out hnil hcts (fun c hc => by
            obtain ⟨y, hy, rfl⟩ := List.mem_map.1 hc
            exact passC_right ((lookN_ok HE.out).2 y hy).1 ((lookN_ok HE.out).2 y hy).2) (fun g off e hno => by
            have := hge g off e
            have := HH.out.lt hno
            omega))
          clear hcts hlen hnil hge
          go_wp2_with (fail)
          refine HNT.out.mono ?_
          rintro e w9 ⟨rfl, hn9, ho9⟩
          have HN9 := Lib.hid hn9
          have HO9 := Lib.hid (Off.trans (Off.ofBelow (S := NOwn k) HB.out) ho9 (fun _ _ h => h))
          obtain ⟨d0, d1, d2⟩ := hn9.cells
          have f2 : w9.frozen? ⟨k.q, 2, none⟩ = false := frozen_of_row w9 k.q 2 _ _ hn9.head
          clear hn9 ho9 HNT
          go_wp2_with (fail)
          go_ret
          exact ⟨by rw [HC.out]; rfl, fun h0 => absurd HC.out h0, fun _ => ⟨by rw [HL.out]; exact HN9.out.setFlight (by omega) (by omega), HO9.out.setCell (fun _ => (nown k).1) _⟩⟩
  · have hne : (lookN last at_ ns != 0) = true := by simpa using hE
    have HE := Lib.hid hE
    have HC := Lib.hid (show passE last flight at_ ns = lookN last at_ ns by unfold passE; rw [if_pos hE])
    obtain ⟨E, hEE⟩ : ∃ E, lookN last at_ ns = E := ⟨_, rfl⟩
    rw [hEE] at HLK hne HE HC
    clear hE hEE
    go_enter Try.func15, Try.ntmps15
    go_wp2_with (fail)
    refine HLK.out.mono ?_
    rintro e wq ⟨rfl, hq⟩
    subst hq
    go_wp2_with (fail)
    go_ret
    exact ⟨by rw [HC.out]; rfl, fun _ => Below.refl _ _, fun h0 => absurd (HC.out.symm.trans h0) HE.out⟩

/-- What Block leaves. -/
structure BlockPost (w : World) (k : NBk) (last flight : Int) (notes : List NoteW) (at_ : Int) (ns : List Int) (e : Ending) (w' : World) : Prop where
  e : e = .returned (.int .i64 (blockE last flight at_ ns))
  no : blockE last flight at_ ns ≠ 0 → Below w.heap.size w w'
  yes : blockE last flight at_ ns = 0 → NodeAt w' k at_ flight (notes ++ newW at_ (ns.map blockC)) ∧ Off (NOwn k) w w'
set_option maxHeartbeats 3200000 in
set_option maxRecDepth 100000 in
theorem sblock_any {w : World} {k : NBk} {last flight : Int} {notes : List NoteW} (h : NodeAt w k last flight notes) (at_ : Int) (a : Option Addr) (len cap : Nat) (ns : List Int) (hl : ns.length = len) (hm : len ≤ 1099511627776) (hn : IntsAt w a ns) :
    Calls Try.prog 33 #[.pointer (some ⟨k.q, 0, none⟩), .int .i64 at_, .slice a len cap] w (BlockPost w k last flight notes at_ ns) := by
  have HLK := Lib.hid (slook_any h at_ a len cap ns hl (by omega) hn)
  have HH := Lib.hid h
  have HN := Lib.hid hn
  have HL := Lib.hid hl
  obtain ⟨c0, c1, c2⟩ := h.cells
  have hf0 := h.f0
  have hf1 := h.f1
  clear h hn hl
  by_cases hE : lookN last at_ ns = 0
  · rw [hE] at HLK
    have HE := Lib.hid hE
    clear hE
    · have HC := Lib.hid (show blockE last flight at_ ns = 0 by unfold blockE; rw [if_neg (by rw [HE.out]; simp)])
      have HMM := Lib.hid hm
      go_enter Try.func33, Try.ntmps33
      go_wp2_with (fail)
      refine HLK.out.mono ?_
      rintro e wq ⟨rfl, hq⟩
      subst hq
      go_wp2_with (fail)
      go_loopw [8, 10, 20] (fun l _ i wr => ∃ (j : Nat) (v : Value), j ≤ len ∧ i = .int .i64 j ∧ l = v ∧ Hid (wr.ownsRow wq.heap.size 32 6 v j (flatC ((ns.take j).map blockC))) ∧ Hid (Below wq.heap.size wq wr)) (fun _ _ i _ => len - (intOf i).toNat)
      case atStart => exact ⟨0, _, Nat.zero_le _, rfl, rfl, Lib.hid (World.ownsRow_nil _ _ _ _), Lib.hid (Below.refl _ _)⟩
      case round =>
        rename World => wy
        obtain ⟨j, v, hj, rfl, rfl, HO, HB⟩ := hrel
        by_cases hlt : j < len
        · have hjl : j < ns.length := by rw [HL.out]; exact hlt
          have j0 : (0 : Int) ≤ j := by omega
          have j1 : (j : Int) < len := by omega
          obtain ⟨y, hy⟩ : ∃ y, ns[j]? = some y := ⟨_, List.getElem?_eq_getElem hjl⟩
          obtain ⟨b, off, ha, hbl, hc⟩ := HN.out.getN hy
          subst ha
          have hc := (HB.out.cell (p := ⟨b, off + j, none⟩) hbl).trans hc
          have HTK := Lib.hid (show (ns.take (j + 1)).map blockC = (ns.take j).map blockC ++ [blockC y] by
            rw [List.take_succ_eq_append_getElem hjl, List.map_append, show ns[j] = y from Option.some.inj ((List.getElem?_eq_getElem hjl).symm.trans hy)]
            rfl)
          obtain ⟨v', w', hap, hown', hbel'⟩ := run_append_one HO.out HB.out (by omega) (blockC y) 71
          have HAP := Lib.hid hap
          have HOW := Lib.hid hown'
          have HBE := Lib.hid hbel'
          clear hap hown' hbel' hy hbl
          unfold blockC ctO at HAP
          dsimp only at HAP
          go_wp2_with (at_builtin; refine wpList_append_run (by rfl) (.tmp 24) (.tmp 27) 71 71 (by rfl) (by rfl) (by rfl) (by rfl) HAP.out ?_)
          exact ⟨⟨j + 1, v', by omega, by go_num, rfl, by rw [HTK.out]; exact HOW, HBE⟩, by first | (simp [intOf]; done) | (simp [intOf]; omega)⟩
        · have j1 : ¬ (j : Int) < len := by omega
          have e1 : ns.take j = ns := List.take_of_length_le (by rw [HL.out]; omega)
          rw [e1] at HO
          have hjn : j = len := by omega
          rw [hjn] at HO
          clear e1 hjn
          obtain ⟨a', cap', hv, hcts, hlen, hnil, hge⟩ := ownsC_cts HO.out
          subst hv
          have HNT := Lib.hid (snote_any (HH.out.below HB.out) at_ (lookN_ok HE.out).1 a' len cap' (ns.map blockC) hlen HMM.out hnil hcts (fun c hc => by
            obtain ⟨y, hy, rfl⟩ := List.mem_map.1 hc
            exact blockC_right ((lookN_ok HE.out).2 y hy).1 ((lookN_ok HE.out).2 y hy).2) (fun g off e hno => by
            have := hge g off e
            have := HH.out.lt hno
            omega))
          clear hcts hlen hnil hge
          go_wp2_with (fail)
          refine HNT.out.mono ?_
          rintro e w9 ⟨rfl, hn9, ho9⟩
          have HN9 := Lib.hid hn9
          have HO9 := Lib.hid (Off.trans (Off.ofBelow (S := NOwn k) HB.out) ho9 (fun _ _ h => h))
          obtain ⟨d0, d1, d2⟩ := hn9.cells
          have f2 : w9.frozen? ⟨k.q, 2, none⟩ = false := frozen_of_row w9 k.q 2 _ _ hn9.head
          clear hn9 ho9 HNT
          go_wp2_with (fail)
          go_ret
          exact ⟨by rw [HC.out]; rfl, fun h0 => absurd HC.out h0, fun _ => ⟨HN9.out, HO9.out⟩⟩
  · have hne : (lookN last at_ ns != 0) = true := by simpa using hE
    have HE := Lib.hid hE
    have HC := Lib.hid (show blockE last flight at_ ns = lookN last at_ ns by unfold blockE; rw [if_pos hE])
    obtain ⟨E, hEE⟩ : ∃ E, lookN last at_ ns = E := ⟨_, rfl⟩
    rw [hEE] at HLK hne HE HC
    clear hE hEE
    go_enter Try.func33, Try.ntmps33
    go_wp2_with (fail)
    refine HLK.out.mono ?_
    rintro e wq ⟨rfl, hq⟩
    subst hq
    go_wp2_with (fail)
    go_ret
    exact ⟨by rw [HC.out]; rfl, fun _ => Below.refl _ _, fun h0 => absurd (HC.out.symm.trans h0) HE.out⟩
end Go.Proofs.Ytpbbidijnmooaaa
