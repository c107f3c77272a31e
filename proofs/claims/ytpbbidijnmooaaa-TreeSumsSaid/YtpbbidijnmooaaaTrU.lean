/- tree: a deed upon a tree of the call's own; run. -/
import Derived.Test.YtpbbidijnmooaaaTrOp
import Derived.Test.YtpbbidijnmooaaaTrS
namespace Go.Proofs.Ytpbbidijnmooaaa
open Go.RowKit
set_option linter.unusedVariables false
set_option linter.unusedSimpArgs false

/-- What a deed leaves: its answer, and the tree behind it. -/
def DeedPost (w wx : World) (TB : Nat) (s : TreeS) (t : TreeV) (d : TDeed) (e : Ending) (wy : World) : Prop :=
  e = .returned (.int .i64 (deedE s d)) ∧ ∃ t', t'.tb = TB ∧ TRes w wy (deedT s d) t' ∧ TGo wx t wy t'
theorem tres_pass {w wx : World} {s : TreeS} {t : TreeV} (h : TRes w wx s t) {TB : Nat} (ht : t.tb = TB) {d : TDeed} (ok : d.Ok) (hk : d.kind = 0) :
    Calls Try.prog 17 #[.pointer (some ⟨TB, 0, none⟩), .agg d.c.c] wx (DeedPost w wx TB s t d) := by
  subst ht
  refine (tPass_any h.at_ h.top d.c ok.z1 ok.z2 ok.z3).mono (fun e wy hp => ?_)
  obtain ⟨he, t', g1, g2, g3⟩ := h.note hp
  have e1 : deedE s d = noteE s.1 s.2 d.c true := by unfold deedE; rw [if_pos hk]
  refine ⟨by rw [e1]; exact he, t', g1, ?_, g3⟩
  unfold deedT
  rw [e1, if_pos hk]
  exact g2
theorem tres_block {w wx : World} {s : TreeS} {t : TreeV} (h : TRes w wx s t) {TB : Nat} (ht : t.tb = TB) {d : TDeed} (ok : d.Ok) (hk : d.kind = 1) :
    Calls Try.prog 18 #[.pointer (some ⟨TB, 0, none⟩), .agg d.c.c] wx (DeedPost w wx TB s t d) := by
  subst ht
  refine (tBlock_any h.at_ h.top d.c ok.z1 ok.z2 ok.z3).mono (fun e wy hp => ?_)
  obtain ⟨he, t', g1, g2, g3⟩ := h.note hp
  have e1 : deedE s d = noteE s.1 s.2 d.c false := by unfold deedE; rw [if_neg (by omega), if_pos hk]
  refine ⟨by rw [e1]; exact he, t', g1, ?_, g3⟩
  unfold deedT
  rw [e1, if_neg (show ¬ d.kind = 0 by omega), if_pos hk]
  exact g2
theorem tres_done {w wx : World} {s : TreeS} {t : TreeV} (h : TRes w wx s t) {TB : Nat} (ht : t.tb = TB) {d : TDeed} (ok : d.Ok) (hk : d.kind = 2) :
    Calls Try.prog 19 #[.pointer (some ⟨TB, 0, none⟩), .agg d.c.c, .int .i64 d.rt, .bool d.failed] wx (DeedPost w wx TB s t d) := by
  subst ht
  refine (tdone_any h.at_ h.top d.c ok.z1 ok.z2 ok.z3 d.rt d.failed).mono (fun e wy hp => ?_)
  have e1 : deedE s d = doneTE s.1 s.2 d.c d.rt := by unfold deedE; rw [if_neg (by omega), if_neg (by omega), if_pos hk]
  have he := hp.e
  have hno := hp.no
  have hyes := hp.yes
  rw [h.m, h.last] at he hno hyes
  refine ⟨by rw [e1]; exact he, ?_⟩
  unfold deedT
  rw [e1, if_neg (show ¬ d.kind = 0 by omega), if_neg (show ¬ d.kind = 1 by omega), if_pos hk]
  by_cases hE : doneTE s.1 s.2 d.c d.rt = 0
  · rw [if_pos hE]
    obtain ⟨t', g1, g2, g3, g4⟩ := hyes hE
    exact ⟨t', g1.tb, h.step g1 g2 g3 (g4.trans g3.symm), g1⟩
  · rw [if_neg hE]
    exact ⟨t, rfl, h.below (hno hE), TGo.belowR (TGo.refl h.at_) (hno hE)⟩
theorem tres_touch {w wx : World} {s : TreeS} {t : TreeV} (h : TRes w wx s t) {TB : Nat} (ht : t.tb = TB) {d : TDeed} (ok : d.Ok) (hk : d.kind = 3) (g0 cp0 : Nat) (hg : wx.heap[g0]? = some (.cells d.c.c 40)) :
    Calls Try.prog 20 #[.pointer (some ⟨TB, 0, none⟩), .slice (some ⟨g0, 0, none⟩) 1 cp0] wx (DeedPost w wx TB s t d) := by
  subst ht
  refine (ttouch_any h.at_ d.c ok.z1 ok.z2 ok.z3 g0 cp0 hg).mono (fun e wy hp => ?_)
  have e1 : deedE s d = touchE s.1 d.c := by unfold deedE; rw [if_neg (by omega), if_neg (by omega), if_neg (by omega), if_pos hk]
  have he := hp.e
  have hno := hp.no
  have hyes := hp.yes
  rw [h.m] at he hno hyes
  refine ⟨by rw [e1]; exact he, ?_⟩
  unfold deedT
  rw [e1, if_neg (show ¬ d.kind = 0 by omega), if_neg (show ¬ d.kind = 1 by omega), if_neg (show ¬ d.kind = 2 by omega), if_pos hk]
  by_cases hE : touchE s.1 d.c = 0
  · rw [if_pos hE]
    obtain ⟨t', g1, g2, g3, g4⟩ := hyes hE
    exact ⟨t', g1.tb, h.step g1 g2 (g3.trans h.last) (g4.trans (h.top.trans g3.symm)), g1⟩
  · rw [if_neg hE]
    exact ⟨t, rfl, h.below (hno hE), TGo.belowR (TGo.refl h.at_) (hno hE)⟩
theorem tdeed_other {s : TreeS} {d : TDeed} (h0 : ¬ d.kind = 0) (h1 : ¬ d.kind = 1) (h2 : ¬ d.kind = 2) (h3 : ¬ d.kind = 3) : deedE s d = 0 ∧ deedT s d = s := by
  have e1 : deedE s d = 0 := by unfold deedE; rw [if_neg h0, if_neg h1, if_neg h2, if_neg h3]
  refine ⟨e1, ?_⟩
  unfold deedT
  rw [e1, if_pos rfl, if_neg h0, if_neg h1, if_neg h2, if_neg h3]
theorem run_snoc {ds : List TDeed} {j : Nat} {d : TDeed} (h : ds[j]? = some d) : runT (ds.take (j + 1)) = deedT (runT (ds.take j)) d := by
  unfold runT
  rw [take_snocT h, foldl_snocT]
theorem DeedRow.get {w : World} {a : Option Addr} {ds : List TDeed} (h : DeedRow w a ds) {j : Nat} {d : TDeed} (hj : ds[j]? = some d) : ∃ b off, a = some ⟨b, off, none⟩ ∧ b < w.heap.size ∧ ∀ k u, d.cs[k]? = some u → w.cell? ⟨b, off + j * 10 + k, none⟩ = some u := by
  rcases h with h | ⟨b, off, rfl, hl, hc⟩
  · rw [h] at hj; simp at hj
  · exact ⟨b, off, rfl, hl, hc j d hj⟩

set_option maxHeartbeats 6400000 in
set_option maxRecDepth 100000 in
theorem trun_any {w : World} {a : Option Addr} {n cap : Nat} {ds : List TDeed} (hn : ds.length = n) (hm : n ≤ 1173124812070) (hrow : DeedRow w a ds) (hok : ∀ d, d ∈ ds → d.Ok) :
    Calls Try.prog 8 #[.slice a n cap] w fun e w' => ∃ t, e = .returned (.pointer (some ⟨t.tb, 0, none⟩)) ∧ TRes w w' (runT ds) t := by
  have h0 := tres_new w
  obtain ⟨TB, hTB⟩ : ∃ TB, w.heap.size + 1 = TB := ⟨_, rfl⟩
  have ht0 : (newV w).tb = TB := hTB
  have HNW := Lib.hid (show Calls Try.prog 16 #[] w fun e w' => e = .returned (.pointer (some ⟨TB, 0, none⟩)) ∧ w' = newT w by rw [← hTB]; exact tnew_any w)
  obtain ⟨t0, ht⟩ : ∃ t0, newV w = t0 := ⟨_, rfl⟩
  rw [ht] at h0 ht0
  obtain ⟨w1, hw1⟩ : ∃ w1, newT w = w1 := ⟨_, rfl⟩
  rw [hw1] at h0 HNW
  have HN := Lib.hid hn
  have HROW := Lib.hid hrow
  have HOK := Lib.hid hok
  have H0 := Lib.hid (And.intro ht0 h0)
  clear hn hrow hok h0 ht0 hTB ht hw1
  go_enter Try.func8, Try.ntmps8
  go_wp2_with (fail)
  refine HNW.out.mono ?_
  rintro e wq ⟨rfl, hq⟩
  subst hq
  go_wp2_with (fail)
  go_loopw [4] (fun x4 wr => ∃ (j : Nat) (t : TreeV), j ≤ n ∧ x4 = .int .i64 j ∧ t.tb = TB ∧ Hid (TRes w wr (runT (ds.take j)) t)) (fun x4 _ => n - (intOf x4).toNat)
  case atStart => exact ⟨0, t0, Nat.zero_le _, rfl, H0.out.1, H0.out.2⟩
  case round =>
    rename World => wr
    obtain ⟨j, t, hj, rfl, ht, HT⟩ := hrel
    by_cases hjlt : j < n
    · obtain ⟨d, hd⟩ : ∃ d, ds[j]? = some d := ⟨_, List.getElem?_eq_getElem (by rw [HN.out]; exact hjlt)⟩
      obtain ⟨bl, ol, rfl, hbl, hcw⟩ := HROW.out.get hd
      have hb := HT.out.bel
      have hc : ∀ k u, d.cs[k]? = some u → wr.cell? ⟨bl, ol + j * 10 + k, none⟩ = some u := fun k u hu => (hb.cell (p := ⟨bl, ol + j * 10 + k, none⟩) hbl).trans (hcw k u hu)
      have HTK := Lib.hid (fun (wy : World) (t2 : TreeV) (h : TRes w wy (deedT (runT (ds.take j)) d) t2) => Lib.hid (show TRes w wy (runT (ds.take (j + 1))) t2 by rw [run_snoc hd]; exact h))
      have hdk := HOK.out d (List.mem_of_getElem? hd)
      have HC0 := Lib.hid (fun hk => tres_pass HT.out ht hdk hk)
      have HC1 := Lib.hid (fun hk => tres_block HT.out ht hdk hk)
      have HC2 := Lib.hid (fun hk => tres_done (wx := wr.drew) (HT.out.below ((Below.refl _ wr).drew)) ht hdk hk)
      have hnew := new_blockS wr (.cells d.c.c 40)
      have hal : Below wr.heap.size wr (wr.alloc (.cells d.c.c 40)) := (Below.refl _ _).alloc (Nat.le_refl _) _
      have HC3 := Lib.hid (fun hk => tres_touch (HT.out.below hal) ht hdk hk wr.heap.size 1 hnew)
      have HOT := Lib.hid (fun a b c e => (tdeed_other (s := runT (ds.take j)) (d := d) a b c e).2)
      clear hd hdk hb hal hnew
      obtain ⟨kind, ⟨at_, res, ctx, org, inb, cnt, aa, al, ac⟩, rt, failed⟩ := d
      dsimp only at HC0 HC1 HC2 HC3 HOT
      unfold CallS.c at HC0 HC1 HC2 HC3
      dsimp only at HC0 HC1 HC2 HC3
      have c0 := hc 0 _ rfl
      rw [Nat.add_zero] at c0
      have c1 := hc 1 _ rfl
      have c2 := hc 2 _ rfl
      have c3 := hc 3 _ rfl
      have c4 := hc 4 _ rfl
      have c5 := hc 5 _ rfl
      have c6 := hc 6 _ rfl
      have c7 := hc 7 _ rfl
      have c8 := hc 8 _ rfl
      have c9 := hc 9 _ rfl
      dsimp only at c0 c1 c2 c3 c4 c5 c6 c7 c8 c9
      have HCS := Lib.hid (fun (wx : World) (hx : Below w.heap.size w wx) => (show wx.cell? ⟨bl, ol + j * 10 + 1, none⟩ = some (.int .i64 at_) ∧ wx.cell? ⟨bl, ol + j * 10 + 2, none⟩ = some (.string res) ∧ wx.cell? ⟨bl, ol + j * 10 + 3, none⟩ = some (.string ctx) ∧ wx.cell? ⟨bl, ol + j * 10 + 4, none⟩ = some (.string org) ∧ wx.cell? ⟨bl, ol + j * 10 + 5, none⟩ = some (.bool inb) ∧ wx.cell? ⟨bl, ol + j * 10 + 6, none⟩ = some (.int .i64 cnt) ∧ wx.cell? ⟨bl, ol + j * 10 + 7, none⟩ = some (.slice aa al ac) ∧ wx.cell? ⟨bl, ol + j * 10 + 8, none⟩ = some (.int .i64 rt) ∧ wx.cell? ⟨bl, ol + j * 10 + 9, none⟩ = some (.bool failed) from by
        have hq : ∀ k u, (TDeed.mk kind ⟨at_, res, ctx, org, inb, cnt, aa, al, ac⟩ rt failed).cs[k]? = some u → wx.cell? ⟨bl, ol + j * 10 + k, none⟩ = some u := fun k u hu => (hx.cell (p := ⟨bl, ol + j * 10 + k, none⟩) hbl).trans (hcw k u hu)
        exact ⟨hq 1 _ rfl, hq 2 _ rfl, hq 3 _ rfl, hq 4 _ rfl, hq 5 _ rfl, hq 6 _ rfl, hq 7 _ rfl, hq 8 _ rfl, hq 9 _ rfl⟩))
      clear hc hcw
      have j0 : (0 : Int) ≤ j := by omega
      have j1 : (j : Int) < n := by omega
      by_cases hk0 : kind = 0
      · subst hk0
        go_wp2_with (fail)
        refine (HC0.out trivial).mono ?_
        rintro e w2 ⟨rfl, t2, ht2, h2, _⟩
        clear c0 c1 c2 c3 c4 c5 c6 c7 c8 c9
        go_wp2_with (fail)
        refine ⟨⟨j + 1, t2, by omega, by go_num, ht2, HTK.out _ _ h2⟩, by first | (simp [intOf]; done) | (simp [intOf]; omega)⟩
      · by_cases hk1 : kind = 1
        · subst hk1
          go_wp2_with (fail)
          refine (HC1.out trivial).mono ?_
          rintro e w2 ⟨rfl, t2, ht2, h2, _⟩
          clear c0 c1 c2 c3 c4 c5 c6 c7 c8 c9
          go_wp2_with (fail)
          refine ⟨⟨j + 1, t2, by omega, by go_num, ht2, HTK.out _ _ h2⟩, by first | (simp [intOf]; done) | (simp [intOf]; omega)⟩
        · by_cases hk2 : kind = 2
          · subst hk2
            go_wp2_with (fail)
            refine wp_region_noPanic ?_
            refine wp_region_held_drew (S := (fun wx => wx.cell? ⟨bl, ol + j * 10 + 1, none⟩ = some (.int .i64 at_) ∧ wx.cell? ⟨bl, ol + j * 10 + 2, none⟩ = some (.string res) ∧ wx.cell? ⟨bl, ol + j * 10 + 3, none⟩ = some (.string ctx) ∧ wx.cell? ⟨bl, ol + j * 10 + 4, none⟩ = some (.string org) ∧ wx.cell? ⟨bl, ol + j * 10 + 5, none⟩ = some (.bool inb) ∧ wx.cell? ⟨bl, ol + j * 10 + 6, none⟩ = some (.int .i64 cnt) ∧ wx.cell? ⟨bl, ol + j * 10 + 7, none⟩ = some (.slice aa al ac) ∧ wx.cell? ⟨bl, ol + j * 10 + 8, none⟩ = some (.int .i64 rt) ∧ wx.cell? ⟨bl, ol + j * 10 + 9, none⟩ = some (.bool failed))) (by kernel_rfl) ?_ (fun hHeld => ?_)
            · exact ⟨c1, c2, c3, c4, c5, c6, c7, c8, c9⟩
            refine wpAnyH_take (i := 0) (v := ?_) rfl (by kernel_rfl) (by kernel_rfl) (by kernel_rfl) (fun _ _ _ h => h) (Or.inl ⟨by rfl, ?hy⟩) (by assumption) ?_
            case hy => intro w hSw; (try dsimp only at hSw); go_simp; try with_reducible rfl
            try simp only [Act.put, List.getElem_toArray, List.getElem_cons_succ, List.getElem_cons_zero, List.setIfInBounds_toArray, List.set_cons_zero, List.set_cons_succ]
            refine wpAnyH_take (i := 1) (v := ?_) rfl (by kernel_rfl) (by kernel_rfl) (by kernel_rfl) (fun _ _ _ h => h) (Or.inl ⟨by rfl, ?hy⟩) (by assumption) ?_
            case hy => intro w hSw; (try dsimp only at hSw); go_simp; try with_reducible rfl
            try simp only [Act.put, List.getElem_toArray, List.getElem_cons_succ, List.getElem_cons_zero, List.setIfInBounds_toArray, List.set_cons_zero, List.set_cons_succ]
            refine wpAnyH_take (i := 2) (v := ?_) rfl (by kernel_rfl) (by kernel_rfl) (by kernel_rfl) (fun _ _ _ h => h) (Or.inl ⟨by rfl, ?hy⟩) (by assumption) ?_
            case hy => intro w hSw; (try dsimp only at hSw); go_simp; try with_reducible rfl
            try simp only [Act.put, List.getElem_toArray, List.getElem_cons_succ, List.getElem_cons_zero, List.setIfInBounds_toArray, List.set_cons_zero, List.set_cons_succ]
            refine wpAnyH_take (i := 3) (v := ?_) rfl (by kernel_rfl) (by kernel_rfl) (by kernel_rfl) (fun _ _ _ h => h) (Or.inl ⟨by rfl, ?hy⟩) (by assumption) ?_
            case hy => intro w hSw; (try dsimp only at hSw); go_simp; try with_reducible rfl
            try simp only [Act.put, List.getElem_toArray, List.getElem_cons_succ, List.getElem_cons_zero, List.setIfInBounds_toArray, List.set_cons_zero, List.set_cons_succ]
            refine wpAnyH_take (i := 4) (v := ?_) rfl (by kernel_rfl) (by kernel_rfl) (by kernel_rfl) (fun _ _ _ h => h) (Or.inl ⟨by rfl, ?hy⟩) (by assumption) ?_
            case hy => intro w hSw; (try dsimp only at hSw); go_simp; try with_reducible rfl
            try simp only [Act.put, List.getElem_toArray, List.getElem_cons_succ, List.getElem_cons_zero, List.setIfInBounds_toArray, List.set_cons_zero, List.set_cons_succ]
            refine wpAnyH_take (i := 5) (v := ?_) rfl (by kernel_rfl) (by kernel_rfl) (by kernel_rfl) (fun _ _ _ h => h) (Or.inl ⟨by rfl, ?hy⟩) (by assumption) ?_
            case hy => intro w hSw; (try dsimp only at hSw); go_simp; try with_reducible rfl
            try simp only [Act.put, List.getElem_toArray, List.getElem_cons_succ, List.getElem_cons_zero, List.setIfInBounds_toArray, List.set_cons_zero, List.set_cons_succ]
            refine wpAnyH_take (i := 6) (v := ?_) rfl (by kernel_rfl) (by kernel_rfl) (by kernel_rfl) (fun _ _ _ h => h) (Or.inl ⟨by rfl, ?hy⟩) (by assumption) ?_
            case hy => intro w hSw; (try dsimp only at hSw); go_simp; try with_reducible rfl
            try simp only [Act.put, List.getElem_toArray, List.getElem_cons_succ, List.getElem_cons_zero, List.setIfInBounds_toArray, List.set_cons_zero, List.set_cons_succ]
            refine wpAnyH_take (i := 7) (v := ?_) rfl (by kernel_rfl) (by kernel_rfl) (by kernel_rfl) (fun _ _ _ h => h) (Or.inl ⟨by rfl, ?hy⟩) (by assumption) ?_
            case hy => intro w hSw; (try dsimp only at hSw); go_simp; try with_reducible rfl
            try simp only [Act.put, List.getElem_toArray, List.getElem_cons_succ, List.getElem_cons_zero, List.setIfInBounds_toArray, List.set_cons_zero, List.set_cons_succ]
            refine wpAnyH_take (i := 8) (v := ?_) rfl (by kernel_rfl) (by kernel_rfl) (by kernel_rfl) (fun _ _ _ h => h) (Or.inl ⟨by rfl, ?hy⟩) (by assumption) ?_
            case hy => intro w hSw; (try dsimp only at hSw); go_simp; try with_reducible rfl
            try simp only [Act.put, List.getElem_toArray, List.getElem_cons_succ, List.getElem_cons_zero, List.setIfInBounds_toArray, List.set_cons_zero, List.set_cons_succ]
            refine wpAnyH_take (i := 9) (v := ?_) rfl (by kernel_rfl) (by kernel_rfl) (by kernel_rfl) (fun _ _ _ h => h) (Or.inl ⟨by rfl, ?hy⟩) (by assumption) ?_
            case hy => intro w hSw; (try dsimp only at hSw); go_simp; try with_reducible rfl
            try simp only [Act.put, List.getElem_toArray, List.getElem_cons_succ, List.getElem_cons_zero, List.setIfInBounds_toArray, List.set_cons_zero, List.set_cons_succ]
            refine wpAnyH_take (i := 10) (v := ?_) rfl (by kernel_rfl) (by kernel_rfl) (by kernel_rfl) (fun _ _ _ h => h) (Or.inl ⟨by rfl, ?hy⟩) (by assumption) ?_
            case hy => intro w hSw; (try dsimp only at hSw); go_simp; try with_reducible rfl
            try simp only [Act.put, List.getElem_toArray, List.getElem_cons_succ, List.getElem_cons_zero, List.setIfInBounds_toArray, List.set_cons_zero, List.set_cons_succ]
            refine wpAnyH_take (i := 11) (v := ?_) rfl (by kernel_rfl) (by kernel_rfl) (by kernel_rfl) (fun _ _ _ h => h) (Or.inl ⟨by rfl, ?hy⟩) (by assumption) ?_
            case hy => intro w hSw; (try dsimp only at hSw); go_simp; try with_reducible rfl
            try simp only [Act.put, List.getElem_toArray, List.getElem_cons_succ, List.getElem_cons_zero, List.setIfInBounds_toArray, List.set_cons_zero, List.set_cons_succ]
            refine wpAnyH_take (i := 12) (v := ?_) rfl (by kernel_rfl) (by kernel_rfl) (by kernel_rfl) (fun _ _ _ h => h) (Or.inl ⟨by rfl, ?hy⟩) (by assumption) ?_
            case hy => intro w hSw; (try dsimp only at hSw); go_simp; try with_reducible rfl
            try simp only [Act.put, List.getElem_toArray, List.getElem_cons_succ, List.getElem_cons_zero, List.setIfInBounds_toArray, List.set_cons_zero, List.set_cons_succ]
            refine wpAnyH_take (i := 13) (v := ?_) rfl (by kernel_rfl) (by kernel_rfl) (by kernel_rfl) (fun _ _ _ h => h) (Or.inl ⟨by rfl, ?hy⟩) (by assumption) ?_
            case hy => intro w hSw; (try dsimp only at hSw); go_simp; try with_reducible rfl
            try simp only [Act.put, List.getElem_toArray, List.getElem_cons_succ, List.getElem_cons_zero, List.setIfInBounds_toArray, List.set_cons_zero, List.set_cons_succ]
            refine wpAnyH_take (i := 14) (v := ?_) rfl (by kernel_rfl) (by kernel_rfl) (by kernel_rfl) (fun _ _ _ h => h) (Or.inl ⟨by rfl, ?hy⟩) (by assumption) ?_
            case hy => intro w hSw; (try dsimp only at hSw); go_simp; try with_reducible rfl
            try simp only [Act.put, List.getElem_toArray, List.getElem_cons_succ, List.getElem_cons_zero, List.setIfInBounds_toArray, List.set_cons_zero, List.set_cons_succ]
            refine wpAnyH_take (i := 15) (v := ?_) rfl (by kernel_rfl) (by kernel_rfl) (by kernel_rfl) (fun _ _ _ h => h) (Or.inl ⟨by rfl, ?hy⟩) (by assumption) ?_
            case hy => intro w hSw; (try dsimp only at hSw); go_simp; try with_reducible rfl
            try simp only [Act.put, List.getElem_toArray, List.getElem_cons_succ, List.getElem_cons_zero, List.setIfInBounds_toArray, List.set_cons_zero, List.set_cons_succ]
            refine wpAnyH_ready (rs := [16]) (by kernel_rfl) (by simp) (AllReadyH.cons rfl (fun K hK => ?_) AllReadyH.nil)
            go_simp
            go_at_call 19; refine (HC2.out trivial).mono ?_; rintro e w2 ⟨rfl, t2, ht2, h2, _⟩; have HS2 := Lib.hid (HCS.out w2 h2.bel); have H2 := Lib.hid (And.intro ht2 h2); clear ht2 h2
            try (go_wp2_with fail)
            refine hK.out _ _ ?_ (fun hHeld => ?_)
            · exact HS2.out
            clear hK K
            try simp only [Act.put, List.getElem_toArray, List.getElem_cons_succ, List.getElem_cons_zero, List.setIfInBounds_toArray, List.set_cons_zero, List.set_cons_succ]
            refine wpAnyH_done (by kernel_rfl) ?_ _
            refine NoPanic.normal ?_
            clear c0 c1 c2 c3 c4 c5 c6 c7 c8 c9
            go_wp2_with (fail)
            refine ⟨⟨j + 1, t2, by omega, by go_num, H2.out.1, HTK.out _ _ H2.out.2⟩, by first | (simp [intOf]; done) | (simp [intOf]; omega)⟩
          · by_cases hk3 : kind = 3
            · subst hk3
              go_wp2_with (fail)
              refine (HC3.out trivial).mono ?_
              rintro e w2 ⟨rfl, t2, ht2, h2, _⟩
              clear c0 c1 c2 c3 c4 c5 c6 c7 c8 c9
              go_wp2_with (fail)
              refine ⟨⟨j + 1, t2, by omega, by go_num, ht2, HTK.out _ _ h2⟩, by first | (simp [intOf]; done) | (simp [intOf]; omega)⟩
            · have ht2 := ht
              have h2 := HT.out
              rw [← HOT.out hk0 hk1 hk2 hk3] at h2
              go_wp2_with (fail)
              refine ⟨⟨j + 1, t, by omega, by go_num, ht2, HTK.out _ _ h2⟩, by first | (simp [intOf]; done) | (simp [intOf]; omega)⟩
    · have j1 : ¬ (j : Int) < n := by omega
      have e1 : ds.take j = ds := List.take_of_length_le (by rw [HN.out]; omega)
      rw [e1] at HT
      go_wp2_with (fail)
      go_ret
      exact ⟨t, by rw [ht]; rfl, HT.out⟩
end Go.Proofs.Ytpbbidijnmooaaa
