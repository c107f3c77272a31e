/- TreeGrows. -/
import Derived.Test.YtpbbidijnmooaaaTrU
import Derived.Deep.CutBlock
namespace Go.Proofs.Ytpbbidijnmooaaa
open Go.RowKit
set_option linter.unusedVariables false
set_option linter.unusedSimpArgs false

theorem touch_prefix : ∀ (l : List KeyS) (M : TreeM), keysM M <+: keysM (touchM M l)
  | [], M => List.prefix_refl _
  | k :: l, M => by
    rw [touchM_cons]
    refine List.IsPrefix.trans ?_ (touch_prefix l _)
    rw [keysM_add]
    split
    · exact List.prefix_refl _
    · exact List.prefix_append _ _
theorem deed_prefix (s : TreeS) (d : TDeed) : keysM s.1 <+: keysM (deedT s d).1 := by
  unfold deedT
  split
  · split
    · show _ <+: keysM (noteM _ _ _); rw [keys_note]; exact touch_prefix _ _
    · split
      · show _ <+: keysM (noteM _ _ _); rw [keys_note]; exact touch_prefix _ _
      · split
        · show _ <+: keysM (doneM _ _ _); rw [keys_done]; exact List.prefix_refl _
        · split
          · exact touch_prefix _ _
          · exact List.prefix_refl _
  · exact List.prefix_refl _
theorem deed_err {s : TreeS} {d : TDeed} (h : ¬ deedE s d = 0) : deedT s d = s := by unfold deedT; rw [if_neg h]
theorem deed_get {s : TreeS} {d : TDeed} {k : Nat} {q : KeyS} (h : (keysM s.1)[k]? = some q) : (keysM (deedT s d).1)[k]? = some q := by
  obtain ⟨r, hr⟩ := deed_prefix s d
  rw [← hr, List.getElem?_append_left (List.getElem?_eq_some_iff.1 h).1]
  exact h
theorem deed_le (s : TreeS) (d : TDeed) : s.1.length ≤ (deedT s d).1.length := by
  have := (deed_prefix s d).length_le
  rwa [keys_len, keys_len] at this
theorem tres_few {w wx : World} {s : TreeS} {t : TreeV} (h : TRes w wx s t) : s.1.length ≤ 512 := by have := h.at_.few; rw [← M_len, h.m] at this; exact this
theorem tres_kok {w wx : World} {s : TreeS} {t : TreeV} (h : TRes w wx s t) : ∀ q, q ∈ keysM s.1 → KeyOk q := by
  intro q hq
  rw [← h.m] at hq
  unfold keysM TreeV.M at hq
  rw [List.map_map] at hq
  obtain ⟨x, hx, rfl⟩ := List.mem_map.1 hq
  exact h.at_.kok x hx
theorem tres_last {w wx : World} {s : TreeS} {t : TreeV} (h : TRes w wx s t) {TB : Nat} (ht : t.tb = TB) : Calls Try.prog 11 #[.pointer (some ⟨TB, 0, none⟩)] wx fun e w' => e = .returned (.int .i64 s.2) ∧ w' = wx := by
  subst ht
  have := tlast_any h.at_
  rw [h.last] at this
  exact this
theorem tres_has {w wx : World} {s : TreeS} {t : TreeV} (h : TRes w wx s t) {TB : Nat} (ht : t.tb = TB) (q : KeyS) (hq : q ∈ keysM s.1) : Calls Try.prog 13 #[.pointer (some ⟨TB, 0, none⟩), q.v] wx fun e w' => e = .returned (.bool true) ∧ Below wx.heap.size wx w' := by
  subst ht
  have h1 := thas_any h.at_ q (tres_kok h q hq)
  rw [h.m, isSome_mem.2 hq] at h1
  exact h1
theorem tres_node {w wx : World} {s : TreeS} {t : TreeV} (h : TRes w wx s t) {TB : Nat} (ht : t.tb = TB) (q : KeyS) (hq : q ∈ keysM s.1) : Calls Try.prog 14 #[.pointer (some ⟨TB, 0, none⟩), q.v] wx fun e w' => (∃ b, e = .returned (.pointer (some ⟨b, 0, none⟩))) ∧ Below wx.heap.size wx w' := by
  subst ht
  refine (tnode_any h.at_ q (tres_kok h q hq)).mono (fun e w' hp => ?_)
  rw [h.m] at hp
  obtain ⟨n, hn⟩ := Option.isSome_iff_exists.1 (isSome_mem.2 hq)
  obtain ⟨k', hk, _⟩ := hp.yes n hn
  exact ⟨⟨_, hk⟩, hp.bel⟩
theorem cl_keys {wx w' : World} {M : TreeM} {e : Ending} (h : ClPost wx M.length (keysM M) e w') : ∃ a c, e = .returned (.slice a M.length c) ∧ KeysAt w' a (keysM M) ∧ (∀ g, a = some ⟨g, 0, none⟩ → wx.heap.size ≤ g) ∧ Below wx.heap.size wx w' := by
  obtain ⟨a, c, he, ho, hb⟩ := h
  exact ⟨a, c, he, keysAt_row ho (keys_len M), (fun g hg => by subst hg; exact (ho.lt g rfl).1), hb⟩
/-- Behind a deed: the tree, and the keys that were told ahead of it. -/
structure GrD (w1 wx : World) (TB : Nat) (s : TreeS) (d : TDeed) (a2 : Option Addr) : Prop where
  res : ∃ t', t'.tb = TB ∧ TRes w1 wx (deedT s d) t'
  was : KeysAt wx a2 (keysM s.1)
theorem GrD.bel {w1 wx : World} {TB : Nat} {s : TreeS} {d : TDeed} {a2 : Option Addr} (h : GrD w1 wx TB s d a2) : Below w1.heap.size w1 wx := by obtain ⟨t, _, h⟩ := h.res; exact h.bel
theorem grd_post {w1 wx wy : World} {TB : Nat} {s : TreeS} {t : TreeV} {d : TDeed} {E : Int} {e : Ending} {a2 : Option Addr} (hE : deedE s d = E) (hk : KeysAt wx a2 (keysM s.1)) (hf : ∀ g, a2 = some ⟨g, 0, none⟩ → ¬ TOwn t g) (hp : DeedPost w1 wx TB s t d e wy) : e = .returned (.int .i64 E) ∧ GrD w1 wy TB s d a2 := by
  obtain ⟨he, t', h1, h2, h3⟩ := hp
  rw [hE] at he
  exact ⟨he, ⟨t', h1, h2⟩, hk.off h3.off hf⟩

set_option maxHeartbeats 12800000 in
set_option maxRecDepth 100000 in
theorem trgrows_walk {w : World} {a : Option Addr} {n cap : Nat} {ds : List TDeed} (hn : ds.length = n) (hm : n ≤ 1173124812070) (hrow : DeedRow w a ds) (hok : ∀ d, d ∈ ds → d.Ok) :
    Calls Try.prog 5 #[.slice a n cap] w fun e w' => e = .returned (.bool true) ∧ Below w.heap.size w w' := by
  have HN := Lib.hid hn
  have HROW := Lib.hid hrow
  have HOK := Lib.hid hok
  clear hn hrow hok
  go_enter Try.func5, Try.ntmps5
  go_wp2_with (fail)
  refine (trlive_any _).mono ?_
  rintro e w0 ⟨rfl, hb0⟩
  have HB0 := Lib.hid hb0
  have h0 := tres_new w0
  obtain ⟨TB, hTB⟩ : ∃ TB, w0.heap.size + 1 = TB := ⟨_, rfl⟩
  have ht0 : (newV w0).tb = TB := hTB
  have HNW := Lib.hid (show Calls Try.prog 16 #[] w0 fun e w' => e = .returned (.pointer (some ⟨TB, 0, none⟩)) ∧ w' = newT w0 by rw [← hTB]; exact tnew_any w0)
  obtain ⟨t0, ht⟩ : ∃ t0, newV w0 = t0 := ⟨_, rfl⟩
  rw [ht] at h0 ht0
  obtain ⟨w1, hw1⟩ : ∃ w1, newT w0 = w1 := ⟨_, rfl⟩
  rw [hw1] at h0 HNW
  have H0 := Lib.hid (And.intro ht0 h0)
  clear h0 ht0 hTB ht hw1 hb0
  go_wp2_with (fail)
  refine HNW.out.mono ?_
  rintro e wq ⟨rfl, hq⟩
  subst hq
  go_wp2_with (fail)
  go_loopw [4, 5, 6, 7, 8, 9] (fun x4 _ _ _ _ _ wr => ∃ (j : Nat) (t : TreeV), j ≤ n ∧ x4 = .int .i64 j ∧ t.tb = TB ∧ Hid (TRes w0 wr (runT (ds.take j)) t)) (fun x4 _ _ _ _ _ _ => n - (intOf x4).toNat)
  case atStart => exact ⟨0, t0, Nat.zero_le _, rfl, H0.out.1, H0.out.2⟩
  case round =>
    rename World => wr
    obtain ⟨j, t, hj, rfl, ht, HT⟩ := hrel
    by_cases hjlt : j < n
    · obtain ⟨d, hd⟩ : ∃ d, ds[j]? = some d := ⟨_, List.getElem?_eq_getElem (by rw [HN.out]; exact hjlt)⟩
      obtain ⟨bl, ol, rfl, hbl, hcw⟩ := HROW.out.get hd
      have HRS := Lib.hid (show runT (ds.take (j + 1)) = deedT (runT (ds.take j)) d from run_snoc hd)
      obtain ⟨s, hs⟩ : ∃ s, runT (ds.take j) = s := ⟨_, rfl⟩
      rw [hs] at HT HRS
      have HDK := Lib.hid (HOK.out d (List.mem_of_getElem? hd))
      have HAL := Lib.hid (tres_all HT.out ht)
      obtain ⟨nP, hnP⟩ : ∃ nP, s.1.length = nP := ⟨_, rfl⟩
      have HNP := Lib.hid hnP
      have j0 : (0 : Int) ≤ j := by omega
      have j1 : (j : Int) < n := by omega
      clear hd hs hnP
      go_wp2_with (fail)
      refine HAL.out.mono ?_
      intro e w2 hp2
      obtain ⟨a2, c2, rfl, hk2, hf2, hb2⟩ := cl_keys hp2
      rw [HNP.out]
      have HT2 := Lib.hid (HT.out.below hb2)
      have HK2 := Lib.hid hk2
      have HF2 := Lib.hid (show ∀ g, a2 = some ⟨g, 0, none⟩ → ¬ TOwn t g from fun g hg ho => by have := HT.out.at_.lt ho; have := hf2 g hg; omega)
      have HL2 := Lib.hid (tres_last HT2.out ht)
      clear hp2 hk2 hf2 hb2 HAL
      go_wp2_with (fail)
      refine HL2.out.mono ?_
      rintro e wq ⟨rfl, hq⟩
      subst hq
      obtain ⟨E, hE⟩ : ∃ E, deedE s d = E := ⟨_, rfl⟩
      have HE := Lib.hid hE
      have hb : Below w.heap.size w wq := HB0.out.trans (HT2.out.bel.mono HB0.out.size)
      have hc : ∀ k u, d.cs[k]? = some u → wq.cell? ⟨bl, ol + j * 10 + k, none⟩ = some u := fun k u hu => (hb.cell (p := ⟨bl, ol + j * 10 + k, none⟩) hbl).trans (hcw k u hu)
      have hdk := HDK.out
      have HC0 := Lib.hid (fun hk => (tres_pass HT2.out ht hdk hk).mono (fun e wy h => grd_post hE HK2.out HF2.out h))
      have HC1 := Lib.hid (fun hk => (tres_block HT2.out ht hdk hk).mono (fun e wy h => grd_post hE HK2.out HF2.out h))
      have hdr : Below wq.heap.size wq wq.drew := (Below.refl _ _).drew
      have HC2 := Lib.hid (fun hk => (tres_done (HT2.out.below hdr) ht hdk hk).mono (fun e wy h => grd_post hE (HK2.out.below hdr) HF2.out h))
      have hnew := new_blockS wq (.cells d.c.c 40)
      have hal : Below wq.heap.size wq (wq.alloc (.cells d.c.c 40)) := (Below.refl _ _).alloc (Nat.le_refl _) _
      have HC3 := Lib.hid (fun hk => (tres_touch (HT2.out.below hal) ht hdk hk wq.heap.size 1 hnew).mono (fun e wy h => grd_post hE (HK2.out.below hal) HF2.out h))
      have HOT := Lib.hid (fun a b c e => (show E = 0 ∧ GrD w0 wq TB s d a2 by
        have h := tdeed_other (s := s) (d := d) a b c e
        exact ⟨hE.symm.trans h.1, ⟨t, ht, by rw [h.2]; exact HT2.out⟩, HK2.out⟩))
      have HLE := Lib.hid (deed_le s d)
      have HER := Lib.hid (deed_err (s := s) (d := d))
      have HGT := Lib.hid (fun k q (h : (keysM s.1)[k]? = some q) => deed_get (d := d) h)
      obtain ⟨sD, hsD⟩ : ∃ sD, sD = d := ⟨_, rfl⟩
      clear hdk hb hal hnew hdr hE HL2
      obtain ⟨kind, ⟨at_, res, ctx, org, inb, cnt, aa, al, ac⟩, rt, failed⟩ := d
      dsimp only at HC0 HC1 HC2 HC3 HOT
      unfold CallS.c at HC0 HC1 HC2 HC3
      dsimp only at HC0 HC1 HC2 HC3
      rw [← hsD] at HC0 HC1 HC2 HC3 HOT HLE HER HGT HRS HE
      have c0 := hc 0 _ rfl
      rw [Nat.add_zero] at c0
      have c1 := hc 1 _ rfl
      have c2 := hc 2 _ rfl
      have c3 := hc 3 _ rfl
      have c4 := hc 4 _ rfl
      have c5 := hc 5 _ rfl
      have c6 := hc 6 _ rfl
      have c7 := hc 7 _ rfl
      have c8 := hc 8 _ rfl
      have c9 := hc 9 _ rfl
      dsimp only at c0 c1 c2 c3 c4 c5 c6 c7 c8 c9
      have HCS := Lib.hid (fun (wx : World) (hx : Below w0.heap.size w0 wx) => (show wx.cell? ⟨bl, ol + j * 10 + 1, none⟩ = some (.int .i64 at_) ∧ wx.cell? ⟨bl, ol + j * 10 + 2, none⟩ = some (.string res) ∧ wx.cell? ⟨bl, ol + j * 10 + 3, none⟩ = some (.string ctx) ∧ wx.cell? ⟨bl, ol + j * 10 + 4, none⟩ = some (.string org) ∧ wx.cell? ⟨bl, ol + j * 10 + 5, none⟩ = some (.bool inb) ∧ wx.cell? ⟨bl, ol + j * 10 + 6, none⟩ = some (.int .i64 cnt) ∧ wx.cell? ⟨bl, ol + j * 10 + 7, none⟩ = some (.slice aa al ac) ∧ wx.cell? ⟨bl, ol + j * 10 + 8, none⟩ = some (.int .i64 rt) ∧ wx.cell? ⟨bl, ol + j * 10 + 9, none⟩ = some (.bool failed) from by
        have hxw := HB0.out.trans (hx.mono HB0.out.size)
        have hq : ∀ k u, (TDeed.mk kind ⟨at_, res, ctx, org, inb, cnt, aa, al, ac⟩ rt failed).cs[k]? = some u → wx.cell? ⟨bl, ol + j * 10 + k, none⟩ = some u := fun k u hu => (hxw.cell (p := ⟨bl, ol + j * 10 + k, none⟩) hbl).trans (hcw k u hu)
        exact ⟨hq 1 _ rfl, hq 2 _ rfl, hq 3 _ rfl, hq 4 _ rfl, hq 5 _ rfl, hq 6 _ rfl, hq 7 _ rfl, hq 8 _ rfl, hq 9 _ rfl⟩))
      clear hc hcw HDK hsD
      go_upto_block 2 with (fail)
      go_cut [7] from 13 to 136 (fun x wx => x = .int .i64 E ∧ GrD w0 wx TB s sD a2)
      case first =>
        by_cases hk0 : kind = 0
        · subst hk0
          go_wp2_with (fail)
          refine (HC0.out trivial).mono ?_
          rintro e w3 ⟨rfl, h3⟩
          clear c0 c1 c2 c3 c4 c5 c6 c7 c8 c9
          go_wp2_with (fail)
          go_meet
          exact ⟨rfl, h3⟩
        · by_cases hk1 : kind = 1
          · subst hk1
            go_wp2_with (fail)
            refine (HC1.out trivial).mono ?_
            rintro e w3 ⟨rfl, h3⟩
            clear c0 c1 c2 c3 c4 c5 c6 c7 c8 c9
            go_wp2_with (fail)
            go_meet
            exact ⟨rfl, h3⟩
          · by_cases hk2 : kind = 2
            · subst hk2
              go_wp2_with (fail)
              refine wp_region_noPanic ?_
              refine wp_region_held_drew (S := (fun wx => wx.cell? ⟨bl, ol + j * 10 + 1, none⟩ = some (.int .i64 at_) ∧ wx.cell? ⟨bl, ol + j * 10 + 2, none⟩ = some (.string res) ∧ wx.cell? ⟨bl, ol + j * 10 + 3, none⟩ = some (.string ctx) ∧ wx.cell? ⟨bl, ol + j * 10 + 4, none⟩ = some (.string org) ∧ wx.cell? ⟨bl, ol + j * 10 + 5, none⟩ = some (.bool inb) ∧ wx.cell? ⟨bl, ol + j * 10 + 6, none⟩ = some (.int .i64 cnt) ∧ wx.cell? ⟨bl, ol + j * 10 + 7, none⟩ = some (.slice aa al ac) ∧ wx.cell? ⟨bl, ol + j * 10 + 8, none⟩ = some (.int .i64 rt) ∧ wx.cell? ⟨bl, ol + j * 10 + 9, none⟩ = some (.bool failed))) (by kernel_rfl) ?_ (fun hHeld => ?_)
              · exact ⟨c1, c2, c3, c4, c5, c6, c7, c8, c9⟩
              refine wpAnyH_take (i := 0) (v := ?_) rfl (by kernel_rfl) (by kernel_rfl) (by kernel_rfl) (fun _ _ _ h => h) (Or.inl ⟨by rfl, ?hy⟩) (by assumption) ?_
              case hy => intro w hSw; (try dsimp only at hSw); go_simp; try with_reducible rfl
              try simp only [Act.put, List.getElem_toArray, List.getElem_cons_succ, List.getElem_cons_zero, List.setIfInBounds_toArray, List.set_cons_zero, List.set_cons_succ]
              refine wpAnyH_take (i := 1) (v := ?_) rfl (by kernel_rfl) (by kernel_rfl) (by kernel_rfl) (fun _ _ _ h => h) (Or.inl ⟨by rfl, ?hy⟩) (by assumption) ?_
              case hy => intro w hSw; (try dsimp only at hSw); go_simp; try with_reducible rfl
              try simp only [Act.put, List.getElem_toArray, List.getElem_cons_succ, List.getElem_cons_zero, List.setIfInBounds_toArray, List.set_cons_zero, List.set_cons_succ]
              refine wpAnyH_take (i := 2) (v := ?_) rfl (by kernel_rfl) (by kernel_rfl) (by kernel_rfl) (fun _ _ _ h => h) (Or.inl ⟨by rfl, ?hy⟩) (by assumption) ?_
              case hy => intro w hSw; (try dsimp only at hSw); go_simp; try with_reducible rfl
              try simp only [Act.put, List.getElem_toArray, List.getElem_cons_succ, List.getElem_cons_zero, List.setIfInBounds_toArray, List.set_cons_zero, List.set_cons_succ]
              refine wpAnyH_take (i := 3) (v := ?_) rfl (by kernel_rfl) (by kernel_rfl) (by kernel_rfl) (fun _ _ _ h => h) (Or.inl ⟨by rfl, ?hy⟩) (by assumption) ?_
              case hy => intro w hSw; (try dsimp only at hSw); go_simp; try with_reducible rfl
              try simp only [Act.put, List.getElem_toArray, List.getElem_cons_succ, List.getElem_cons_zero, List.setIfInBounds_toArray, List.set_cons_zero, List.set_cons_succ]
              refine wpAnyH_take (i := 4) (v := ?_) rfl (by kernel_rfl) (by kernel_rfl) (by kernel_rfl) (fun _ _ _ h => h) (Or.inl ⟨by rfl, ?hy⟩) (by assumption) ?_
              case hy => intro w hSw; (try dsimp only at hSw); go_simp; try with_reducible rfl
              try simp only [Act.put, List.getElem_toArray, List.getElem_cons_succ, List.getElem_cons_zero, List.setIfInBounds_toArray, List.set_cons_zero, List.set_cons_succ]
              refine wpAnyH_take (i := 5) (v := ?_) rfl (by kernel_rfl) (by kernel_rfl) (by kernel_rfl) (fun _ _ _ h => h) (Or.inl ⟨by rfl, ?hy⟩) (by assumption) ?_
              case hy => intro w hSw; (try dsimp only at hSw); go_simp; try with_reducible rfl
              try simp only [Act.put, List.getElem_toArray, List.getElem_cons_succ, List.getElem_cons_zero, List.setIfInBounds_toArray, List.set_cons_zero, List.set_cons_succ]
              refine wpAnyH_take (i := 6) (v := ?_) rfl (by kernel_rfl) (by kernel_rfl) (by kernel_rfl) (fun _ _ _ h => h) (Or.inl ⟨by rfl, ?hy⟩) (by assumption) ?_
              case hy => intro w hSw; (try dsimp only at hSw); go_simp; try with_reducible rfl
              try simp only [Act.put, List.getElem_toArray, List.getElem_cons_succ, List.getElem_cons_zero, List.setIfInBounds_toArray, List.set_cons_zero, List.set_cons_succ]
              refine wpAnyH_take (i := 7) (v := ?_) rfl (by kernel_rfl) (by kernel_rfl) (by kernel_rfl) (fun _ _ _ h => h) (Or.inl ⟨by rfl, ?hy⟩) (by assumption) ?_
              case hy => intro w hSw; (try dsimp only at hSw); go_simp; try with_reducible rfl
              try simp only [Act.put, List.getElem_toArray, List.getElem_cons_succ, List.getElem_cons_zero, List.setIfInBounds_toArray, List.set_cons_zero, List.set_cons_succ]
              refine wpAnyH_take (i := 8) (v := ?_) rfl (by kernel_rfl) (by kernel_rfl) (by kernel_rfl) (fun _ _ _ h => h) (Or.inl ⟨by rfl, ?hy⟩) (by assumption) ?_
              case hy => intro w hSw; (try dsimp only at hSw); go_simp; try with_reducible rfl
              try simp only [Act.put, List.getElem_toArray, List.getElem_cons_succ, List.getElem_cons_zero, List.setIfInBounds_toArray, List.set_cons_zero, List.set_cons_succ]
              refine wpAnyH_take (i := 9) (v := ?_) rfl (by kernel_rfl) (by kernel_rfl) (by kernel_rfl) (fun _ _ _ h => h) (Or.inl ⟨by rfl, ?hy⟩) (by assumption) ?_
              case hy => intro w hSw; (try dsimp only at hSw); go_simp; try with_reducible rfl
              try simp only [Act.put, List.getElem_toArray, List.getElem_cons_succ, List.getElem_cons_zero, List.setIfInBounds_toArray, List.set_cons_zero, List.set_cons_succ]
              refine wpAnyH_take (i := 10) (v := ?_) rfl (by kernel_rfl) (by kernel_rfl) (by kernel_rfl) (fun _ _ _ h => h) (Or.inl ⟨by rfl, ?hy⟩) (by assumption) ?_
              case hy => intro w hSw; (try dsimp only at hSw); go_simp; try with_reducible rfl
              try simp only [Act.put, List.getElem_toArray, List.getElem_cons_succ, List.getElem_cons_zero, List.setIfInBounds_toArray, List.set_cons_zero, List.set_cons_succ]
              refine wpAnyH_take (i := 11) (v := ?_) rfl (by kernel_rfl) (by kernel_rfl) (by kernel_rfl) (fun _ _ _ h => h) (Or.inl ⟨by rfl, ?hy⟩) (by assumption) ?_
              case hy => intro w hSw; (try dsimp only at hSw); go_simp; try with_reducible rfl
              try simp only [Act.put, List.getElem_toArray, List.getElem_cons_succ, List.getElem_cons_zero, List.setIfInBounds_toArray, List.set_cons_zero, List.set_cons_succ]
              refine wpAnyH_take (i := 12) (v := ?_) rfl (by kernel_rfl) (by kernel_rfl) (by kernel_rfl) (fun _ _ _ h => h) (Or.inl ⟨by rfl, ?hy⟩) (by assumption) ?_
              case hy => intro w hSw; (try dsimp only at hSw); go_simp; try with_reducible rfl
              try simp only [Act.put, List.getElem_toArray, List.getElem_cons_succ, List.getElem_cons_zero, List.setIfInBounds_toArray, List.set_cons_zero, List.set_cons_succ]
              refine wpAnyH_take (i := 13) (v := ?_) rfl (by kernel_rfl) (by kernel_rfl) (by kernel_rfl) (fun _ _ _ h => h) (Or.inl ⟨by rfl, ?hy⟩) (by assumption) ?_
              case hy => intro w hSw; (try dsimp only at hSw); go_simp; try with_reducible rfl
              try simp only [Act.put, List.getElem_toArray, List.getElem_cons_succ, List.getElem_cons_zero, List.setIfInBounds_toArray, List.set_cons_zero, List.set_cons_succ]
              refine wpAnyH_take (i := 14) (v := ?_) rfl (by kernel_rfl) (by kernel_rfl) (by kernel_rfl) (fun _ _ _ h => h) (Or.inl ⟨by rfl, ?hy⟩) (by assumption) ?_
              case hy => intro w hSw; (try dsimp only at hSw); go_simp; try with_reducible rfl
              try simp only [Act.put, List.getElem_toArray, List.getElem_cons_succ, List.getElem_cons_zero, List.setIfInBounds_toArray, List.set_cons_zero, List.set_cons_succ]
              refine wpAnyH_take (i := 15) (v := ?_) rfl (by kernel_rfl) (by kernel_rfl) (by kernel_rfl) (fun _ _ _ h => h) (Or.inl ⟨by rfl, ?hy⟩) (by assumption) ?_
              case hy => intro w hSw; (try dsimp only at hSw); go_simp; try with_reducible rfl
              try simp only [Act.put, List.getElem_toArray, List.getElem_cons_succ, List.getElem_cons_zero, List.setIfInBounds_toArray, List.set_cons_zero, List.set_cons_succ]
              refine wpAnyH_ready (rs := [16]) (by kernel_rfl) (by simp) (AllReadyH.cons rfl (fun K hK => ?_) AllReadyH.nil)
              go_simp
              go_at_call 19; refine (HC2.out trivial).mono ?_; rintro e w3 ⟨rfl, h3⟩; have HS3 := Lib.hid (HCS.out w3 h3.bel); have H3 := Lib.hid h3; clear h3
              try (go_wp2_with fail)
              refine hK.out _ _ ?_ (fun hHeld => ?_)
              · exact HS3.out
              clear hK K
              try simp only [Act.put, List.getElem_toArray, List.getElem_cons_succ, List.getElem_cons_zero, List.setIfInBounds_toArray, List.set_cons_zero, List.set_cons_succ]
              refine wpAnyH_take (i := 17) (v := ?_) rfl (by kernel_rfl) (by kernel_rfl) (by kernel_rfl) (fun _ _ _ h => h) (Or.inl ⟨by rfl, ?hy⟩) (by assumption) ?_
              case hy => intro w hSw; (try dsimp only at hSw); go_simp; try with_reducible rfl
              try simp only [Act.put, List.getElem_toArray, List.getElem_cons_succ, List.getElem_cons_zero, List.setIfInBounds_toArray, List.set_cons_zero, List.set_cons_succ]
              refine wpAnyH_done (by kernel_rfl) ?_ _
              refine NoPanic.normal ?_
              clear c0 c1 c2 c3 c4 c5 c6 c7 c8 c9
              go_wp2_with (fail)
              go_meet
              exact ⟨rfl, H3.out⟩
            · by_cases hk3 : kind = 3
              · subst hk3
                go_wp2_with (fail)
                refine (HC3.out trivial).mono ?_
                rintro e w3 ⟨rfl, h3⟩
                clear c0 c1 c2 c3 c4 c5 c6 c7 c8 c9
                go_wp2_with (fail)
                go_meet
                exact ⟨rfl, h3⟩
              · obtain ⟨e1, h3⟩ := HOT.out hk0 hk1 hk2 hk3
                go_wp2_with (fail)
                go_meet
                exact ⟨by rw [e1], h3⟩
      case rest =>
        obtain ⟨rfl, hgr⟩ := hcut
        clear HC0 HC1 HC2 HC3 HOT HCS c0 c1 c2 c3 c4 c5 c6 c7 c8 c9 HT HT2 HK2 HF2
        obtain ⟨⟨t3, ht3, h3⟩, hk3⟩ := hgr
        have HT3 := Lib.hid h3
        have HK3 := Lib.hid hk3
        have HAL := Lib.hid (tres_all h3 ht3)
        have hE := HE.out
        have HRUN := HRS.out
        obtain ⟨s', hs'⟩ : ∃ s', deedT s sD = s' := ⟨_, rfl⟩
        rw [hs'] at HT3 HAL HLE HER HGT HRUN
        have HRN := Lib.hid HRUN
        obtain ⟨nQ, hnQ⟩ : ∃ nQ, s'.1.length = nQ := ⟨_, rfl⟩
        have HNQ := Lib.hid hnQ
        have hle := HLE.out
        have hfew := tres_few HT3.out
        have hnP := HNP.out
        rw [hnP, hnQ] at hle
        rw [hnQ] at hfew
        clear h3 hk3 hs' hnQ HRUN hnP hE HRS
        go_wp2_with (fail)
        refine HAL.out.mono ?_
        intro e w5 hp5
        obtain ⟨a5, c5, rfl, hk5, hf5, hb5⟩ := cl_keys hp5
        rw [HNQ.out]
        have HT5 := Lib.hid (HT3.out.below hb5)
        have HK5 := Lib.hid hk5
        have HK2 := Lib.hid (HK3.out.below hb5)
        have HL5 := Lib.hid (tres_last HT5.out ht3)
        clear hp5 hk5 hf5 hb5 HAL HT3 HK3
        go_upto_region 20 with (fail)
        go_cut [103] from 13 to 136 (fun x wx => x = .bool false ∧ wx = w5)
        case first =>
          have g1 : ¬ (nQ : Int) < nP := by omega
          have g2 : ¬ (512 : Int) < nQ := by omega
          by_cases hE0 : E = 0
          · subst hE0
            go_wp2_with (fail)
            go_meet
            exact ⟨rfl, rfl⟩
          · have hss := HER.out (by rw [HE.out]; exact hE0)
            have hnn : nQ = nP := by rw [← HNQ.out, ← HNP.out, hss]
            subst hnn
            rw [hss] at HL5
            have hEb : (E == 0) = false := by simpa using hE0
            have hEc : (E != 0) = true := by simpa using hE0
            clear hss
            go_wp2_with (fail)
            refine HL5.out.mono ?_
            rintro e wq2 ⟨rfl, hq⟩
            subst hq
            go_wp2_with (fail)
            go_meet
            exact ⟨rfl, rfl⟩
        case rest =>
          obtain ⟨rfl, hwc⟩ := hcut
          rw [hwc]
          clear hwc HL5 HE HER HLE
          go_wp2_with (fail)
          go_loopw [9] (fun x9 wz => ∃ k : Nat, k ≤ nP ∧ x9 = .int .i64 k ∧ Hid (Below w5.heap.size w5 wz)) (fun x9 _ => nP - (intOf x9).toNat)
          case atStart => exact ⟨0, Nat.zero_le _, rfl, Lib.hid (Below.refl _ _)⟩
          case round =>
            rename World => wz
            obtain ⟨k, hk, rfl, HBZ⟩ := hrel
            by_cases hklt : k < nP
            · obtain ⟨q, hq⟩ : ∃ q, (keysM s.1)[k]? = some q := ⟨_, List.getElem?_eq_getElem (by rw [keys_len, HNP.out]; exact hklt)⟩
              have hq' := HGT.out k q hq
              have hka := HK2.out.below HBZ.out
              have hkb := HK5.out.below HBZ.out
              obtain ⟨g2, rfl, hg2, _⟩ := hka.get hq
              obtain ⟨g5, rfl, hg5, _⟩ := hkb.get hq'
              have HH := Lib.hid (fun (wx : World) (hx : Below wz.heap.size wz wx) => tres_has (HT5.out.below (HBZ.out.trans (hx.mono HBZ.out.size))) ht3 q (List.mem_of_getElem? hq'))
              have HND := Lib.hid (fun (wx : World) (hx : Below wz.heap.size wz wx) => tres_node (HT5.out.below (HBZ.out.trans (hx.mono HBZ.out.size))) ht3 q (List.mem_of_getElem? hq'))
              obtain ⟨kind, qctx, qres, qorg⟩ := q
              unfold KeyS.v at HH HND
              dsimp only at HH HND
              have HSZ := Lib.hid (fun (wx : World) (hx : Below wz.heap.size wz wx) => (show (wx.cell? ⟨g2, k * 4, none⟩ = some (.int .u8 kind) ∧ wx.cell? ⟨g2, k * 4 + 1, none⟩ = some (.string qctx) ∧ wx.cell? ⟨g2, k * 4 + 2, none⟩ = some (.string qres) ∧ wx.cell? ⟨g2, k * 4 + 3, none⟩ = some (.string qorg)) ∧ wx.cell? ⟨g5, k * 4, none⟩ = some (.int .u8 kind) ∧ wx.cell? ⟨g5, k * 4 + 1, none⟩ = some (.string qctx) ∧ wx.cell? ⟨g5, k * 4 + 2, none⟩ = some (.string qres) ∧ wx.cell? ⟨g5, k * 4 + 3, none⟩ = some (.string qorg) from by
                obtain ⟨_, r1, _, d0, d1, d2, d3⟩ := (hka.below hx).get hq
                obtain ⟨_, r2, _, e0, e1, e2, e3⟩ := (hkb.below hx).get hq'
                cases r1
                cases r2
                exact ⟨⟨d0, d1, d2, d3⟩, e0, e1, e2, e3⟩))
              have HBZ0 := Lib.hid (show Below wz.heap.size wz wz.drew from (Below.refl _ _).drew)
              have hs0 := HSZ.out wz (Below.refl _ _)
              have k0 : (0 : Int) ≤ k := by omega
              have k1 : (k : Int) < nP := by omega
              have k2 : (k : Int) < nQ := by omega
              clear hq hq' hka hkb
              go_wp2_with (fail)
              refine wp_region_noPanic ?_
              refine wp_region_held_drew (S := (fun wx => (wx.cell? ⟨g2, k * 4, none⟩ = some (.int .u8 kind) ∧ wx.cell? ⟨g2, k * 4 + 1, none⟩ = some (.string qctx) ∧ wx.cell? ⟨g2, k * 4 + 2, none⟩ = some (.string qres) ∧ wx.cell? ⟨g2, k * 4 + 3, none⟩ = some (.string qorg)) ∧ wx.cell? ⟨g5, k * 4, none⟩ = some (.int .u8 kind) ∧ wx.cell? ⟨g5, k * 4 + 1, none⟩ = some (.string qctx) ∧ wx.cell? ⟨g5, k * 4 + 2, none⟩ = some (.string qres) ∧ wx.cell? ⟨g5, k * 4 + 3, none⟩ = some (.string qorg))) (by kernel_rfl) ?_ (fun hHeld => ?_)
              · exact hs0
              refine wpAnyH_take (i := 0) (v := ?_) rfl (by kernel_rfl) (by kernel_rfl) (by kernel_rfl) (fun _ _ _ h => h) (Or.inl ⟨by rfl, ?hy⟩) (by assumption) ?_
              case hy => intro w hSw; (try dsimp only at hSw); go_simp; try with_reducible rfl
              try simp only [Act.put, List.getElem_toArray, List.getElem_cons_succ, List.getElem_cons_zero, List.setIfInBounds_toArray, List.set_cons_zero, List.set_cons_succ]
              refine wpAnyH_take (i := 1) (v := ?_) rfl (by kernel_rfl) (by kernel_rfl) (by kernel_rfl) (fun _ _ _ h => h) (Or.inl ⟨by rfl, ?hy⟩) (by assumption) ?_
              case hy => intro w hSw; (try dsimp only at hSw); go_simp; try with_reducible rfl
              try simp only [Act.put, List.getElem_toArray, List.getElem_cons_succ, List.getElem_cons_zero, List.setIfInBounds_toArray, List.set_cons_zero, List.set_cons_succ]
              refine wpAnyH_take (i := 2) (v := ?_) rfl (by kernel_rfl) (by kernel_rfl) (by kernel_rfl) (fun _ _ _ h => h) (Or.inl ⟨by rfl, ?hy⟩) (by assumption) ?_
              case hy => intro w hSw; (try dsimp only at hSw); go_simp; try with_reducible rfl
              try simp only [Act.put, List.getElem_toArray, List.getElem_cons_succ, List.getElem_cons_zero, List.setIfInBounds_toArray, List.set_cons_zero, List.set_cons_succ]
              refine wpAnyH_take (i := 3) (v := ?_) rfl (by kernel_rfl) (by kernel_rfl) (by kernel_rfl) (fun _ _ _ h => h) (Or.inl ⟨by rfl, ?hy⟩) (by assumption) ?_
              case hy => intro w hSw; (try dsimp only at hSw); go_simp; try with_reducible rfl
              try simp only [Act.put, List.getElem_toArray, List.getElem_cons_succ, List.getElem_cons_zero, List.setIfInBounds_toArray, List.set_cons_zero, List.set_cons_succ]
              refine wpAnyH_take (i := 4) (v := ?_) rfl (by kernel_rfl) (by kernel_rfl) (by kernel_rfl) (fun _ _ _ h => h) (Or.inl ⟨by rfl, ?hy⟩) (by assumption) ?_
              case hy => intro w hSw; (try dsimp only at hSw); go_simp; try with_reducible rfl
              try simp only [Act.put, List.getElem_toArray, List.getElem_cons_succ, List.getElem_cons_zero, List.setIfInBounds_toArray, List.set_cons_zero, List.set_cons_succ]
              refine wpAnyH_take (i := 5) (v := ?_) rfl (by kernel_rfl) (by kernel_rfl) (by kernel_rfl) (fun _ _ _ h => h) (Or.inl ⟨by rfl, ?hy⟩) (by assumption) ?_
              case hy => intro w hSw; (try dsimp only at hSw); go_simp; try with_reducible rfl
              try simp only [Act.put, List.getElem_toArray, List.getElem_cons_succ, List.getElem_cons_zero, List.setIfInBounds_toArray, List.set_cons_zero, List.set_cons_succ]
              refine wpAnyH_take (i := 6) (v := ?_) rfl (by kernel_rfl) (by kernel_rfl) (by kernel_rfl) (fun _ _ _ h => h) (Or.inl ⟨by rfl, ?hy⟩) (by assumption) ?_
              case hy => intro w hSw; (try dsimp only at hSw); go_simp; try with_reducible rfl
              try simp only [Act.put, List.getElem_toArray, List.getElem_cons_succ, List.getElem_cons_zero, List.setIfInBounds_toArray, List.set_cons_zero, List.set_cons_succ]
              refine wpAnyH_take (i := 7) (v := ?_) rfl (by kernel_rfl) (by kernel_rfl) (by kernel_rfl) (fun _ _ _ h => h) (Or.inl ⟨by rfl, ?hy⟩) (by assumption) ?_
              case hy => intro w hSw; (try dsimp only at hSw); go_simp; try with_reducible rfl
              try simp only [Act.put, List.getElem_toArray, List.getElem_cons_succ, List.getElem_cons_zero, List.setIfInBounds_toArray, List.set_cons_zero, List.set_cons_succ]
              refine wpAnyH_take (i := 8) (v := ?_) rfl (by kernel_rfl) (by kernel_rfl) (by kernel_rfl) (fun _ _ _ h => h) (Or.inl ⟨by rfl, ?hy⟩) (by assumption) ?_
              case hy => intro w hSw; (try dsimp only at hSw); go_simp; try with_reducible rfl
              try simp only [Act.put, List.getElem_toArray, List.getElem_cons_succ, List.getElem_cons_zero, List.setIfInBounds_toArray, List.set_cons_zero, List.set_cons_succ]
              refine wpAnyH_take (i := 9) (v := ?_) rfl (by kernel_rfl) (by kernel_rfl) (by kernel_rfl) (fun _ _ _ h => h) (Or.inl ⟨by rfl, ?hy⟩) (by assumption) ?_
              case hy => intro w hSw; (try dsimp only at hSw); go_simp; try with_reducible rfl
              try simp only [Act.put, List.getElem_toArray, List.getElem_cons_succ, List.getElem_cons_zero, List.setIfInBounds_toArray, List.set_cons_zero, List.set_cons_succ]
              refine wpAnyH_take (i := 10) (v := ?_) rfl (by kernel_rfl) (by kernel_rfl) (by kernel_rfl) (fun _ _ _ h => h) (Or.inl ⟨by rfl, ?hy⟩) (by assumption) ?_
              case hy => intro w hSw; (try dsimp only at hSw); go_simp; try with_reducible rfl
              try simp only [Act.put, List.getElem_toArray, List.getElem_cons_succ, List.getElem_cons_zero, List.setIfInBounds_toArray, List.set_cons_zero, List.set_cons_succ]
              refine wpAnyH_take (i := 11) (v := ?_) rfl (by kernel_rfl) (by kernel_rfl) (by kernel_rfl) (fun _ _ _ h => h) (Or.inl ⟨by rfl, ?hy⟩) (by assumption) ?_
              case hy => intro w hSw; (try dsimp only at hSw); go_simp; try with_reducible rfl
              try simp only [Act.put, List.getElem_toArray, List.getElem_cons_succ, List.getElem_cons_zero, List.setIfInBounds_toArray, List.set_cons_zero, List.set_cons_succ]
              refine wpAnyH_take (i := 12) (v := ?_) rfl (by kernel_rfl) (by kernel_rfl) (by kernel_rfl) (fun _ _ _ h => h) (Or.inl ⟨by rfl, ?hy⟩) (by assumption) ?_
              case hy => intro w hSw; (try dsimp only at hSw); go_simp; try with_reducible rfl
              try simp only [Act.put, List.getElem_toArray, List.getElem_cons_succ, List.getElem_cons_zero, List.setIfInBounds_toArray, List.set_cons_zero, List.set_cons_succ]
              refine wpAnyH_take (i := 13) (v := ?_) rfl (by kernel_rfl) (by kernel_rfl) (by kernel_rfl) (fun _ _ _ h => h) (Or.inl ⟨by rfl, ?hy⟩) (by assumption) ?_
              case hy => intro w hSw; (try dsimp only at hSw); go_simp; try with_reducible rfl
              try simp only [Act.put, List.getElem_toArray, List.getElem_cons_succ, List.getElem_cons_zero, List.setIfInBounds_toArray, List.set_cons_zero, List.set_cons_succ]
              refine wpAnyH_take (i := 14) (v := ?_) rfl (by kernel_rfl) (by kernel_rfl) (by kernel_rfl) (fun _ _ _ h => h) (Or.inl ⟨by rfl, ?hy⟩) (by assumption) ?_
              case hy => intro w hSw; (try dsimp only at hSw); go_simp; try with_reducible rfl
              try simp only [Act.put, List.getElem_toArray, List.getElem_cons_succ, List.getElem_cons_zero, List.setIfInBounds_toArray, List.set_cons_zero, List.set_cons_succ]
              refine wpAnyH_ready (rs := [15]) (by kernel_rfl) (by simp) (AllReadyH.cons rfl (fun K hK => ?_) AllReadyH.nil)
              go_simp
              go_at_call 13; refine (HH.out wz.drew HBZ0.out).mono ?_; rintro e w7 ⟨rfl, hb7⟩; have HB7 := Lib.hid (HBZ0.out.trans (hb7.mono HBZ0.out.size)); clear hb7
              try (go_wp2_with fail)
              refine hK.out _ _ ?_ (fun hHeld => ?_)
              · exact HSZ.out _ HB7.out
              clear hK K
              try simp only [Act.put, List.getElem_toArray, List.getElem_cons_succ, List.getElem_cons_zero, List.setIfInBounds_toArray, List.set_cons_zero, List.set_cons_succ]
              refine wpAnyH_take (i := 16) (v := ?_) rfl (by kernel_rfl) (by kernel_rfl) (by kernel_rfl) (fun _ _ _ h => h) (Or.inl ⟨by rfl, ?hy⟩) (by assumption) ?_
              case hy => intro w hSw; (try dsimp only at hSw); go_simp; try with_reducible rfl
              try simp only [Act.put, List.getElem_toArray, List.getElem_cons_succ, List.getElem_cons_zero, List.setIfInBounds_toArray, List.set_cons_zero, List.set_cons_succ]
              refine wpAnyH_take (i := 17) (v := ?_) rfl (by kernel_rfl) (by kernel_rfl) (by kernel_rfl) (fun _ _ _ h => h) (Or.inl ⟨by rfl, ?hy⟩) (by assumption) ?_
              case hy => intro w hSw; (try dsimp only at hSw); go_simp; try with_reducible rfl
              try simp only [Act.put, List.getElem_toArray, List.getElem_cons_succ, List.getElem_cons_zero, List.setIfInBounds_toArray, List.set_cons_zero, List.set_cons_succ]
              refine wpAnyH_take (i := 18) (v := ?_) rfl (by kernel_rfl) (by kernel_rfl) (by kernel_rfl) (fun _ _ _ h => h) (Or.inl ⟨by rfl, ?hy⟩) (by assumption) ?_
              case hy => intro w hSw; (try dsimp only at hSw); go_simp; try with_reducible rfl
              try simp only [Act.put, List.getElem_toArray, List.getElem_cons_succ, List.getElem_cons_zero, List.setIfInBounds_toArray, List.set_cons_zero, List.set_cons_succ]
              refine wpAnyH_take (i := 19) (v := ?_) rfl (by kernel_rfl) (by kernel_rfl) (by kernel_rfl) (fun _ _ _ h => h) (Or.inl ⟨by rfl, ?hy⟩) (by assumption) ?_
              case hy => intro w hSw; (try dsimp only at hSw); go_simp; try with_reducible rfl
              try simp only [Act.put, List.getElem_toArray, List.getElem_cons_succ, List.getElem_cons_zero, List.setIfInBounds_toArray, List.set_cons_zero, List.set_cons_succ]
              refine wpAnyH_take (i := 20) (v := ?_) rfl (by kernel_rfl) (by kernel_rfl) (by kernel_rfl) (fun _ _ _ h => h) (Or.inl ⟨by rfl, ?hy⟩) (by assumption) ?_
              case hy => intro w hSw; (try dsimp only at hSw); go_simp; try with_reducible rfl
              try simp only [Act.put, List.getElem_toArray, List.getElem_cons_succ, List.getElem_cons_zero, List.setIfInBounds_toArray, List.set_cons_zero, List.set_cons_succ]
              refine wpAnyH_take (i := 21) (v := ?_) rfl (by kernel_rfl) (by kernel_rfl) (by kernel_rfl) (fun _ _ _ h => h) (Or.inl ⟨by rfl, ?hy⟩) (by assumption) ?_
              case hy => intro w hSw; (try dsimp only at hSw); go_simp; try with_reducible rfl
              try simp only [Act.put, List.getElem_toArray, List.getElem_cons_succ, List.getElem_cons_zero, List.setIfInBounds_toArray, List.set_cons_zero, List.set_cons_succ]
              refine wpAnyH_take (i := 22) (v := ?_) rfl (by kernel_rfl) (by kernel_rfl) (by kernel_rfl) (fun _ _ _ h => h) (Or.inl ⟨by rfl, ?hy⟩) (by assumption) ?_
              case hy => intro w hSw; (try dsimp only at hSw); go_simp; try with_reducible rfl
              try simp only [Act.put, List.getElem_toArray, List.getElem_cons_succ, List.getElem_cons_zero, List.setIfInBounds_toArray, List.set_cons_zero, List.set_cons_succ]
              refine wpAnyH_take (i := 23) (v := ?_) rfl (by kernel_rfl) (by kernel_rfl) (by kernel_rfl) (fun _ _ _ h => h) (Or.inl ⟨by rfl, ?hy⟩) (by assumption) ?_
              case hy => intro w hSw; (try dsimp only at hSw); go_simp; try with_reducible rfl
              try simp only [Act.put, List.getElem_toArray, List.getElem_cons_succ, List.getElem_cons_zero, List.setIfInBounds_toArray, List.set_cons_zero, List.set_cons_succ]
              refine wpAnyH_ready (rs := [24]) (by kernel_rfl) (by simp) (AllReadyH.cons rfl (fun K hK => ?_) AllReadyH.nil)
              go_simp
              go_at_call 14; refine (HND.out w7 HB7.out).mono ?_; rintro e w8 ⟨⟨NQ, rfl⟩, hb8⟩; have HB8 := Lib.hid (HB7.out.trans (hb8.mono HB7.out.size)); clear hb8
              try (go_wp2_with fail)
              refine hK.out _ _ ?_ (fun hHeld => ?_)
              · exact HSZ.out _ HB8.out
              clear hK K
              try simp only [Act.put, List.getElem_toArray, List.getElem_cons_succ, List.getElem_cons_zero, List.setIfInBounds_toArray, List.set_cons_zero, List.set_cons_succ]
              refine wpAnyH_take (i := 25) (v := ?_) rfl (by kernel_rfl) (by kernel_rfl) (by kernel_rfl) (fun _ _ _ h => h) (Or.inl ⟨by rfl, ?hy⟩) (by assumption) ?_
              case hy => intro w hSw; (try dsimp only at hSw); go_simp; try with_reducible rfl
              try simp only [Act.put, List.getElem_toArray, List.getElem_cons_succ, List.getElem_cons_zero, List.setIfInBounds_toArray, List.set_cons_zero, List.set_cons_succ]
              refine wpAnyH_take (i := 26) (v := ?_) rfl (by kernel_rfl) (by kernel_rfl) (by kernel_rfl) (fun _ _ _ h => h) (Or.inl ⟨by rfl, ?hy⟩) (by assumption) ?_
              case hy => intro w hSw; (try dsimp only at hSw); go_simp; try with_reducible rfl
              try simp only [Act.put, List.getElem_toArray, List.getElem_cons_succ, List.getElem_cons_zero, List.setIfInBounds_toArray, List.set_cons_zero, List.set_cons_succ]
              refine wpAnyH_done (by kernel_rfl) ?_ _
              refine NoPanic.normal ?_
              clear hs0
              go_wp2_with (fail)
              refine ⟨⟨k + 1, by omega, by go_num, Lib.hid (HBZ.out.trans (HB8.out.mono HBZ.out.size))⟩, by first | (simp [intOf]; done) | (simp [intOf]; omega)⟩
            · have k1 : ¬ (k : Int) < nP := by omega
              have HT6 := Lib.hid (HT5.out.below HBZ.out)
              go_wp2_with (fail)
              refine ⟨⟨j + 1, t3, by omega, by go_num, ht3, Lib.hid (by rw [HRN.out]; exact HT6.out)⟩, by first | (simp [intOf]; done) | (simp [intOf]; omega)⟩
    · have j1 : ¬ (j : Int) < n := by omega
      have HFIN := Lib.hid (HB0.out.trans (HT.out.bel.mono HB0.out.size))
      go_wp2_with (fail)
      go_ret
      exact ⟨rfl, HFIN.out⟩
theorem trgrows_law {w : World} (r : DeedsL) (h : DeedsAt w r) :
    Calls Try.prog 5 #[r.v] w fun e w' => e = .returned (.bool true) ∧ Below w.heap.size w w' := trgrows_walk h.l (by have := h.b; omega) h.row h.z
end Go.Proofs.Ytpbbidijnmooaaa
