import Derived.Deep.RegionHeld3
import Derived.Test.YtemlafbkkaloiaaGreatGS0
import Derived.Test.YtemlafbkkaloiaaGreatGGGWinF
import Derived.Test.YtemlafbkkaloiaaGreatGGGLay2
import Derived.Test.YtemlafbkkaloiaaGreatGGGRuListH
import Derived.Test.YtemlafbkkaloiaaGreatGGGLruV
import Derived.Test.YtemlafbkkaloiaaGreatGGGRsA
set_option linter.unusedVariables false
set_option linter.unusedSimpArgs false
namespace Go.Proofs.YtemlafbkkaloiaaGreat
open Go.RowKit
theorem ctm_clone {w : World} {m : Nat} {f : Int → Option CntS} (h : CtmAt w m f) : Calls Tryz.prog 64 #[.map (some m)] w fun e w' => e = .returned (.map (some w.heap.size)) ∧ CtmAt w' w.heap.size f ∧ Below w.heap.size w w' := by
  obtain ⟨hf, F, n, ⟨D, h1, h2, h3⟩, h4⟩ := h
  have hc : Calls Tryz.prog 64 #[.map (some m)] w _ := AnyW.maps_Clone_owns Tryz.lcloneM 3 selfR m n D w h1
  refine hc.mono ?_
  rintro e w' ⟨rfl, h5, _, h6⟩
  exact ⟨rfl, ⟨hf, F, n, ⟨D, h5, h2, h3⟩, h4⟩, h6⟩
set_option maxHeartbeats 3200000 in
set_option maxRecDepth 100000 in
theorem wfork_any {w : World} {p m : Nat} {W B last : Int} {notes : List NoteW} (h : WinN w p m W B last notes) :
    Calls Tryz.prog 30 #[.pointer (some ⟨p, 0, none⟩)] w fun e w' => e = .returned (.pointer (some ⟨w.heap.size, 0, none⟩)) ∧ WinN w' w.heap.size (w.heap.size + 1) W B last notes ∧ Below w.heap.size w w' := by
  obtain ⟨f, hw, hi⟩ := h.ex
  obtain ⟨c0, c1, c2, c3⟩ := hw.cells
  have hal : Below w.heap.size w (w.alloc (.cells #[.int .i64 W, .int .i64 B, .int .i64 last, .map (some m)] 144)) := (Below.refl _ _).alloc (Nat.le_refl _) _
  have hnb := new_blockS w (.cells #[.int .i64 W, .int .i64 B, .int .i64 last, .map (some m)] 144)
  have hzb : (w.alloc (.cells #[.int .i64 W, .int .i64 B, .int .i64 last, .map (some m)] 144)).heap.size = w.heap.size + 1 := by simp
  have HCL := ctm_clone (hw.map.kept (hal.block m hw.lt.2))
  rw [hzb] at HCL
  have HCL := Lib.hid HCL
  have a3 : (w.alloc (.cells #[.int .i64 W, .int .i64 B, .int .i64 last, .map (some m)] 144)).cell? ⟨p, 3, none⟩ = some (.map (some m)) := (World.cell?_alloc_lt w _ _ hw.lt.1).trans c3
  have HW := Lib.hid hw
  have HI := Lib.hid hi
  have HAL := Lib.hid (And.intro hal (And.intro hnb hzb))
  clear h hw hi hal hnb hzb
  go_enter Tryz.func30, Tryz.ntmps30
  go_wp2_with (fail)
  refine HCL.out.mono ?_
  rintro e w2 ⟨rfl, hm2, hb2⟩
  obtain ⟨hal, hnb, hzb⟩ := HAL.out
  have hn2 := (hb2.block w.heap.size (by omega)).trans hnb
  have c3 : w2.cell? ⟨w.heap.size, 3, none⟩ = some (.map (some m)) := by simp only [World.cell?, hn2]; rfl
  have f3 : w2.frozen? ⟨w.heap.size, 3, none⟩ = false := by simp only [World.frozen?, hn2]; simp
  have hz2 := hb2.size
  have HR := Lib.hid (show WinN (w2.setCell ⟨w.heap.size, 3, none⟩ (.map (some (w.heap.size + 1)))) w.heap.size (w.heap.size + 1) W B last notes from
    ⟨f, ⟨heap_setCell_same _ _ 3 _ _ _ hn2, hm2.kept (Below.heap_setCell _ _ _ _ (by show w.heap.size + 1 ≠ w.heap.size; omega)), by omega, HW.out.shape, HW.out.l0, HW.out.l1⟩, HI.out⟩)
  have HB := Lib.hid ((hal.trans (hb2.mono (by omega))).setCell (p := ⟨w.heap.size, 3, none⟩) (Nat.le_refl _) (.map (some (w.heap.size + 1))))
  clear hal hnb hzb hn2 hz2 hm2 hb2 HCL c0 c1 c2 a3
  go_wp2_with (fail)
  go_ret
  exact ⟨rfl, HR.out, HB.out⟩
end Go.Proofs.YtemlafbkkaloiaaGreat
namespace Go.Proofs.YtemlafbkkaloiaaGreat
open Go.RowKit
structure ForkHot (w : World) (c : HotC) (s : HotV) (w' : World) (c2 : HotC) (s2 : HotV) : Prop where
  hot : HotAt w' c2 s2
  own : ∀ i, HOwn c2 s2 i → w.heap.size ≤ i
  bel : Below w.heap.size w w'
  R : c2.R = c.R
  N : c2.N = c.N
  seed : c2.seed = c.seed
  rows : pr s2.L = pr s.L
  vals : ∀ k, s2.V k = s.V k
  last : s2.last = s.last
  ls : s2.ls = s.ls
  sn : s2.sn = s.sn
theorem keyOf_strInv {key : Value} {kl : Lit} (h : keyOf Tryz.prog 9 key = some kl) : ∃ s : ByteArray, key = .string s ∧ s.size ≤ maxLen := by
  rw [keyOf_string under_str] at h
  cases key <;> simp [mapKey, under_str] at h
  exact ⟨_, rfl, h.1⟩
theorem grown_drewQ {w w' : World} {row : Option Nat} (h : w.grownBy w' row) : w.grownBy w'.drew row := by
  have hb := (Below.refl w'.heap.size w').drew
  exact ⟨hb.os.trans h.os, hb.tape.trans h.tape, hb.output.trans h.output, Nat.le_trans h.size hb.size, fun i hi hn => (hb.block i (Nat.lt_of_lt_of_le hi h.size)).trans (h.block i hi hn)⟩
theorem grown_reflQ (w : World) : w.grownBy w none := ⟨rfl, rfl, rfl, Nat.le_refl _, fun _ _ _ => rfl⟩
structure Copied (B0 : Nat) (wr : World) (W : Int) (WS : List HW) (todo : Value → Bool) (WS2 : List HW) : Prop where
  wins : ∀ y, y ∈ WS2 → WinN wr y.p y.m W 10 y.last y.notes
  from_ : ∀ y, y ∈ WS2 → ∃ x, x ∈ WS ∧ x.key = y.key ∧ x.last = y.last ∧ x.notes = y.notes
  keys : (WS2.map (·.key)).Nodup
  ps : (WS2.map (·.p)).Nodup
  at_ : ∀ y, y ∈ WS2 → B0 ≤ y.p ∧ B0 ≤ y.m
  col : ∃ f : Nat → Nat, ∀ y, y ∈ WS2 → f y.p = y.p ∧ f y.m = y.p
  todo1 : ∀ x, x ∈ WS → x.key.size ≤ maxLen → x.key ∈ WS2.map (·.key) ∨ todo (.string x.key) = true
  todo2 : ∀ y, y ∈ WS2 → todo (.string y.key) = false
theorem Copied.few {B0 : Nat} {wr : World} {W : Int} {WS : List HW} {todo : Value → Bool} {WS2 : List HW} (h : Copied B0 wr W WS todo WS2) : WS2.length ≤ WS.length := by
  have := nodup_le (WS2.map (·.key)) (WS.map (·.key)) h.keys (fun k hk => by
    obtain ⟨y, hy, rfl⟩ := List.mem_map.1 hk
    obtain ⟨x, hx, e, _⟩ := h.from_ y hy
    exact List.mem_map.2 ⟨x, hx, e⟩)
  simpa using this
theorem Copied.kept {B0 : Nat} {wr wn : World} {W : Int} {WS : List HW} {todo : Value → Bool} {WS2 : List HW} (h : Copied B0 wr W WS todo WS2) (hk : ∀ i, B0 ≤ i → i < wr.heap.size → wn.heap[i]? = wr.heap[i]?) : Copied B0 wn W WS todo WS2 :=
  ⟨fun y hy => (h.wins y hy).kept (hk _ (h.at_ y hy).1 (h.wins y hy).lt.1) (hk _ (h.at_ y hy).2 (h.wins y hy).lt.2), h.from_, h.keys, h.ps, h.at_, h.col, h.todo1, h.todo2⟩
theorem Copied.step {B0 : Nat} {wn wd : World} {W : Int} {WS : List HW} {todo : Value → Bool} {WS2 : List HW} (h : Copied B0 wn W WS todo WS2) (hb0 : B0 ≤ wn.heap.size) (hk : ∀ i, B0 ≤ i → i < wn.heap.size → wd.heap[i]? = wn.heap[i]?)
    {x : HW} (hx : x ∈ WS) (htd : todo (.string x.key) = true) (hw : WinN wd wn.heap.size (wn.heap.size + 1) W 10 x.last x.notes) :
    Copied B0 wd W WS (strikeV todo (.string x.key)) (WS2 ++ [⟨x.key, wn.heap.size, wn.heap.size + 1, x.last, x.notes⟩]) := by
  have h2 := h.kept hk
  have hnk : x.key ∉ WS2.map (·.key) := fun hm => by
    obtain ⟨y, hy, e⟩ := List.mem_map.1 hm
    have := h.todo2 y hy
    rw [e, htd] at this
    cases this
  refine ⟨fun y hy => ?_, fun y hy => ?_, ?_, ?_, fun y hy => ?_, ?_, fun z hz hs => ?_, fun y hy => ?_⟩
  · rcases List.mem_append.1 hy with hy | hy
    · exact h2.wins y hy
    · obtain rfl := List.mem_singleton.1 hy; exact hw
  · rcases List.mem_append.1 hy with hy | hy
    · exact h.from_ y hy
    · obtain rfl := List.mem_singleton.1 hy; exact ⟨x, hx, rfl, rfl, rfl⟩
  · rw [List.map_append, List.nodup_append]
    refine ⟨h.keys, by simp, fun a ha b hb e => ?_⟩
    simp at hb; subst hb; subst e; exact hnk ha
  · rw [List.map_append, List.nodup_append]
    refine ⟨h.ps, by simp, fun a ha b hb e => ?_⟩
    simp at hb; subst hb; subst e
    obtain ⟨y, hy, e⟩ := List.mem_map.1 ha
    have := (h.wins y hy).lt.1
    omega
  · rcases List.mem_append.1 hy with hy | hy
    · exact h.at_ y hy
    · obtain rfl := List.mem_singleton.1 hy; exact ⟨hb0, by show B0 ≤ wn.heap.size + 1; omega⟩
  · obtain ⟨f, hf⟩ := h.col
    refine ⟨fun i => if wn.heap.size ≤ i then wn.heap.size else f i, fun y hy => ?_⟩
    rcases List.mem_append.1 hy with hy | hy
    · obtain ⟨l1, l2⟩ := (h.wins y hy).lt
      simp only [if_neg (Nat.not_le.2 l1), if_neg (Nat.not_le.2 l2)]
      exact hf y hy
    · obtain rfl := List.mem_singleton.1 hy
      constructor
      · simp
      · simp
  · by_cases e : z.key = x.key
    · left; rw [e]; simp
    · rcases h.todo1 z hz hs with h1 | h1
      · left; simp only [List.map_append, List.mem_append]; exact Or.inl h1
      · right; rw [strikeV_other _ (fun he => e (by injection he))]; exact h1
  · rcases List.mem_append.1 hy with hy | hy
    · by_cases e : y.key = x.key
      · rw [e]; exact strikeV_same _ _
      · rw [strikeV_other _ (fun he => e (by injection he))]; exact h.todo2 y hy
    · obtain rfl := List.mem_singleton.1 hy; exact strikeV_same _ _
structure FkHot (w0 wr : World) (c : HotC) (WS : List HW) (r m2 : Nat) (cnt : Nat) : Prop where
  src : ∃ F n todo, RangeV wr 9 c.mw r F n todo cnt ∧ (∀ k : ByteArray, k.size ≤ maxLen → F (.string k) = (findW WS k).map (fun x => .pointer (some ⟨x.p, 0, none⟩))) ∧
    ∃ WS2 G n2, MapV wr 9 m2 G n2 ∧ n2 ≤ WS2.length ∧ (∀ k : ByteArray, k.size ≤ maxLen → G (.string k) = (findW WS2 k).map (fun x => .pointer (some ⟨x.p, 0, none⟩))) ∧ Copied w0.heap.size wr c.W WS todo WS2
  off : Off (fun i => i = r ∨ i = m2) w0 wr
theorem FkHot.step {w0 wr wn wf wd : World} {c : HotC} {WS : List HW} {r m2 cnt' n2' : Nat} {F : Value → Option Value} {n : Nat} {todo : Value → Bool} {WS2 : List HW} {G : Value → Option Value} {x : HW}
    (hr : RangeV wn 9 c.mw r F n (strikeV todo (.string x.key)) cnt') (hF : ∀ k : ByteArray, k.size ≤ maxLen → F (.string k) = (findW WS k).map (fun x => .pointer (some ⟨x.p, 0, none⟩)))
    (hm : MapV wd 9 m2 (updV G (.string x.key) (some (.pointer (some ⟨wn.heap.size, 0, none⟩)))) n2') (hn : n2' ≤ WS2.length + 1)
    (hG : ∀ k : ByteArray, k.size ≤ maxLen → G (.string k) = (findW WS2 k).map (fun x => .pointer (some ⟨x.p, 0, none⟩))) (hc : Copied w0.heap.size wr c.W WS todo WS2)
    (hx : x ∈ WS) (htd : todo (.string x.key) = true) (ho : Off (fun i => i = r ∨ i = m2) w0 wr) (hg1 : wr.grownBy wn (some r)) (hbf : Below wn.heap.size wn wf) (hw : WinN wf wn.heap.size (wn.heap.size + 1) c.W 10 x.last x.notes) (hg2 : wf.grownBy wd (some m2))
    (hne : m2 ≠ c.mw) (hmr : m2 ≠ r) (hm0 : m2 < w0.heap.size) (hr0 : r < w0.heap.size) : FkHot w0 wd c WS r m2 cnt' := by
  have hz1 := hg1.size
  have hz0 := ho.size
  have hkn : ∀ i, w0.heap.size ≤ i → i < wr.heap.size → wn.heap[i]? = wr.heap[i]? := fun i h1 h2 => hg1.block i h2 (fun e => by injection e with e; omega)
  have hkd : ∀ i, w0.heap.size ≤ i → i < wn.heap.size → wd.heap[i]? = wn.heap[i]? := fun i h1 h2 => (hg2.block i (Nat.lt_of_lt_of_le h2 hbf.size) (fun e => by injection e with e; omega)).trans (hbf.block i h2)
  have hlt := hw.lt
  have hwd : WinN wd wn.heap.size (wn.heap.size + 1) c.W 10 x.last x.notes := hw.kept (hg2.block _ hlt.1 (fun e => by injection e with e; omega)) (hg2.block _ hlt.2 (fun e => by injection e with e; omega))
  have hcs := (hc.kept hkn).step (Nat.le_trans hz0 hz1) hkd hx htd hwd
  have hnf : findW WS2 x.key = none := findW_none.2 (fun hm => by
    obtain ⟨y, hy, e⟩ := List.mem_map.1 hm
    have := hc.todo2 y hy
    rw [e, htd] at this
    cases this)
  have hgf : wn.grownBy wf none := ⟨hbf.os, hbf.tape, hbf.output, hbf.size, fun i hi _ => hbf.block i hi⟩
  refine ⟨⟨F, n, _, (hr.kept hgf (by simp) (by simp)).kept hg2 (fun e => by injection e with e; omega) (fun e => by injection e with e; omega), hF, _, _, _, hm, by simpa using hn, fun k hk => ?_, hcs⟩, ?_⟩
  · rw [findW_snoc]
    by_cases e : x.key = k
    · subst e
      rw [updV_same, hnf]; simp
    · rw [updV_other _ _ (fun he => e (by injection he with he; exact he.symm)), hG k hk, if_neg e]; simp
  · have h1 := ho.grown hg1 (fun _ => Or.inl rfl)
    have h2 : Off (fun i => i = r ∨ i = m2) w0 wf := ⟨hbf.os.trans h1.os, hbf.tape.trans h1.tape, hbf.output.trans h1.output, Nat.le_trans h1.size hbf.size, fun i hi hn => (hbf.block i (Nat.lt_of_lt_of_le hi h1.size)).trans (h1.block i hi hn)⟩
    exact h2.grown hg2 (fun _ => Or.inr rfl)
theorem HotAt.small {w : World} {c : HotC} {s : HotV} (k : HotAt w c s) {x : HW} (hx : x ∈ s.WS) : x.key.size ≤ maxLen := by
  have h1 := k.same x.key
  rw [findW_some k.keys hx] at h1
  simp only [Option.isSome_some, hasA, List.any_eq_true, decide_eq_true_eq] at h1
  obtain ⟨p, hp, e⟩ := h1
  obtain ⟨y, hy, rfl⟩ := List.mem_map.1 hp
  rw [← e]
  exact k.lru.body.small y hy
theorem copied_find {B0 : Nat} {wr : World} {W : Int} {WS WS2 : List HW} {todo : Value → Bool} (h : Copied B0 wr W WS todo WS2) (hk : (WS.map (·.key)).Nodup) (hs : ∀ x, x ∈ WS → x.key.size ≤ maxLen) (ht : ∀ key kl, keyOf Tryz.prog 9 key = some kl → todo key = false) (k : ByteArray) :
    (findW WS2 k).map (·.notes) = (findW WS k).map (·.notes) := by
  cases hf : findW WS k with
  | none =>
    have : findW WS2 k = none := findW_none.2 (fun hm => by
      obtain ⟨y, hy, e⟩ := List.mem_map.1 hm
      obtain ⟨x, hx, e2, _⟩ := h.from_ y hy
      exact findW_none.1 hf (List.mem_map.2 ⟨x, hx, e2.trans e⟩))
    rw [this]
  | some x =>
    obtain ⟨hx, rfl⟩ := findW_mem hf
    have hin : x.key ∈ WS2.map (·.key) := by
      rcases h.todo1 x hx (hs x hx) with h1 | h1
      · exact h1
      · rw [ht _ _ (skeyOf (hs x hx))] at h1; cases h1
    obtain ⟨y, hy, e⟩ := List.mem_map.1 hin
    obtain ⟨x2, hx2, e2, _, e4⟩ := h.from_ y hy
    have h5 := findW_some hk hx2
    rw [e2.trans e] at h5
    rw [hf] at h5
    obtain rfl : x = x2 := by injection h5
    have h6 := findW_some h.keys hy
    rw [show y.key = x.key from e] at h6
    rw [h6]
    simp [e4]
set_option maxHeartbeats 1600000 in
theorem hot_forked {w wr : World} {c : HotC} {s : HotV} (k : HotAt w c s) {sb2 m2 z2 z3 B0 n : Nat} {L2 : List LNode} {v3 : Value} {bs3 : List BkS} {WS2 : List HW} {todo : Value → Bool} {G : Value → Option Value} (hB : Below w.heap.size w wr)
    (hd : wr.heap[w.heap.size]? = some (.cells #[.string c.R.res, .int .i64 c.R.idx, .int .i64 c.R.cnt, .int .i64 c.R.secs, .slice c.R.ia c.R.il c.R.ic, .pointer (some ⟨w.heap.size + 1 + 1, 0, none⟩), .map (some m2), .pointer (some ⟨sb2, 0, none⟩), .int .i64 s.last] 64))
    (hl : Lru wr (w.heap.size + 1 + 1) (w.heap.size + 1) c.N L2) (hpr : pr L2 = pr s.L) (ho : ∀ b, Lown (w.heap.size + 1 + 1) (w.heap.size + 1) L2 b → w.heap.size + 1 ≤ b ∧ b < z2)
    (hk : SkAt wr sb2 c.sh s.ls v3 bs3) (ha : bs3.map BkS.a = s.bs.map BkS.a) (hso : ∀ b, SkOwn sb2 v3 bs3 b → z2 ≤ b ∧ b < z3) (hz : w.heap.size + 1 ≤ z2) (hz2 : z2 ≤ z3) (hm2 : m2 = z3) (hb0 : z3 < B0)
    (hm : MapV wr 9 m2 G n) (hn : n ≤ WS2.length) (hG : ∀ k : ByteArray, k.size ≤ maxLen → G (.string k) = (findW WS2 k).map (fun x => .pointer (some ⟨x.p, 0, none⟩))) (hc : Copied B0 wr c.W s.WS todo WS2) (ht : ∀ key kl, keyOf Tryz.prog 9 key = some kl → todo key = false) :
    ForkHot w c s wr ⟨c.R, c.seed, w.heap.size, w.heap.size + 1 + 1, w.heap.size + 1, c.N, m2, sb2⟩ ⟨L2, WS2, s.last, s.ls, s.sn, v3, bs3⟩ := by
  have kb := k.below hB
  have hfd := copied_find hc k.keys (fun x hx => k.small hx) ht
  refine ⟨⟨⟨hd, kb.ok, k.fine, kb.ilt, hl, ⟨G, n, hm, hn, hG⟩, fun x hx => ⟨hc.wins x hx, ?_⟩, ⟨hk, by rw [ha]; exact k.sk.inv⟩, k.lsl, ?_, k.l0, k.l1, hc.keys, hc.ps, k.s0, k.s1, ?_⟩, fun q => ?_, Nat.le_trans hc.few k.few⟩, fun i hi => ?_, hB, rfl, rfl, rfl, hpr, hfd, rfl, rfl, rfl⟩
  · obtain ⟨y, hy, _, e, _⟩ := hc.from_ x hx
    rw [← e]
    exact (k.wins y hy).2
  · have := congrArg List.length ha
    simp only [List.length_map] at this
    rw [this]
    exact k.skf
  · obtain ⟨f, hf⟩ := hc.col
    refine ⟨fun i => if i < w.heap.size then 5 else if i = w.heap.size then 4 else if i < z2 then 1 else if i < z3 then 2 else if i = z3 then 3 else 6 + f i, ⟨fun i hi => ?_, fun i hi => ?_, ?_, ?_, fun g off e => ?_, fun x hx => ?_⟩⟩
    · have := ho i hi
      try simp only
      rw [if_neg (by omega), if_neg (by omega), if_pos this.2]
    · have := hso i hi
      try simp only
      rw [if_neg (by omega), if_neg (by omega), if_neg (by omega), if_pos this.2]
    · show (if m2 < w.heap.size then 5 else if m2 = w.heap.size then 4 else if m2 < z2 then 1 else if m2 < z3 then 2 else if m2 = z3 then 3 else 6 + f m2) = 3
      rw [if_neg (by omega), if_neg (by omega), if_neg (by omega), if_neg (by omega), if_pos hm2]
    · simp
    · have := k.ilt g off e
      try simp only
      rw [if_pos this]
    · have h1 := hc.at_ x hx
      have h2 := hf x hx
      try simp only
      constructor
      · rw [if_neg (by omega), if_neg (by omega), if_neg (by omega), if_neg (by omega), if_neg (by omega), h2.1]
      · rw [if_neg (by omega), if_neg (by omega), if_neg (by omega), if_neg (by omega), if_neg (by omega), h2.2]
  · have h1 := congrArg Option.isSome (hfd q)
    simp only [Option.isSome_map] at h1
    show hasA (pr L2) q = (findW WS2 q).isSome
    rw [hpr, h1]
    exact k.same q
  · rcases hi with h | h | h | h | ⟨x, hx, h⟩
    · have := ho i h; omega
    · have := hso i h; omega
    · have : i = m2 := h
      omega
    · have : i = w.heap.size := h
      omega
    · have := hc.at_ x hx
      rcases h with h | h <;> omega
end Go.Proofs.YtemlafbkkaloiaaGreat
namespace Go.Proofs.YtemlafbkkaloiaaGreat
open Go.RowKit
set_option maxHeartbeats 12800000 in
set_option maxRecDepth 100000 in
theorem hfork_any {w : World} {c : HotC} {s : HotV} (k : HotAt w c s) :
    Calls Tryz.prog 8 #[.pointer (some ⟨c.hb, 0, none⟩)] w fun e w' => ∃ c2 s2, e = .returned (.pointer (some ⟨c2.hb, 0, none⟩)) ∧ ForkHot w c s w' c2 s2 := by
  obtain ⟨c0, c1, c2, c3, c4, c5, c6, c7, c8⟩ := k.cells
  have K := Lib.hid k
  have hbl := k.hbLt
  have halw : Below w.heap.size w (w.alloc (.cells (hotCells c s.last) 64)) := (Below.refl _ _).alloc (Nat.le_refl _) _
  have hzw : (w.alloc (.cells (hotCells c s.last) 64)).heap.size = w.heap.size + 1 := by simp
  have hnw := new_blockS w (.cells (hotCells c s.last) 64)
  have HLF := lfork_any ((k.below halw).below ((Below.refl _ _).drew)).lru
  rw [show (w.alloc (.cells (hotCells c s.last) 64)).drew.heap.size = w.heap.size + 1 from hzw] at HLF
  have HLF := Lib.hid HLF
  have HSF := Lib.hid (show ∀ w2, Below (w.heap.size + 1) (w.alloc (.cells (hotCells c s.last) 64)).drew w2 → Calls Tryz.prog 29 #[.pointer (some ⟨c.sb, 0, none⟩)] w2 _ from fun w2 h2 => skfork_any ((k.below halw).below ((Below.refl _ _).drew.trans (h2.mono (by rw [hzw]; exact Nat.le_refl _)))).sk.at_ k.skf)
  have HS2 := Lib.hid (show ∀ w2, Below (w.heap.size + 1) (w.alloc (.cells (hotCells c s.last) 64)).drew w2 → (fun wx => wx.cell? ⟨c.hb, 5, none⟩ = some (.pointer (some ⟨c.B, 0, none⟩)) ∧ wx.cell? ⟨c.hb, 7, none⟩ = some (.pointer (some ⟨c.sb, 0, none⟩))) w2 from fun w2 h2 => by
    obtain ⟨_, _, _, _, _, q5, _, q7, _⟩ := ((k.below halw).below ((Below.refl _ _).drew.trans (h2.mono (by rw [hzw]; exact Nat.le_refl _)))).cells
    exact ⟨q5, q7⟩)
  have HS0 := Lib.hid (HS2.out _ (Below.refl _ _))
  have HS3 := Lib.hid (show ∀ w2 w3, Below (w.heap.size + 1) (w.alloc (.cells (hotCells c s.last) 64)).drew w2 → Below w2.heap.size w2 w3 → (fun wx => wx.cell? ⟨c.hb, 5, none⟩ = some (.pointer (some ⟨c.B, 0, none⟩)) ∧ wx.cell? ⟨c.hb, 7, none⟩ = some (.pointer (some ⟨c.sb, 0, none⟩))) w3 from fun w2 w3 h2 h3 => HS2.out w3 (h2.trans (h3.mono (by have := h2.size; rw [show (w.alloc (.cells (hotCells c s.last) 64)).drew.heap.size = w.heap.size + 1 from hzw] at this; exact this))))
  have HNE := Lib.hid (show (⟨w.heap.size, 5, none⟩ : Addr) ≠ ⟨c.hb, 5, none⟩ from fun e => by injection e with e; omega)
  have HNE7 := Lib.hid (show (⟨w.heap.size, 5, none⟩ : Addr) ≠ ⟨c.hb, 7, none⟩ from fun e => by injection e with e; omega)
  have HNE5 := Lib.hid (show (⟨w.heap.size, 7, none⟩ : Addr) ≠ ⟨c.hb, 5, none⟩ from fun e => by injection e with e; omega)
  have HNE77 := Lib.hid (show (⟨w.heap.size, 7, none⟩ : Addr) ≠ ⟨c.hb, 7, none⟩ from fun e => by injection e with e; omega)
  have HZW := Lib.hid (And.intro halw (And.intro hzw hnw))
  have HBL := Lib.hid hbl
  unfold hotCells at HLF HSF HS2 HS0 HS3 HZW
  clear k halw hzw hnw hbl
  go_enter Tryz.func8, Tryz.ntmps8
  go_wp2_with (fail)
  refine wp_region_noPanic ?_
  refine wp_region_held_drew (S := (fun wx => wx.cell? ⟨c.hb, 5, none⟩ = some (.pointer (some ⟨c.B, 0, none⟩)) ∧ wx.cell? ⟨c.hb, 7, none⟩ = some (.pointer (some ⟨c.sb, 0, none⟩)))) (by kernel_rfl) ?_ (fun hHeld => ?_)
  · exact HS0.out
  refine wpAnyH_take (i := 0) (v := ?_) rfl (by kernel_rfl) (by kernel_rfl) (by kernel_rfl) (fun _ _ _ h => h) (Or.inl ⟨by rfl, ?hy⟩) (by assumption) ?_
  case hy => intro w hSw; (try dsimp only at hSw); go_simp; try with_reducible rfl
  try simp only [Act.put, szA, szB, szC, szD, szE, szF]
  refine wpAnyH_take (i := 1) (v := ?_) rfl (by kernel_rfl) (by kernel_rfl) (by kernel_rfl) (fun _ _ _ h => h) (Or.inl ⟨by rfl, ?hy⟩) (by assumption) ?_
  case hy => intro w hSw; (try dsimp only at hSw); go_simp; try with_reducible rfl
  try simp only [Act.put, szA, szB, szC, szD, szE, szF]
  refine wpAnyH_take (i := 2) (v := ?_) rfl (by kernel_rfl) (by kernel_rfl) (by kernel_rfl) (fun _ _ _ h => h) (Or.inl ⟨by rfl, ?hy⟩) (by assumption) ?_
  case hy => intro w hSw; (try dsimp only at hSw); go_simp; try with_reducible rfl
  try simp only [Act.put, szA, szB, szC, szD, szE, szF]
  refine wpAnyH_take (i := 3) (v := ?_) rfl (by kernel_rfl) (by kernel_rfl) (by kernel_rfl) (fun _ _ _ h => h) (Or.inl ⟨by rfl, ?hy⟩) (by assumption) ?_
  case hy => intro w hSw; (try dsimp only at hSw); go_simp; try with_reducible rfl
  try simp only [Act.put, szA, szB, szC, szD, szE, szF]
  refine wpAnyH_take (i := 5) (v := ?_) rfl (by kernel_rfl) (by kernel_rfl) (by kernel_rfl) (fun _ _ _ h => h) (Or.inl ⟨by rfl, ?hy⟩) (by assumption) ?_
  case hy => intro w hSw; (try dsimp only at hSw); go_simp; try with_reducible rfl
  try simp only [Act.put, szA, szB, szC, szD, szE, szF]
  refine wpAnyH_take (i := 6) (v := ?_) rfl (by kernel_rfl) (by kernel_rfl) (by kernel_rfl) (fun _ _ _ h => h) (Or.inl ⟨by rfl, ?hy⟩) (by assumption) ?_
  case hy => intro w hSw; (try dsimp only at hSw); go_simp; try with_reducible rfl
  try simp only [Act.put, szA, szB, szC, szD, szE, szF]
  refine wpAnyH_take (i := 7) (v := ?_) rfl (by kernel_rfl) (by kernel_rfl) (by kernel_rfl) (fun _ _ _ h => h) (Or.inl ⟨by rfl, ?hy⟩) (by assumption) ?_
  case hy => intro w hSw; (try dsimp only at hSw); go_simp; try with_reducible rfl
  try simp only [Act.put, szA, szB, szC, szD, szE, szF]
  refine wpAnyH_take (i := 8) (v := ?_) rfl (by kernel_rfl) (by kernel_rfl) (by kernel_rfl) (fun _ _ _ h => h) (Or.inl ⟨by rfl, ?hy⟩) (by assumption) ?_
  case hy => intro w hSw; (try dsimp only at hSw); go_simp; try with_reducible rfl
  try simp only [Act.put, szA, szB, szC, szD, szE, szF]
  refine wpAnyH_ready (rs := [4]) (by kernel_rfl) (by simp) (AllReadyH.cons rfl (fun K hK => ?_) AllReadyH.nil)
  go_simp
  go_at_call 28; refine HLF.out.mono ?_; rintro e w2 ⟨rfl, L2, hl2, p2, hb2, ow2⟩
  try (go_wp2_with fail)
  refine hK.out _ _ ?_ (fun hHeld => ?_)
  · exact HS2.out w2 hb2
  clear hK K
  try simp only [Act.put, szA, szB, szC, szD, szE, szF]
  refine wpAnyH_ready (rs := [9]) (by kernel_rfl) (by simp) (AllReadyH.cons rfl (fun K hK => ?_) AllReadyH.nil)
  go_simp
  go_at_call 29; refine (HSF.out w2 hb2).mono ?_; rintro e w3 ⟨sb2, v3, bs3, rfl, hk3, ha3, hb3, ow3⟩
  obtain ⟨halw, hzw, hnw⟩ := HZW.out
  have hlt1 : w.heap.size < w2.heap.size := by
    have h9 := hb2.size
    have h8 : w.heap.size + 1 ≤ w2.heap.size := by rw [← hzw]; exact h9
    omega
  have hn3 := (hb3.block w.heap.size hlt1).trans ((hb2.block w.heap.size (Nat.lt_succ_self _)).trans hnw)
  have c35 : w3.cell? ⟨w.heap.size, 5, none⟩ = some (.pointer (some ⟨c.B, 0, none⟩)) := by simp only [World.cell?, hn3]; rfl
  have f35 : w3.frozen? ⟨w.heap.size, 5, none⟩ = false := by simp only [World.frozen?, hn3]; simp
  have hn4 := heap_setCell_same w3 w.heap.size 5 _ _ (.pointer (some ⟨w.heap.size + 1 + 1, 0, none⟩)) hn3
  have c47 : (w3.setCell ⟨w.heap.size, 5, none⟩ (.pointer (some ⟨w.heap.size + 1 + 1, 0, none⟩))).cell? ⟨w.heap.size, 7, none⟩ = some (.pointer (some ⟨c.sb, 0, none⟩)) := by simp only [World.cell?, hn4]; rfl
  have f47 : (w3.setCell ⟨w.heap.size, 5, none⟩ (.pointer (some ⟨w.heap.size + 1 + 1, 0, none⟩))).frozen? ⟨w.heap.size, 7, none⟩ = false := by simp only [World.frozen?, hn4]; simp
  have HN3 := Lib.hid (And.intro hlt1 hn3)
  clear halw hzw hnw hn3 hn4 hlt1
  try (go_wp2_with fail)
  refine hK.out _ _ ?_ (fun hHeld => ?_)
  · exact HS3.out w2 w3 hb2 hb3
  clear hK K
  try simp only [Act.put, szA, szB, szC, szD, szE, szF]
  refine wpAnyH_take (i := 10) (v := ?_) rfl (by kernel_rfl) (by kernel_rfl) (by kernel_rfl) (fun _ _ _ h => h) (Or.inl ⟨by rfl, ?hy⟩) (by assumption) ?_
  case hy => intro w hSw; (try dsimp only at hSw); go_simp; try with_reducible rfl
  try simp only [Act.put, szA, szB, szC, szD, szE, szF]
  refine wpAnyH_ready (rs := [11]) (by kernel_rfl) (by simp) (AllReadyH.cons rfl (fun K hK => ?_) AllReadyH.nil)
  go_simp
  skip
  try (go_wp2_with fail)
  refine hK.out _ _ ?_ (fun hHeld => ?_)
  · exact ⟨cell_far hHeld.1 HNE.out, cell_far hHeld.2 HNE7.out⟩
  clear hK K
  try simp only [Act.put, szA, szB, szC, szD, szE, szF]
  refine wpAnyH_take (i := 12) (v := ?_) rfl (by kernel_rfl) (by kernel_rfl) (by kernel_rfl) (fun _ _ _ h => h) (Or.inl ⟨by rfl, ?hy⟩) (by assumption) ?_
  case hy => intro w hSw; (try dsimp only at hSw); go_simp; try with_reducible rfl
  try simp only [Act.put, szA, szB, szC, szD, szE, szF]
  refine wpAnyH_ready (rs := [13]) (by kernel_rfl) (by simp) (AllReadyH.cons rfl (fun K hK => ?_) AllReadyH.nil)
  go_simp
  skip
  try (go_wp2_with fail)
  refine hK.out _ _ ?_ (fun hHeld => ?_)
  · exact ⟨cell_far hHeld.1 HNE5.out, cell_far hHeld.2 HNE77.out⟩
  clear hK K
  try simp only [Act.put, szA, szB, szC, szD, szE, szF]
  refine wpAnyH_done (by kernel_rfl) ?_ _
  refine NoPanic.normal ?_
  obtain ⟨hlt1, hn3⟩ := HN3.out
  have hn4 := heap_setCell_same w3 w.heap.size 5 _ _ (.pointer (some ⟨w.heap.size + 1 + 1, 0, none⟩)) hn3
  have hn5 : ((w3.setCell ⟨w.heap.size, 5, none⟩ (.pointer (some ⟨w.heap.size + 1 + 1, 0, none⟩))).setCell ⟨w.heap.size, 7, none⟩ (.pointer (some ⟨sb2, 0, none⟩))).heap[w.heap.size]? = some (.cells #[.string c.R.res, .int .i64 c.R.idx, .int .i64 c.R.cnt, .int .i64 c.R.secs, .slice c.R.ia c.R.il c.R.ic, .pointer (some ⟨w.heap.size + 1 + 1, 0, none⟩), .map (some c.mw), .pointer (some ⟨sb2, 0, none⟩), .int .i64 s.last] 64) := heap_setCell_same _ w.heap.size 7 _ _ (.pointer (some ⟨sb2, 0, none⟩)) hn4
  have hl5 : Lru ((w3.setCell ⟨w.heap.size, 5, none⟩ (.pointer (some ⟨w.heap.size + 1 + 1, 0, none⟩))).setCell ⟨w.heap.size, 7, none⟩ (.pointer (some ⟨sb2, 0, none⟩))) (w.heap.size + 1 + 1) (w.heap.size + 1) c.N L2 := (hl2.below hb3).kept (fun b hb => by
    have := ow2 b hb
    rw [heap_setCell_other _ _ _ _ (show b ≠ w.heap.size by omega), heap_setCell_other _ _ _ _ (show b ≠ w.heap.size by omega)])
  have hk5 : SkAt ((w3.setCell ⟨w.heap.size, 5, none⟩ (.pointer (some ⟨w.heap.size + 1 + 1, 0, none⟩))).setCell ⟨w.heap.size, 7, none⟩ (.pointer (some ⟨sb2, 0, none⟩))) sb2 c.sh s.ls v3 bs3 := hk3.kept (fun b hb => by
    have := ow3 b hb
    rw [heap_setCell_other _ _ _ _ (show b ≠ w.heap.size by omega), heap_setCell_other _ _ _ _ (show b ≠ w.heap.size by omega)])
  have hB5 : Below w.heap.size w ((w3.setCell ⟨w.heap.size, 5, none⟩ (.pointer (some ⟨w.heap.size + 1 + 1, 0, none⟩))).setCell ⟨w.heap.size, 7, none⟩ (.pointer (some ⟨sb2, 0, none⟩))) := by
    obtain ⟨halw, hzw, hnw⟩ := HZW.out
    exact ((((halw.drew).trans (hb2.mono (by omega))).trans (hb3.mono (by omega))).setCell (Nat.le_refl _) _).setCell (Nat.le_refl _) _
  have hz5 : ((w3.setCell ⟨w.heap.size, 5, none⟩ (.pointer (some ⟨w.heap.size + 1 + 1, 0, none⟩))).setCell ⟨w.heap.size, 7, none⟩ (.pointer (some ⟨sb2, 0, none⟩))).heap.size = w3.heap.size := by simp [World.setCell]
  generalize ((w3.setCell ⟨w.heap.size, 5, none⟩ (.pointer (some ⟨w.heap.size + 1 + 1, 0, none⟩))).setCell ⟨w.heap.size, 7, none⟩ (.pointer (some ⟨sb2, 0, none⟩))) = w5 at *
  have hmk : ∀ wx : World, (Instr.makeMap 61 none).run Tryz.prog wx = .ok (.map (some wx.heap.size)) (wx.alloc (.map #[] 0)) := fun wx => run_makeMap _ wx
  have HW2 := Lib.hid (show w.heap.size + 1 + 2 ≤ w2.heap.size ∧ w2.heap.size ≤ w3.heap.size from ⟨by have := hl2.lt (Or.inl rfl); omega, hb3.size⟩)
  have HSZ := Lib.hid hz5
  have HHN := Lib.hid hn5
  have HLR := Lib.hid (show Lru w5 (w.heap.size + 1 + 1) (w.heap.size + 1) c.N L2 ∧ pr L2 = pr s.L ∧ (∀ b, Lown (w.heap.size + 1 + 1) (w.heap.size + 1) L2 b → w.heap.size + 1 ≤ b ∧ b < w2.heap.size) from ⟨hl5, p2, fun b hb => ⟨ow2 b hb, hl2.lt hb⟩⟩)
  have HSKR := Lib.hid (show SkAt w5 sb2 c.sh s.ls v3 bs3 ∧ bs3.map BkS.a = s.bs.map BkS.a ∧ (∀ b, SkOwn sb2 v3 bs3 b → w2.heap.size ≤ b ∧ b < w3.heap.size) from ⟨hk5, ha3, fun b hb => ⟨ow3 b hb, hk3.lt hb⟩⟩)
  have hw6s := (Array.getElem?_eq_some_iff.1 hn5).1
  have h56 := (Below.heap_alloc w5 (.map #[] 0) w.heap.size hw6s).trans hn5
  have hn6 : ((w5.alloc (.map #[] 0)).setCell ⟨w.heap.size, 6, none⟩ (.map (some w5.heap.size))).heap[w.heap.size]? = some (.cells #[.string c.R.res, .int .i64 c.R.idx, .int .i64 c.R.cnt, .int .i64 c.R.secs, .slice c.R.ia c.R.il c.R.ic, .pointer (some ⟨w.heap.size + 1 + 1, 0, none⟩), .map (some w5.heap.size), .pointer (some ⟨sb2, 0, none⟩), .int .i64 s.last] 64) := heap_setCell_same _ w.heap.size 6 _ _ (.map (some w5.heap.size)) h56
  have hB6 : Below w.heap.size w ((w5.alloc (.map #[] 0)).setCell ⟨w.heap.size, 6, none⟩ (.map (some w5.heap.size))) := (hB5.alloc hB5.size _).setCell (Nat.le_refl _) _
  have hz6 : ((w5.alloc (.map #[] 0)).setCell ⟨w.heap.size, 6, none⟩ (.map (some w5.heap.size))).heap.size = w5.heap.size + 1 := by simp [World.setCell]
  have hm6 : MapV ((w5.alloc (.map #[] 0)).setCell ⟨w.heap.size, 6, none⟩ (.map (some w5.heap.size))) 9 w5.heap.size (fun _ => none) 0 := (mapV_made w5 _).kept (heap_setCell_other _ _ _ _ (show w5.heap.size ≠ w.heap.size by omega))
  have hl6 : Lru ((w5.alloc (.map #[] 0)).setCell ⟨w.heap.size, 6, none⟩ (.map (some w5.heap.size))) (w.heap.size + 1 + 1) (w.heap.size + 1) c.N L2 := (hl5.below ((Below.refl _ _).alloc (Nat.le_refl _) _)).kept (fun b hb => heap_setCell_other _ _ _ _ (show b ≠ w.heap.size by have := HLR.out.2.2 b hb; omega))
  have hk6 : SkAt ((w5.alloc (.map #[] 0)).setCell ⟨w.heap.size, 6, none⟩ (.map (some w5.heap.size))) sb2 c.sh s.ls v3 bs3 := (hk5.below ((Below.refl _ _).alloc (Nat.le_refl _) _)).kept (fun b hb => heap_setCell_other _ _ _ _ (show b ≠ w.heap.size by have := HSKR.out.2.2 b hb; have := HW2.out; omega))
  have k6 := K.out.below hB6
  have c66 := k6.cells.2.2.2.2.2.2.1
  obtain ⟨F, nF, h1F, _, h3F⟩ := k6.wmap
  obtain ⟨w7, hrun, hrg, hg7, hz7⟩ := h1F.range strKeyed under_mapW
  rw [hz6] at hrun hrg hz7
  have hFK : FkHot w7 w7 c s.WS (w5.heap.size + 1) w5.heap.size nF := by
    refine ⟨⟨F, nF, _, hrg, h3F, [], _, 0, hm6.grown hg7 (by simp), Nat.zero_le _, fun _ _ => rfl, ⟨by simp, by simp, by simp, by simp, by simp, ⟨id, by simp⟩, fun x hx hs => Or.inr ?_, by simp⟩⟩, Off.refl _ _⟩
    show (F (.string x.key)).isSome = true
    rw [h3F _ hs, findW_some K.out.keys hx]; rfl
  have hb67 : Below ((w5.alloc (.map #[] 0)).setCell ⟨w.heap.size, 6, none⟩ (.map (some w5.heap.size))).heap.size ((w5.alloc (.map #[] 0)).setCell ⟨w.heap.size, 6, none⟩ (.map (some w5.heap.size))) w7 := ⟨hg7.os, hg7.tape, hg7.output, hg7.size, fun i hi => hg7.block i hi (by simp)⟩
  have HFK := Lib.hid hFK
  have HB7 := Lib.hid (hB6.trans (hb67.mono hB6.size))
  have HN7 := Lib.hid ((hb67.block w.heap.size (by rw [hz6]; omega)).trans hn6)
  have HL7 := Lib.hid (show Lru w7 (w.heap.size + 1 + 1) (w.heap.size + 1) c.N L2 ∧ SkAt w7 sb2 c.sh s.ls v3 bs3 from ⟨hl6.below hb67, hk6.below hb67⟩)
  have HZ7 := Lib.hid (show w7.heap.size = w5.heap.size + 2 from hz7)
  have c56 : (w5.alloc (.map #[] 0)).cell? ⟨w.heap.size, 6, none⟩ = some (.map (some c.mw)) := by simp only [World.cell?, h56]; rfl
  have f56 : (w5.alloc (.map #[] 0)).frozen? ⟨w.heap.size, 6, none⟩ = false := by simp only [World.frozen?, h56]; simp
  have HMW := Lib.hid (show c.mw < w.heap.size from K.out.lt (Or.inr (Or.inr (Or.inl rfl))))
  clear hw6s h56 hn6 hB6 hz6 hm6 hl6 hk6 k6 h1F h3F hrg hg7 hz7 hFK hb67
  clear c35 f35 c47 f47
  clear HSF HS2 HS0 HS3 HLF HNE HNE7 HNE5 HNE77 HZW HN3 hlt1 hn3 hn4 hn5 hl5 hk5 hB5 hz5 hHeld c0 c1 c2 c3 c4 c5 c6 c7 c8 hl2 p2 hb2 ow2 hk3 ha3 hb3 ow3
  go_wp2_with (fail)
  obtain ⟨r0, hr0⟩ : ∃ r0, w5.heap.size + 1 = r0 := ⟨_, rfl⟩
  obtain ⟨m2, hm2⟩ : ∃ m2, w5.heap.size = m2 := ⟨_, rfl⟩
  obtain ⟨hb, hhb⟩ : ∃ hb, w.heap.size = hb := ⟨_, rfl⟩
  rw [hr0] at HFK ⊢
  rw [hm2] at HFK HN7
  simp only [hm2, hhb] at HN7 ⊢
  have HRM := Lib.hid (And.intro hr0 (And.intro hm2 hhb))
  clear hrun hmk c56 f56 c66 hr0 hm2 hhb
  go_loopw [4, 5] (fun _ _ wr => ∃ n', Hid (FkHot w7 wr c s.WS r0 m2 n')) (fun _ _ wr => wr.rangeLeft c.mw r0)
  case atStart => exact ⟨nF, HFK⟩
  case round =>
    rename World => wr
    obtain ⟨n', HF⟩ := hrel
    obtain ⟨⟨f2, kf, todo, hrv, hfv, WS2, G, n2, hmv, hn2, hG, hcp⟩, hoff⟩ := HF.out
    have hne : hb ≠ r0 ∧ hb ≠ m2 ∧ m2 ≠ r0 ∧ hb < m2 ∧ c.mw < hb ∧ r0 = m2 + 1 ∧ w7.heap.size = r0 + 1 := by
      obtain ⟨a1, a2, a3⟩ := HRM.out
      have b1 := HW2.out
      have b2 := HSZ.out
      have b3 := HMW.out
      have b4 := HZ7.out
      omega
    have hnr := hoff.block hb (by omega) (by intro h; omega)
    have hbr := hnr.trans HN7.out
    rcases hrv.next strKeyed 0 with ⟨hn0, hall, hnx⟩ | ⟨key, val, kl, wn, cnt', hkl, htd, hfk, hnx, hrn, hltn, hgn, hsn, hen⟩
    · have HEND := Lib.hid (And.intro hall (And.intro hmv (And.intro hn2 (And.intro hG (And.intro hcp (And.intro hoff (And.intro hbr hne)))))))
      clear hall hmv hn2 hG hcp hoff hbr hnr hrv hfv hne
      go_wp2_with (fail)
      go_ret
      obtain ⟨hall, hmv, hn2, hG, hcp, hoff, hbr, hne⟩ := HEND.out
      obtain ⟨a1, a2, rfl⟩ := HRM.out
      subst a2 a1
      have b1 := HW2.out
      have b2 := HSZ.out
      have b4 := HZ7.out
      have hkw : ∀ i, i < w5.heap.size → wr.heap[i]? = w7.heap[i]? := fun i hi => hoff.block i (by omega) (by intro h; omega)
      exact ⟨_, _, rfl, hot_forked K.out (HB7.out.trans (hoff.below (B := w.heap.size) HB7.out.size (fun i hi h => by omega))) hbr
        (HL7.out.1.kept (fun b hb => hkw b (by have := HLR.out.2.2 b hb; omega))) HLR.out.2.1 HLR.out.2.2 (HL7.out.2.kept (fun b hb => hkw b (by have := HSKR.out.2.2 b hb; omega))) HSKR.out.2.1 HSKR.out.2.2 (by omega) b1.2 b2 (by omega) hmv hn2 hG hcp (fun key kl hk => hall key kl hk)⟩
    · obtain ⟨ks, rfl, hks⟩ := keyOf_strInv hkl
      have hfk2 := hfk
      rw [hfv ks hks] at hfk2
      obtain ⟨x, hx, hval⟩ := Option.map_eq_some_iff.1 hfk2
      obtain ⟨hxm, rfl⟩ := findW_mem hx
      subst hval
      have hcn := (hgn.block hb (Nat.lt_of_lt_of_le (by omega) hoff.size) (fun e => by injection e with e; omega)).trans hbr
      have cn6 : wn.cell? ⟨hb, 6, none⟩ = some (.map (some m2)) := by simp only [World.cell?, hcn]; rfl
      have HLE := Lib.hid (show wr.rangeLeft c.mw r0 = n' ∧ cnt' < n' from ⟨hrv.left_eq, hltn⟩)
      have hwx := ((K.out.wins x hxm).1.below HB7.out)
      have hxl := (K.out.wins x hxm).1.lt
      have hxr := fun i (hi : i < hb) => (hgn.block i (Nat.lt_of_lt_of_le (by omega) hoff.size) (fun e => by injection e with e; omega)).trans (hoff.block i (by omega) (fun h => by omega))
      have HWX := Lib.hid (WinN.kept (w' := wn.drew) hwx (hxr _ (by have := HRM.out; omega)) (hxr _ (by have := HRM.out; omega)))
      clear hwx hxl hxr
      have HFW := Lib.hid K.out.few
      have HX := Lib.hid (And.intro hxm (And.intro hks (And.intro htd (And.intro (hrn.kept (grown_drewQ (grown_reflQ wn)) (by simp) (by simp)) (And.intro hltn (grown_drewQ hgn))))))
      have HM := Lib.hid (And.intro hfv (And.intro hmv (And.intro hn2 (And.intro hG (And.intro hcp (And.intro hoff (And.intro hbr hne)))))))
      clear hxm hks htd hrn hltn hgn hfv hmv hn2 hG hcp hoff hbr hne hfk hfk2 hx hkl hrv hnr hcn hsn
      go_wp2_with (fail)
      refine wp_region_noPanic ?_
      refine wp_region_held_drew (S := (fun wx => wx.cell? ⟨hb, 6, none⟩ = some (.map (some m2)))) (by kernel_rfl) ?_ (fun hHeld => ?_)
      · exact cn6
      refine wpAnyH_take (i := 0) (v := ?_) rfl (by kernel_rfl) (by kernel_rfl) (by kernel_rfl) (fun _ _ _ h => h) (Or.inl ⟨by rfl, ?hy⟩) (by assumption) ?_
      case hy => intro w hSw; (try dsimp only at hSw); go_simp; try with_reducible rfl
      try simp only [Act.put, szA, szB, szC, szD, szE, szF]
      refine wpAnyH_take (i := 1) (v := ?_) rfl (by kernel_rfl) (by kernel_rfl) (by kernel_rfl) (fun _ _ _ h => h) (Or.inl ⟨by rfl, ?hy⟩) (by assumption) ?_
      case hy => intro w hSw; (try dsimp only at hSw); go_simp; try with_reducible rfl
      try simp only [Act.put, szA, szB, szC, szD, szE, szF]
      refine wpAnyH_take (i := 2) (v := ?_) rfl (by kernel_rfl) (by kernel_rfl) (by kernel_rfl) (fun _ _ _ h => h) (Or.inl ⟨by rfl, ?hy⟩) (by assumption) ?_
      case hy => intro w hSw; (try dsimp only at hSw); go_simp; try with_reducible rfl
      try simp only [Act.put, szA, szB, szC, szD, szE, szF]
      refine wpAnyH_take (i := 3) (v := ?_) rfl (by kernel_rfl) (by kernel_rfl) (by kernel_rfl) (fun _ _ _ h => h) (Or.inl ⟨by rfl, ?hy⟩) (by assumption) ?_
      case hy => intro w hSw; (try dsimp only at hSw); go_simp; try with_reducible rfl
      try simp only [Act.put, szA, szB, szC, szD, szE, szF]
      refine wpAnyH_ready (rs := [4]) (by kernel_rfl) (by simp) (AllReadyH.cons rfl (fun K hK => ?_) AllReadyH.nil)
      go_simp
      go_at_call 30; refine (wfork_any HWX.out).mono ?_; rintro e wf ⟨rfl, hwf, hbf⟩
      have hcf : wf.cell? ⟨hb, 6, none⟩ = some (.map (some m2)) := (World.cell?_of_block (w := wn.drew) (hbf.block hb (World.block_lt_of_cell? wn _ cn6))).trans cn6
      have hcp := HM.out.2.2.2.2.1
      have hne := HM.out.2.2.2.2.2.2.2
      have hmn := (HM.out.2.1.grown HX.out.2.2.2.2.2 (fun e => by injection e with e; omega)).below hbf
      have hfw := hcp.few
      have hf4 := HFW.out
      have hn2 := HM.out.2.2.1
      obtain ⟨wd, hup, hmd, hgd, hzd⟩ := hmn.update strKeyed under_mapW (by unfold maxLen; omega) (skeyOf HX.out.2.1) (.pointer (some ⟨wn.heap.size, 0, none⟩))
      have HFD := Lib.hid (FkHot.step HX.out.2.2.2.1 HM.out.1 hmd (by split <;> omega) HM.out.2.2.2.1 hcp HX.out.1 HX.out.2.2.1 HM.out.2.2.2.2.2.1 HX.out.2.2.2.2.2 hbf hwf hgd (by omega) (by omega) (by omega) (by omega))
      have HCD := Lib.hid (show wd.cell? ⟨hb, 6, none⟩ = some (.map (some m2)) from (World.cell?_of_block (w := wf) (hgd.block hb (World.block_lt_of_cell? _ _ hcf) (fun e => by injection e with e; omega))).trans hcf)
      have HCF := Lib.hid hcf
      clear hcf hcp hne hmn hfw hf4 hn2 hmd hgd hzd hwf hbf
      try (go_wp2_with fail)
      refine hK.out _ _ ?_ (fun hHeld => ?_)
      · exact HCF.out
      clear hK K
      try simp only [Act.put, szA, szB, szC, szD, szE, szF]
      refine wpAnyH_ready (rs := [5]) (by kernel_rfl) (by simp) (AllReadyH.cons rfl (fun K hK => ?_) AllReadyH.nil)
      go_simp
      skip
      try (go_wp2_with fail)
      refine hK.out _ _ ?_ (fun hHeld => ?_)
      · exact HCD.out
      clear hK K
      try simp only [Act.put, szA, szB, szC, szD, szE, szF]
      refine wpAnyH_done (by kernel_rfl) ?_ _
      refine NoPanic.normal ?_
      go_wp2_with (fail)
      refine ⟨⟨cnt', HFD⟩, ?_⟩
      obtain ⟨q1, q2, f3, q3, _⟩ := HFD.out.src
      rw [q3.left_eq, HLE.out.1]
      exact HLE.out.2
end Go.Proofs.YtemlafbkkaloiaaGreat
namespace Go.Proofs.YtemlafbkkaloiaaGreat
open Go.RowKit
theorem HotAt.itemApart {w : World} {c : HotC} {s : HotV} (k : HotAt w c s) {g off : Nat} (e : c.R.ia = some ⟨g, off, none⟩) : ¬ HOwn c s g := by
  obtain ⟨col, hc⟩ := k.col
  have h5 := hc.items g off e
  intro h
  rcases h with h | h | h | h | ⟨x, hx, h⟩
  · have := hc.lru g h; omega
  · have := hc.sk g h; omega
  · have := hc.map; rw [← h] at this; omega
  · have := hc.head; rw [← h] at this; omega
  · have := hc.wins x hx
    rcases h with h | h <;> rw [← h] at this <;> omega
def POwn (c : HotC) (s : HotV) (c' : R15C) (s' : R15V) (i : Nat) : Prop := HOwn c s i ∨ R15Own c' s' i
structure Pair15 (w : World) (c : HotC) (s : HotV) (c' : R15C) (s' : R15V) (m : Nat) : Prop where
  h : HotAt w c s
  r : R15At w c' s' m
  dis : ∀ i, HOwn c s i → ¬ R15Own c' s' i
  it1 : ∀ g off, c.R.ia = some ⟨g, off, none⟩ → ¬ R15Own c' s' g
  it2 : ∀ i, c'.iv.ownBlock = some i → ¬ HOwn c s i
  A : pr s.L = s'.A
  V : ∀ k, s.V k = s'.V k
  last : s.last = s'.last
  ls : s.ls = s'.ls
  sn : s.sn = s'.sn
  N : c.N = c'.N
  lim : ∀ k, limI c.R k = limI c'.R k
  secs : c.R.secs = c'.R.secs
  sh : c.sh = sh15 c'.R c'.seed
  il : c'.R.items.length ≤ 140737488351232
variable {w w1 w2 w' : World} {c gc : HotC} {s s1 gs : HotV} {c' gc' : R15C} {s' s1' gs' : R15V} {m mq : Nat}
theorem Pair15.lt (p : Pair15 w c s c' s' m) {i : Nat} (hi : POwn c s c' s' i) : i < w.heap.size := by
  rcases hi with h | h
  · exact p.h.toHotCore.lt h
  · exact p.r.toRCore.lt h
theorem Pair15.kept (p : Pair15 w c s c' s' m) (hz : w.heap.size ≤ w'.heap.size) (hk : ∀ i, POwn c s c' s' i → w'.heap[i]? = w.heap[i]?) (h1 : ∀ g off, c.R.ia = some ⟨g, off, none⟩ → w'.heap[g]? = w.heap[g]?) (h2 : ∀ i, c'.iv.ownBlock = some i → w'.heap[i]? = w.heap[i]?) : Pair15 w' c s c' s' m :=
  { p with h := p.h.kept hz (fun i hi => hk i (Or.inl hi)) h1, r := ⟨p.r.toRCore.kept hz (fun i hi => hk i (Or.inr hi)) h2, p.r.same⟩ }
theorem Pair15.below (p : Pair15 w c s c' s' m) (hb : Below w.heap.size w w') : Pair15 w' c s c' s' m :=
  { p with h := p.h.below hb, r := p.r.below hb }
theorem Pair15.more (p : Pair15 w c s c' s' m) {n : Nat} (h : m ≤ n) : Pair15 w c s c' s' n := { p with r := ⟨p.r.toRCore.more h, p.r.same⟩ }
theorem Pair15.used (p : Pair15 w c s c' s' m) (at_ : Int) (key : ByteArray) : usedH c s at_ key = used15 c' s' at_ key := by
  rw [usedH_V]
  unfold used15
  rw [p.V key, p.secs, p.sh, p.sn]
  cases s'.V key <;> rfl
theorem Pair15.look (p : Pair15 w c s c' s' m) (at_ n : Int) (key : ByteArray) : lookHB c s at_ key n = look15B c' s' at_ key n := by
  unfold lookHB look15B
  rw [p.last, p.used, p.lim]
theorem Pair15.took (p : Pair15 w c s c' s' m) {at_ n : Int} {key : ByteArray} (t : TakePost w c s at_ key n w1 s1) (u : T15 w1 c' s' at_ key n m w2 s1') :
    Pair15 w2 c s1 c' s1' (m + 2) ∧ Off (POwn c s c' s') w w2 ∧ ∀ i, POwn c s1 c' s1' i → POwn c s c' s' i ∨ w.heap.size ≤ i := by
  have hz1 := t.off.size
  have hz2 := u.off.size
  have hB := p.look at_ n key
  have hE : lookHE s.last at_ key n = lookHE s'.last at_ key n := by rw [p.last]
  have hU := p.used at_ key
  have hh : HotAt w2 c s1 := t.hot.kept hz2 (fun i hi => u.off.block i (t.hot.toHotCore.lt hi) (fun e => by
    rcases t.own i hi with h | h
    · exact p.dis i h e
    · have := p.r.toRCore.lt e; omega)) (fun g off e => u.off.block g (t.hot.ilt g off e) (p.it1 g off e))
  refine ⟨⟨hh, u.hot, fun i hi hr => ?_, fun g off e hr => ?_, fun i e hi => ?_, ?_, fun k => ?_, ?_, ?_, ?_, p.N, p.lim, p.secs, p.sh, p.il⟩, ⟨?_, ?_, ?_, by omega, fun i hi hn => ?_⟩, fun i hi => ?_⟩
  · rcases t.own i hi with h1 | h1
    · rcases u.own i hr with h2 | h2
      · exact p.dis i h1 h2
      · have := p.h.toHotCore.lt h1; omega
    · rcases u.own i hr with h2 | h2
      · have := p.r.toRCore.lt h2; omega
      · have := t.hot.toHotCore.lt hi; omega
  · rcases u.own g hr with h2 | h2
    · exact p.it1 g off e h2
    · have := p.h.ilt g off e; omega
  · rcases t.own i hi with h1 | h1
    · exact p.it2 i e h1
    · have := (p.r.its.lt i e).2; omega
  · cases hb : look15B c' s' at_ key n with
    | true => rw [t.rows (hB.trans hb), u.rows hb, p.A, p.N]
    | false =>
      by_cases he : lookHE s'.last at_ key n = 0
      · rw [t.no (hE.trans he) (hB.trans hb), u.no he hb]; exact p.A
      · rw [t.err (fun h => he (hE.symm.trans h)), u.err he]; exact p.A
  · cases hb : look15B c' s' at_ key n with
    | true => rw [t.vals (hB.trans hb), u.vals hb, p.A, p.N, p.V, p.V, hU]
    | false =>
      by_cases he : lookHE s'.last at_ key n = 0
      · rw [t.no (hE.trans he) (hB.trans hb), u.no he hb]; exact p.V k
      · rw [t.err (fun h => he (hE.symm.trans h)), u.err he]; exact p.V k
  · cases hb : look15B c' s' at_ key n with
    | true => rw [(t.last (hB.trans hb)).1, (u.last hb).1]
    | false =>
      by_cases he : lookHE s'.last at_ key n = 0
      · rw [t.no (hE.trans he) (hB.trans hb), u.no he hb]
      · rw [t.err (fun h => he (hE.symm.trans h)), u.err he]; exact p.last
  · cases hb : look15B c' s' at_ key n with
    | true => rw [(t.last (hB.trans hb)).2, (u.last hb).2]
    | false =>
      by_cases he : lookHE s'.last at_ key n = 0
      · rw [t.no (hE.trans he) (hB.trans hb), u.no he hb]; exact p.ls
      · rw [t.err (fun h => he (hE.symm.trans h)), u.err he]; exact p.ls
  · cases hb : look15B c' s' at_ key n with
    | true => rw [t.sn (hB.trans hb), u.sn hb, p.sn]
    | false =>
      by_cases he : lookHE s'.last at_ key n = 0
      · rw [t.no (hE.trans he) (hB.trans hb), u.no he hb]; exact p.sn
      · rw [t.err (fun h => he (hE.symm.trans h)), u.err he]; exact p.sn
  · exact u.off.os.trans t.off.os
  · exact u.off.tape.trans t.off.tape
  · exact u.off.output.trans t.off.output
  · rw [u.off.block i (by omega) (fun e => hn (Or.inr e))]
    exact t.off.block i hi (fun e => hn (Or.inl e))
  · rcases hi with h | h
    · rcases t.own i h with h | h
      · exact Or.inl (Or.inl h)
      · exact Or.inr h
    · rcases u.own i h with h | h
      · exact Or.inl (Or.inr h)
      · exact Or.inr (by omega)
theorem Pair15.fork (p : Pair15 w c s c' s' m) (f : ForkHot w c s w1 gc gs) (g : Fork15 w1 c' s' m w2 gc' gs') : Pair15 w2 gc gs gc' gs' m ∧ ∀ i, POwn gc gs gc' gs' i → w.heap.size ≤ i := by
  have hz := f.bel.size
  refine ⟨⟨f.hot.below g.bel, g.hot, fun i hi hr => ?_, fun q off e hr => ?_, fun i e hi => ?_, ?_, fun k => ?_, ?_, ?_, ?_, ?_, fun k => ?_, ?_, ?_, ?_⟩, fun i hi => ?_⟩
  · have h1 := f.hot.toHotCore.lt hi
    have h2 := g.own i hr
    omega
  · rw [f.R] at e
    have h1 := p.h.ilt q off e
    have h2 := g.own q hr
    omega
  · rw [g.iv] at e
    have h1 := (p.r.its.lt i e).2
    have h2 := f.own i hi
    omega
  · rw [f.rows, g.A]; exact p.A
  · rw [f.vals, g.vals]; exact p.V k
  · rw [f.last, g.last]; exact p.last
  · rw [f.ls, g.ls]; exact p.ls
  · rw [f.sn, g.sn]; exact p.sn
  · rw [f.N, g.N]; exact p.N
  · rw [f.R, g.R]; exact p.lim k
  · rw [f.R, g.R]; exact p.secs
  · have : gc.sh = c.sh := by unfold HotC.sh HotC.W; rw [f.R, f.seed]
    rw [this, g.R, g.seed]; exact p.sh
  · rw [g.R]; exact p.il
  · rcases hi with h | h
    · exact f.own i h
    · have := g.own i h; omega
structure Both15 (w0 w : World) (c : HotC) (s : HotV) (c' : R15C) (s' : R15V) (m : Nat) (gc : HotC) (gs : HotV) (gc' : R15C) (gs' : R15V) (mq : Nat) : Prop where
  p : Pair15 w c s c' s' m
  q : Pair15 w gc gs gc' gs' mq
  x : ∀ i, POwn c s c' s' i → ¬ POwn gc gs gc' gs' i
  R : gc.R = c.R
  iv : gc'.iv = c'.iv
  bel : Below w0.heap.size w0 w
  at_ : ∀ i, POwn c s c' s' i → w0.heap.size ≤ i
theorem Both15.below {w0 : World} (k : Both15 w0 w c s c' s' m gc gs gc' gs' mq) (hb : Below w.heap.size w w') : Both15 w0 w' c s c' s' m gc gs gc' gs' mq :=
  ⟨k.p.below hb, k.q.below hb, k.x, k.R, k.iv, k.bel.trans (hb.mono k.bel.size), k.at_⟩
theorem Both15.made {w0 : World} (p : Pair15 w c s c' s' m) (f : ForkHot w c s w1 gc gs) (g : Fork15 w1 c' s' m w2 gc' gs') (hb : Below w0.heap.size w0 w) (ha : ∀ i, POwn c s c' s' i → w0.heap.size ≤ i) : Both15 w0 w2 c s c' s' m gc gs gc' gs' m := by
  obtain ⟨q, hq⟩ := p.fork f g
  have h12 : Below w.heap.size w w2 := f.bel.trans (g.bel.mono f.bel.size)
  refine ⟨p.below h12, q, fun i hi h => ?_, f.R, g.iv, hb.trans (h12.mono hb.size), ha⟩
  have h1 := p.lt hi
  have h2 := hq i h
  omega
theorem Both15.step {w0 : World} (k : Both15 w0 w c s c' s' m gc gs gc' gs' mq) {n : Nat} (p : Pair15 w' c s1 c' s1' n) (ho : Off (POwn c s c' s') w w') (hown : ∀ i, POwn c s1 c' s1' i → POwn c s c' s' i ∨ w.heap.size ≤ i) : Both15 w0 w' c s1 c' s1' n gc gs gc' gs' mq := by
  refine ⟨p, k.q.kept ho.size (fun i hi => ho.block i (k.q.lt hi) (fun e => k.x i e hi)) (fun g off e => ?_) (fun i e => ?_), fun i hi h => ?_, k.R, k.iv, k.bel.trans (ho.below k.bel.size (fun i hi e => by have := k.at_ i e; omega)), fun i hi => ?_⟩
  · rw [k.R] at e
    refine ho.block g (k.p.h.ilt g off e) (fun h => ?_)
    rcases h with h | h
    · exact k.p.h.itemApart e h
    · exact k.p.it1 g off e h
  · rw [k.iv] at e
    refine ho.block i (k.p.r.its.lt i e).2 (fun h => ?_)
    rcases h with h | h
    · exact k.p.it2 i e h
    · exact k.p.r.toRCore.itsOff e h
  · rcases hown i hi with h1 | h1
    · exact k.x i h1 h
    · have := k.q.lt h; omega
  · rcases hown i hi with h1 | h1
    · exact k.at_ i h1
    · exact Nat.le_trans k.bel.size h1
theorem pair15_new {w0 w1 w2 w3 : World} {R : HotS} {keys seed : Int} (h : NewHot w0 R keys seed w1 c s) (hb : Below w1.heap.size w1 w2) (k : New15 w2 R keys seed w3 c' s') (hb3 : Below w2.heap.size w2 w3) (hil : R.items.length ≤ 140737488351232) : Pair15 w3 c s c' s' 0 := by
  have hz := hb.size
  have h12 := hb.trans (hb3.mono hz)
  obtain ⟨a', b', e⟩ := h.R
  refine ⟨h.hot.below h12, k.hot, fun i hi hr => ?_, fun g off e hr => ?_, fun i e hi => ?_, ?_, fun q => ?_, ?_, ?_, ?_, ?_, fun q => ?_, ?_, ?_, ?_⟩
  · have h1 := h.hot.toHotCore.lt hi
    have h2 := k.own i hr
    omega
  · have h1 := h.hot.ilt g off e
    have h2 := k.own g hr
    omega
  · have h1 := h.hot.toHotCore.lt hi
    have h2 := k.items i e
    omega
  · rw [h.L, k.A]; rfl
  · unfold HotV.V R15V.V
    rw [h.WS, k.RS]; rfl
  · rw [h.last, k.last]
  · rw [h.ls, k.ls]
  · rw [h.sn, k.sn]
  · have h1 := h.N; have h2 := k.N; omega
  · rw [e, k.R]; rfl
  · rw [e, k.R]; rfl
  · unfold HotC.sh HotC.W
    rw [e, h.seed, k.seed, k.R]; rfl
  · rw [k.R]; exact hil
end Go.Proofs.YtemlafbkkaloiaaGreat
namespace Go.Proofs.YtemlafbkkaloiaaGreat
open Go.RowKit
set_option maxHeartbeats 3200000 in
theorem r15Used_nil (at_ : Int) (key : ByteArray) (w : World) : Calls Tryz.prog 34 #[.pointer none, .int .i64 at_, .string key] w fun e w' => e = .returned (.tuple #[.int .i64 0, .int .i64 1]) ∧ w' = w := by
  have HW := Lib.hid (r15look_nil at_ key 1 w)
  go_enter Tryz.func34, Tryz.ntmps34
  go_wp2_with (fail)
  refine HW.out.mono ?_
  rintro e wq ⟨rfl, hq⟩
  rw [hq]
  clear hq
  go_wp2_with (fail)
  go_ret2
  exact ⟨rfl, rfl⟩
set_option maxHeartbeats 800000 in
theorem r15Fork_nil (w : World) : Calls Tryz.prog 9 #[.pointer none] w fun e w' => e = .returned (.pointer none) ∧ w' = w := by
  go_enter Tryz.func9, Tryz.ntmps9
  go_wp2_with (fail)
  go_ret
  exact ⟨rfl, rfl⟩
set_option maxHeartbeats 1600000 in
theorem do15_0 {w : World} {c : HotC} {s : HotV} {c' : R15C} {s' : R15V} {m : Nat} (p : Pair15 w c s c' s' m) (hm : m ≤ 899000)  (at_ : Int) (key : ByteArray) (hk : key.size ≤ maxLen) (n : Int) :
    Calls Tryz.prog 10 #[.pointer (some ⟨c.hb, 0, none⟩), .pointer (some ⟨c'.hb, 0, none⟩), .agg #[.int .i64 0, .int .i64 at_, .string key, .int .i64 n]] w fun e w' => e = .returned (.bool true) ∧ ∃ s1 s1', Pair15 w' c s1 c' s1' (m + 2) ∧ Off (POwn c s c' s') w w' ∧ ∀ i, POwn c s1 c' s1' i → POwn c s c' s' i ∨ w.heap.size ≤ i := by
  obtain ⟨N, hN⟩ : ∃ N, w.heap.size = N := ⟨_, rfl⟩
  have HN := Lib.hid hN
  have h1 : (w.alloc (.cells #[.int .i64 0, .int .i64 at_, .string key, .int .i64 n] 41)).heap[N]? = some (.cells #[.int .i64 0, .int .i64 at_, .string key, .int .i64 n] 41) := by rw [get_allocW, if_pos hN.symm]
  have HB := Lib.hid (show Below w.heap.size w (w.alloc (.cells #[.int .i64 0, .int .i64 at_, .string key, .int .i64 n] 41)) from (Below.refl _ _).alloc (Nat.le_refl _) _)
  have HP := Lib.hid p
  clear p
  obtain ⟨w0, hw0⟩ : ∃ w0, w.alloc (.cells #[.int .i64 0, .int .i64 at_, .string key, .int .i64 n] 41) = w0 := ⟨_, rfl⟩
  rw [hw0] at HB h1
  have H1 := Lib.hid h1
  have HP0 := Lib.hid (HP.out.below HB.out)
  have g0 : w0.cell? ⟨N, 0, none⟩ = some (.int .i64 0) := by simp only [World.cell?, h1]; rfl
  have g1 : w0.cell? ⟨N, 1, none⟩ = some (.int .i64 at_) := by simp only [World.cell?, h1]; rfl
  have g2 : w0.cell? ⟨N, 2, none⟩ = some (.string key) := by simp only [World.cell?, h1]; rfl
  have g3 : w0.cell? ⟨N, 3, none⟩ = some (.int .i64 n) := by simp only [World.cell?, h1]; rfl
  have HNZ := Lib.hid (show N < w0.heap.size from (Array.getElem?_eq_some_iff.1 h1).1)
  clear h1
  have HU := hUsed_any HP0.out.h at_ key hk
  have HR := Lib.hid (show ∀ wx, Below w0.heap.size w0 wx → _ from fun wx hb => by
    have h := r15Used_any (HP0.out.r.below hb).toRCore (by omega) (by have := HP0.out.r.few; omega) at_ key hk
    rw [← HP.out.last, ← HP.out.used] at h
    exact h)
  generalize (if hwE s.last at_ key = 0 then usedH c s at_ key else 0) = X at HU HR
  generalize hwE s.last at_ key = E at HU HR
  have HU := Lib.hid HU
  go_enter Tryz.func10, Tryz.ntmps10
  go_wp2_with (fail)
  clear hw0 hN
  refine HU.out.mono ?_
  rintro e w1 ⟨rfl, hb1⟩
  have HB1 := Lib.hid hb1
  have g1 := (hb1.cell (p := ⟨N, 1, none⟩) HNZ.out).trans g1
  have g2 := (hb1.cell (p := ⟨N, 2, none⟩) HNZ.out).trans g2
  have g3 := (hb1.cell (p := ⟨N, 3, none⟩) HNZ.out).trans g3
  clear hb1 HU
  go_wp2_with (fail)
  refine (HR.out w1 HB1.out).mono ?_
  rintro e w2 ⟨rfl, hb2⟩
  have HB2 := Lib.hid hb2
  clear hb2
  go_wp2_with (fail)
  go_ret
  have hb : Below w.heap.size w w2 := (HB.out.trans (HB1.out.mono HB.out.size)).trans (HB2.out.mono (HB.out.trans (HB1.out.mono HB.out.size)).size)
  exact ⟨rfl, s, s', (HP.out.below hb).more (by omega), Off.ofBelow hb, fun i hi => Or.inl hi⟩
set_option maxHeartbeats 1600000 in
theorem do15_1 {w : World} {c : HotC} {s : HotV} {c' : R15C} {s' : R15V} {m : Nat} (p : Pair15 w c s c' s' m) (hm : m ≤ 899000)  (at_ : Int) (key : ByteArray) (hk : key.size ≤ maxLen) (n : Int) :
    Calls Tryz.prog 10 #[.pointer (some ⟨c.hb, 0, none⟩), .pointer (some ⟨c'.hb, 0, none⟩), .agg #[.int .i64 1, .int .i64 at_, .string key, .int .i64 n]] w fun e w' => e = .returned (.bool true) ∧ ∃ s1 s1', Pair15 w' c s1 c' s1' (m + 2) ∧ Off (POwn c s c' s') w w' ∧ ∀ i, POwn c s1 c' s1' i → POwn c s c' s' i ∨ w.heap.size ≤ i := by
  obtain ⟨N, hN⟩ : ∃ N, w.heap.size = N := ⟨_, rfl⟩
  have HN := Lib.hid hN
  have h1 : (w.alloc (.cells #[.int .i64 1, .int .i64 at_, .string key, .int .i64 n] 41)).heap[N]? = some (.cells #[.int .i64 1, .int .i64 at_, .string key, .int .i64 n] 41) := by rw [get_allocW, if_pos hN.symm]
  have HB := Lib.hid (show Below w.heap.size w (w.alloc (.cells #[.int .i64 1, .int .i64 at_, .string key, .int .i64 n] 41)) from (Below.refl _ _).alloc (Nat.le_refl _) _)
  have HP := Lib.hid p
  clear p
  obtain ⟨w0, hw0⟩ : ∃ w0, w.alloc (.cells #[.int .i64 1, .int .i64 at_, .string key, .int .i64 n] 41) = w0 := ⟨_, rfl⟩
  rw [hw0] at HB h1
  have H1 := Lib.hid h1
  have HP0 := Lib.hid (HP.out.below HB.out)
  have g0 : w0.cell? ⟨N, 0, none⟩ = some (.int .i64 1) := by simp only [World.cell?, h1]; rfl
  have g1 : w0.cell? ⟨N, 1, none⟩ = some (.int .i64 at_) := by simp only [World.cell?, h1]; rfl
  have g2 : w0.cell? ⟨N, 2, none⟩ = some (.string key) := by simp only [World.cell?, h1]; rfl
  have g3 : w0.cell? ⟨N, 3, none⟩ = some (.int .i64 n) := by simp only [World.cell?, h1]; rfl
  have HNZ := Lib.hid (show N < w0.heap.size from (Array.getElem?_eq_some_iff.1 h1).1)
  clear h1
  have HU := hlook_any HP0.out.h at_ key hk n
  have HR := Lib.hid (show ∀ wx, Below w0.heap.size w0 wx → _ from fun wx hb => by
    have h := r15Look_any (HP0.out.r.below hb).toRCore (by omega) (by have := HP0.out.r.few; omega) HP.out.il at_ key hk n
    rw [← HP.out.last, ← HP.out.look] at h
    exact h)
  generalize lookHB c s at_ key n = X at HU HR
  generalize lookHE s.last at_ key n = E at HU HR
  have HU := Lib.hid HU
  go_enter Tryz.func10, Tryz.ntmps10
  go_wp2_with (fail)
  clear hw0 hN
  refine HU.out.mono ?_
  rintro e w1 ⟨rfl, hb1⟩
  have HB1 := Lib.hid hb1
  have g1 := (hb1.cell (p := ⟨N, 1, none⟩) HNZ.out).trans g1
  have g2 := (hb1.cell (p := ⟨N, 2, none⟩) HNZ.out).trans g2
  have g3 := (hb1.cell (p := ⟨N, 3, none⟩) HNZ.out).trans g3
  clear hb1 HU
  go_wp2_with (fail)
  refine (HR.out w1 HB1.out).mono ?_
  rintro e w2 ⟨rfl, hb2⟩
  have HB2 := Lib.hid hb2
  clear hb2
  go_wp2_with (fail)
  go_ret
  have hb : Below w.heap.size w w2 := (HB.out.trans (HB1.out.mono HB.out.size)).trans (HB2.out.mono (HB.out.trans (HB1.out.mono HB.out.size)).size)
  exact ⟨rfl, s, s', (HP.out.below hb).more (by omega), Off.ofBelow hb, fun i hi => Or.inl hi⟩
set_option maxHeartbeats 6400000 in
set_option maxRecDepth 100000 in
theorem do15_2 {w : World} {c : HotC} {s : HotV} {c' : R15C} {s' : R15V} {m : Nat} (p : Pair15 w c s c' s' m) (hm : m ≤ 899000) (kind : Int) (hk0 : kind ≠ 0) (hk1 : kind ≠ 1) (at_ : Int) (key : ByteArray) (hk : key.size ≤ maxLen) (n : Int) :
    Calls Tryz.prog 10 #[.pointer (some ⟨c.hb, 0, none⟩), .pointer (some ⟨c'.hb, 0, none⟩), .agg #[.int .i64 kind, .int .i64 at_, .string key, .int .i64 n]] w fun e w' => e = .returned (.bool true) ∧ ∃ s1 s1', Pair15 w' c s1 c' s1' (m + 2) ∧ Off (POwn c s c' s') w w' ∧ ∀ i, POwn c s1 c' s1' i → POwn c s c' s' i ∨ w.heap.size ≤ i := by
  obtain ⟨N, hN⟩ : ∃ N, w.heap.size = N := ⟨_, rfl⟩
  have HN := Lib.hid hN
  have h1 : (w.alloc (.cells #[.int .i64 kind, .int .i64 at_, .string key, .int .i64 n] 41)).heap[N]? = some (.cells #[.int .i64 kind, .int .i64 at_, .string key, .int .i64 n] 41) := by rw [get_allocW, if_pos hN.symm]
  have HB := Lib.hid (show Below w.heap.size w (w.alloc (.cells #[.int .i64 kind, .int .i64 at_, .string key, .int .i64 n] 41)) from (Below.refl _ _).alloc (Nat.le_refl _) _)
  have HP := Lib.hid p
  clear p
  obtain ⟨w0, hw0⟩ : ∃ w0, w.alloc (.cells #[.int .i64 kind, .int .i64 at_, .string key, .int .i64 n] 41) = w0 := ⟨_, rfl⟩
  rw [hw0] at HB h1
  have H1 := Lib.hid h1
  have HP0 := Lib.hid (HP.out.below HB.out)
  have g0 : w0.cell? ⟨N, 0, none⟩ = some (.int .i64 kind) := by simp only [World.cell?, h1]; rfl
  have g1 : w0.cell? ⟨N, 1, none⟩ = some (.int .i64 at_) := by simp only [World.cell?, h1]; rfl
  have g2 : w0.cell? ⟨N, 2, none⟩ = some (.string key) := by simp only [World.cell?, h1]; rfl
  have g3 : w0.cell? ⟨N, 3, none⟩ = some (.int .i64 n) := by simp only [World.cell?, h1]; rfl
  have HNZ := Lib.hid (show N < w0.heap.size from (Array.getElem?_eq_some_iff.1 h1).1)
  clear h1
  have HU := htake_any HP0.out.h at_ key hk n
  have HM := Lib.hid hm
  have HKS := Lib.hid hk
  have HR := Lib.hid (show ∀ wx, R15At wx c' s' m → _ from fun wx hr => by
    have h := r15take_any hr (by have := HM.out; omega) HP.out.il at_ key HKS.out n
    rw [← HP.out.last, ← HP.out.look] at h
    exact h)
  obtain ⟨X, hX⟩ : ∃ X, lookHB c s at_ key n = X := ⟨_, rfl⟩
  obtain ⟨E, hE⟩ : ∃ E, lookHE s.last at_ key n = E := ⟨_, rfl⟩
  rw [hX, hE] at HU HR
  have HU := Lib.hid HU
  clear hX hE hm hk
  go_enter Tryz.func10, Tryz.ntmps10
  go_wp2_with (fail)
  clear hw0 hN g0
  refine HU.out.mono ?_
  rintro e w1 ⟨s1, rfl, ht1⟩
  have HT1 := Lib.hid ht1
  have hn1 := (ht1.off.block N HNZ.out (fun e => by have h1 := HP.out.h.toHotCore.lt e; have h2 := HN.out; omega)).trans H1.out
  have H11 := Lib.hid hn1
  have g1 : w1.cell? ⟨N, 1, none⟩ = some (.int .i64 at_) := by simp only [World.cell?, hn1]; rfl
  have g2 : w1.cell? ⟨N, 2, none⟩ = some (.string key) := by simp only [World.cell?, hn1]; rfl
  have g3 : w1.cell? ⟨N, 3, none⟩ = some (.int .i64 n) := by simp only [World.cell?, hn1]; rfl
  have HR1 := HR.out w1 ⟨HP0.out.r.toRCore.kept ht1.off.size (fun i hi => ht1.off.block i (HP0.out.r.toRCore.lt hi) (fun e => HP0.out.dis i e hi)) (fun i hi => ht1.off.block i (HP0.out.r.its.lt i hi).2 (fun e => HP0.out.it2 i hi e)), HP0.out.r.same⟩
  have HR1 := Lib.hid HR1
  clear ht1 hn1 HU HR
  go_wp2_with (fail)
  refine HR1.out.mono ?_
  rintro e w2 ⟨s1', rfl, ht2⟩
  have hall := HP0.out.took HT1.out ht2
  have HPN := Lib.hid hall.1
  have HOF := Lib.hid hall.2.1
  have HOWN := Lib.hid hall.2.2
  have hn2 := (hall.2.1.block N HNZ.out (fun e => by have h1 := HP.out.lt e; have h2 := HN.out; omega)).trans H1.out
  have HS := Lib.hid (show ∀ wx, Below w2.heap.size w2 wx → wx.cell? ⟨N, 2, none⟩ = some (.string key) from fun wx hb => by
    have h3 := (hb.block N (by have h1 := hall.2.1.size; have h2 := HNZ.out; omega)).trans hn2
    simp only [World.cell?, h3]; rfl)
  have HL0 := Lib.hid (show ∀ wx, Below w2.heap.size w2 wx → _ from fun wx hb => by
    have h := hLimit_any (HPN.out.below hb).h key
    rw [HPN.out.lim] at h
    exact h)
  have HL1 := Lib.hid (fun wx (hb : Below w2.heap.size w2 wx) => r15limit_any (HPN.out.below hb).r.toRCore HPN.out.il key)
  have HK0 := Lib.hid (fun wx (hb : Below w2.heap.size w2 wx) => hKept_any (HPN.out.below hb).h)
  have HK1 := Lib.hid (fun wx (hb : Below w2.heap.size w2 wx) => r15kept_any (HPN.out.below hb).r.toRCore)
  have HA := Lib.hid HPN.out.A
  obtain ⟨nL, hnL⟩ : ∃ nL, s1.L.length = nL := ⟨_, rfl⟩
  have HLN := Lib.hid (show s1'.A.length = nL by rw [← HA.out, pr_len]; exact hnL)
  have HNM := Lib.hid (show nL ≤ 4096 by have h1 := HLN.out; have h2 := HPN.out.r.toRCore.map.small; omega)
  rw [hnL] at HK0
  clear hall ht2 hn2 HR1 g1 g2 g3 hnL
  obtain ⟨LM, hLM⟩ : ∃ LM, limI c'.R key = LM := ⟨_, rfl⟩
  rw [hLM] at HL0 HL1
  clear hLM
  go_wp2_with (fail)
  refine wp_region_noPanic ?_
  refine wp_region_held_drew (S := (fun wx => wx.cell? ⟨N, 2, none⟩ = some (.string key))) (by kernel_rfl) ?_ (fun hHeld => ?_)
  · exact HS.out _ (Below.refl _ _).drew
  refine wpAnyH_take (i := 0) (v := ?_) rfl (by kernel_rfl) (by kernel_rfl) (by kernel_rfl) (fun _ _ _ h => h) (Or.inl ⟨by rfl, ?hy⟩) (by assumption) ?_
  case hy => intro w hSw; (try dsimp only at hSw); go_simp; try with_reducible rfl
  try simp only [Act.put, szA, szB, szC, szD, szE, szF]
  refine wpAnyH_take (i := 1) (v := ?_) rfl (by kernel_rfl) (by kernel_rfl) (by kernel_rfl) (fun _ _ _ h => h) (Or.inl ⟨by rfl, ?hy⟩) (by assumption) ?_
  case hy => intro w hSw; (try dsimp only at hSw); go_simp; try with_reducible rfl
  try simp only [Act.put, szA, szB, szC, szD, szE, szF]
  refine wpAnyH_take (i := 2) (v := ?_) rfl (by kernel_rfl) (by kernel_rfl) (by kernel_rfl) (fun _ _ _ h => h) (Or.inl ⟨by rfl, ?hy⟩) (by assumption) ?_
  case hy => intro w hSw; (try dsimp only at hSw); go_simp; try with_reducible rfl
  try simp only [Act.put, szA, szB, szC, szD, szE, szF]
  refine wpAnyH_take (i := 3) (v := ?_) rfl (by kernel_rfl) (by kernel_rfl) (by kernel_rfl) (fun _ _ _ h => h) (Or.inl ⟨by rfl, ?hy⟩) (by assumption) ?_
  case hy => intro w hSw; (try dsimp only at hSw); go_simp; try with_reducible rfl
  try simp only [Act.put, szA, szB, szC, szD, szE, szF]
  refine wpAnyH_take (i := 4) (v := ?_) rfl (by kernel_rfl) (by kernel_rfl) (by kernel_rfl) (fun _ _ _ h => h) (Or.inl ⟨by rfl, ?hy⟩) (by assumption) ?_
  case hy => intro w hSw; (try dsimp only at hSw); go_simp; try with_reducible rfl
  try simp only [Act.put, szA, szB, szC, szD, szE, szF]
  refine wpAnyH_take (i := 5) (v := ?_) rfl (by kernel_rfl) (by kernel_rfl) (by kernel_rfl) (fun _ _ _ h => h) (Or.inl ⟨by rfl, ?hy⟩) (by assumption) ?_
  case hy => intro w hSw; (try dsimp only at hSw); go_simp; try with_reducible rfl
  try simp only [Act.put, szA, szB, szC, szD, szE, szF]
  refine wpAnyH_take (i := 6) (v := ?_) rfl (by kernel_rfl) (by kernel_rfl) (by kernel_rfl) (fun _ _ _ h => h) (Or.inl ⟨by rfl, ?hy⟩) (by assumption) ?_
  case hy => intro w hSw; (try dsimp only at hSw); go_simp; try with_reducible rfl
  try simp only [Act.put, szA, szB, szC, szD, szE, szF]
  refine wpAnyH_take (i := 7) (v := ?_) rfl (by kernel_rfl) (by kernel_rfl) (by kernel_rfl) (fun _ _ _ h => h) (Or.inl ⟨by rfl, ?hy⟩) (by assumption) ?_
  case hy => intro w hSw; (try dsimp only at hSw); go_simp; try with_reducible rfl
  try simp only [Act.put, szA, szB, szC, szD, szE, szF]
  refine wpAnyH_take (i := 8) (v := ?_) rfl (by kernel_rfl) (by kernel_rfl) (by kernel_rfl) (fun _ _ _ h => h) (Or.inl ⟨by rfl, ?hy⟩) (by assumption) ?_
  case hy => intro w hSw; (try dsimp only at hSw); go_simp; try with_reducible rfl
  try simp only [Act.put, szA, szB, szC, szD, szE, szF]
  refine wpAnyH_take (i := 9) (v := ?_) rfl (by kernel_rfl) (by kernel_rfl) (by kernel_rfl) (fun _ _ _ h => h) (Or.inl ⟨by rfl, ?hy⟩) (by assumption) ?_
  case hy => intro w hSw; (try dsimp only at hSw); go_simp; try with_reducible rfl
  try simp only [Act.put, szA, szB, szC, szD, szE, szF]
  refine wpAnyH_take (i := 10) (v := ?_) rfl (by kernel_rfl) (by kernel_rfl) (by kernel_rfl) (fun _ _ _ h => h) (Or.inl ⟨by rfl, ?hy⟩) (by assumption) ?_
  case hy => intro w hSw; (try dsimp only at hSw); go_simp; try with_reducible rfl
  try simp only [Act.put, szA, szB, szC, szD, szE, szF]
  refine wpAnyH_take (i := 11) (v := ?_) rfl (by kernel_rfl) (by kernel_rfl) (by kernel_rfl) (fun _ _ _ h => h) (Or.inl ⟨by rfl, ?hy⟩) (by assumption) ?_
  case hy => intro w hSw; (try dsimp only at hSw); go_simp; try with_reducible rfl
  try simp only [Act.put, szA, szB, szC, szD, szE, szF]
  refine wpAnyH_take (i := 13) (v := ?_) rfl (by kernel_rfl) (by kernel_rfl) (by kernel_rfl) (fun _ _ _ h => h) (Or.inl ⟨by rfl, ?hy⟩) (by assumption) ?_
  case hy => intro w hSw; (try dsimp only at hSw); go_simp; try with_reducible rfl
  try simp only [Act.put, szA, szB, szC, szD, szE, szF]
  refine wpAnyH_take (i := 14) (v := ?_) rfl (by kernel_rfl) (by kernel_rfl) (by kernel_rfl) (fun _ _ _ h => h) (Or.inl ⟨by rfl, ?hy⟩) (by assumption) ?_
  case hy => intro w hSw; (try dsimp only at hSw); go_simp; try with_reducible rfl
  try simp only [Act.put, szA, szB, szC, szD, szE, szF]
  refine wpAnyH_take (i := 15) (v := ?_) rfl (by kernel_rfl) (by kernel_rfl) (by kernel_rfl) (fun _ _ _ h => h) (Or.inl ⟨by rfl, ?hy⟩) (by assumption) ?_
  case hy => intro w hSw; (try dsimp only at hSw); go_simp; try with_reducible rfl
  try simp only [Act.put, szA, szB, szC, szD, szE, szF]
  refine wpAnyH_ready (rs := [12]) (by kernel_rfl) (by simp) (AllReadyH.cons rfl (fun K hK => ?_) AllReadyH.nil)
  go_simp
  go_at_call 14; refine (HL0.out _ (Below.refl _ _).drew).mono ?_; rintro e w3 ⟨rfl, hb3⟩
  have HB3 := Lib.hid (show Below w2.heap.size w2 w3 from (Below.refl _ _).drew.trans hb3)
  try (go_wp2_with fail)
  refine hK.out _ _ ?_ (fun hHeld => ?_)
  · exact HS.out w3 HB3.out
  clear hK K
  try simp only [Act.put, szA, szB, szC, szD, szE, szF]
  refine wpAnyH_ready (rs := [16]) (by kernel_rfl) (by simp) (AllReadyH.cons rfl (fun K hK => ?_) AllReadyH.nil)
  go_simp
  go_at_call 15; refine (HL1.out w3 HB3.out).mono ?_; rintro e wq ⟨rfl, hq⟩
  rw [hq]
  clear hq
  try (go_wp2_with fail)
  refine hK.out _ _ ?_ (fun hHeld => ?_)
  · exact HS.out w3 HB3.out
  clear hK K
  try simp only [Act.put, szA, szB, szC, szD, szE, szF]
  refine wpAnyH_take (i := 17) (v := ?_) rfl (by kernel_rfl) (by kernel_rfl) (by kernel_rfl) (fun _ _ _ h => h) (Or.inl ⟨by rfl, ?hy⟩) (by assumption) ?_
  case hy => intro w hSw; (try dsimp only at hSw); go_simp; try with_reducible rfl
  try simp only [Act.put, szA, szB, szC, szD, szE, szF]
  refine wpAnyH_take (i := 18) (v := ?_) rfl (by kernel_rfl) (by kernel_rfl) (by kernel_rfl) (fun _ _ _ h => h) (Or.inl ⟨by rfl, ?hy⟩) (by assumption) ?_
  case hy => intro w hSw; (try dsimp only at hSw); go_simp; try with_reducible rfl
  try simp only [Act.put, szA, szB, szC, szD, szE, szF]
  refine wpAnyH_take (i := 19) (v := ?_) rfl (by kernel_rfl) (by kernel_rfl) (by kernel_rfl) (fun _ _ _ h => h) (Or.inl ⟨by rfl, ?hy⟩) (by assumption) ?_
  case hy => intro w hSw; (try dsimp only at hSw); go_simp; try with_reducible rfl
  try simp only [Act.put, szA, szB, szC, szD, szE, szF]
  refine wpAnyH_take (i := 20) (v := ?_) rfl (by kernel_rfl) (by kernel_rfl) (by kernel_rfl) (fun _ _ _ h => h) (Or.inl ⟨by rfl, ?hy⟩) (by assumption) ?_
  case hy => intro w hSw; (try dsimp only at hSw); go_simp; try with_reducible rfl
  try simp only [Act.put, szA, szB, szC, szD, szE, szF]
  refine wpAnyH_take (i := 22) (v := ?_) rfl (by kernel_rfl) (by kernel_rfl) (by kernel_rfl) (fun _ _ _ h => h) (Or.inl ⟨by rfl, ?hy⟩) (by assumption) ?_
  case hy => intro w hSw; (try dsimp only at hSw); go_simp; try with_reducible rfl
  try simp only [Act.put, szA, szB, szC, szD, szE, szF]
  refine wpAnyH_ready (rs := [21]) (by kernel_rfl) (by simp) (AllReadyH.cons rfl (fun K hK => ?_) AllReadyH.nil)
  go_simp
  go_at_call 12; refine (HK0.out w3 HB3.out).mono ?_; rintro e w4 ⟨ak, ck, rfl, ho4, hb4⟩
  have HB4 := Lib.hid (show Below w2.heap.size w2 w4 from HB3.out.trans (hb4.mono HB3.out.size))
  have HO4 := Lib.hid ho4
  clear ho4 hb4
  try (go_wp2_with fail)
  refine hK.out _ _ ?_ (fun hHeld => ?_)
  · exact HS.out w4 HB4.out
  clear hK K
  try simp only [Act.put, szA, szB, szC, szD, szE, szF]
  refine wpAnyH_ready (rs := [23]) (by kernel_rfl) (by simp) (AllReadyH.cons rfl (fun K hK => ?_) AllReadyH.nil)
  go_simp
  go_at_call 13; refine (HK1.out w4 HB4.out).mono ?_; rintro e w5 ⟨v5, rfl, ho5, hb5⟩
  have HB5 := Lib.hid (show Below w2.heap.size w2 w5 from HB4.out.trans (hb5.mono HB4.out.size))
  obtain ⟨a1, c1, e1, hs1, hl1⟩ := StrsAt.own (w := w5) (rowKept3 HO4.out (fun g e => hb5.block g (HO4.out.lt g e).2))
  obtain ⟨a2, c2, e2, hs2, hl2⟩ := StrsAt.own ho5
  rw [HA.out] at hs1 hl1
  rw [HLN.out] at e2
  subst e2
  injection e1 with e1 e3 e4
  have HSM := Lib.hid (same15_any (w := w5) ak a2 nL ck c2 (s1'.A.map (·.1)) hl1.symm (by have := HNM.out; omega) (by rw [e1]; exact hs1) hs2)
  clear hs1 hl1 hs2 hl2 e1 e3 e4 ho5 hb5
  try (go_wp2_with fail)
  refine hK.out _ _ ?_ (fun hHeld => ?_)
  · exact HS.out w5 HB5.out
  clear hK K
  try simp only [Act.put, szA, szB, szC, szD, szE, szF]
  refine wpAnyH_ready (rs := [24]) (by kernel_rfl) (by simp) (AllReadyH.cons rfl (fun K hK => ?_) AllReadyH.nil)
  go_simp
  go_at_call 11; refine HSM.out.mono ?_; rintro e w6 ⟨rfl, hb6⟩
  have HB6 := Lib.hid (show Below w2.heap.size w2 w6 from HB5.out.trans (hb6.mono HB5.out.size))
  try (go_wp2_with fail)
  refine hK.out _ _ ?_ (fun hHeld => ?_)
  · exact HS.out w6 HB6.out
  clear hK K
  try simp only [Act.put, szA, szB, szC, szD, szE, szF]
  refine wpAnyH_take (i := 25) (v := ?_) rfl (by kernel_rfl) (by kernel_rfl) (by kernel_rfl) (fun _ _ _ h => h) (Or.inl ⟨by rfl, ?hy⟩) (by assumption) ?_
  case hy => intro w hSw; (try dsimp only at hSw); go_simp; try with_reducible rfl
  try simp only [Act.put, szA, szB, szC, szD, szE, szF]
  refine wpAnyH_take (i := 26) (v := ?_) rfl (by kernel_rfl) (by kernel_rfl) (by kernel_rfl) (fun _ _ _ h => h) (Or.inl ⟨by rfl, ?hy⟩) (by assumption) ?_
  case hy => intro w hSw; (try dsimp only at hSw); go_simp; try with_reducible rfl
  try simp only [Act.put, szA, szB, szC, szD, szE, szF]
  refine wpAnyH_done (by kernel_rfl) ?_ _
  refine NoPanic.normal ?_
  go_wp2_with (fail)
  go_ret
  refine ⟨rfl, s1, s1', HPN.out.below HB6.out, (((Off.ofBelow HB.out).trans HOF.out (fun i _ h => h)).trans (Off.ofBelow HB6.out) (fun i _ h => h)), fun i hi => ?_⟩
  rcases HOWN.out i hi with h | h
  · exact Or.inl h
  · have := HB.out.size; exact Or.inr (by omega)
end Go.Proofs.YtemlafbkkaloiaaGreat
namespace Go.Proofs.YtemlafbkkaloiaaGreat
open Go.RowKit
set_option maxHeartbeats 6400000 in
set_option maxRecDepth 100000 in
theorem do15n_0 {w : World}  (at_ : Int) (key : ByteArray) (n : Int) :
    Calls Tryz.prog 10 #[.pointer none, .pointer none, .agg #[.int .i64 0, .int .i64 at_, .string key, .int .i64 n]] w fun e w' => e = .returned (.bool true) ∧ Below w.heap.size w w' := by
  obtain ⟨N, hN⟩ : ∃ N, w.heap.size = N := ⟨_, rfl⟩
  have h1 : (w.alloc (.cells #[.int .i64 0, .int .i64 at_, .string key, .int .i64 n] 41)).heap[N]? = some (.cells #[.int .i64 0, .int .i64 at_, .string key, .int .i64 n] 41) := by rw [get_allocW, if_pos hN.symm]
  have HB := Lib.hid (show Below w.heap.size w (w.alloc (.cells #[.int .i64 0, .int .i64 at_, .string key, .int .i64 n] 41)) from (Below.refl _ _).alloc (Nat.le_refl _) _)
  obtain ⟨w0, hw0⟩ : ∃ w0, w.alloc (.cells #[.int .i64 0, .int .i64 at_, .string key, .int .i64 n] 41) = w0 := ⟨_, rfl⟩
  rw [hw0] at HB h1
  have g0 : w0.cell? ⟨N, 0, none⟩ = some (.int .i64 0) := by simp only [World.cell?, h1]; rfl
  have g1 : w0.cell? ⟨N, 1, none⟩ = some (.int .i64 at_) := by simp only [World.cell?, h1]; rfl
  have g2 : w0.cell? ⟨N, 2, none⟩ = some (.string key) := by simp only [World.cell?, h1]; rfl
  have g3 : w0.cell? ⟨N, 3, none⟩ = some (.int .i64 n) := by simp only [World.cell?, h1]; rfl
  have HNZ := Lib.hid (show N < w0.heap.size from (Array.getElem?_eq_some_iff.1 h1).1)
  clear h1
  have HU := Lib.hid (hUsed_nil at_ key w0)
  have HR := Lib.hid (r15Used_nil at_ key w0)
  go_enter Tryz.func10, Tryz.ntmps10
  go_wp2_with (fail)
  clear hw0 hN
  refine HU.out.mono ?_
  rintro e wq ⟨rfl, hq⟩
  rw [hq]
  clear hq
  go_wp2_with (fail)
  refine HR.out.mono ?_
  rintro e wq ⟨rfl, hq⟩
  rw [hq]
  clear hq
  go_wp2_with (fail)
  go_ret
  exact ⟨rfl, HB.out⟩
set_option maxHeartbeats 6400000 in
set_option maxRecDepth 100000 in
theorem do15n_1 {w : World}  (at_ : Int) (key : ByteArray) (n : Int) :
    Calls Tryz.prog 10 #[.pointer none, .pointer none, .agg #[.int .i64 1, .int .i64 at_, .string key, .int .i64 n]] w fun e w' => e = .returned (.bool true) ∧ Below w.heap.size w w' := by
  obtain ⟨N, hN⟩ : ∃ N, w.heap.size = N := ⟨_, rfl⟩
  have h1 : (w.alloc (.cells #[.int .i64 1, .int .i64 at_, .string key, .int .i64 n] 41)).heap[N]? = some (.cells #[.int .i64 1, .int .i64 at_, .string key, .int .i64 n] 41) := by rw [get_allocW, if_pos hN.symm]
  have HB := Lib.hid (show Below w.heap.size w (w.alloc (.cells #[.int .i64 1, .int .i64 at_, .string key, .int .i64 n] 41)) from (Below.refl _ _).alloc (Nat.le_refl _) _)
  obtain ⟨w0, hw0⟩ : ∃ w0, w.alloc (.cells #[.int .i64 1, .int .i64 at_, .string key, .int .i64 n] 41) = w0 := ⟨_, rfl⟩
  rw [hw0] at HB h1
  have g0 : w0.cell? ⟨N, 0, none⟩ = some (.int .i64 1) := by simp only [World.cell?, h1]; rfl
  have g1 : w0.cell? ⟨N, 1, none⟩ = some (.int .i64 at_) := by simp only [World.cell?, h1]; rfl
  have g2 : w0.cell? ⟨N, 2, none⟩ = some (.string key) := by simp only [World.cell?, h1]; rfl
  have g3 : w0.cell? ⟨N, 3, none⟩ = some (.int .i64 n) := by simp only [World.cell?, h1]; rfl
  have HNZ := Lib.hid (show N < w0.heap.size from (Array.getElem?_eq_some_iff.1 h1).1)
  clear h1
  have HU := Lib.hid (hLook_nil at_ key n w0)
  have HR := Lib.hid (r15Look_nil at_ key n w0)
  go_enter Tryz.func10, Tryz.ntmps10
  go_wp2_with (fail)
  clear hw0 hN
  refine HU.out.mono ?_
  rintro e wq ⟨rfl, hq⟩
  rw [hq]
  clear hq
  go_wp2_with (fail)
  refine HR.out.mono ?_
  rintro e wq ⟨rfl, hq⟩
  rw [hq]
  clear hq
  go_wp2_with (fail)
  go_ret
  exact ⟨rfl, HB.out⟩
set_option maxHeartbeats 6400000 in
set_option maxRecDepth 100000 in
theorem do15n_2 {w : World} (kind : Int) (hk0 : kind ≠ 0) (hk1 : kind ≠ 1) (at_ : Int) (key : ByteArray) (n : Int) :
    Calls Tryz.prog 10 #[.pointer none, .pointer none, .agg #[.int .i64 kind, .int .i64 at_, .string key, .int .i64 n]] w fun e w' => e = .returned (.bool true) ∧ Below w.heap.size w w' := by
  obtain ⟨N, hN⟩ : ∃ N, w.heap.size = N := ⟨_, rfl⟩
  have h1 : (w.alloc (.cells #[.int .i64 kind, .int .i64 at_, .string key, .int .i64 n] 41)).heap[N]? = some (.cells #[.int .i64 kind, .int .i64 at_, .string key, .int .i64 n] 41) := by rw [get_allocW, if_pos hN.symm]
  have HB := Lib.hid (show Below w.heap.size w (w.alloc (.cells #[.int .i64 kind, .int .i64 at_, .string key, .int .i64 n] 41)) from (Below.refl _ _).alloc (Nat.le_refl _) _)
  obtain ⟨w0, hw0⟩ : ∃ w0, w.alloc (.cells #[.int .i64 kind, .int .i64 at_, .string key, .int .i64 n] 41) = w0 := ⟨_, rfl⟩
  rw [hw0] at HB h1
  have g0 : w0.cell? ⟨N, 0, none⟩ = some (.int .i64 kind) := by simp only [World.cell?, h1]; rfl
  have g1 : w0.cell? ⟨N, 1, none⟩ = some (.int .i64 at_) := by simp only [World.cell?, h1]; rfl
  have g2 : w0.cell? ⟨N, 2, none⟩ = some (.string key) := by simp only [World.cell?, h1]; rfl
  have g3 : w0.cell? ⟨N, 3, none⟩ = some (.int .i64 n) := by simp only [World.cell?, h1]; rfl
  have HNZ := Lib.hid (show N < w0.heap.size from (Array.getElem?_eq_some_iff.1 h1).1)
  clear h1
  have HU := Lib.hid (hTake_nil at_ key n w0)
  have HR := Lib.hid (r15Take_nil at_ key n w0)
  have HL0 := Lib.hid (fun w => hLimit_nil key w)
  have HL1 := Lib.hid (fun w => r15Limit_nil key w)
  have HK0 := Lib.hid (fun w => hKept_nil w)
  have HK1 := Lib.hid (fun w => r15Kept_nil w)
  have HSM := Lib.hid (fun wx => same15_any (w := wx) none none 0 0 0 [] rfl (by omega) (Or.inl rfl) (Or.inl rfl))
  go_enter Tryz.func10, Tryz.ntmps10
  go_wp2_with (fail)
  clear hw0 hN
  refine HU.out.mono ?_
  rintro e wq ⟨rfl, hq⟩
  rw [hq]
  clear hq
  go_wp2_with (fail)
  refine HR.out.mono ?_
  rintro e wq ⟨rfl, hq⟩
  rw [hq]
  clear hq
  go_wp2_with (fail)
  refine wp_region_noPanic ?_
  refine wp_region_held_drew (S := (fun wx => wx.cell? ⟨N, 2, none⟩ = some (.string key))) (by kernel_rfl) ?_ (fun hHeld => ?_)
  · exact g2
  refine wpAnyH_take (i := 0) (v := ?_) rfl (by kernel_rfl) (by kernel_rfl) (by kernel_rfl) (fun _ _ _ h => h) (Or.inl ⟨by rfl, ?hy⟩) (by assumption) ?_
  case hy => intro w hSw; (try dsimp only at hSw); go_simp; try with_reducible rfl
  try simp only [Act.put, szA, szB, szC, szD, szE, szF]
  refine wpAnyH_take (i := 1) (v := ?_) rfl (by kernel_rfl) (by kernel_rfl) (by kernel_rfl) (fun _ _ _ h => h) (Or.inl ⟨by rfl, ?hy⟩) (by assumption) ?_
  case hy => intro w hSw; (try dsimp only at hSw); go_simp; try with_reducible rfl
  try simp only [Act.put, szA, szB, szC, szD, szE, szF]
  refine wpAnyH_take (i := 2) (v := ?_) rfl (by kernel_rfl) (by kernel_rfl) (by kernel_rfl) (fun _ _ _ h => h) (Or.inl ⟨by rfl, ?hy⟩) (by assumption) ?_
  case hy => intro w hSw; (try dsimp only at hSw); go_simp; try with_reducible rfl
  try simp only [Act.put, szA, szB, szC, szD, szE, szF]
  refine wpAnyH_take (i := 3) (v := ?_) rfl (by kernel_rfl) (by kernel_rfl) (by kernel_rfl) (fun _ _ _ h => h) (Or.inl ⟨by rfl, ?hy⟩) (by assumption) ?_
  case hy => intro w hSw; (try dsimp only at hSw); go_simp; try with_reducible rfl
  try simp only [Act.put, szA, szB, szC, szD, szE, szF]
  refine wpAnyH_take (i := 4) (v := ?_) rfl (by kernel_rfl) (by kernel_rfl) (by kernel_rfl) (fun _ _ _ h => h) (Or.inl ⟨by rfl, ?hy⟩) (by assumption) ?_
  case hy => intro w hSw; (try dsimp only at hSw); go_simp; try with_reducible rfl
  try simp only [Act.put, szA, szB, szC, szD, szE, szF]
  refine wpAnyH_take (i := 5) (v := ?_) rfl (by kernel_rfl) (by kernel_rfl) (by kernel_rfl) (fun _ _ _ h => h) (Or.inl ⟨by rfl, ?hy⟩) (by assumption) ?_
  case hy => intro w hSw; (try dsimp only at hSw); go_simp; try with_reducible rfl
  try simp only [Act.put, szA, szB, szC, szD, szE, szF]
  refine wpAnyH_take (i := 6) (v := ?_) rfl (by kernel_rfl) (by kernel_rfl) (by kernel_rfl) (fun _ _ _ h => h) (Or.inl ⟨by rfl, ?hy⟩) (by assumption) ?_
  case hy => intro w hSw; (try dsimp only at hSw); go_simp; try with_reducible rfl
  try simp only [Act.put, szA, szB, szC, szD, szE, szF]
  refine wpAnyH_take (i := 7) (v := ?_) rfl (by kernel_rfl) (by kernel_rfl) (by kernel_rfl) (fun _ _ _ h => h) (Or.inl ⟨by rfl, ?hy⟩) (by assumption) ?_
  case hy => intro w hSw; (try dsimp only at hSw); go_simp; try with_reducible rfl
  try simp only [Act.put, szA, szB, szC, szD, szE, szF]
  refine wpAnyH_take (i := 8) (v := ?_) rfl (by kernel_rfl) (by kernel_rfl) (by kernel_rfl) (fun _ _ _ h => h) (Or.inl ⟨by rfl, ?hy⟩) (by assumption) ?_
  case hy => intro w hSw; (try dsimp only at hSw); go_simp; try with_reducible rfl
  try simp only [Act.put, szA, szB, szC, szD, szE, szF]
  refine wpAnyH_take (i := 9) (v := ?_) rfl (by kernel_rfl) (by kernel_rfl) (by kernel_rfl) (fun _ _ _ h => h) (Or.inl ⟨by rfl, ?hy⟩) (by assumption) ?_
  case hy => intro w hSw; (try dsimp only at hSw); go_simp; try with_reducible rfl
  try simp only [Act.put, szA, szB, szC, szD, szE, szF]
  refine wpAnyH_take (i := 10) (v := ?_) rfl (by kernel_rfl) (by kernel_rfl) (by kernel_rfl) (fun _ _ _ h => h) (Or.inl ⟨by rfl, ?hy⟩) (by assumption) ?_
  case hy => intro w hSw; (try dsimp only at hSw); go_simp; try with_reducible rfl
  try simp only [Act.put, szA, szB, szC, szD, szE, szF]
  refine wpAnyH_take (i := 11) (v := ?_) rfl (by kernel_rfl) (by kernel_rfl) (by kernel_rfl) (fun _ _ _ h => h) (Or.inl ⟨by rfl, ?hy⟩) (by assumption) ?_
  case hy => intro w hSw; (try dsimp only at hSw); go_simp; try with_reducible rfl
  try simp only [Act.put, szA, szB, szC, szD, szE, szF]
  refine wpAnyH_take (i := 13) (v := ?_) rfl (by kernel_rfl) (by kernel_rfl) (by kernel_rfl) (fun _ _ _ h => h) (Or.inl ⟨by rfl, ?hy⟩) (by assumption) ?_
  case hy => intro w hSw; (try dsimp only at hSw); go_simp; try with_reducible rfl
  try simp only [Act.put, szA, szB, szC, szD, szE, szF]
  refine wpAnyH_take (i := 14) (v := ?_) rfl (by kernel_rfl) (by kernel_rfl) (by kernel_rfl) (fun _ _ _ h => h) (Or.inl ⟨by rfl, ?hy⟩) (by assumption) ?_
  case hy => intro w hSw; (try dsimp only at hSw); go_simp; try with_reducible rfl
  try simp only [Act.put, szA, szB, szC, szD, szE, szF]
  refine wpAnyH_take (i := 15) (v := ?_) rfl (by kernel_rfl) (by kernel_rfl) (by kernel_rfl) (fun _ _ _ h => h) (Or.inl ⟨by rfl, ?hy⟩) (by assumption) ?_
  case hy => intro w hSw; (try dsimp only at hSw); go_simp; try with_reducible rfl
  try simp only [Act.put, szA, szB, szC, szD, szE, szF]
  refine wpAnyH_ready (rs := [12]) (by kernel_rfl) (by simp) (AllReadyH.cons rfl (fun K hK => ?_) AllReadyH.nil)
  go_simp
  go_at_call 14; refine (HL0.out _).mono ?_
  rintro e wq ⟨rfl, hq⟩
  rw [hq]
  clear hq
  try (go_wp2_with fail)
  refine hK.out _ _ ?_ (fun hHeld => ?_)
  · exact hHeld
  clear hK K
  try simp only [Act.put, szA, szB, szC, szD, szE, szF]
  refine wpAnyH_ready (rs := [16]) (by kernel_rfl) (by simp) (AllReadyH.cons rfl (fun K hK => ?_) AllReadyH.nil)
  go_simp
  go_at_call 15; refine (HL1.out _).mono ?_
  rintro e wq ⟨rfl, hq⟩
  rw [hq]
  clear hq
  try (go_wp2_with fail)
  refine hK.out _ _ ?_ (fun hHeld => ?_)
  · exact hHeld
  clear hK K
  try simp only [Act.put, szA, szB, szC, szD, szE, szF]
  refine wpAnyH_take (i := 17) (v := ?_) rfl (by kernel_rfl) (by kernel_rfl) (by kernel_rfl) (fun _ _ _ h => h) (Or.inl ⟨by rfl, ?hy⟩) (by assumption) ?_
  case hy => intro w hSw; (try dsimp only at hSw); go_simp; try with_reducible rfl
  try simp only [Act.put, szA, szB, szC, szD, szE, szF]
  refine wpAnyH_take (i := 18) (v := ?_) rfl (by kernel_rfl) (by kernel_rfl) (by kernel_rfl) (fun _ _ _ h => h) (Or.inl ⟨by rfl, ?hy⟩) (by assumption) ?_
  case hy => intro w hSw; (try dsimp only at hSw); go_simp; try with_reducible rfl
  try simp only [Act.put, szA, szB, szC, szD, szE, szF]
  refine wpAnyH_take (i := 19) (v := ?_) rfl (by kernel_rfl) (by kernel_rfl) (by kernel_rfl) (fun _ _ _ h => h) (Or.inl ⟨by rfl, ?hy⟩) (by assumption) ?_
  case hy => intro w hSw; (try dsimp only at hSw); go_simp; try with_reducible rfl
  try simp only [Act.put, szA, szB, szC, szD, szE, szF]
  refine wpAnyH_take (i := 20) (v := ?_) rfl (by kernel_rfl) (by kernel_rfl) (by kernel_rfl) (fun _ _ _ h => h) (Or.inl ⟨by rfl, ?hy⟩) (by assumption) ?_
  case hy => intro w hSw; (try dsimp only at hSw); go_simp; try with_reducible rfl
  try simp only [Act.put, szA, szB, szC, szD, szE, szF]
  refine wpAnyH_take (i := 22) (v := ?_) rfl (by kernel_rfl) (by kernel_rfl) (by kernel_rfl) (fun _ _ _ h => h) (Or.inl ⟨by rfl, ?hy⟩) (by assumption) ?_
  case hy => intro w hSw; (try dsimp only at hSw); go_simp; try with_reducible rfl
  try simp only [Act.put, szA, szB, szC, szD, szE, szF]
  refine wpAnyH_ready (rs := [21]) (by kernel_rfl) (by simp) (AllReadyH.cons rfl (fun K hK => ?_) AllReadyH.nil)
  go_simp
  go_at_call 12; refine (HK0.out _).mono ?_
  rintro e wq ⟨rfl, hq⟩
  rw [hq]
  clear hq
  try (go_wp2_with fail)
  refine hK.out _ _ ?_ (fun hHeld => ?_)
  · exact hHeld
  clear hK K
  try simp only [Act.put, szA, szB, szC, szD, szE, szF]
  refine wpAnyH_ready (rs := [23]) (by kernel_rfl) (by simp) (AllReadyH.cons rfl (fun K hK => ?_) AllReadyH.nil)
  go_simp
  go_at_call 13; refine (HK1.out _).mono ?_
  rintro e wq ⟨rfl, hq⟩
  rw [hq]
  clear hq
  try (go_wp2_with fail)
  refine hK.out _ _ ?_ (fun hHeld => ?_)
  · exact hHeld
  clear hK K
  try simp only [Act.put, szA, szB, szC, szD, szE, szF]
  refine wpAnyH_ready (rs := [24]) (by kernel_rfl) (by simp) (AllReadyH.cons rfl (fun K hK => ?_) AllReadyH.nil)
  go_simp
  go_at_call 11; refine (HSM.out _).mono ?_; rintro e w6 ⟨rfl, hb6⟩
  have HB6 := Lib.hid (show Below w0.heap.size w0 w6 from (Below.refl _ _).drew.trans hb6)
  try (go_wp2_with fail)
  refine hK.out _ _ ?_ (fun hHeld => ?_)
  · exact (HB6.out.cell (p := ⟨N, 2, none⟩) HNZ.out).trans g2
  clear hK K
  try simp only [Act.put, szA, szB, szC, szD, szE, szF]
  refine wpAnyH_take (i := 25) (v := ?_) rfl (by kernel_rfl) (by kernel_rfl) (by kernel_rfl) (fun _ _ _ h => h) (Or.inl ⟨by rfl, ?hy⟩) (by assumption) ?_
  case hy => intro w hSw; (try dsimp only at hSw); go_simp; try with_reducible rfl
  try simp only [Act.put, szA, szB, szC, szD, szE, szF]
  refine wpAnyH_take (i := 26) (v := ?_) rfl (by kernel_rfl) (by kernel_rfl) (by kernel_rfl) (fun _ _ _ h => h) (Or.inl ⟨by rfl, ?hy⟩) (by assumption) ?_
  case hy => intro w hSw; (try dsimp only at hSw); go_simp; try with_reducible rfl
  try simp only [Act.put, szA, szB, szC, szD, szE, szF]
  refine wpAnyH_done (by kernel_rfl) ?_ _
  refine NoPanic.normal ?_
  go_wp2_with (fail)
  go_ret
  exact ⟨rfl, HB.out.trans (HB6.out.mono HB.out.size)⟩
end Go.Proofs.YtemlafbkkaloiaaGreat
namespace Go.Proofs.YtemlafbkkaloiaaGreat
open Go.ChangeShapes Go.WideShapes Go.ChangeAt Go.RowKit Go.Deep
structure SetS where
  R : HotS
  keys : Int
  seed : Int
def SetS.cs (x : SetS) : Array Value := #[.string x.R.res, .int .i64 x.R.idx, .int .i64 x.R.cnt, .int .i64 x.R.secs, .slice x.R.ia x.R.il x.R.ic, .int .i64 x.keys, .int .u64 x.seed]
def SetS.v (x : SetS) : Value := .agg x.cs
structure SetAt (w : World) (x : SetS) : Prop where
  ok : HotOk w x.R
  s0 : 0 ≤ x.seed
  s1 : x.seed ≤ 18446744073709551615
theorem SetAt.below {w w' : World} {x : SetS} (h : SetAt w x) (hb : Below w.heap.size w w') : SetAt w' x := ⟨h.ok.below (Nat.le_refl _) hb, h.s0, h.s1⟩
theorem wf_u64 {n : Int} (h : (Lit.int .u64 n).wf = true) : 0 ≤ n ∧ n ≤ 18446744073709551615 := by
  simp only [Lit.wf, IntKind.min, IntKind.max, IntKind.signed, IntKind.bits, Bool.and_eq_true, decide_eq_true_eq] at h
  simpa using h
theorem some_of_get {α : Type} {xs : List α} {n k : Nat} (h : xs.length = n) (hk : k < n) : ∃ y, xs[k]? = some y := ⟨_, List.getElem?_eq_getElem (by omega)⟩
set_option maxRecDepth 100000 in
theorem open_setting {H : Type} {enc : TypeId × Value → H} {W : World} {spare : Nat → Bool} {held : Bool} {base b0 : Nat} {r : Reach} {v : Value} {d : DataW H} {p : List MemPlace}
    (hval : Value.okWide Tryz.prog W r b0 27 v) (hd : DataW.Trod enc Tryz.prog W base spare held 27 v d p) (hsz : Sz 27 d) :
    ∃ x : SetS, v = x.v ∧ SetAt W x := by
  obtain ⟨cs, rfl, hsz1⟩ := okWide_struct Tryz.underlying27 hval
  have hC : Tryz.prog.cellsOf 27 = 7 := by kernel_rfl
  have hCH : Tryz.prog.cellsOf 24 = 5 := by kernel_rfl
  have hC1 : Tryz.prog.cellsOf 3 = 1 := by kernel_rfl
  have hC2 : Tryz.prog.cellsOf 25 = 1 := by kernel_rfl
  have hC3 : Tryz.prog.cellsOf 9 = 1 := by kernel_rfl
  have hC4 : Tryz.prog.cellsOf 22 = 1 := by kernel_rfl
  rw [hC] at hsz1
  obtain ⟨u0, u1, u2, u3, u4, u5, u6, rfl⟩ : ∃ u0 u1 u2 u3 u4 u5 u6, cs = #[u0, u1, u2, u3, u4, u5, u6] := by
    refine ⟨cs[0], cs[1], cs[2], cs[3], cs[4], cs[5], cs[6], ?_⟩
    apply Array.ext_getElem?
    intro j
    match j with
    | 0 => simp [Array.getElem?_eq_getElem (show 0 < cs.size by omega)]
    | 1 => simp [Array.getElem?_eq_getElem (show 1 < cs.size by omega)]
    | 2 => simp [Array.getElem?_eq_getElem (show 2 < cs.size by omega)]
    | 3 => simp [Array.getElem?_eq_getElem (show 3 < cs.size by omega)]
    | 4 => simp [Array.getElem?_eq_getElem (show 4 < cs.size by omega)]
    | 5 => simp [Array.getElem?_eq_getElem (show 5 < cs.size by omega)]
    | 6 => simp [Array.getElem?_eq_getElem (show 6 < cs.size by omega)]
    | j + 7 => rw [Array.getElem?_eq_none (by omega), Array.getElem?_eq_none (by simp)]
  obtain ⟨fuel, hf⟩ := hd
  obtain ⟨xs, n, _, hye, _, hxs, hff⟩ := DataW.trod_struct Tryz.underlying27 hf
  have hxs : xs.length = 3 := hxs
  have e1 : d = .agg (xs.map (·.1)) := (Prod.mk.inj hye).1
  rw [e1] at hsz
  obtain ⟨y0, hy0⟩ := some_of_get (k := 0) hxs (by omega)
  obtain ⟨y1, hy1⟩ := some_of_get (k := 1) hxs (by omega)
  obtain ⟨y2, hy2⟩ := some_of_get (k := 2) hxs (by omega)
  have f0 : DataW.trod enc Tryz.prog W base spare held n 24 [u0, u1, u2, u3, u4] = some y0 := by
    have h : DataW.trod enc Tryz.prog W base spare held n 24 (List.take (Tryz.prog.cellsOf 24) (List.drop 0 [u0, u1, u2, u3, u4, u5, u6])) = some y0 := (hff 0 _ rfl).trans hy0
    rw [hCH] at h
    exact h
  have f1 : DataW.trod enc Tryz.prog W base spare held n 3 [u5] = some y1 := by
    have h : DataW.trod enc Tryz.prog W base spare held n 3 (List.take (Tryz.prog.cellsOf 3) (List.drop 5 [u0, u1, u2, u3, u4, u5, u6])) = some y1 := (hff 1 _ rfl).trans hy1
    rw [hC1] at h
    exact h
  have f2 : DataW.trod enc Tryz.prog W base spare held n 25 [u6] = some y2 := by
    have h : DataW.trod enc Tryz.prog W base spare held n 25 (List.take (Tryz.prog.cellsOf 25) (List.drop 6 [u0, u1, u2, u3, u4, u5, u6])) = some y2 := (hff 2 _ rfl).trans hy2
    rw [hC2] at h
    exact h
  have z0 : Sz 24 y0.1 := sz_field Tryz.underlying27 hsz (k := 0) rfl (d := y0.1) (by simp [hy0])
  obtain ⟨ys, n2, _, hye2, _, hys, hgg⟩ := DataW.trod_struct Tryz.underlying24 f0
  have hys : ys.length = 5 := hys
  have e2 : y0.1 = .agg (ys.map (·.1)) := by rw [hye2]
  rw [e2] at z0
  obtain ⟨q0, hq0⟩ := some_of_get (k := 0) hys (by omega)
  obtain ⟨q1, hq1⟩ := some_of_get (k := 1) hys (by omega)
  obtain ⟨q2, hq2⟩ := some_of_get (k := 2) hys (by omega)
  obtain ⟨q3, hq3⟩ := some_of_get (k := 3) hys (by omega)
  obtain ⟨q4, hq4⟩ := some_of_get (k := 4) hys (by omega)
  have g0 : DataW.trod enc Tryz.prog W base spare held n2 9 [u0] = some q0 := by
    have h : DataW.trod enc Tryz.prog W base spare held n2 9 (List.take (Tryz.prog.cellsOf 9) (List.drop 0 [u0, u1, u2, u3, u4])) = some q0 := (hgg 0 _ rfl).trans hq0
    rw [hC3] at h
    exact h
  have g1 : DataW.trod enc Tryz.prog W base spare held n2 3 [u1] = some q1 := by
    have h : DataW.trod enc Tryz.prog W base spare held n2 3 (List.take (Tryz.prog.cellsOf 3) (List.drop 1 [u0, u1, u2, u3, u4])) = some q1 := (hgg 1 _ rfl).trans hq1
    rw [hC1] at h
    exact h
  have g2 : DataW.trod enc Tryz.prog W base spare held n2 3 [u2] = some q2 := by
    have h : DataW.trod enc Tryz.prog W base spare held n2 3 (List.take (Tryz.prog.cellsOf 3) (List.drop 2 [u0, u1, u2, u3, u4])) = some q2 := (hgg 2 _ rfl).trans hq2
    rw [hC1] at h
    exact h
  have g3 : DataW.trod enc Tryz.prog W base spare held n2 3 [u3] = some q3 := by
    have h : DataW.trod enc Tryz.prog W base spare held n2 3 (List.take (Tryz.prog.cellsOf 3) (List.drop 3 [u0, u1, u2, u3, u4])) = some q3 := (hgg 3 _ rfl).trans hq3
    rw [hC1] at h
    exact h
  have g4 : DataW.trod enc Tryz.prog W base spare held n2 22 [u4] = some q4 := by
    have h : DataW.trod enc Tryz.prog W base spare held n2 22 (List.take (Tryz.prog.cellsOf 22) (List.drop 4 [u0, u1, u2, u3, u4])) = some q4 := (hgg 4 _ rfl).trans hq4
    rw [hC4] at h
    exact h
  have z4 : Sz 22 q4.1 := sz_field Tryz.underlying24 z0 (k := 4) rfl (d := q4.1) (by simp [hq4])
  obtain ⟨kv, k0⟩ := recs_strZ (v := u0) Tryz.underlying9 g0
  have k1 := (recs_int (k := .i64) (v := u1) Tryz.underlying3 g1).1
  have k2 := (recs_int (k := .i64) (v := u2) Tryz.underlying3 g2).1
  have k3 := (recs_int (k := .i64) (v := u3) Tryz.underlying3 g3).1
  have k5 := (recs_int (k := .i64) (v := u5) Tryz.underlying3 f1).1
  have k6 := (recs_int (k := .u64) (v := u6) Tryz.underlying25 f2)
  obtain ⟨a, l, c, items, rfl, h1, h2, h3, h4, h5, h6⟩ := read_items (v := u4) g4 z4
  rw [kv, k1, k2, k3, k5, k6.1]
  exact ⟨⟨⟨strOf u0, intOf u1, intOf u2, intOf u3, a, l, c, items⟩, intOf u5, intOf u6⟩, rfl, ⟨k0, h1, h3, h2, h4, h5, h6⟩, (wf_u64 k6.2).1, (wf_u64 k6.2).2⟩
end Go.Proofs.YtemlafbkkaloiaaGreat
namespace Go.Proofs.YtemlafbkkaloiaaGreat
open Go.RowKit
def DeedsH (w : World) (a : Option Addr) (len : Nat) (K A : Nat → Int) (S : Nat → ByteArray) (C : Nat → Int) : Prop :=
  len = 0 ∨ ∃ b off, a = some ⟨b, off, none⟩ ∧ b < w.heap.size ∧ ∀ j, j < len → w.cell? ⟨b, off + j * 4, none⟩ = some (.int .i64 (K j)) ∧ w.cell? ⟨b, off + j * 4 + 1, none⟩ = some (.int .i64 (A j)) ∧ w.cell? ⟨b, off + j * 4 + 2, none⟩ = some (.string (S j)) ∧ w.cell? ⟨b, off + j * 4 + 3, none⟩ = some (.int .i64 (C j)) ∧ (S j).size ≤ maxLen
theorem deedsH_of {w : World} {a : Option Addr} {len : Nat} {V : Nat → Nat → Value} (hr : RecsAt w a 4 len V)
    (h0 : ∀ j, j < len → V j 0 = .int .i64 (intOf (V j 0)) ∧ (Lit.int .i64 (intOf (V j 0))).wf = true) (h1 : ∀ j, j < len → V j 1 = .int .i64 (intOf (V j 1)) ∧ (Lit.int .i64 (intOf (V j 1))).wf = true)
    (h2 : ∀ j, j < len → V j 2 = .string (strOf (V j 2)) ∧ (strOf (V j 2)).size ≤ maxLen) (h3 : ∀ j, j < len → V j 3 = .int .i64 (intOf (V j 3)) ∧ (Lit.int .i64 (intOf (V j 3))).wf = true) :
    DeedsH w a len (fun j => intOf (V j 0)) (fun j => intOf (V j 1)) (fun j => strOf (V j 2)) (fun j => intOf (V j 3)) := by
  rcases hr with h | ⟨b, off, rfl, hb, hc⟩
  · exact Or.inl h
  · refine Or.inr ⟨b, off, rfl, hb, fun j hj => ?_⟩
    have c0 := hc j hj 0 (by omega)
    have c1 := hc j hj 1 (by omega)
    have c2 := hc j hj 2 (by omega)
    have c3 := hc j hj 3 (by omega)
    rw [(h0 j hj).1] at c0
    rw [(h1 j hj).1] at c1
    rw [(h2 j hj).1] at c2
    rw [(h3 j hj).1] at c3
    exact ⟨c0, c1, c2, c3, (h2 j hj).2⟩
theorem DeedsH.get {w : World} {a : Option Addr} {len : Nat} {K A : Nat → Int} {S : Nat → ByteArray} {C : Nat → Int} (h : DeedsH w a len K A S C) {j : Nat} (hj : j < len) : ∃ b off, a = some ⟨b, off, none⟩ ∧ b < w.heap.size ∧ w.cell? ⟨b, off + j * 4, none⟩ = some (.int .i64 (K j)) ∧ w.cell? ⟨b, off + j * 4 + 1, none⟩ = some (.int .i64 (A j)) ∧ w.cell? ⟨b, off + j * 4 + 2, none⟩ = some (.string (S j)) ∧ w.cell? ⟨b, off + j * 4 + 3, none⟩ = some (.int .i64 (C j)) ∧ (S j).size ≤ maxLen := by
  rcases h with h | ⟨b, off, e, hb, hc⟩
  · omega
  · exact ⟨b, off, e, hb, hc j hj⟩
structure HtI (w wr : World) (c : HotC) (s : HotV) : Prop where
  hot : HotAt wr c s
  own : ∀ i, HOwn c s i → w.heap.size ≤ i
  bel : Below w.heap.size w wr
theorem HtI.below {w wr w' : World} {c : HotC} {s : HotV} (k : HtI w wr c s) (hb : Below wr.heap.size wr w') : HtI w w' c s := ⟨k.hot.below hb, k.own, k.bel.trans (hb.mono k.bel.size)⟩
theorem HtI.take {w wr w' : World} {c : HotC} {s s' : HotV} {at_ n : Int} {key : ByteArray} (k : HtI w wr c s) (t : TakePost wr c s at_ key n w' s') : HtI w w' c s' := by
  have hz := k.bel.size
  exact ⟨t.hot, fun i hi => by
    rcases t.own i hi with h | h
    · exact k.own i h
    · omega, k.bel.trans (t.off.below (B := w.heap.size) hz (fun i hi h => by have := k.own i h; omega))⟩
end Go.Proofs.YtemlafbkkaloiaaGreat
namespace Go.Proofs.YtemlafbkkaloiaaGreat
open Go.RowKit
theorem do15_any {w : World} {c : HotC} {s : HotV} {c' : R15C} {s' : R15V} {m : Nat} (p : Pair15 w c s c' s' m) (hm : m ≤ 899000) (kind at_ : Int) (key : ByteArray) (hk : key.size ≤ maxLen) (n : Int) :
    Calls Tryz.prog 10 #[.pointer (some ⟨c.hb, 0, none⟩), .pointer (some ⟨c'.hb, 0, none⟩), .agg #[.int .i64 kind, .int .i64 at_, .string key, .int .i64 n]] w fun e w' => e = .returned (.bool true) ∧ ∃ s1 s1', Pair15 w' c s1 c' s1' (m + 2) ∧ Off (POwn c s c' s') w w' ∧ ∀ i, POwn c s1 c' s1' i → POwn c s c' s' i ∨ w.heap.size ≤ i := by
  by_cases h0 : kind = 0
  · subst h0; exact do15_0 p hm at_ key hk n
  · by_cases h1 : kind = 1
    · subst h1; exact do15_1 p hm at_ key hk n
    · exact do15_2 p hm kind h0 h1 at_ key hk n
theorem do15n_any {w : World} (kind at_ : Int) (key : ByteArray) (n : Int) :
    Calls Tryz.prog 10 #[.pointer none, .pointer none, .agg #[.int .i64 kind, .int .i64 at_, .string key, .int .i64 n]] w fun e w' => e = .returned (.bool true) ∧ Below w.heap.size w w' := by
  by_cases h0 : kind = 0
  · subst h0; exact do15n_0 at_ key n
  · by_cases h1 : kind = 1
    · subst h1; exact do15n_1 at_ key n
    · exact do15n_2 kind h0 h1 at_ key n
set_option maxHeartbeats 12800000 in
set_option maxRecDepth 100000 in
theorem hotplays_walk {w : World} (x : SetS) (hx : SetAt w x) (a : Option Addr) (len cap : Nat) (hm : len ≤ 140737488351232) (K A : Nat → Int) (S : Nat → ByteArray) (C : Nat → Int) (hd : DeedsH w a len K A S C) :
    Calls Tryz.prog 3 #[x.v, .slice a len cap] w fun e w' => e = .returned (.bool true) ∧ Below w.heap.size w w' := by
  have HD := Lib.hid hd
  obtain ⟨N, hN⟩ : ∃ N, w.heap.size = N := ⟨_, rfl⟩
  have HN := Lib.hid hN
  have h0 : (w.alloc (.cells #[.string x.R.res, .int .i64 x.R.idx, .int .i64 x.R.cnt, .int .i64 x.R.secs, .slice x.R.ia x.R.il x.R.ic, .int .i64 x.keys, .int .u64 x.seed] 27)).heap[N]? = some (.cells #[.string x.R.res, .int .i64 x.R.idx, .int .i64 x.R.cnt, .int .i64 x.R.secs, .slice x.R.ia x.R.il x.R.ic, .int .i64 x.keys, .int .u64 x.seed] 27) := by rw [get_allocW, if_pos hN.symm]
  have hB : Below w.heap.size w (w.alloc (.cells #[.string x.R.res, .int .i64 x.R.idx, .int .i64 x.R.cnt, .int .i64 x.R.secs, .slice x.R.ia x.R.il x.R.ic, .int .i64 x.keys, .int .u64 x.seed] 27)) := (Below.refl _ _).alloc (Nat.le_refl _) _
  have HNW := hnew_any x.R (hx.below hB).ok x.keys x.seed hx.s0 hx.s1
  have HX := Lib.hid hx
  have HLV := Lib.hid (fun (w : World) => htlive_any w)
  clear hd hx
  unfold SetS.v SetS.cs
  obtain ⟨w0, hw0⟩ : ∃ w0, w.alloc (.cells #[.string x.R.res, .int .i64 x.R.idx, .int .i64 x.R.cnt, .int .i64 x.R.secs, .slice x.R.ia x.R.il x.R.ic, .int .i64 x.keys, .int .u64 x.seed] 27) = w0 := ⟨_, rfl⟩
  rw [hw0] at h0 hB HNW
  have HB := Lib.hid hB
  have H0 := Lib.hid h0
  have HNW := Lib.hid HNW
  have s0 : w0.cell? ⟨N, 0, none⟩ = some (.string x.R.res) := by simp only [World.cell?, h0]; rfl
  have s1 : w0.cell? ⟨N, 1, none⟩ = some (.int .i64 x.R.idx) := by simp only [World.cell?, h0]; rfl
  have s2 : w0.cell? ⟨N, 2, none⟩ = some (.int .i64 x.R.cnt) := by simp only [World.cell?, h0]; rfl
  have s3 : w0.cell? ⟨N, 3, none⟩ = some (.int .i64 x.R.secs) := by simp only [World.cell?, h0]; rfl
  have s4 : w0.cell? ⟨N, 4, none⟩ = some (.slice x.R.ia x.R.il x.R.ic) := by simp only [World.cell?, h0]; rfl
  have s5 : w0.cell? ⟨N, 5, none⟩ = some (.int .i64 x.keys) := by simp only [World.cell?, h0]; rfl
  have s6 : w0.cell? ⟨N, 6, none⟩ = some (.int .u64 x.seed) := by simp only [World.cell?, h0]; rfl
  have HNL := Lib.hid (show N < w0.heap.size from (Array.getElem?_eq_some_iff.1 h0).1)
  clear h0 hB
  go_enter Tryz.func3, Tryz.ntmps3
  go_wp2_with (fail)
  clear hw0 hN
  refine HNW.out.mono ?_
  rintro e w1 ⟨hb1, hno, hyes⟩
  have HB1 := Lib.hid hb1
  have hn1 := (hb1.block N HNL.out).trans H0.out
  have s0 : w1.cell? ⟨N, 0, none⟩ = some (.string x.R.res) := by simp only [World.cell?, hn1]; rfl
  have s1 : w1.cell? ⟨N, 1, none⟩ = some (.int .i64 x.R.idx) := by simp only [World.cell?, hn1]; rfl
  have s2 : w1.cell? ⟨N, 2, none⟩ = some (.int .i64 x.R.cnt) := by simp only [World.cell?, hn1]; rfl
  have s3 : w1.cell? ⟨N, 3, none⟩ = some (.int .i64 x.R.secs) := by simp only [World.cell?, hn1]; rfl
  have s4 : w1.cell? ⟨N, 4, none⟩ = some (.slice x.R.ia x.R.il x.R.ic) := by simp only [World.cell?, hn1]; rfl
  have s5 : w1.cell? ⟨N, 5, none⟩ = some (.int .i64 x.keys) := by simp only [World.cell?, hn1]; rfl
  have s6 : w1.cell? ⟨N, 6, none⟩ = some (.int .u64 x.seed) := by simp only [World.cell?, hn1]; rfl
  have HW1 := Lib.hid (HB.out.trans (hb1.mono HB.out.size))
  have HRN := Lib.hid (r15new_any x.R (HX.out.below HW1.out).ok x.keys x.seed HX.out.s0 HX.out.s1)
  clear hb1 hn1 HNW
  by_cases hE : newHE x.R x.keys = 0
  · obtain ⟨c, s, rfl, hn⟩ := hyes hE
    have HNH := Lib.hid hn
    clear hno hyes hn
    go_wp2_with (fail)
    refine HRN.out.mono ?_
    rintro e w2 ⟨hb2, hno, hyes⟩
    obtain ⟨c', s', rfl, hn⟩ := hyes hE
    have HP2 := Lib.hid (pair15_new HNH.out (Below.refl _ _) hn hb2 (by have h1 := HX.out.ok.l; have h2 := HX.out.ok.b; omega))
    have HW2 := Lib.hid (HW1.out.trans (hb2.mono HW1.out.size))
    have HOW := Lib.hid (show ∀ i, POwn c s c' s' i → w.heap.size ≤ i from fun i hi => by
      have h1 := HB.out.size
      have h2 := HB1.out.size
      rcases hi with h | h
      · have := HNH.out.own i h; omega
      · have := hn.own i h; omega)
    clear hno hyes hn hb2 HRN s0 s1 s2 s3 s4 s5 s6
    go_wp2_with (fail)
    refine (HLV.out w2).mono ?_
    rintro e w3 ⟨rfl, hb3⟩
    have HP3 := Lib.hid (HP2.out.below hb3)
    have HW3 := Lib.hid (HW2.out.trans (hb3.mono HW2.out.size))
    have HF3 := Lib.hid (hfork_any HP3.out.h)
    clear hb3 HLV
    go_wp2_with (fail)
    refine HF3.out.mono ?_
    rintro e w4 ⟨gc0, gs0, rfl, hf4⟩
    have HF4 := Lib.hid hf4
    have HG4 := Lib.hid (r15fork_any (HP3.out.r.below hf4.bel) (by omega) (HP3.out.r.few))
    clear hf4 HF3
    go_wp2_with (fail)
    refine HG4.out.mono ?_
    rintro e w5 ⟨gc0', gs0', rfl, hg5⟩
    have HBO := Lib.hid (Both15.made HP3.out HF4.out hg5 HW3.out HOW.out)
    clear hg5 HG4
    go_wp2_with (fail)
    go_loopw [9, 10, 11] (fun g t i wr => ∃ (j : Nat) (s1 : HotV) (s1' : R15V) (gc : HotC) (gs : HotV) (gc' : R15C) (gs' : R15V) (mq : Nat), j ≤ len ∧ j ≤ 80 ∧ mq ≤ 160 ∧ g = .pointer (some ⟨gc.hb, 0, none⟩) ∧ t = .pointer (some ⟨gc'.hb, 0, none⟩) ∧ i = .int .i64 j ∧ Hid (Both15 w wr c s1 c' s1' (2 * j) gc gs gc' gs' mq)) (fun _ _ i _ => 80 - (intOf i).toNat)
    case atStart => exact ⟨0, _, _, _, _, _, _, 0, Nat.zero_le _, Nat.zero_le _, Nat.zero_le _, rfl, rfl, rfl, HBO⟩
    case round =>
      clear HBO
      rename World => wr
      obtain ⟨j, s1, s1', gc, gs, gc', gs', mq, hj, hj8, hq, rfl, rfl, rfl, HB⟩ := hrel
      by_cases hlt : j < len ∧ j < 80
      · obtain ⟨hlt, h80⟩ := hlt
        obtain ⟨b, off, rfl, hbl, d0, d1, d2, d3, hsz⟩ := HD.out.get hlt
        have k0 : (0 : Int) ≤ j := by omega
        have k1 : (j : Int) < len := by omega
        have k2 : (j : Int) < 80 := by omega
        have HSZ := Lib.hid hsz
        generalize K j = kd at *
        generalize A j = at_ at *
        generalize S j = key at *
        generalize C j = n at *
        have HF := Lib.hid (hfork_any HB.out.p.h)
        have HBL := Lib.hid hbl
        have HDD := Lib.hid (And.intro d0 (And.intro d1 (And.intro d2 d3)))
        have d0 := (HB.out.bel.cell (p := ⟨b, off + j * 4, none⟩) hbl).trans d0
        have d1 := (HB.out.bel.cell (p := ⟨b, off + j * 4 + 1, none⟩) hbl).trans d1
        have d2 := (HB.out.bel.cell (p := ⟨b, off + j * 4 + 2, none⟩) hbl).trans d2
        have d3 := (HB.out.bel.cell (p := ⟨b, off + j * 4 + 3, none⟩) hbl).trans d3
        have HDO := Lib.hid (do15_any HB.out.p (by omega) kd at_ key HSZ.out n)
        go_wp2_with (fail)
        · clear d0 d1 d2 d3
          refine HF.out.mono ?_
          rintro e w6 ⟨gc2, gs2, rfl, hf6⟩
          have HF6 := Lib.hid hf6
          have HG6 := Lib.hid (r15fork_any (HB.out.p.r.below hf6.bel) (by omega) (HB.out.p.r.few))
          clear hf6 HF HDO
          go_wp2_with (fail)
          refine HG6.out.mono ?_
          rintro e w7 ⟨gc2', gs2', rfl, hg7⟩
          have HB7 := Lib.hid (Both15.made HB.out.p HF6.out hg7 HB.out.bel HB.out.at_)
          have d0 := (HB7.out.bel.cell (p := ⟨b, off + j * 4, none⟩) HBL.out).trans HDD.out.1
          have d1 := (HB7.out.bel.cell (p := ⟨b, off + j * 4 + 1, none⟩) HBL.out).trans HDD.out.2.1
          have d2 := (HB7.out.bel.cell (p := ⟨b, off + j * 4 + 2, none⟩) HBL.out).trans HDD.out.2.2.1
          have d3 := (HB7.out.bel.cell (p := ⟨b, off + j * 4 + 3, none⟩) HBL.out).trans HDD.out.2.2.2
          have HDO := Lib.hid (do15_any HB7.out.p (by omega) kd at_ key HSZ.out n)
          clear hg7 HG6
          go_wp2_with (fail)
          refine HDO.out.mono ?_
          rintro e w8 ⟨rfl, s2, s2', hp8, ho8, hown8⟩
          have HB8 := Lib.hid (HB7.out.step (hp8.more (show 2 * j + 2 ≤ 2 * (j + 1) by omega)) ho8 hown8)
          clear hp8 ho8 hown8 HDO d0 d1 d2 d3
          go_wp2_with (fail)
          exact ⟨⟨j + 1, _, _, _, _, _, _, 2 * j, by omega, by omega, by omega, rfl, rfl, by go_num, HB8⟩, by first | (simp [intOf]; done) | (simp [intOf]; omega)⟩
        · clear HF
          refine HDO.out.mono ?_
          rintro e w8 ⟨rfl, s2, s2', hp8, ho8, hown8⟩
          have HB8 := Lib.hid (HB.out.step (hp8.more (show 2 * j + 2 ≤ 2 * (j + 1) by omega)) ho8 hown8)
          clear hp8 ho8 hown8 HDO d0 d1 d2 d3
          go_wp2_with (fail)
          exact ⟨⟨j + 1, _, _, _, _, _, _, mq, by omega, by omega, by omega, rfl, rfl, by go_num, HB8⟩, by first | (simp [intOf]; done) | (simp [intOf]; omega)⟩
      · have kx : ((j : Int) < len ∧ ¬ (j : Int) < 80) ∨ ¬ (j : Int) < len := by omega
        have HKP := hKept_any HB.out.q.h
        have HA := Lib.hid HB.out.q.A
        obtain ⟨nL, hnL⟩ : ∃ nL, gs.L.length = nL := ⟨_, rfl⟩
        have HLN := Lib.hid (show gs'.A.length = nL by rw [← HA.out, pr_len]; exact hnL)
        have HNM := Lib.hid (show nL ≤ 4096 by have h1 := HLN.out; have h2 := HB.out.q.r.toRCore.map.small; omega)
        rw [hnL] at HKP
        have HKP := Lib.hid HKP
        clear hnL hlt
        rcases kx with ⟨k1, kx⟩ | kx
        all_goals
          go_wp2_with (fail)
          refine HKP.out.mono ?_
          rintro e w4 ⟨ak, ck, rfl, ho4, hb4⟩
          have HO4 := Lib.hid ho4
          have HB4 := Lib.hid hb4
          have HK1 := Lib.hid (r15kept_any (HB.out.q.r.below hb4).toRCore)
          clear ho4 hb4 HKP
          go_wp2_with (fail)
          refine HK1.out.mono ?_
          rintro e w5 ⟨v5, rfl, ho5, hb5⟩
          have HB5 := Lib.hid (show Below wr.heap.size wr w5 from HB4.out.trans (hb5.mono HB4.out.size))
          obtain ⟨a1, c1, e1, hs1, hl1⟩ := StrsAt.own (w := w5) (rowKept3 HO4.out (fun g e => hb5.block g (HO4.out.lt g e).2))
          obtain ⟨a2, c2, e2, hs2, hl2⟩ := StrsAt.own ho5
          rw [HA.out] at hs1 hl1
          rw [HLN.out] at e2
          subst e2
          injection e1 with e1 e3 e4
          have HSM := Lib.hid (same15_any (w := w5) ak a2 nL ck c2 (gs'.A.map (·.1)) hl1.symm (by have := HNM.out; omega) (by rw [e1]; exact hs1) hs2)
          clear hs1 hl1 hs2 hl2 e1 e3 e4 ho5 hb5 HK1
          go_wp2_with (fail)
          refine HSM.out.mono ?_
          rintro e w6 ⟨rfl, hb6⟩
          have HB6 := Lib.hid (show Below wr.heap.size wr w6 from HB5.out.trans (hb6.mono HB5.out.size))
          have HL0 := hLimit_any (HB.out.q.below HB6.out).h ⟨#[118, 105, 112]⟩
          rw [HB.out.q.lim] at HL0
          have HL0 := Lib.hid HL0
          clear hb6 HSM
          go_wp2_with (fail)
          refine HL0.out.mono ?_
          rintro e w7 ⟨rfl, hb7⟩
          have HB7 := Lib.hid (show Below wr.heap.size wr w7 from HB6.out.trans (hb7.mono HB6.out.size))
          have HL1 := Lib.hid (r15limit_any (HB.out.q.below HB7.out).r.toRCore HB.out.q.il ⟨#[118, 105, 112]⟩)
          clear hb7 HL0
          go_wp2_with (fail)
          refine HL1.out.mono ?_
          rintro e wq ⟨rfl, hq⟩
          rw [hq]
          clear hq
          go_wp2_with (fail)
          go_ret
          exact ⟨rfl, HB.out.bel.trans (HB7.out.mono HB.out.bel.size)⟩
  · obtain rfl := hno hE
    clear hno hyes
    go_wp2_with (fail)
    refine HRN.out.mono ?_
    rintro e w2 ⟨hb2, hno, hyes⟩
    obtain rfl := hno hE
    have HW2 := Lib.hid (HW1.out.trans (hb2.mono HW1.out.size))
    generalize newHE x.R x.keys = E at hE ⊢
    clear hno hyes hb2 HRN s0 s1 s2 s3 s4 s5 s6 hE
    go_wp2_with (fail)
    refine (HLV.out w2).mono ?_
    rintro e w3 ⟨rfl, hb3⟩
    have HW3 := Lib.hid (HW2.out.trans (hb3.mono HW2.out.size))
    have HF0 := Lib.hid (fun wx => hFork_nil wx)
    have HF1 := Lib.hid (fun wx => r15Fork_nil wx)
    have HK0 := Lib.hid (fun wx => hKept_nil wx)
    have HK1 := Lib.hid (fun wx => r15Kept_nil wx)
    have HL0 := Lib.hid (fun wx => hLimit_nil ⟨#[118, 105, 112]⟩ wx)
    have HL1 := Lib.hid (fun wx => r15Limit_nil ⟨#[118, 105, 112]⟩ wx)
    have HSM := Lib.hid (fun wx => same15_any (w := wx) none none 0 0 0 [] rfl (by omega) (Or.inl rfl) (Or.inl rfl))
    clear hb3 HLV
    go_wp2_with (fail)
    refine (HF0.out _).mono ?_
    rintro e wq ⟨rfl, hq⟩
    rw [hq]
    clear hq
    go_wp2_with (fail)
    refine (HF1.out _).mono ?_
    rintro e wq ⟨rfl, hq⟩
    rw [hq]
    clear hq
    go_wp2_with (fail)
    go_loopw [9, 10, 11] (fun g t i wr => ∃ (j : Nat), j ≤ len ∧ j ≤ 80 ∧ g = .pointer none ∧ t = .pointer none ∧ i = .int .i64 j ∧ Hid (Below w.heap.size w wr)) (fun _ _ i _ => 80 - (intOf i).toNat)
    case atStart => exact ⟨0, Nat.zero_le _, Nat.zero_le _, rfl, rfl, rfl, HW3⟩
    case round =>
      rename World => wr
      obtain ⟨j, hj, hj8, rfl, rfl, rfl, HB⟩ := hrel
      by_cases hlt : j < len ∧ j < 80
      · obtain ⟨hlt, h80⟩ := hlt
        obtain ⟨b, off, rfl, hbl, d0, d1, d2, d3, hsz⟩ := HD.out.get hlt
        have k0 : (0 : Int) ≤ j := by omega
        have k1 : (j : Int) < len := by omega
        have k2 : (j : Int) < 80 := by omega
        generalize K j = kd at *
        generalize A j = at_ at *
        generalize S j = key at *
        generalize C j = n at *
        have d0 := (HB.out.cell (p := ⟨b, off + j * 4, none⟩) hbl).trans d0
        have d1 := (HB.out.cell (p := ⟨b, off + j * 4 + 1, none⟩) hbl).trans d1
        have d2 := (HB.out.cell (p := ⟨b, off + j * 4 + 2, none⟩) hbl).trans d2
        have d3 := (HB.out.cell (p := ⟨b, off + j * 4 + 3, none⟩) hbl).trans d3
        have HDO := Lib.hid (do15n_any (w := wr) kd at_ key n)
        go_wp2_with (fail)
        · refine (HF0.out _).mono ?_
          rintro e wq ⟨rfl, hq⟩
          rw [hq]
          clear hq
          go_wp2_with (fail)
          refine (HF1.out _).mono ?_
          rintro e wq ⟨rfl, hq⟩
          rw [hq]
          clear hq
          go_wp2_with (fail)
          refine HDO.out.mono ?_
          rintro e w8 ⟨rfl, hb8⟩
          have HB8 := Lib.hid (HB.out.trans (hb8.mono HB.out.size))
          clear hb8 HDO d0 d1 d2 d3
          go_wp2_with (fail)
          exact ⟨⟨j + 1, by omega, by omega, rfl, rfl, by go_num, HB8⟩, by first | (simp [intOf]; done) | (simp [intOf]; omega)⟩
        · refine HDO.out.mono ?_
          rintro e w8 ⟨rfl, hb8⟩
          have HB8 := Lib.hid (HB.out.trans (hb8.mono HB.out.size))
          clear hb8 HDO d0 d1 d2 d3
          go_wp2_with (fail)
          exact ⟨⟨j + 1, by omega, by omega, rfl, rfl, by go_num, HB8⟩, by first | (simp [intOf]; done) | (simp [intOf]; omega)⟩
      · have kx : ((j : Int) < len ∧ ¬ (j : Int) < 80) ∨ ¬ (j : Int) < len := by omega
        clear hlt
        rcases kx with ⟨k1, kx⟩ | kx
        all_goals
          go_wp2_with (fail)
          refine (HK0.out _).mono ?_
          rintro e wq ⟨rfl, hq⟩
          rw [hq]
          clear hq
          go_wp2_with (fail)
          refine (HK1.out _).mono ?_
          rintro e wq ⟨rfl, hq⟩
          rw [hq]
          clear hq
          go_wp2_with (fail)
          refine (HSM.out _).mono ?_
          rintro e w7 ⟨rfl, hb7⟩
          have HB7 := Lib.hid hb7
          clear hb7
          go_wp2_with (fail)
          refine (HL0.out _).mono ?_
          rintro e wq ⟨rfl, hq⟩
          rw [hq]
          clear hq
          go_wp2_with (fail)
          refine (HL1.out _).mono ?_
          rintro e wq ⟨rfl, hq⟩
          rw [hq]
          clear hq
          go_wp2_with (fail)
          go_ret
          exact ⟨rfl, HB.out.trans (HB7.out.mono HB.out.size)⟩
theorem hotplays_law {w : World} (x : SetS) (hx : SetAt w x) (a : Option Addr) (len cap : Nat) (V : Nat → Nat → Value) (hm : len ≤ 140737488351232) (hr : RecsAt w a 4 len V) (hB : len * 40 ≤ 140737488351232)
    (h0 : ∀ j, j < len → V j 0 = .int .i64 (intOf (V j 0)) ∧ (Lit.int .i64 (intOf (V j 0))).wf = true) (h1 : ∀ j, j < len → V j 1 = .int .i64 (intOf (V j 1)) ∧ (Lit.int .i64 (intOf (V j 1))).wf = true)
    (h2 : ∀ j, j < len → V j 2 = .string (strOf (V j 2)) ∧ (strOf (V j 2)).size ≤ maxLen) (h3 : ∀ j, j < len → V j 3 = .int .i64 (intOf (V j 3)) ∧ (Lit.int .i64 (intOf (V j 3))).wf = true) :
    Calls Tryz.prog 3 #[x.v, .slice a len cap] w fun e w' => e = .returned (.bool true) ∧ Below w.heap.size w w' :=
  hotplays_walk x hx a len cap hm _ _ _ _ (deedsH_of hr h0 h1 h2 h3)
end Go.Proofs.YtemlafbkkaloiaaGreat
