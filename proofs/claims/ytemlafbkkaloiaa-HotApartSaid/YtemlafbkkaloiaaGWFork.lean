/- Texts of one chain, one behind the other: WFork, HtQa, HtQ. -/
import Derived.Test.YtemlafbkkaloiaaGWinF
import Derived.Test.YtemlafbkkaloiaaGLay2
import Derived.Test.YtemlafbkkaloiaaGLruK
import Derived.Test.YtemlafbkkaloiaaGSkFk
import Derived.Deep.RegionHeld3

/- window: Fork. -/
namespace Go.Proofs.Ytemlafbkkaloiaa
open Go.RowKit
set_option linter.unusedVariables false
set_option linter.unusedSimpArgs false

theorem mapV_lt_of {w : World} {k : TypeId} {b n : Nat} {f : Value → Option Value} (h : MapV w k b f n) : b < w.heap.size := h.lt
theorem ctm_clone {w : World} {m : Nat} {f : Int → Option CntS} (h : CtmAt w m f) : Calls Try.prog 56 #[.map (some m)] w fun e w' => e = .returned (.map (some w.heap.size)) ∧ CtmAt w' w.heap.size f ∧ Below w.heap.size w w' := by
  obtain ⟨hf, F, n, ⟨D, h1, h2, h3⟩, h4⟩ := h
  have hc : Calls Try.prog 56 #[.map (some m)] w _ := AnyW.maps_Clone_owns Try.lcloneM 3 selfR m n D w h1
  refine hc.mono ?_
  rintro e w' ⟨rfl, h5, _, h6⟩
  exact ⟨rfl, ⟨hf, F, n, ⟨D, h5, h2, h3⟩, h4⟩, h6⟩

set_option maxHeartbeats 3200000 in
set_option maxRecDepth 100000 in
theorem wfork_any {w : World} {p m : Nat} {W B last : Int} {notes : List NoteW} (h : WinN w p m W B last notes) :
    Calls Try.prog 28 #[.pointer (some ⟨p, 0, none⟩)] w fun e w' => e = .returned (.pointer (some ⟨w.heap.size, 0, none⟩)) ∧ WinN w' w.heap.size (w.heap.size + 1) W B last notes ∧ Below w.heap.size w w' := by
  obtain ⟨f, hw, hi⟩ := h.ex
  obtain ⟨c0, c1, c2, c3⟩ := hw.cells
  have hal : Below w.heap.size w (w.alloc (.cells #[.int .i64 W, .int .i64 B, .int .i64 last, .map (some m)] 110)) := (Below.refl _ _).alloc (Nat.le_refl _) _
  have hnb := new_blockS w (.cells #[.int .i64 W, .int .i64 B, .int .i64 last, .map (some m)] 110)
  have hzb : (w.alloc (.cells #[.int .i64 W, .int .i64 B, .int .i64 last, .map (some m)] 110)).heap.size = w.heap.size + 1 := by simp
  have HCL := ctm_clone (hw.map.kept (hal.block m hw.lt.2))
  rw [hzb] at HCL
  have HCL := Lib.hid HCL
  have a3 : (w.alloc (.cells #[.int .i64 W, .int .i64 B, .int .i64 last, .map (some m)] 110)).cell? ⟨p, 3, none⟩ = some (.map (some m)) := (World.cell?_alloc_lt w _ _ hw.lt.1).trans c3
  have HW := Lib.hid hw
  have HI := Lib.hid hi
  have HAL := Lib.hid (And.intro hal (And.intro hnb hzb))
  clear h hw hi hal hnb hzb
  go_enter Try.func28, Try.ntmps28
  go_wp2_with (fail)
  refine HCL.out.mono ?_
  rintro e w2 ⟨rfl, hm2, hb2⟩
  obtain ⟨hal, hnb, hzb⟩ := HAL.out
  have hn2 := (hb2.block w.heap.size (by omega)).trans hnb
  have c3 : w2.cell? ⟨w.heap.size, 3, none⟩ = some (.map (some m)) := by simp only [World.cell?, hn2]; rfl
  have f3 : w2.frozen? ⟨w.heap.size, 3, none⟩ = false := by simp only [World.frozen?, hn2]; simp
  have hz2 := hb2.size
  have HR := Lib.hid (show WinN (w2.setCell ⟨w.heap.size, 3, none⟩ (.map (some (w.heap.size + 1)))) w.heap.size (w.heap.size + 1) W B last notes from
    ⟨f, ⟨heap_setCell_same _ _ 3 _ _ _ hn2, hm2.kept (Below.heap_setCell _ _ _ _ (by show w.heap.size + 1 ≠ w.heap.size; omega)), by omega, HW.out.shape, HW.out.l0, HW.out.l1⟩, HI.out⟩)
  have HB := Lib.hid ((hal.trans (hb2.mono (by omega))).setCell (p := ⟨w.heap.size, 3, none⟩) (Nat.le_refl _) (.map (some (w.heap.size + 1))))
  clear hal hnb hzb hn2 hz2 hm2 hb2 HCL c0 c1 c2 a3
  go_wp2_with (fail)
  go_ret
  exact ⟨rfl, HR.out, HB.out⟩
end Go.Proofs.Ytemlafbkkaloiaa

/- hot: Fork's plain parts. -/
namespace Go.Proofs.Ytemlafbkkaloiaa
open Go.RowKit
set_option linter.unusedVariables false
set_option linter.unusedSimpArgs false

/-- What Fork gives. -/
structure ForkHot (w : World) (c : HotC) (s : HotV) (w' : World) (c2 : HotC) (s2 : HotV) : Prop where
  hot : HotAt w' c2 s2
  own : ∀ i, HOwn c2 s2 i → w.heap.size ≤ i
  bel : Below w.heap.size w w'
  R : c2.R = c.R
  N : c2.N = c.N
  seed : c2.seed = c.seed
  rows : pr s2.L = pr s.L
  vals : ∀ k, s2.V k = s.V k
  last : s2.last = s.last
  ls : s2.ls = s.ls
  sn : s2.sn = s.sn
theorem keyOf_strInv {key : Value} {kl : Lit} (h : keyOf Try.prog 9 key = some kl) : ∃ s : ByteArray, key = .string s ∧ s.size ≤ maxLen := by
  rw [keyOf_string under_str] at h
  cases key <;> simp [mapKey, under_str] at h
  exact ⟨_, rfl, h.1⟩
theorem grown_drewQ {w w' : World} {row : Option Nat} (h : w.grownBy w' row) : w.grownBy w'.drew row := by
  have hb := (Below.refl w'.heap.size w').drew
  exact ⟨hb.os.trans h.os, hb.tape.trans h.tape, hb.output.trans h.output, Nat.le_trans h.size hb.size, fun i hi hn => (hb.block i (Nat.lt_of_lt_of_le hi h.size)).trans (h.block i hi hn)⟩
theorem grown_reflQ (w : World) : w.grownBy w none := ⟨rfl, rfl, rfl, Nat.le_refl _, fun _ _ _ => rfl⟩
/-- The windows that are copied. -/
structure Copied (B0 : Nat) (wr : World) (W : Int) (WS : List HW) (todo : Value → Bool) (WS2 : List HW) : Prop where
  wins : ∀ y, y ∈ WS2 → WinN wr y.p y.m W 10 y.last y.notes
  from_ : ∀ y, y ∈ WS2 → ∃ x, x ∈ WS ∧ x.key = y.key ∧ x.last = y.last ∧ x.notes = y.notes
  keys : (WS2.map (·.key)).Nodup
  ps : (WS2.map (·.p)).Nodup
  at_ : ∀ y, y ∈ WS2 → B0 ≤ y.p ∧ B0 ≤ y.m
  col : ∃ f : Nat → Nat, ∀ y, y ∈ WS2 → f y.p = y.p ∧ f y.m = y.p
  todo1 : ∀ x, x ∈ WS → x.key.size ≤ maxLen → x.key ∈ WS2.map (·.key) ∨ todo (.string x.key) = true
  todo2 : ∀ y, y ∈ WS2 → todo (.string y.key) = false
theorem Copied.few {B0 : Nat} {wr : World} {W : Int} {WS : List HW} {todo : Value → Bool} {WS2 : List HW} (h : Copied B0 wr W WS todo WS2) : WS2.length ≤ WS.length := by
  have := nodup_le (WS2.map (·.key)) (WS.map (·.key)) h.keys (fun k hk => by
    obtain ⟨y, hy, rfl⟩ := List.mem_map.1 hk
    obtain ⟨x, hx, e, _⟩ := h.from_ y hy
    exact List.mem_map.2 ⟨x, hx, e⟩)
  simpa using this
theorem Copied.kept {B0 : Nat} {wr wn : World} {W : Int} {WS : List HW} {todo : Value → Bool} {WS2 : List HW} (h : Copied B0 wr W WS todo WS2) (hk : ∀ i, B0 ≤ i → i < wr.heap.size → wn.heap[i]? = wr.heap[i]?) : Copied B0 wn W WS todo WS2 :=
  ⟨fun y hy => (h.wins y hy).kept (hk _ (h.at_ y hy).1 (h.wins y hy).lt.1) (hk _ (h.at_ y hy).2 (h.wins y hy).lt.2), h.from_, h.keys, h.ps, h.at_, h.col, h.todo1, h.todo2⟩
theorem Copied.step {B0 : Nat} {wn wd : World} {W : Int} {WS : List HW} {todo : Value → Bool} {WS2 : List HW} (h : Copied B0 wn W WS todo WS2) (hb0 : B0 ≤ wn.heap.size) (hk : ∀ i, B0 ≤ i → i < wn.heap.size → wd.heap[i]? = wn.heap[i]?)
    {x : HW} (hx : x ∈ WS) (htd : todo (.string x.key) = true) (hw : WinN wd wn.heap.size (wn.heap.size + 1) W 10 x.last x.notes) :
    Copied B0 wd W WS (strikeV todo (.string x.key)) (WS2 ++ [⟨x.key, wn.heap.size, wn.heap.size + 1, x.last, x.notes⟩]) := by
  have h2 := h.kept hk
  have hnk : x.key ∉ WS2.map (·.key) := fun hm => by
    obtain ⟨y, hy, e⟩ := List.mem_map.1 hm
    have := h.todo2 y hy
    rw [e, htd] at this
    cases this
  refine ⟨fun y hy => ?_, fun y hy => ?_, ?_, ?_, fun y hy => ?_, ?_, fun z hz hs => ?_, fun y hy => ?_⟩
  · rcases List.mem_append.1 hy with hy | hy
    · exact h2.wins y hy
    · obtain rfl := List.mem_singleton.1 hy; exact hw
  · rcases List.mem_append.1 hy with hy | hy
    · exact h.from_ y hy
    · obtain rfl := List.mem_singleton.1 hy; exact ⟨x, hx, rfl, rfl, rfl⟩
  · rw [List.map_append, List.nodup_append]
    refine ⟨h.keys, by simp, fun a ha b hb e => ?_⟩
    simp at hb; subst hb; subst e; exact hnk ha
  · rw [List.map_append, List.nodup_append]
    refine ⟨h.ps, by simp, fun a ha b hb e => ?_⟩
    simp at hb; subst hb; subst e
    obtain ⟨y, hy, e⟩ := List.mem_map.1 ha
    have := (h.wins y hy).lt.1
    omega
  · rcases List.mem_append.1 hy with hy | hy
    · exact h.at_ y hy
    · obtain rfl := List.mem_singleton.1 hy; exact ⟨hb0, by show B0 ≤ wn.heap.size + 1; omega⟩
  · obtain ⟨f, hf⟩ := h.col
    refine ⟨fun i => if wn.heap.size ≤ i then wn.heap.size else f i, fun y hy => ?_⟩
    rcases List.mem_append.1 hy with hy | hy
    · obtain ⟨l1, l2⟩ := (h.wins y hy).lt
      simp only [if_neg (Nat.not_le.2 l1), if_neg (Nat.not_le.2 l2)]
      exact hf y hy
    · obtain rfl := List.mem_singleton.1 hy
      constructor
      · simp
      · simp
  · by_cases e : z.key = x.key
    · left; rw [e]; simp
    · rcases h.todo1 z hz hs with h1 | h1
      · left; simp only [List.map_append, List.mem_append]; exact Or.inl h1
      · right; rw [strikeV_other _ (fun he => e (by injection he))]; exact h1
  · rcases List.mem_append.1 hy with hy | hy
    · by_cases e : y.key = x.key
      · rw [e]; exact strikeV_same _ _
      · rw [strikeV_other _ (fun he => e (by injection he))]; exact h.todo2 y hy
    · obtain rfl := List.mem_singleton.1 hy; exact strikeV_same _ _
/-- The range under way. -/
structure FkHot (w0 wr : World) (c : HotC) (WS : List HW) (r m2 : Nat) (cnt : Nat) : Prop where
  src : ∃ F n todo, RangeV wr 9 c.mw r F n todo cnt ∧ (∀ k : ByteArray, k.size ≤ maxLen → F (.string k) = (findW WS k).map (fun x => .pointer (some ⟨x.p, 0, none⟩))) ∧
    ∃ WS2 G n2, MapV wr 9 m2 G n2 ∧ n2 ≤ WS2.length ∧ (∀ k : ByteArray, k.size ≤ maxLen → G (.string k) = (findW WS2 k).map (fun x => .pointer (some ⟨x.p, 0, none⟩))) ∧ Copied w0.heap.size wr c.W WS todo WS2
  off : Off (fun i => i = r ∨ i = m2) w0 wr
theorem FkHot.step {w0 wr wn wf wd : World} {c : HotC} {WS : List HW} {r m2 cnt' n2' : Nat} {F : Value → Option Value} {n : Nat} {todo : Value → Bool} {WS2 : List HW} {G : Value → Option Value} {x : HW}
    (hr : RangeV wn 9 c.mw r F n (strikeV todo (.string x.key)) cnt') (hF : ∀ k : ByteArray, k.size ≤ maxLen → F (.string k) = (findW WS k).map (fun x => .pointer (some ⟨x.p, 0, none⟩)))
    (hm : MapV wd 9 m2 (updV G (.string x.key) (some (.pointer (some ⟨wn.heap.size, 0, none⟩)))) n2') (hn : n2' ≤ WS2.length + 1)
    (hG : ∀ k : ByteArray, k.size ≤ maxLen → G (.string k) = (findW WS2 k).map (fun x => .pointer (some ⟨x.p, 0, none⟩))) (hc : Copied w0.heap.size wr c.W WS todo WS2)
    (hx : x ∈ WS) (htd : todo (.string x.key) = true) (ho : Off (fun i => i = r ∨ i = m2) w0 wr) (hg1 : wr.grownBy wn (some r)) (hbf : Below wn.heap.size wn wf) (hw : WinN wf wn.heap.size (wn.heap.size + 1) c.W 10 x.last x.notes) (hg2 : wf.grownBy wd (some m2))
    (hne : m2 ≠ c.mw) (hmr : m2 ≠ r) (hm0 : m2 < w0.heap.size) (hr0 : r < w0.heap.size) : FkHot w0 wd c WS r m2 cnt' := by
  have hz1 := hg1.size
  have hz0 := ho.size
  have hkn : ∀ i, w0.heap.size ≤ i → i < wr.heap.size → wn.heap[i]? = wr.heap[i]? := fun i h1 h2 => hg1.block i h2 (fun e => by injection e with e; omega)
  have hkd : ∀ i, w0.heap.size ≤ i → i < wn.heap.size → wd.heap[i]? = wn.heap[i]? := fun i h1 h2 => (hg2.block i (Nat.lt_of_lt_of_le h2 hbf.size) (fun e => by injection e with e; omega)).trans (hbf.block i h2)
  have hlt := hw.lt
  have hwd : WinN wd wn.heap.size (wn.heap.size + 1) c.W 10 x.last x.notes := hw.kept (hg2.block _ hlt.1 (fun e => by injection e with e; omega)) (hg2.block _ hlt.2 (fun e => by injection e with e; omega))
  have hcs := (hc.kept hkn).step (Nat.le_trans hz0 hz1) hkd hx htd hwd
  have hnf : findW WS2 x.key = none := findW_none.2 (fun hm => by
    obtain ⟨y, hy, e⟩ := List.mem_map.1 hm
    have := hc.todo2 y hy
    rw [e, htd] at this
    cases this)
  have hgf : wn.grownBy wf none := ⟨hbf.os, hbf.tape, hbf.output, hbf.size, fun i hi _ => hbf.block i hi⟩
  refine ⟨⟨F, n, _, (hr.kept hgf (by simp) (by simp)).kept hg2 (fun e => by injection e with e; omega) (fun e => by injection e with e; omega), hF, _, _, _, hm, by simpa using hn, fun k hk => ?_, hcs⟩, ?_⟩
  · rw [findW_snoc]
    by_cases e : x.key = k
    · subst e
      rw [updV_same, hnf]; simp
    · rw [updV_other _ _ (fun he => e (by injection he with he; exact he.symm)), hG k hk, if_neg e]; simp
  · have h1 := ho.grown hg1 (fun _ => Or.inl rfl)
    have h2 : Off (fun i => i = r ∨ i = m2) w0 wf := ⟨hbf.os.trans h1.os, hbf.tape.trans h1.tape, hbf.output.trans h1.output, Nat.le_trans h1.size hbf.size, fun i hi hn => (hbf.block i (Nat.lt_of_lt_of_le hi h1.size)).trans (h1.block i hi hn)⟩
    exact h2.grown hg2 (fun _ => Or.inr rfl)
theorem HotAt.small {w : World} {c : HotC} {s : HotV} (k : HotAt w c s) {x : HW} (hx : x ∈ s.WS) : x.key.size ≤ maxLen := by
  have h1 := k.same x.key
  rw [findW_some k.keys hx] at h1
  simp only [Option.isSome_some, hasA, List.any_eq_true, decide_eq_true_eq] at h1
  obtain ⟨p, hp, e⟩ := h1
  obtain ⟨y, hy, rfl⟩ := List.mem_map.1 hp
  rw [← e]
  exact k.lru.body.small y hy
theorem copied_find {B0 : Nat} {wr : World} {W : Int} {WS WS2 : List HW} {todo : Value → Bool} (h : Copied B0 wr W WS todo WS2) (hk : (WS.map (·.key)).Nodup) (hs : ∀ x, x ∈ WS → x.key.size ≤ maxLen) (ht : ∀ key kl, keyOf Try.prog 9 key = some kl → todo key = false) (k : ByteArray) :
    (findW WS2 k).map (·.notes) = (findW WS k).map (·.notes) := by
  cases hf : findW WS k with
  | none =>
    have : findW WS2 k = none := findW_none.2 (fun hm => by
      obtain ⟨y, hy, e⟩ := List.mem_map.1 hm
      obtain ⟨x, hx, e2, _⟩ := h.from_ y hy
      exact findW_none.1 hf (List.mem_map.2 ⟨x, hx, e2.trans e⟩))
    rw [this]
  | some x =>
    obtain ⟨hx, rfl⟩ := findW_mem hf
    have hin : x.key ∈ WS2.map (·.key) := by
      rcases h.todo1 x hx (hs x hx) with h1 | h1
      · exact h1
      · rw [ht _ _ (skeyOf (hs x hx))] at h1; cases h1
    obtain ⟨y, hy, e⟩ := List.mem_map.1 hin
    obtain ⟨x2, hx2, e2, _, e4⟩ := h.from_ y hy
    have h5 := findW_some hk hx2
    rw [e2.trans e] at h5
    rw [hf] at h5
    obtain rfl : x = x2 := by injection h5
    have h6 := findW_some h.keys hy
    rw [show y.key = x.key from e] at h6
    rw [h6]
    simp [e4]
set_option maxHeartbeats 1600000 in
theorem hot_forked {w wr : World} {c : HotC} {s : HotV} (k : HotAt w c s) {sb2 m2 z2 z3 B0 n : Nat} {L2 : List LNode} {v3 : Value} {bs3 : List BkS} {WS2 : List HW} {todo : Value → Bool} {G : Value → Option Value} (hB : Below w.heap.size w wr)
    (hd : wr.heap[w.heap.size]? = some (.cells #[.string c.R.res, .int .i64 c.R.idx, .int .i64 c.R.cnt, .int .i64 c.R.secs, .slice c.R.ia c.R.il c.R.ic, .pointer (some ⟨w.heap.size + 1 + 1, 0, none⟩), .map (some m2), .pointer (some ⟨sb2, 0, none⟩), .int .i64 s.last] 57))
    (hl : Lru wr (w.heap.size + 1 + 1) (w.heap.size + 1) c.N L2) (hpr : pr L2 = pr s.L) (ho : ∀ b, Lown (w.heap.size + 1 + 1) (w.heap.size + 1) L2 b → w.heap.size + 1 ≤ b ∧ b < z2)
    (hk : SkAt wr sb2 c.sh s.ls v3 bs3) (ha : bs3.map BkS.a = s.bs.map BkS.a) (hso : ∀ b, SkOwn sb2 v3 bs3 b → z2 ≤ b ∧ b < z3) (hz : w.heap.size + 1 ≤ z2) (hz2 : z2 ≤ z3) (hm2 : m2 = z3) (hb0 : z3 < B0)
    (hm : MapV wr 9 m2 G n) (hn : n ≤ WS2.length) (hG : ∀ k : ByteArray, k.size ≤ maxLen → G (.string k) = (findW WS2 k).map (fun x => .pointer (some ⟨x.p, 0, none⟩))) (hc : Copied B0 wr c.W s.WS todo WS2) (ht : ∀ key kl, keyOf Try.prog 9 key = some kl → todo key = false) :
    ForkHot w c s wr ⟨c.R, c.seed, w.heap.size, w.heap.size + 1 + 1, w.heap.size + 1, c.N, m2, sb2⟩ ⟨L2, WS2, s.last, s.ls, s.sn, v3, bs3⟩ := by
  have kb := k.below hB
  have hfd := copied_find hc k.keys (fun x hx => k.small hx) ht
  refine ⟨⟨⟨hd, kb.ok, k.fine, kb.ilt, hl, ⟨G, n, hm, hn, hG⟩, fun x hx => ⟨hc.wins x hx, ?_⟩, ⟨hk, by rw [ha]; exact k.sk.inv⟩, k.lsl, ?_, k.l0, k.l1, hc.keys, hc.ps, k.s0, k.s1, ?_⟩, fun q => ?_, Nat.le_trans hc.few k.few⟩, fun i hi => ?_, hB, rfl, rfl, rfl, hpr, hfd, rfl, rfl, rfl⟩
  · obtain ⟨y, hy, _, e, _⟩ := hc.from_ x hx
    rw [← e]
    exact (k.wins y hy).2
  · have := congrArg List.length ha
    simp only [List.length_map] at this
    rw [this]
    exact k.skf
  · obtain ⟨f, hf⟩ := hc.col
    refine ⟨fun i => if i < w.heap.size then 5 else if i = w.heap.size then 4 else if i < z2 then 1 else if i < z3 then 2 else if i = z3 then 3 else 6 + f i, ⟨fun i hi => ?_, fun i hi => ?_, ?_, ?_, fun g off e => ?_, fun x hx => ?_⟩⟩
    · have := ho i hi
      try simp only
      rw [if_neg (by omega), if_neg (by omega), if_pos this.2]
    · have := hso i hi
      try simp only
      rw [if_neg (by omega), if_neg (by omega), if_neg (by omega), if_pos this.2]
    · show (if m2 < w.heap.size then 5 else if m2 = w.heap.size then 4 else if m2 < z2 then 1 else if m2 < z3 then 2 else if m2 = z3 then 3 else 6 + f m2) = 3
      rw [if_neg (by omega), if_neg (by omega), if_neg (by omega), if_neg (by omega), if_pos hm2]
    · simp
    · have := k.ilt g off e
      try simp only
      rw [if_pos this]
    · have h1 := hc.at_ x hx
      have h2 := hf x hx
      try simp only
      constructor
      · rw [if_neg (by omega), if_neg (by omega), if_neg (by omega), if_neg (by omega), if_neg (by omega), h2.1]
      · rw [if_neg (by omega), if_neg (by omega), if_neg (by omega), if_neg (by omega), if_neg (by omega), h2.2]
  · have h1 := congrArg Option.isSome (hfd q)
    simp only [Option.isSome_map] at h1
    show hasA (pr L2) q = (findW WS2 q).isSome
    rw [hpr, h1]
    exact k.same q
  · rcases hi with h | h | h | h | ⟨x, hx, h⟩
    · have := ho i h; omega
    · have := hso i h; omega
    · have : i = m2 := h
      omega
    · have : i = w.heap.size := h
      omega
    · have := hc.at_ x hx
      rcases h with h | h <;> omega
end Go.Proofs.Ytemlafbkkaloiaa

/- hot: Fork. -/
namespace Go.Proofs.Ytemlafbkkaloiaa
open Go.RowKit
set_option linter.unusedVariables false
set_option linter.unusedSimpArgs false

set_option maxHeartbeats 12800000 in
set_option maxRecDepth 100000 in
theorem hfork_any {w : World} {c : HotC} {s : HotV} (k : HotAt w c s) :
    Calls Try.prog 13 #[.pointer (some ⟨c.hb, 0, none⟩)] w fun e w' => ∃ c2 s2, e = .returned (.pointer (some ⟨c2.hb, 0, none⟩)) ∧ ForkHot w c s w' c2 s2 := by
  obtain ⟨c0, c1, c2, c3, c4, c5, c6, c7, c8⟩ := k.cells
  have K := Lib.hid k
  have hbl := k.hbLt
  have halw : Below w.heap.size w (w.alloc (.cells (hotCells c s.last) 57)) := (Below.refl _ _).alloc (Nat.le_refl _) _
  have hzw : (w.alloc (.cells (hotCells c s.last) 57)).heap.size = w.heap.size + 1 := by simp
  have hnw := new_blockS w (.cells (hotCells c s.last) 57)
  have HLF := lfork_any ((k.below halw).below ((Below.refl _ _).drew)).lru
  rw [show (w.alloc (.cells (hotCells c s.last) 57)).drew.heap.size = w.heap.size + 1 from hzw] at HLF
  have HLF := Lib.hid HLF
  have HSF := Lib.hid (show ∀ w2, Below (w.heap.size + 1) (w.alloc (.cells (hotCells c s.last) 57)).drew w2 → Calls Try.prog 27 #[.pointer (some ⟨c.sb, 0, none⟩)] w2 _ from fun w2 h2 => skfork_any ((k.below halw).below ((Below.refl _ _).drew.trans (h2.mono (by rw [hzw]; exact Nat.le_refl _)))).sk.at_ k.skf)
  have HS2 := Lib.hid (show ∀ w2, Below (w.heap.size + 1) (w.alloc (.cells (hotCells c s.last) 57)).drew w2 → (fun wx => wx.cell? ⟨c.hb, 5, none⟩ = some (.pointer (some ⟨c.B, 0, none⟩)) ∧ wx.cell? ⟨c.hb, 7, none⟩ = some (.pointer (some ⟨c.sb, 0, none⟩))) w2 from fun w2 h2 => by
    obtain ⟨_, _, _, _, _, q5, _, q7, _⟩ := ((k.below halw).below ((Below.refl _ _).drew.trans (h2.mono (by rw [hzw]; exact Nat.le_refl _)))).cells
    exact ⟨q5, q7⟩)
  have HS0 := Lib.hid (HS2.out _ (Below.refl _ _))
  have HS3 := Lib.hid (show ∀ w2 w3, Below (w.heap.size + 1) (w.alloc (.cells (hotCells c s.last) 57)).drew w2 → Below w2.heap.size w2 w3 → (fun wx => wx.cell? ⟨c.hb, 5, none⟩ = some (.pointer (some ⟨c.B, 0, none⟩)) ∧ wx.cell? ⟨c.hb, 7, none⟩ = some (.pointer (some ⟨c.sb, 0, none⟩))) w3 from fun w2 w3 h2 h3 => HS2.out w3 (h2.trans (h3.mono (by have := h2.size; rw [show (w.alloc (.cells (hotCells c s.last) 57)).drew.heap.size = w.heap.size + 1 from hzw] at this; exact this))))
  have HNE := Lib.hid (show (⟨w.heap.size, 5, none⟩ : Addr) ≠ ⟨c.hb, 5, none⟩ from fun e => by injection e with e; omega)
  have HNE7 := Lib.hid (show (⟨w.heap.size, 5, none⟩ : Addr) ≠ ⟨c.hb, 7, none⟩ from fun e => by injection e with e; omega)
  have HNE5 := Lib.hid (show (⟨w.heap.size, 7, none⟩ : Addr) ≠ ⟨c.hb, 5, none⟩ from fun e => by injection e with e; omega)
  have HNE77 := Lib.hid (show (⟨w.heap.size, 7, none⟩ : Addr) ≠ ⟨c.hb, 7, none⟩ from fun e => by injection e with e; omega)
  have HZW := Lib.hid (And.intro halw (And.intro hzw hnw))
  have HBL := Lib.hid hbl
  unfold hotCells at HLF HSF HS2 HS0 HS3 HZW
  clear k halw hzw hnw hbl
  go_enter Try.func13, Try.ntmps13
  go_wp2_with (fail)
  refine wp_region_noPanic ?_
  refine wp_region_held_drew (S := (fun wx => wx.cell? ⟨c.hb, 5, none⟩ = some (.pointer (some ⟨c.B, 0, none⟩)) ∧ wx.cell? ⟨c.hb, 7, none⟩ = some (.pointer (some ⟨c.sb, 0, none⟩)))) (by kernel_rfl) ?_ (fun hHeld => ?_)
  · exact HS0.out
  refine wpAnyH_take (i := 0) (v := ?_) rfl (by kernel_rfl) (by kernel_rfl) (by kernel_rfl) (fun _ _ _ h => h) (Or.inl ⟨by rfl, ?hy⟩) (by assumption) ?_
  case hy => intro w hSw; (try dsimp only at hSw); go_simp; try with_reducible rfl
  try simp only [Act.put, List.getElem_toArray, List.getElem_cons_succ, List.getElem_cons_zero, List.setIfInBounds_toArray, List.set_cons_zero, List.set_cons_succ]
  refine wpAnyH_take (i := 1) (v := ?_) rfl (by kernel_rfl) (by kernel_rfl) (by kernel_rfl) (fun _ _ _ h => h) (Or.inl ⟨by rfl, ?hy⟩) (by assumption) ?_
  case hy => intro w hSw; (try dsimp only at hSw); go_simp; try with_reducible rfl
  try simp only [Act.put, List.getElem_toArray, List.getElem_cons_succ, List.getElem_cons_zero, List.setIfInBounds_toArray, List.set_cons_zero, List.set_cons_succ]
  refine wpAnyH_take (i := 2) (v := ?_) rfl (by kernel_rfl) (by kernel_rfl) (by kernel_rfl) (fun _ _ _ h => h) (Or.inl ⟨by rfl, ?hy⟩) (by assumption) ?_
  case hy => intro w hSw; (try dsimp only at hSw); go_simp; try with_reducible rfl
  try simp only [Act.put, List.getElem_toArray, List.getElem_cons_succ, List.getElem_cons_zero, List.setIfInBounds_toArray, List.set_cons_zero, List.set_cons_succ]
  refine wpAnyH_take (i := 3) (v := ?_) rfl (by kernel_rfl) (by kernel_rfl) (by kernel_rfl) (fun _ _ _ h => h) (Or.inl ⟨by rfl, ?hy⟩) (by assumption) ?_
  case hy => intro w hSw; (try dsimp only at hSw); go_simp; try with_reducible rfl
  try simp only [Act.put, List.getElem_toArray, List.getElem_cons_succ, List.getElem_cons_zero, List.setIfInBounds_toArray, List.set_cons_zero, List.set_cons_succ]
  refine wpAnyH_take (i := 5) (v := ?_) rfl (by kernel_rfl) (by kernel_rfl) (by kernel_rfl) (fun _ _ _ h => h) (Or.inl ⟨by rfl, ?hy⟩) (by assumption) ?_
  case hy => intro w hSw; (try dsimp only at hSw); go_simp; try with_reducible rfl
  try simp only [Act.put, List.getElem_toArray, List.getElem_cons_succ, List.getElem_cons_zero, List.setIfInBounds_toArray, List.set_cons_zero, List.set_cons_succ]
  refine wpAnyH_take (i := 6) (v := ?_) rfl (by kernel_rfl) (by kernel_rfl) (by kernel_rfl) (fun _ _ _ h => h) (Or.inl ⟨by rfl, ?hy⟩) (by assumption) ?_
  case hy => intro w hSw; (try dsimp only at hSw); go_simp; try with_reducible rfl
  try simp only [Act.put, List.getElem_toArray, List.getElem_cons_succ, List.getElem_cons_zero, List.setIfInBounds_toArray, List.set_cons_zero, List.set_cons_succ]
  refine wpAnyH_take (i := 7) (v := ?_) rfl (by kernel_rfl) (by kernel_rfl) (by kernel_rfl) (fun _ _ _ h => h) (Or.inl ⟨by rfl, ?hy⟩) (by assumption) ?_
  case hy => intro w hSw; (try dsimp only at hSw); go_simp; try with_reducible rfl
  try simp only [Act.put, List.getElem_toArray, List.getElem_cons_succ, List.getElem_cons_zero, List.setIfInBounds_toArray, List.set_cons_zero, List.set_cons_succ]
  refine wpAnyH_take (i := 8) (v := ?_) rfl (by kernel_rfl) (by kernel_rfl) (by kernel_rfl) (fun _ _ _ h => h) (Or.inl ⟨by rfl, ?hy⟩) (by assumption) ?_
  case hy => intro w hSw; (try dsimp only at hSw); go_simp; try with_reducible rfl
  try simp only [Act.put, List.getElem_toArray, List.getElem_cons_succ, List.getElem_cons_zero, List.setIfInBounds_toArray, List.set_cons_zero, List.set_cons_succ]
  refine wpAnyH_ready (rs := [4]) (by kernel_rfl) (by simp) (AllReadyH.cons rfl (fun K hK => ?_) AllReadyH.nil)
  go_simp
  go_at_call 26; refine HLF.out.mono ?_; rintro e w2 ⟨rfl, L2, hl2, p2, hb2, ow2⟩
  try (go_wp2_with fail)
  refine hK.out _ _ ?_ (fun hHeld => ?_)
  · exact HS2.out w2 hb2
  clear hK K
  try simp only [Act.put, List.getElem_toArray, List.getElem_cons_succ, List.getElem_cons_zero, List.setIfInBounds_toArray, List.set_cons_zero, List.set_cons_succ]
  refine wpAnyH_ready (rs := [9]) (by kernel_rfl) (by simp) (AllReadyH.cons rfl (fun K hK => ?_) AllReadyH.nil)
  go_simp
  go_at_call 27; refine (HSF.out w2 hb2).mono ?_; rintro e w3 ⟨sb2, v3, bs3, rfl, hk3, ha3, hb3, ow3⟩
  obtain ⟨halw, hzw, hnw⟩ := HZW.out
  have hlt1 : w.heap.size < w2.heap.size := by
    have h9 := hb2.size
    have h8 : w.heap.size + 1 ≤ w2.heap.size := by rw [← hzw]; exact h9
    omega
  have hn3 := (hb3.block w.heap.size hlt1).trans ((hb2.block w.heap.size (Nat.lt_succ_self _)).trans hnw)
  have c35 : w3.cell? ⟨w.heap.size, 5, none⟩ = some (.pointer (some ⟨c.B, 0, none⟩)) := by simp only [World.cell?, hn3]; rfl
  have f35 : w3.frozen? ⟨w.heap.size, 5, none⟩ = false := by simp only [World.frozen?, hn3]; simp
  have hn4 := heap_setCell_same w3 w.heap.size 5 _ _ (.pointer (some ⟨w.heap.size + 1 + 1, 0, none⟩)) hn3
  have c47 : (w3.setCell ⟨w.heap.size, 5, none⟩ (.pointer (some ⟨w.heap.size + 1 + 1, 0, none⟩))).cell? ⟨w.heap.size, 7, none⟩ = some (.pointer (some ⟨c.sb, 0, none⟩)) := by simp only [World.cell?, hn4]; rfl
  have f47 : (w3.setCell ⟨w.heap.size, 5, none⟩ (.pointer (some ⟨w.heap.size + 1 + 1, 0, none⟩))).frozen? ⟨w.heap.size, 7, none⟩ = false := by simp only [World.frozen?, hn4]; simp
  have HN3 := Lib.hid (And.intro hlt1 hn3)
  clear halw hzw hnw hn3 hn4 hlt1
  try (go_wp2_with fail)
  refine hK.out _ _ ?_ (fun hHeld => ?_)
  · exact HS3.out w2 w3 hb2 hb3
  clear hK K
  try simp only [Act.put, List.getElem_toArray, List.getElem_cons_succ, List.getElem_cons_zero, List.setIfInBounds_toArray, List.set_cons_zero, List.set_cons_succ]
  refine wpAnyH_take (i := 10) (v := ?_) rfl (by kernel_rfl) (by kernel_rfl) (by kernel_rfl) (fun _ _ _ h => h) (Or.inl ⟨by rfl, ?hy⟩) (by assumption) ?_
  case hy => intro w hSw; (try dsimp only at hSw); go_simp; try with_reducible rfl
  try simp only [Act.put, List.getElem_toArray, List.getElem_cons_succ, List.getElem_cons_zero, List.setIfInBounds_toArray, List.set_cons_zero, List.set_cons_succ]
  refine wpAnyH_ready (rs := [11]) (by kernel_rfl) (by simp) (AllReadyH.cons rfl (fun K hK => ?_) AllReadyH.nil)
  go_simp
  skip
  try (go_wp2_with fail)
  refine hK.out _ _ ?_ (fun hHeld => ?_)
  · exact ⟨cell_far hHeld.1 HNE.out, cell_far hHeld.2 HNE7.out⟩
  clear hK K
  try simp only [Act.put, List.getElem_toArray, List.getElem_cons_succ, List.getElem_cons_zero, List.setIfInBounds_toArray, List.set_cons_zero, List.set_cons_succ]
  refine wpAnyH_take (i := 12) (v := ?_) rfl (by kernel_rfl) (by kernel_rfl) (by kernel_rfl) (fun _ _ _ h => h) (Or.inl ⟨by rfl, ?hy⟩) (by assumption) ?_
  case hy => intro w hSw; (try dsimp only at hSw); go_simp; try with_reducible rfl
  try simp only [Act.put, List.getElem_toArray, List.getElem_cons_succ, List.getElem_cons_zero, List.setIfInBounds_toArray, List.set_cons_zero, List.set_cons_succ]
  refine wpAnyH_ready (rs := [13]) (by kernel_rfl) (by simp) (AllReadyH.cons rfl (fun K hK => ?_) AllReadyH.nil)
  go_simp
  skip
  try (go_wp2_with fail)
  refine hK.out _ _ ?_ (fun hHeld => ?_)
  · exact ⟨cell_far hHeld.1 HNE5.out, cell_far hHeld.2 HNE77.out⟩
  clear hK K
  try simp only [Act.put, List.getElem_toArray, List.getElem_cons_succ, List.getElem_cons_zero, List.setIfInBounds_toArray, List.set_cons_zero, List.set_cons_succ]
  refine wpAnyH_done (by kernel_rfl) ?_ _
  refine NoPanic.normal ?_
  obtain ⟨hlt1, hn3⟩ := HN3.out
  have hn4 := heap_setCell_same w3 w.heap.size 5 _ _ (.pointer (some ⟨w.heap.size + 1 + 1, 0, none⟩)) hn3
  have hn5 : ((w3.setCell ⟨w.heap.size, 5, none⟩ (.pointer (some ⟨w.heap.size + 1 + 1, 0, none⟩))).setCell ⟨w.heap.size, 7, none⟩ (.pointer (some ⟨sb2, 0, none⟩))).heap[w.heap.size]? = some (.cells #[.string c.R.res, .int .i64 c.R.idx, .int .i64 c.R.cnt, .int .i64 c.R.secs, .slice c.R.ia c.R.il c.R.ic, .pointer (some ⟨w.heap.size + 1 + 1, 0, none⟩), .map (some c.mw), .pointer (some ⟨sb2, 0, none⟩), .int .i64 s.last] 57) := heap_setCell_same _ w.heap.size 7 _ _ (.pointer (some ⟨sb2, 0, none⟩)) hn4
  have hl5 : Lru ((w3.setCell ⟨w.heap.size, 5, none⟩ (.pointer (some ⟨w.heap.size + 1 + 1, 0, none⟩))).setCell ⟨w.heap.size, 7, none⟩ (.pointer (some ⟨sb2, 0, none⟩))) (w.heap.size + 1 + 1) (w.heap.size + 1) c.N L2 := (hl2.below hb3).kept (fun b hb => by
    have := ow2 b hb
    rw [heap_setCell_other _ _ _ _ (show b ≠ w.heap.size by omega), heap_setCell_other _ _ _ _ (show b ≠ w.heap.size by omega)])
  have hk5 : SkAt ((w3.setCell ⟨w.heap.size, 5, none⟩ (.pointer (some ⟨w.heap.size + 1 + 1, 0, none⟩))).setCell ⟨w.heap.size, 7, none⟩ (.pointer (some ⟨sb2, 0, none⟩))) sb2 c.sh s.ls v3 bs3 := hk3.kept (fun b hb => by
    have := ow3 b hb
    rw [heap_setCell_other _ _ _ _ (show b ≠ w.heap.size by omega), heap_setCell_other _ _ _ _ (show b ≠ w.heap.size by omega)])
  have hB5 : Below w.heap.size w ((w3.setCell ⟨w.heap.size, 5, none⟩ (.pointer (some ⟨w.heap.size + 1 + 1, 0, none⟩))).setCell ⟨w.heap.size, 7, none⟩ (.pointer (some ⟨sb2, 0, none⟩))) := by
    obtain ⟨halw, hzw, hnw⟩ := HZW.out
    exact ((((halw.drew).trans (hb2.mono (by omega))).trans (hb3.mono (by omega))).setCell (Nat.le_refl _) _).setCell (Nat.le_refl _) _
  have hz5 : ((w3.setCell ⟨w.heap.size, 5, none⟩ (.pointer (some ⟨w.heap.size + 1 + 1, 0, none⟩))).setCell ⟨w.heap.size, 7, none⟩ (.pointer (some ⟨sb2, 0, none⟩))).heap.size = w3.heap.size := by simp [World.setCell]
  generalize ((w3.setCell ⟨w.heap.size, 5, none⟩ (.pointer (some ⟨w.heap.size + 1 + 1, 0, none⟩))).setCell ⟨w.heap.size, 7, none⟩ (.pointer (some ⟨sb2, 0, none⟩))) = w5 at *
  have hmk : ∀ wx : World, (Instr.makeMap 54 none).run Try.prog wx = .ok (.map (some wx.heap.size)) (wx.alloc (.map #[] 0)) := fun wx => run_makeMap _ wx
  have HW2 := Lib.hid (show w.heap.size + 1 + 2 ≤ w2.heap.size ∧ w2.heap.size ≤ w3.heap.size from ⟨by have := hl2.lt (Or.inl rfl); omega, hb3.size⟩)
  have HSZ := Lib.hid hz5
  have HHN := Lib.hid hn5
  have HLR := Lib.hid (show Lru w5 (w.heap.size + 1 + 1) (w.heap.size + 1) c.N L2 ∧ pr L2 = pr s.L ∧ (∀ b, Lown (w.heap.size + 1 + 1) (w.heap.size + 1) L2 b → w.heap.size + 1 ≤ b ∧ b < w2.heap.size) from ⟨hl5, p2, fun b hb => ⟨ow2 b hb, hl2.lt hb⟩⟩)
  have HSKR := Lib.hid (show SkAt w5 sb2 c.sh s.ls v3 bs3 ∧ bs3.map BkS.a = s.bs.map BkS.a ∧ (∀ b, SkOwn sb2 v3 bs3 b → w2.heap.size ≤ b ∧ b < w3.heap.size) from ⟨hk5, ha3, fun b hb => ⟨ow3 b hb, hk3.lt hb⟩⟩)
  have hw6s := (Array.getElem?_eq_some_iff.1 hn5).1
  have h56 := (Below.heap_alloc w5 (.map #[] 0) w.heap.size hw6s).trans hn5
  have hn6 : ((w5.alloc (.map #[] 0)).setCell ⟨w.heap.size, 6, none⟩ (.map (some w5.heap.size))).heap[w.heap.size]? = some (.cells #[.string c.R.res, .int .i64 c.R.idx, .int .i64 c.R.cnt, .int .i64 c.R.secs, .slice c.R.ia c.R.il c.R.ic, .pointer (some ⟨w.heap.size + 1 + 1, 0, none⟩), .map (some w5.heap.size), .pointer (some ⟨sb2, 0, none⟩), .int .i64 s.last] 57) := heap_setCell_same _ w.heap.size 6 _ _ (.map (some w5.heap.size)) h56
  have hB6 : Below w.heap.size w ((w5.alloc (.map #[] 0)).setCell ⟨w.heap.size, 6, none⟩ (.map (some w5.heap.size))) := (hB5.alloc hB5.size _).setCell (Nat.le_refl _) _
  have hz6 : ((w5.alloc (.map #[] 0)).setCell ⟨w.heap.size, 6, none⟩ (.map (some w5.heap.size))).heap.size = w5.heap.size + 1 := by simp [World.setCell]
  have hm6 : MapV ((w5.alloc (.map #[] 0)).setCell ⟨w.heap.size, 6, none⟩ (.map (some w5.heap.size))) 9 w5.heap.size (fun _ => none) 0 := (mapV_made w5 _).kept (heap_setCell_other _ _ _ _ (show w5.heap.size ≠ w.heap.size by omega))
  have hl6 : Lru ((w5.alloc (.map #[] 0)).setCell ⟨w.heap.size, 6, none⟩ (.map (some w5.heap.size))) (w.heap.size + 1 + 1) (w.heap.size + 1) c.N L2 := (hl5.below ((Below.refl _ _).alloc (Nat.le_refl _) _)).kept (fun b hb => heap_setCell_other _ _ _ _ (show b ≠ w.heap.size by have := HLR.out.2.2 b hb; omega))
  have hk6 : SkAt ((w5.alloc (.map #[] 0)).setCell ⟨w.heap.size, 6, none⟩ (.map (some w5.heap.size))) sb2 c.sh s.ls v3 bs3 := (hk5.below ((Below.refl _ _).alloc (Nat.le_refl _) _)).kept (fun b hb => heap_setCell_other _ _ _ _ (show b ≠ w.heap.size by have := HSKR.out.2.2 b hb; have := HW2.out; omega))
  have k6 := K.out.below hB6
  have c66 := k6.cells.2.2.2.2.2.2.1
  obtain ⟨F, nF, h1F, _, h3F⟩ := k6.wmap
  obtain ⟨w7, hrun, hrg, hg7, hz7⟩ := h1F.range strKeyed under_mapW
  rw [hz6] at hrun hrg hz7
  have hFK : FkHot w7 w7 c s.WS (w5.heap.size + 1) w5.heap.size nF := by
    refine ⟨⟨F, nF, _, hrg, h3F, [], _, 0, hm6.grown hg7 (by simp), Nat.zero_le _, fun _ _ => rfl, ⟨by simp, by simp, by simp, by simp, by simp, ⟨id, by simp⟩, fun x hx hs => Or.inr ?_, by simp⟩⟩, Off.refl _ _⟩
    show (F (.string x.key)).isSome = true
    rw [h3F _ hs, findW_some K.out.keys hx]; rfl
  have hb67 : Below ((w5.alloc (.map #[] 0)).setCell ⟨w.heap.size, 6, none⟩ (.map (some w5.heap.size))).heap.size ((w5.alloc (.map #[] 0)).setCell ⟨w.heap.size, 6, none⟩ (.map (some w5.heap.size))) w7 := ⟨hg7.os, hg7.tape, hg7.output, hg7.size, fun i hi => hg7.block i hi (by simp)⟩
  have HFK := Lib.hid hFK
  have HB7 := Lib.hid (hB6.trans (hb67.mono hB6.size))
  have HN7 := Lib.hid ((hb67.block w.heap.size (by rw [hz6]; omega)).trans hn6)
  have HL7 := Lib.hid (show Lru w7 (w.heap.size + 1 + 1) (w.heap.size + 1) c.N L2 ∧ SkAt w7 sb2 c.sh s.ls v3 bs3 from ⟨hl6.below hb67, hk6.below hb67⟩)
  have HZ7 := Lib.hid (show w7.heap.size = w5.heap.size + 2 from hz7)
  have c56 : (w5.alloc (.map #[] 0)).cell? ⟨w.heap.size, 6, none⟩ = some (.map (some c.mw)) := by simp only [World.cell?, h56]; rfl
  have f56 : (w5.alloc (.map #[] 0)).frozen? ⟨w.heap.size, 6, none⟩ = false := by simp only [World.frozen?, h56]; simp
  have HMW := Lib.hid (show c.mw < w.heap.size from K.out.lt (Or.inr (Or.inr (Or.inl rfl))))
  clear hw6s h56 hn6 hB6 hz6 hm6 hl6 hk6 k6 h1F h3F hrg hg7 hz7 hFK hb67
  clear c35 f35 c47 f47
  clear HSF HS2 HS0 HS3 HLF HNE HNE7 HNE5 HNE77 HZW HN3 hlt1 hn3 hn4 hn5 hl5 hk5 hB5 hz5 hHeld c0 c1 c2 c3 c4 c5 c6 c7 c8 hl2 p2 hb2 ow2 hk3 ha3 hb3 ow3
  go_wp2_with (fail)
  obtain ⟨r0, hr0⟩ : ∃ r0, w5.heap.size + 1 = r0 := ⟨_, rfl⟩
  obtain ⟨m2, hm2⟩ : ∃ m2, w5.heap.size = m2 := ⟨_, rfl⟩
  obtain ⟨hb, hhb⟩ : ∃ hb, w.heap.size = hb := ⟨_, rfl⟩
  rw [hr0] at HFK ⊢
  rw [hm2] at HFK HN7
  simp only [hm2, hhb] at HN7 ⊢
  have HRM := Lib.hid (And.intro hr0 (And.intro hm2 hhb))
  clear hrun hmk c56 f56 c66 hr0 hm2 hhb
  go_loopw [4, 5] (fun _ _ wr => ∃ n', Hid (FkHot w7 wr c s.WS r0 m2 n')) (fun _ _ wr => wr.rangeLeft c.mw r0)
  case atStart => exact ⟨nF, HFK⟩
  case round =>
    rename World => wr
    obtain ⟨n', HF⟩ := hrel
    obtain ⟨⟨f2, kf, todo, hrv, hfv, WS2, G, n2, hmv, hn2, hG, hcp⟩, hoff⟩ := HF.out
    have hne : hb ≠ r0 ∧ hb ≠ m2 ∧ m2 ≠ r0 ∧ hb < m2 ∧ c.mw < hb ∧ r0 = m2 + 1 ∧ w7.heap.size = r0 + 1 := by
      obtain ⟨a1, a2, a3⟩ := HRM.out
      have b1 := HW2.out
      have b2 := HSZ.out
      have b3 := HMW.out
      have b4 := HZ7.out
      omega
    have hnr := hoff.block hb (by omega) (by intro h; omega)
    have hbr := hnr.trans HN7.out
    rcases hrv.next strKeyed 0 with ⟨hn0, hall, hnx⟩ | ⟨key, val, kl, wn, cnt', hkl, htd, hfk, hnx, hrn, hltn, hgn, hsn, hen⟩
    · have HEND := Lib.hid (And.intro hall (And.intro hmv (And.intro hn2 (And.intro hG (And.intro hcp (And.intro hoff (And.intro hbr hne)))))))
      clear hall hmv hn2 hG hcp hoff hbr hnr hrv hfv hne
      go_wp2_with (fail)
      go_ret
      obtain ⟨hall, hmv, hn2, hG, hcp, hoff, hbr, hne⟩ := HEND.out
      obtain ⟨a1, a2, rfl⟩ := HRM.out
      subst a2 a1
      have b1 := HW2.out
      have b2 := HSZ.out
      have b4 := HZ7.out
      have hkw : ∀ i, i < w5.heap.size → wr.heap[i]? = w7.heap[i]? := fun i hi => hoff.block i (by omega) (by intro h; omega)
      exact ⟨_, _, rfl, hot_forked K.out (HB7.out.trans (hoff.below (B := w.heap.size) HB7.out.size (fun i hi h => by omega))) hbr
        (HL7.out.1.kept (fun b hb => hkw b (by have := HLR.out.2.2 b hb; omega))) HLR.out.2.1 HLR.out.2.2 (HL7.out.2.kept (fun b hb => hkw b (by have := HSKR.out.2.2 b hb; omega))) HSKR.out.2.1 HSKR.out.2.2 (by omega) b1.2 b2 (by omega) hmv hn2 hG hcp (fun key kl hk => hall key kl hk)⟩
    · obtain ⟨ks, rfl, hks⟩ := keyOf_strInv hkl
      have hfk2 := hfk
      rw [hfv ks hks] at hfk2
      obtain ⟨x, hx, hval⟩ := Option.map_eq_some_iff.1 hfk2
      obtain ⟨hxm, rfl⟩ := findW_mem hx
      subst hval
      have hcn := (hgn.block hb (Nat.lt_of_lt_of_le (by omega) hoff.size) (fun e => by injection e with e; omega)).trans hbr
      have cn6 : wn.cell? ⟨hb, 6, none⟩ = some (.map (some m2)) := by simp only [World.cell?, hcn]; rfl
      have HLE := Lib.hid (show wr.rangeLeft c.mw r0 = n' ∧ cnt' < n' from ⟨hrv.left_eq, hltn⟩)
      have hwx := ((K.out.wins x hxm).1.below HB7.out)
      have hxl := (K.out.wins x hxm).1.lt
      have hxr := fun i (hi : i < hb) => (hgn.block i (Nat.lt_of_lt_of_le (by omega) hoff.size) (fun e => by injection e with e; omega)).trans (hoff.block i (by omega) (fun h => by omega))
      have HWX := Lib.hid (WinN.kept (w' := wn.drew) hwx (hxr _ (by have := HRM.out; omega)) (hxr _ (by have := HRM.out; omega)))
      clear hwx hxl hxr
      have HFW := Lib.hid K.out.few
      have HX := Lib.hid (And.intro hxm (And.intro hks (And.intro htd (And.intro (hrn.kept (grown_drewQ (grown_reflQ wn)) (by simp) (by simp)) (And.intro hltn (grown_drewQ hgn))))))
      have HM := Lib.hid (And.intro hfv (And.intro hmv (And.intro hn2 (And.intro hG (And.intro hcp (And.intro hoff (And.intro hbr hne)))))))
      clear hxm hks htd hrn hltn hgn hfv hmv hn2 hG hcp hoff hbr hne hfk hfk2 hx hkl hrv hnr hcn hsn
      go_wp2_with (fail)
      refine wp_region_noPanic ?_
      refine wp_region_held_drew (S := (fun wx => wx.cell? ⟨hb, 6, none⟩ = some (.map (some m2)))) (by kernel_rfl) ?_ (fun hHeld => ?_)
      · exact cn6
      refine wpAnyH_take (i := 0) (v := ?_) rfl (by kernel_rfl) (by kernel_rfl) (by kernel_rfl) (fun _ _ _ h => h) (Or.inl ⟨by rfl, ?hy⟩) (by assumption) ?_
      case hy => intro w hSw; (try dsimp only at hSw); go_simp; try with_reducible rfl
      try simp only [Act.put, List.getElem_toArray, List.getElem_cons_succ, List.getElem_cons_zero, List.setIfInBounds_toArray, List.set_cons_zero, List.set_cons_succ]
      refine wpAnyH_take (i := 1) (v := ?_) rfl (by kernel_rfl) (by kernel_rfl) (by kernel_rfl) (fun _ _ _ h => h) (Or.inl ⟨by rfl, ?hy⟩) (by assumption) ?_
      case hy => intro w hSw; (try dsimp only at hSw); go_simp; try with_reducible rfl
      try simp only [Act.put, List.getElem_toArray, List.getElem_cons_succ, List.getElem_cons_zero, List.setIfInBounds_toArray, List.set_cons_zero, List.set_cons_succ]
      refine wpAnyH_take (i := 2) (v := ?_) rfl (by kernel_rfl) (by kernel_rfl) (by kernel_rfl) (fun _ _ _ h => h) (Or.inl ⟨by rfl, ?hy⟩) (by assumption) ?_
      case hy => intro w hSw; (try dsimp only at hSw); go_simp; try with_reducible rfl
      try simp only [Act.put, List.getElem_toArray, List.getElem_cons_succ, List.getElem_cons_zero, List.setIfInBounds_toArray, List.set_cons_zero, List.set_cons_succ]
      refine wpAnyH_take (i := 3) (v := ?_) rfl (by kernel_rfl) (by kernel_rfl) (by kernel_rfl) (fun _ _ _ h => h) (Or.inl ⟨by rfl, ?hy⟩) (by assumption) ?_
      case hy => intro w hSw; (try dsimp only at hSw); go_simp; try with_reducible rfl
      try simp only [Act.put, List.getElem_toArray, List.getElem_cons_succ, List.getElem_cons_zero, List.setIfInBounds_toArray, List.set_cons_zero, List.set_cons_succ]
      refine wpAnyH_ready (rs := [4]) (by kernel_rfl) (by simp) (AllReadyH.cons rfl (fun K hK => ?_) AllReadyH.nil)
      go_simp
      go_at_call 28; refine (wfork_any HWX.out).mono ?_; rintro e wf ⟨rfl, hwf, hbf⟩
      have hcf : wf.cell? ⟨hb, 6, none⟩ = some (.map (some m2)) := (World.cell?_of_block (w := wn.drew) (hbf.block hb (World.block_lt_of_cell? wn _ cn6))).trans cn6
      have hcp := HM.out.2.2.2.2.1
      have hne := HM.out.2.2.2.2.2.2.2
      have hmn := (HM.out.2.1.grown HX.out.2.2.2.2.2 (fun e => by injection e with e; omega)).below hbf
      have hfw := hcp.few
      have hf4 := HFW.out
      have hn2 := HM.out.2.2.1
      obtain ⟨wd, hup, hmd, hgd, hzd⟩ := hmn.update strKeyed under_mapW (by unfold maxLen; omega) (skeyOf HX.out.2.1) (.pointer (some ⟨wn.heap.size, 0, none⟩))
      have HFD := Lib.hid (FkHot.step HX.out.2.2.2.1 HM.out.1 hmd (by split <;> omega) HM.out.2.2.2.1 hcp HX.out.1 HX.out.2.2.1 HM.out.2.2.2.2.2.1 HX.out.2.2.2.2.2 hbf hwf hgd (by omega) (by omega) (by omega) (by omega))
      have HCD := Lib.hid (show wd.cell? ⟨hb, 6, none⟩ = some (.map (some m2)) from (World.cell?_of_block (w := wf) (hgd.block hb (World.block_lt_of_cell? _ _ hcf) (fun e => by injection e with e; omega))).trans hcf)
      have HCF := Lib.hid hcf
      clear hcf hcp hne hmn hfw hf4 hn2 hmd hgd hzd hwf hbf
      try (go_wp2_with fail)
      refine hK.out _ _ ?_ (fun hHeld => ?_)
      · exact HCF.out
      clear hK K
      try simp only [Act.put, List.getElem_toArray, List.getElem_cons_succ, List.getElem_cons_zero, List.setIfInBounds_toArray, List.set_cons_zero, List.set_cons_succ]
      refine wpAnyH_ready (rs := [5]) (by kernel_rfl) (by simp) (AllReadyH.cons rfl (fun K hK => ?_) AllReadyH.nil)
      go_simp
      skip
      try (go_wp2_with fail)
      refine hK.out _ _ ?_ (fun hHeld => ?_)
      · exact HCD.out
      clear hK K
      try simp only [Act.put, List.getElem_toArray, List.getElem_cons_succ, List.getElem_cons_zero, List.setIfInBounds_toArray, List.set_cons_zero, List.set_cons_succ]
      refine wpAnyH_done (by kernel_rfl) ?_ _
      refine NoPanic.normal ?_
      go_wp2_with (fail)
      refine ⟨⟨cnt', HFD⟩, ?_⟩
      obtain ⟨q1, q2, f3, q3, _⟩ := HFD.out.src
      rw [q3.left_eq, HLE.out.1]
      exact HLE.out.2
end Go.Proofs.Ytemlafbkkaloiaa
