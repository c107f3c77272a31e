/- tree: New, Pass, Block, Last, Has, All. -/
import Derived.Test.YtpbbidijnmooaaaTrG
import Derived.Lib.SliceRun
namespace Go.Proofs.Ytpbbidijnmooaaa
open Go.RowKit
set_option linter.unusedVariables false
set_option linter.unusedSimpArgs false

theorem NotePost.from {w w1 w' : World} {t : TreeV} {c : CallS} {full : Bool} {F : NodeM → NodeM} {e : Ending} (h : NotePost w1 t c full F e w') (k : TreeAt w t) (hb : Below w.heap.size w w1) : NotePost w t c full F e w' :=
  ⟨h.e, fun hE => hb.trans ((h.no hE).mono hb.size), fun hE => by obtain ⟨t', g1, g2⟩ := h.yes hE; exact ⟨t', g1.belowL hb k, g2⟩⟩

theorem enPass (b C : Nat) (wx : World) : (callFunc 31 (#[.pointer (some ⟨b, 0, none⟩)] ++ #[.pointer (some ⟨C, 0, none⟩)])).run Try.prog wx = .ok (.enter 31 (#[.pointer (some ⟨b, 0, none⟩)] ++ #[.pointer (some ⟨C, 0, none⟩)])) wx := by kernel_rfl
set_option maxHeartbeats 3200000 in
set_option maxRecDepth 100000 in
theorem tPass_any {w : World} {t : TreeV} (k : TreeAt w t) (htop : t.top = t.last) (c : CallS) (z1 : c.res.size ≤ maxLen) (z2 : c.ctx.size ≤ maxLen) (z3 : c.org.size ≤ maxLen) :
    Calls Try.prog 17 #[.pointer (some ⟨t.tb, 0, none⟩), .agg c.c] w (NotePost w t c true (passF c)) := by
  have hal : Below w.heap.size w (w.alloc (.cells c.c 40)) := (Below.refl _ _).alloc (Nat.le_refl _) _
  have hnw := new_blockS w (.cells c.c 40)
  have hz : (w.alloc (.cells c.c 40)).heap.size = w.heap.size + 1 := by simp
  obtain ⟨w1, hw1⟩ : ∃ w1, w.alloc (.cells c.c 40) = w1 := ⟨_, rfl⟩
  rw [hw1] at hal hnw hz
  have k1 := k.below hal
  have HNT := Lib.hid (note_any k1 htop c z1 z2 z3 true 31 #[.pointer (some ⟨w.heap.size, 0, none⟩)] (passF c) (fun n => rfl) (fun b wx => enPass b _ wx)
    (fun h0 h1 wx kb n hk hn hl hf => pass1_any (C := w.heap.size) ((hk w.heap.size (by omega) (fun ho => by have := k.lt ho; omega)).trans hnw) hn h0 h1 hl (hf rfl)))
  have HK := Lib.hid k
  have HAL := Lib.hid hal
  obtain ⟨at_, res, ctx, org, inb, cnt, aa, al, ac⟩ := c
  unfold CallS.c at hnw hw1 HNT ⊢
  dsimp only at hnw hw1 HNT ⊢
  obtain ⟨q0, q1, q2, q3, q4, q5, q6⟩ := call_cells hnw
  have HW1 := Lib.hid hw1
  clear k k1 hal hnw hz htop
  go_enter Try.func17, Try.ntmps17
  go_wp2_with (fail)
  refine HNT.out.mono ?_
  rintro e w2 hp
  have he := hp.e
  subst he
  have HP := Lib.hid (hp.from HK.out HAL.out)
  clear hp
  go_wp2_with (fail)
  go_ret
  exact HP.out

theorem enBlock (b C : Nat) (wx : World) : (callFunc 32 (#[.pointer (some ⟨b, 0, none⟩)] ++ #[.pointer (some ⟨C, 0, none⟩)])).run Try.prog wx = .ok (.enter 32 (#[.pointer (some ⟨b, 0, none⟩)] ++ #[.pointer (some ⟨C, 0, none⟩)])) wx := by kernel_rfl
set_option maxHeartbeats 3200000 in
set_option maxRecDepth 100000 in
theorem tBlock_any {w : World} {t : TreeV} (k : TreeAt w t) (htop : t.top = t.last) (c : CallS) (z1 : c.res.size ≤ maxLen) (z2 : c.ctx.size ≤ maxLen) (z3 : c.org.size ≤ maxLen) :
    Calls Try.prog 18 #[.pointer (some ⟨t.tb, 0, none⟩), .agg c.c] w (NotePost w t c false (blockF c)) := by
  have hal : Below w.heap.size w (w.alloc (.cells c.c 40)) := (Below.refl _ _).alloc (Nat.le_refl _) _
  have hnw := new_blockS w (.cells c.c 40)
  have hz : (w.alloc (.cells c.c 40)).heap.size = w.heap.size + 1 := by simp
  obtain ⟨w1, hw1⟩ : ∃ w1, w.alloc (.cells c.c 40) = w1 := ⟨_, rfl⟩
  rw [hw1] at hal hnw hz
  have k1 := k.below hal
  have HNT := Lib.hid (note_any k1 htop c z1 z2 z3 false 32 #[.pointer (some ⟨w.heap.size, 0, none⟩)] (blockF c) (fun n => rfl) (fun b wx => enBlock b _ wx)
    (fun h0 h1 wx kb n hk hn hl hf => block1_any (C := w.heap.size) ((hk w.heap.size (by omega) (fun ho => by have := k.lt ho; omega)).trans hnw) hn h0 h1 hl))
  have HK := Lib.hid k
  have HAL := Lib.hid hal
  obtain ⟨at_, res, ctx, org, inb, cnt, aa, al, ac⟩ := c
  unfold CallS.c at hnw hw1 HNT ⊢
  dsimp only at hnw hw1 HNT ⊢
  obtain ⟨q0, q1, q2, q3, q4, q5, q6⟩ := call_cells hnw
  have HW1 := Lib.hid hw1
  clear k k1 hal hnw hz htop
  go_enter Try.func18, Try.ntmps18
  go_wp2_with (fail)
  refine HNT.out.mono ?_
  rintro e w2 hp
  have he := hp.e
  subst he
  have HP := Lib.hid (hp.from HK.out HAL.out)
  clear hp
  go_wp2_with (fail)
  go_ret
  exact HP.out

/-! ### New -/
def newT (w : World) : World := (w.alloc (.map #[] 0)).alloc (.cells #[.map (some w.heap.size), .slice none 0 0, .int .i64 0] 59)
def newV (w : World) : TreeV := ⟨w.heap.size + 1, w.heap.size, .slice none 0 0, [], 0, 0⟩
theorem tree_made (w : World) : TreeAt (newT w) (newV w) ∧ Below w.heap.size w (newT w) ∧ ∀ i, TOwn (newV w) i → w.heap.size ≤ i := by
  have hA : Below w.heap.size w (w.alloc (.map #[] 0)) := (Below.refl _ _).alloc (Nat.le_refl _) _
  have hz : (w.alloc (.map #[] 0)).heap.size = w.heap.size + 1 := by simp
  have hm := mapV_made w 30
  have hn := new_blockS (w.alloc (.map #[] 0)) (.cells #[.map (some w.heap.size), .slice none 0 0, .int .i64 0] 59)
  rw [hz] at hn
  refine ⟨⟨hn, World.ownsRow_nil _ _ _ _, ⟨_, 0, hm.alloc _, Nat.le_refl _, fun q _ => rfl⟩, (by intro x hx; simp [newV] at hx), by simp [newV], (by intro x hx; simp [newV] at hx), by simp [newV], ⟨fun i => if i = w.heap.size + 1 then 1 else if i = w.heap.size then 2 else 3, if_pos rfl, ?_, ?_, (by intro x hx; simp [newV] at hx)⟩, by simp [newV], Int.le_refl _, by simp [newV], Int.le_refl _⟩, hA.alloc (by simp) _, fun i hi => ?_⟩
  · show (if w.heap.size = w.heap.size + 1 then 1 else if w.heap.size = w.heap.size then 2 else 3) = 2
    rw [if_neg (by omega), if_pos rfl]
  · intro g e; simp [newV, Value.ownBlock] at e
  · rcases hi with h | h | h | ⟨x, hx, _⟩
    · simp [newV] at h; omega
    · simp [newV] at h; omega
    · simp [newV, Value.ownBlock] at h
    · simp [newV] at hx
set_option maxHeartbeats 1600000 in
theorem tnew_any (w : World) : Calls Try.prog 16 #[] w fun e w' => e = .returned (.pointer (some ⟨w.heap.size + 1, 0, none⟩)) ∧ w' = newT w := by
  have hmk : ∀ wx : World, (Instr.makeMap 55 none).run Try.prog wx = .ok (.map (some wx.heap.size)) (wx.alloc (.map #[] 0)) := fun wx => run_makeMap _ wx
  go_enter Try.func16, Try.ntmps16
  go_wp2_with (fail)
  go_ret
  exact ⟨by simp, rfl⟩
set_option maxHeartbeats 1600000 in
theorem tlast_any {w : World} {t : TreeV} (k : TreeAt w t) : Calls Try.prog 11 #[.pointer (some ⟨t.tb, 0, none⟩)] w fun e w' => e = .returned (.int .i64 t.last) ∧ w' = w := by
  have h := k.cells.2.2
  clear k
  go_enter Try.func11, Try.ntmps11
  go_wp2_with (fail)
  go_ret
  exact ⟨rfl, rfl⟩
set_option maxHeartbeats 3200000 in
set_option maxRecDepth 100000 in
theorem thas_any {w : World} {t : TreeV} (k : TreeAt w t) (q : KeyS) (hq : KeyOk q) :
    Calls Try.prog 13 #[.pointer (some ⟨t.tb, 0, none⟩), q.v] w fun e w' => e = .returned (.bool (getM t.M q).isSome) ∧ Below w.heap.size w w' := by
  have halb : Below w.heap.size w (w.alloc (.cells #[.int .u8 q.kind, .string q.ctx, .string q.res, .string q.org] 30)) := (Below.refl _ _).alloc (Nat.le_refl _) _
  have hnb := new_blockS w (.cells #[.int .u8 q.kind, .string q.ctx, .string q.res, .string q.org] 30)
  obtain ⟨wb, hwb⟩ : ∃ wb, w.alloc (.cells #[.int .u8 q.kind, .string q.ctx, .string q.res, .string q.org] 30) = wb := ⟨_, rfl⟩
  rw [hwb] at halb hnb
  have HAL := Lib.hid halb
  have hc0 := (k.below halb).cells.1
  have hlk := fun n => (k.below (below_drewG halb n)).map.look hq
  obtain ⟨f0, f1, f2, f3⟩ := four_box hnb
  rw [getM_findT]
  obtain ⟨kind, ctx, res, org⟩ := q
  unfold KeyS.v at hlk ⊢
  dsimp only at hlk hwb f0 f1 f2 f3 ⊢
  obtain ⟨tb, mb, vr, T, last, top⟩ := t
  dsimp only at hc0 hlk ⊢
  clear k hq halb hnb
  cases hf : findT T ⟨kind, ctx, res, org⟩ with
  | none =>
    simp only [hf, nodeP, ptrT, Option.map_none, Option.getD_none] at hlk
    clear hf
    go_enter Try.func13, Try.ntmps13
    go_wp2_with (fail)
    clear hwb
    go_quiet (fail)
    go_wp2_with (fail)
    go_ret
    exact ⟨rfl, below_drewG HAL.out nq⟩
  | some x =>
    simp only [hf, nodeP_some] at hlk
    clear hf
    go_enter Try.func13, Try.ntmps13
    go_wp2_with (fail)
    clear hwb
    go_quiet (fail)
    go_wp2_with (fail)
    go_ret
    exact ⟨rfl, below_drewG HAL.out nq⟩
/-! ### All -/
def ClPost (w : World) (n : Nat) (l : List KeyS) (e : Ending) (w' : World) : Prop := ∃ a' c', e = .returned (.slice a' n c') ∧ w'.ownsRow w.heap.size 30 4 (.slice a' n c') n (l.map KeyS.cs).flatten ∧ Below w.heap.size w w'
theorem cs_oneT (l : List KeyS) : ∀ u ∈ (l.map KeyS.cs).flatten, u.oneCell' = true := by
  intro u hu
  obtain ⟨r, hr, hu⟩ := List.mem_flatten.1 hu
  obtain ⟨x, _, rfl⟩ := List.mem_map.1 hr
  simp only [KeyS.cs, List.mem_cons, List.not_mem_nil, or_false] at hu
  rcases hu with rfl | rfl | rfl | rfl <;> rfl
set_option maxHeartbeats 3200000 in
set_option maxRecDepth 100000 in
theorem tclone_any {w : World} {base n cap : Nat} {a : Option Addr} {l : List KeyS} (h : w.ownsRow base 30 4 (.slice a n cap) n (l.map KeyS.cs).flatten) (hl : l.length = n) (hn : n ≤ 1048576) :
    Calls Try.prog 22 #[.slice a n cap] w (ClPost w n l) := by
  rcases h.2 with ⟨h1, h2⟩ | ⟨g, cp, cur, h1, _, hgg, _⟩
  · injection h1 with e1 e2 e3
    subst e1
    subst e2
    subst e3
    have : l = [] := List.length_eq_zero_iff.1 hl
    subst this
    clear h hl hn h2
    have hqn := fun w => Lib.run_eql_slice_nil (P := Try.prog) w 26 _ none 0 0 0 0 Try.underlying26
    simp only [Option.isNone_none] at hqn
    go_enter Try.func22, Try.ntmps22
    go_wp2_with (fail)
    go_ret
    exact ⟨none, 0, rfl, World.ownsRow_nil _ _ _ _, Below.refl _ _⟩
  · injection h1 with e1 e2 e3
    subst e1
    subst e3
    have hb2 : Below w.heap.size w (w.alloc (.cells #[] 30)) := (Below.refl _ _).alloc (Nat.le_refl _) _
    have hown : (w.alloc (.cells #[] 30)).ownsRow w.heap.size 30 4 (.slice (some ⟨w.heap.size, 0, none⟩) 0 0) 0 [] := World.ownsRow_lit (base := w.heap.size) (e := 30) (size := 4) w #[] 0 (Nat.le_refl _) (by unfold maxLen; omega) rfl
    have hlen : (l.map KeyS.cs).flatten.length = n * 4 := by rw [flatten_len (cs_len4 l), List.length_map, hl]
    have hnews : ∀ j u, (l.map KeyS.cs).flatten[j]? = some u → (w.alloc (.cells #[] 30)).cell? ((⟨g, 0, none⟩ : Addr).add j) = some u := fun j u hu => by
      have hj := (List.getElem?_eq_some_iff.1 hu).1
      rw [Go.WideShapes.add_plain]
      refine (hb2.cell (p := ⟨g, 0 + j, none⟩) (Array.getElem?_eq_some_iff.1 hgg).1).trans ?_
      rw [Nat.zero_add]
      exact (h.cellAt j (by omega)).trans hu
    obtain ⟨i0, hi, hz0, hz1, hz2⟩ := info_partsT info_keyT
    have HB2 := Lib.hid hb2
    have HONE := Lib.hid (cs_oneT l)
    obtain ⟨FL, hFL⟩ : ∃ FL, (l.map KeyS.cs).flatten = FL := ⟨_, rfl⟩
    have HFL := Lib.hid hFL
    rw [hFL] at hlen hnews HONE
    clear h hb2 hgg e2 hl hFL
    have hqn := fun w => Lib.run_eql_slice_nil (P := Try.prog) w 26 _ (some ⟨g, 0, none⟩) n cap 0 0 Try.underlying26
    simp only [Option.isNone_some] at hqn
    go_enter Try.func22, Try.ntmps22
    go_wp2_with (at_builtin; go_must (refine wpList_append_own _ rfl _ _ 26 (by rfl) w.heap.size 30 i0 (.agg #[.int .u8 0, .string ⟨#[]⟩, .string ⟨#[]⟩, .string ⟨#[]⟩]) 4 56 Try.underlying26 hi hz0 hz1 hz2 (by rfl) (by decide) (.slice (some ⟨w.heap.size, 0, none⟩) 0 0) 0 [] (by rfl) hown ⟨g, 0, none⟩ n cap FL (by rfl) hlen hnews HONE.out (by unfold maxLen; omega) (by omega) (by simp) ?_); intro v3 w3 hown3 hg3 _; obtain ⟨a3, c3, rfl⟩ := own_sliceT hown3; have HO3 := Lib.hid hown3; have HB3 := Lib.hid (HB2.out.grown hg3 HB2.out.size (fun k e => by simp [Value.ownBlock] at e; omega)); clear hown3 hg3)
    go_ret
    have ho := HO3.out
    rw [Nat.zero_add, List.nil_append, ← HFL.out] at ho
    exact ⟨a3, c3, by simp, ho, HB3.out⟩
set_option maxHeartbeats 1600000 in
theorem tall_any {w : World} {t : TreeV} (k : TreeAt w t) : Calls Try.prog 9 #[.pointer (some ⟨t.tb, 0, none⟩)] w (ClPost w t.T.length (keysM t.M)) := by
  obtain ⟨aR, capR, hvr⟩ := k.slice
  have hrow := k.row
  rw [hvr, flatT_keys] at hrow
  have HC := Lib.hid (tclone_any hrow (by rw [keys_len, M_len]) (by have := k.few; omega))
  have hc := k.cells.2.1
  rw [hvr] at hc
  clear k hrow hvr
  obtain ⟨n0, hn0⟩ : ∃ n0, t.T.length = n0 := ⟨_, rfl⟩
  rw [hn0] at HC hc ⊢
  generalize keysM t.M = KM at *
  generalize t.tb = tb at *
  clear hn0
  go_enter Try.func9, Try.ntmps9
  go_wp2_with (fail)
  refine HC.out.mono ?_
  rintro e w2 ⟨a', c', rfl, ho, hb⟩
  have HO := Lib.hid (And.intro ho hb)
  clear ho hb
  go_wp2_with (fail)
  go_ret
  exact ⟨a', c', rfl, HO.out.1, HO.out.2⟩
end Go.Proofs.Ytpbbidijnmooaaa
