/- tree: ContainsFunc; the questions at nodes. -/
import Derived.Test.YtpbbidijnmooaaaTrE
import Derived.Lib.SliceRun
namespace Go.Proofs.Ytpbbidijnmooaaa
open Go.RowKit
set_option linter.unusedVariables false
set_option linter.unusedSimpArgs false

/-- Where the first one stands, or -1. -/
def idxT (p : KeyS → Bool) (bs : List KeyS) : Int := match bs.findIdx? p with | none => -1 | some k => k
theorem idxT_none {p : KeyS → Bool} {bs : List KeyS} (h : ∀ x, x ∈ bs → p x = false) : idxT p bs = -1 := by
  unfold idxT
  rw [List.findIdx?_eq_none_iff.2 h]
theorem idxT_some {p : KeyS → Bool} {bs : List KeyS} {k : Nat} (hk : k < bs.length) (hp : p bs[k] = true) (h : ∀ j (hj : j < k), p (bs[j]'(by omega)) = false) : idxT p bs = k := by
  unfold idxT
  rw [List.findIdx?_eq_some_iff_getElem.2 ⟨hk, hp, fun j hj => by rw [h j hj]; simp⟩]
theorem idxT_cases (p : KeyS → Bool) (bs : List KeyS) : (idxT p bs = -1 ∧ ∀ x, x ∈ bs → p x = false) ∨ ∃ k, ∃ hk : k < bs.length, idxT p bs = k ∧ p bs[k] = true ∧ ∀ j (hj : j < k), p (bs[j]'(by omega)) = false := by
  unfold idxT
  cases h : bs.findIdx? p with
  | none => exact Or.inl ⟨rfl, List.findIdx?_eq_none_iff.1 h⟩
  | some k =>
    obtain ⟨h1, h2, h3⟩ := List.findIdx?_eq_some_iff_getElem.1 h
    exact Or.inr ⟨k, h1, rfl, h2, fun j hj => by simpa using h3 j hj⟩
theorem idxT_any (p : KeyS → Bool) (bs : List KeyS) : decide (0 ≤ idxT p bs) = bs.any p := by
  rcases idxT_cases p bs with ⟨h1, h2⟩ | ⟨k, hk, h1, h2, _⟩
  · rw [h1, show bs.any p = false from List.any_eq_false.2 (fun x hx => by rw [h2 x hx]; simp)]; rfl
  · rw [h1, show bs.any p = true from List.any_eq_true.2 ⟨_, List.getElem_mem hk, h2⟩]
    simp

set_option maxHeartbeats 3200000 in
set_option maxRecDepth 100000 in
theorem tindex_any {w : World} {a : Option Addr} {n cap : Nat} {bs : List KeyS} (hr : KeysAt w a bs) (hn : bs.length = n) (few : n ≤ 9223372036854775807) (id : FuncId) (caps : Array Value) (p : KeyS → Bool)
    (he : ∀ x : KeyS, x ∈ bs → ∀ wx, (callFunc id (#[x.v] ++ caps)).run Try.prog wx = .ok (.enter id (#[x.v] ++ caps)) wx)
    (hf : ∀ x : KeyS, x ∈ bs → ∀ wx, Below w.heap.size w wx → Calls Try.prog id (#[x.v] ++ caps) wx fun e w' => e = .returned (.bool (p x)) ∧ Below wx.heap.size wx w') :
    Calls Try.prog 44 #[.slice a n cap, .func (.func id) #[] caps] w fun e w' => e = .returned (.int .i64 (idxT p bs)) ∧ Below w.heap.size w w' := by
  have HR := Lib.hid hr
  have HE := Lib.hid he
  have HF := Lib.hid hf
  have HN := Lib.hid hn
  clear hr he hf hn
  go_enter Try.func44, Try.ntmps44
  go_wp2_with (fail)
  go_loopw [5, 8] (fun _ i wr => ∃ (k : Nat), k ≤ n ∧ i = .int .i64 k ∧ Hid (∀ x, x ∈ bs.take k → p x = false) ∧ Hid (Below w.heap.size w wr)) (fun _ i _ => n - (intOf i).toNat)
  case atStart => exact ⟨0, Nat.zero_le _, rfl, Lib.hid (by simp), Lib.hid (Below.refl _ _)⟩
  case round =>
    rename World => wy
    obtain ⟨k, hk, rfl, HP, HB⟩ := hrel
    have hbz := HB.out.size
    by_cases hlt : k < n
    · have hkl : k < bs.length := by rw [HN.out]; exact hlt
      have k0 : (0 : Int) ≤ k := by omega
      have k1 : (k : Int) < n := by omega
      have hkx : bs[k]? = some (bs[k]'hkl) := List.getElem?_eq_getElem hkl
      have hmem : (bs[k]'hkl) ∈ bs := List.getElem_mem hkl
      obtain ⟨gb, rfl, hgb, d0, d1, d2, d3⟩ := HR.out.get hkx
      have d0 := (HB.out.cell (p := ⟨gb, k * 4, none⟩) hgb).trans d0
      have d1 := (HB.out.cell (p := ⟨gb, k * 4 + 1, none⟩) hgb).trans d1
      have d2 := (HB.out.cell (p := ⟨gb, k * 4 + 2, none⟩) hgb).trans d2
      have d3 := (HB.out.cell (p := ⟨gb, k * 4 + 3, none⟩) hgb).trans d3
      have HX := Lib.hid (HF.out _ hmem wy HB.out)
      have hen := HE.out _ hmem
      have HTK := Lib.hid (show bs.take (k + 1) = bs.take k ++ [bs[k]'hkl] from List.take_succ_eq_append_getElem hkl)
      have HIX := Lib.hid (fun hp => idxT_some hkl (p := p) hp (fun j hj => HP.out _ (by rw [List.mem_take_iff_getElem]; exact ⟨j, by omega, rfl⟩)))
      clear hkx
      generalize bs[k]'hkl = X at *
      obtain ⟨xk, xc, xr, xo⟩ := X
      dsimp only [KeyS.v] at *
      cases hpx : p ⟨xk, xc, xr, xo⟩ with
      | true =>
        rw [hpx] at HX
        have hix := Lib.hid (HIX.out hpx)
        clear HIX hpx
        go_wp2_with (fail)
        refine HX.out.mono ?_
        rintro e wb ⟨rfl, hbb⟩
        have HBB := Lib.hid (HB.out.trans (hbb.mono hbz))
        clear hbb
        go_wp2_with (fail)
        go_ret
        exact ⟨by rw [hix.out]; rfl, HBB.out⟩
      | false =>
        rw [hpx] at HX
        have HPX := Lib.hid hpx
        clear HIX hpx
        go_wp2_with (fail)
        refine HX.out.mono ?_
        rintro e wb ⟨rfl, hbb⟩
        have HBB := Lib.hid (HB.out.trans (hbb.mono hbz))
        clear hbb
        go_wp2_with (fail)
        exact ⟨⟨k + 1, by omega, by go_num, Lib.hid (fun x hx => by
          rw [HTK.out, List.mem_append] at hx
          rcases hx with hx | hx
          · exact HP.out x hx
          · obtain rfl := List.mem_singleton.1 hx
            exact HPX.out), HBB⟩, by first | (simp [intOf]; done) | (simp [intOf]; omega)⟩
    · have k1 : ¬ (k : Int) < n := by omega
      have HALL : Hid (idxT p bs = -1) := Lib.hid (idxT_none (fun x hx => HP.out x (by rw [List.take_of_length_le (by rw [HN.out]; omega)]; exact hx)))
      clear HP
      go_wp2_with (fail)
      go_ret
      exact ⟨by rw [HALL.out]; rfl, HB.out⟩
set_option maxHeartbeats 1600000 in
theorem tcontains_any {w : World} {a : Option Addr} {n cap : Nat} {bs : List KeyS} (hr : KeysAt w a bs) (hn : bs.length = n) (few : n ≤ 9223372036854775807) (id : FuncId) (caps : Array Value) (p : KeyS → Bool)
    (he : ∀ x : KeyS, x ∈ bs → ∀ wx, (callFunc id (#[x.v] ++ caps)).run Try.prog wx = .ok (.enter id (#[x.v] ++ caps)) wx)
    (hf : ∀ x : KeyS, x ∈ bs → ∀ wx, Below w.heap.size w wx → Calls Try.prog id (#[x.v] ++ caps) wx fun e w' => e = .returned (.bool (p x)) ∧ Below wx.heap.size wx w') :
    Calls Try.prog 35 #[.slice a n cap, .func (.func id) #[] caps] w fun e w' => e = .returned (.bool (bs.any p)) ∧ Below w.heap.size w w' := by
  have HI := Lib.hid (tindex_any (cap := cap) hr hn few id caps p he hf)
  rw [← idxT_any]
  clear hr hn he hf
  generalize idxT p bs = I at *
  go_enter Try.func35, Try.ntmps35
  go_wp2_with (fail)
  refine HI.out.mono ?_
  rintro e wb ⟨rfl, hbb⟩
  go_wp2_with (fail)
  go_ret
  exact ⟨rfl, hbb⟩
/-! ### nodes -/
theorem sflight_nil (w : World) : Calls Try.prog 37 #[.pointer none] w fun e w' => e = .returned (.int .i64 0) ∧ w' = w := by
  go_enter Try.func37, Try.ntmps37
  go_wp2_with (fail)
  go_ret
  exact ⟨rfl, rfl⟩
theorem tflight_any {w : World} {t : TreeV} (k : TreeAt w t) (q : KeyS) : Calls Try.prog 37 #[nodeP (findT t.T q)] w fun e w' => e = .returned (.int .i64 (flightM t.M q)) ∧ w' = w := by
  unfold flightM
  rw [getM_findT]
  cases h : findT t.T q with
  | none => exact sflight_nil w
  | some x => exact sflight_any (k.nodes x (findT_mem h).1).1
theorem flightM_bd {w : World} {t : TreeV} (k : TreeAt w t) (q : KeyS) : 0 ≤ flightM t.M q ∧ flightM t.M q ≤ 4096 := by
  unfold flightM
  rw [getM_findT]
  cases h : findT t.T q with
  | none => simp
  | some x => have := (k.nodes x (findT_mem h).1).1; exact ⟨this.f0, this.f1⟩

def fullB (t : TreeV) (q : KeyS) : Bool := decide (4096 ≤ flightM t.M q)
def idleB (t : TreeV) (q : KeyS) : Bool := flightM t.M q == 0
set_option maxHeartbeats 3200000 in
set_option maxRecDepth 100000 in
theorem note1_any {w : World} {t : TreeV} {B : Nat} (k : TreeAt w t) (hB : w.cell? ⟨B, 0, none⟩ = some (.pointer (some ⟨t.tb, 0, none⟩))) (q : KeyS) (hq : KeyOk q) :
    Calls Try.prog 49 #[q.v, .pointer (some ⟨B, 0, none⟩)] w fun e w' => e = .returned (.bool (fullB t q)) ∧ Below w.heap.size w w' := by
  have halb : Below w.heap.size w (w.alloc (.cells #[.int .u8 q.kind, .string q.ctx, .string q.res, .string q.org] 30)) := (Below.refl _ _).alloc (Nat.le_refl _) _
  have hnb := new_blockS w (.cells #[.int .u8 q.kind, .string q.ctx, .string q.res, .string q.org] 30)
  obtain ⟨wb, hwb⟩ : ∃ wb, w.alloc (.cells #[.int .u8 q.kind, .string q.ctx, .string q.res, .string q.org] 30) = wb := ⟨_, rfl⟩
  rw [hwb] at halb hnb
  have HAL := Lib.hid halb
  have hb0 := (halb.cell (World.block_lt_of_cell? _ _ hB)).trans hB
  have hc0 := (k.below halb).cells.1
  have hlk := fun n => (k.below (below_drewG halb n)).map.look hq
  have HFL := Lib.hid (fun (n : Nat) => tflight_any (k.below (below_drewG halb n)) q)
  obtain ⟨f0, f1, f2, f3⟩ := four_box hnb
  unfold fullB
  generalize flightM t.M q = FL at *
  generalize nodeP (findT t.T q) = NP at *
  obtain ⟨kind, ctx, res, org⟩ := q
  unfold KeyS.v at hlk ⊢
  dsimp only at hlk hwb f0 f1 f2 f3 ⊢
  obtain ⟨tb, mb, vr, T, last, top⟩ := t
  dsimp only at hb0 hc0 hlk
  clear k hq hB halb hnb
  go_enter Try.func49, Try.ntmps49
  go_wp2_with (fail)
  clear hwb
  go_quiet ((go_at_call 37; refine Calls.quiet_of_same ((HFL.out _).mono fun e w' h => ⟨h.1, h.2⟩)))
  go_wp2_with (fail)
  go_ret
  exact ⟨rfl, below_drewG HAL.out nq⟩
set_option maxHeartbeats 3200000 in
set_option maxRecDepth 100000 in
theorem done1_any {w : World} {t : TreeV} {B : Nat} (k : TreeAt w t) (hB : w.cell? ⟨B, 0, none⟩ = some (.pointer (some ⟨t.tb, 0, none⟩))) (q : KeyS) (hq : KeyOk q) :
    Calls Try.prog 36 #[q.v, .pointer (some ⟨B, 0, none⟩)] w fun e w' => e = .returned (.bool (idleB t q)) ∧ Below w.heap.size w w' := by
  have halb : Below w.heap.size w (w.alloc (.cells #[.int .u8 q.kind, .string q.ctx, .string q.res, .string q.org] 30)) := (Below.refl _ _).alloc (Nat.le_refl _) _
  have hnb := new_blockS w (.cells #[.int .u8 q.kind, .string q.ctx, .string q.res, .string q.org] 30)
  obtain ⟨wb, hwb⟩ : ∃ wb, w.alloc (.cells #[.int .u8 q.kind, .string q.ctx, .string q.res, .string q.org] 30) = wb := ⟨_, rfl⟩
  rw [hwb] at halb hnb
  have HAL := Lib.hid halb
  have hb0 := (halb.cell (World.block_lt_of_cell? _ _ hB)).trans hB
  have hc0 := (k.below halb).cells.1
  have hlk := fun n => (k.below (below_drewG halb n)).map.look hq
  have HFL := Lib.hid (fun (n : Nat) => tflight_any (k.below (below_drewG halb n)) q)
  obtain ⟨f0, f1, f2, f3⟩ := four_box hnb
  unfold idleB
  generalize flightM t.M q = FL at *
  generalize nodeP (findT t.T q) = NP at *
  obtain ⟨kind, ctx, res, org⟩ := q
  unfold KeyS.v at hlk ⊢
  dsimp only at hlk hwb f0 f1 f2 f3 ⊢
  obtain ⟨tb, mb, vr, T, last, top⟩ := t
  dsimp only at hb0 hc0 hlk
  clear k hq hB halb hnb
  go_enter Try.func36, Try.ntmps36
  go_wp2_with (fail)
  clear hwb
  go_quiet ((go_at_call 37; refine Calls.quiet_of_same ((HFL.out _).mono fun e w' h => ⟨h.1, h.2⟩)))
  go_wp2_with (fail)
  go_ret
  exact ⟨rfl, below_drewG HAL.out nq⟩
theorem passE_one (last flight at_ n : Int) (h0 : isT at_ = true) (h1 : badN n = false) (h2 : last ≤ at_) (h3 : flight < 4096) : passE last flight at_ [n] = 0 := by
  have hl : lookN last at_ [n] = 0 := by
    unfold lookN
    rw [if_neg (by rw [h0]; simp), if_neg (by simp [h1]), if_neg (by omega)]
  unfold passE
  rw [if_neg (by rw [hl]; simp), if_neg (by simp; omega)]
theorem blockE_one (last flight at_ n : Int) (h0 : isT at_ = true) (h1 : badN n = false) (h2 : last ≤ at_) : blockE last flight at_ [n] = 0 := by
  have hl : lookN last at_ [n] = 0 := by
    unfold lookN
    rw [if_neg (by rw [h0]; simp), if_neg (by simp [h1]), if_neg (by omega)]
  unfold blockE
  rw [if_neg (by rw [hl]; simp)]
/-- What a closure does at a node. -/
def OnePost (F : NodeM → NodeM) (k : NBk) (n : NodeM) (wx : World) (e : Ending) (w' : World) : Prop := (∃ v, e = .returned v) ∧ NodeAt w' k (F n).last (F n).flight (F n).notes ∧ Off (NOwn k) wx w'
set_option maxHeartbeats 3200000 in
theorem pass1_any {w : World} {c : CallS} {C : Nat} {k : NBk} {n : NodeM} (hC : w.heap[C]? = some (.cells c.c 40)) (h : NodeAt w k n.last n.flight n.notes) (h0 : isT c.at_ = true) (h1 : badN c.cnt = false) (h2 : n.last ≤ c.at_) (h3 : n.flight < 4096) :
    Calls Try.prog 31 #[.pointer (some ⟨k.q, 0, none⟩), .pointer (some ⟨C, 0, none⟩)] w (OnePost (passF c) k n w) := by
  have HP := Lib.hid (spass_one h c.at_ c.cnt)
  rw [passE_one _ _ _ _ h0 h1 h2 h3] at HP
  have e0 : w.cell? ⟨C, 0, none⟩ = some (.int .i64 c.at_) := by simp only [World.cell?, hC]; rfl
  have e5 : w.cell? ⟨C, 5, none⟩ = some (.int .i64 c.cnt) := by simp only [World.cell?, hC]; rfl
  clear hC h h0 h1 h2 h3
  go_enter Try.func31, Try.ntmps31
  go_wp2_with (fail)
  refine HP.out.mono ?_
  rintro e w2 ⟨rfl, _, hy⟩
  obtain ⟨hn, ho⟩ := hy trivial
  go_wp2_with (fail)
  go_ret
  exact ⟨⟨_, rfl⟩, hn, ho⟩
theorem sblock_one {w : World} {k : NBk} {last flight : Int} {notes : List NoteW} (h : NodeAt w k last flight notes) (at_ n : Int) (hE : blockE last flight at_ [n] = 0) :
    Calls Try.prog 33 #[.pointer (some ⟨k.q, 0, none⟩), .int .i64 at_, .slice (some ⟨w.heap.size, 0, none⟩) 1 1] (w.alloc (.cells #[.int .i64 n] 3)) fun e w' => e = .returned (.int .i64 0) ∧ NodeAt w' k at_ flight (notes ++ newW at_ [blockC n]) ∧ Off (NOwn k) w w' := by
  have hb : Below w.heap.size w (w.alloc (.cells #[.int .i64 n] 3)) := (Below.refl _ _).alloc (Nat.le_refl _) _
  exact (sblock_any (h.below hb) at_ (some ⟨w.heap.size, 0, none⟩) 1 1 [n] rfl (by omega) (ints_one w n)).mono fun e w' h => ⟨by rw [h.e, hE], (h.yes hE).1, (Off.ofBelow hb).trans (h.yes hE).2 (fun _ _ h => h)⟩
set_option maxHeartbeats 3200000 in
theorem block1_any {w : World} {c : CallS} {C : Nat} {k : NBk} {n : NodeM} (hC : w.heap[C]? = some (.cells c.c 40)) (h : NodeAt w k n.last n.flight n.notes) (h0 : isT c.at_ = true) (h1 : badN c.cnt = false) (h2 : n.last ≤ c.at_) :
    Calls Try.prog 32 #[.pointer (some ⟨k.q, 0, none⟩), .pointer (some ⟨C, 0, none⟩)] w (OnePost (blockF c) k n w) := by
  have HP := Lib.hid (sblock_one h c.at_ c.cnt (blockE_one _ _ _ _ h0 h1 h2))
  have e0 : w.cell? ⟨C, 0, none⟩ = some (.int .i64 c.at_) := by simp only [World.cell?, hC]; rfl
  have e5 : w.cell? ⟨C, 5, none⟩ = some (.int .i64 c.cnt) := by simp only [World.cell?, hC]; rfl
  clear hC h h0 h1 h2
  go_enter Try.func32, Try.ntmps32
  go_wp2_with (fail)
  refine HP.out.mono ?_
  rintro e w2 ⟨rfl, hn, ho⟩
  go_wp2_with (fail)
  go_ret
  exact ⟨⟨_, rfl⟩, hn, ho⟩
end Go.Proofs.Ytpbbidijnmooaaa
