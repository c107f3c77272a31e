/- tree: Of. -/
import Derived.Test.YtpbbidijnmooaaaTrL
namespace Go.Proofs.Ytpbbidijnmooaaa
open Go.RowKit
set_option linter.unusedVariables false
set_option linter.unusedSimpArgs false

def zK : List Value := [.int .u8 0, .string ⟨#[]⟩, .string ⟨#[]⟩, .string ⟨#[]⟩]
theorem zeroKy (w : World) : (zeroValue 30).run Try.prog w = .ok (.agg zK.toArray) w := by kernel_rfl
theorem zeroCells_oneK (n : Nat) : ∀ v, v ∈ (Builtin.zeroCells zK.toArray n).toList → v.oneCell' = true := by
  intro v hv
  rw [Builtin.zeroCells, Array.toList_map, List.mem_map] at hv
  obtain ⟨i, _, rfl⟩ := hv
  have : (i % 4 = 0 ∨ i % 4 = 1 ∨ i % 4 = 2 ∨ i % 4 = 3) := by omega
  have hz : zK.toArray.size = 4 := rfl
  rw [hz]
  rcases this with h | h | h | h <;> rw [h] <;> rfl
theorem zeroCells_lenK (n : Nat) : (Builtin.zeroCells zK.toArray n).toList.length = n * 4 := by
  rw [Array.length_toList, size_zeroCells]; rfl
theorem run_clearK (w : World) (ty : TypeId) (b o n c : Nat) (hn : 0 < n)
    (hc : ∀ j, j < n * 4 → (w.cell? ⟨b, o + j, none⟩).isSome = true) (hf : ∀ j, j < n * 4 → w.frozen? ⟨b, o + j, none⟩ = false) :
    (Builtin.clear_ #[26] ty #[.slice (some ⟨b, o, none⟩) n c]).run Try.prog w = .ok (.tuple #[]) (w.setCells b o (Builtin.zeroCells zK.toArray n).toList) := by
  have hst := run_storeCells_cells (P := Try.prog) b o (Builtin.zeroCells zK.toArray n).toList 0 w (by rw [zeroCells_lenK]; simpa using hc) (by rw [zeroCells_lenK]; simpa using hf) (zeroCells_oneK n)
  simp only [Nat.add_zero] at hst
  obtain ⟨m, rfl⟩ : ∃ m, n = m + 1 := ⟨n - 1, by omega⟩
  simp [Builtin.clear_, run_underlying Try.underlying26, zeroKy, Value.cells]
  rw [show (#[Value.int IntKind.u8 0, Value.string ⟨#[]⟩, Value.string ⟨#[]⟩, Value.string ⟨#[]⟩] : Array Value) = zK.toArray from rfl, hst]
  rfl
theorem ownsRow_storedManyT {base : Nat} {e : TypeId} {size g n cap : Nat} : ∀ (l : List Value) (o : Nat) (w : World) (xs : List Value), w.ownsRow base e size (.slice (some ⟨g, 0, none⟩) n cap) n xs →
    ∃ ys : List Value, (w.setCells g o l).ownsRow base e size (.slice (some ⟨g, 0, none⟩) n cap) n ys ∧ (∀ j, j < o → ys[j]? = xs[j]?) ∧ w.grownBy (w.setCells g o l) (some g)
  | [], o, w, xs, h => ⟨xs, h, fun _ _ => rfl, rfl, rfl, rfl, Nat.le_refl _, fun _ _ _ => rfl⟩
  | v :: l, o, w, xs, h => by
    obtain ⟨h1, g1⟩ := h.stored o v
    obtain ⟨ys, h2, h3, g2⟩ := ownsRow_storedManyT l (o + 1) _ _ h1
    refine ⟨ys, h2, fun j hj => ?_, g2.os.trans g1.os, g2.tape.trans g1.tape, g2.output.trans g1.output, Nat.le_trans g1.size g2.size, fun k hk hne => (g2.block k (Nat.lt_of_lt_of_le hk g1.size) hne).trans (g1.block k hk hne)⟩
    rw [h3 j (by omega), List.getElem?_set_ne (by omega)]
theorem ownsRow_cutT {base : Nat} {e : TypeId} {size g n cap : Nat} {w : World} {xs : List Value} (h : w.ownsRow base e size (.slice (some ⟨g, 0, none⟩) n cap) n xs) {m : Nat} (hm : m ≤ n) :
    w.ownsRow base e size (.slice (some ⟨g, 0, none⟩) m cap) m (xs.take (m * size)) := by
  obtain ⟨h1, h2⟩ := h
  have hms : m * size ≤ n * size := Nat.mul_le_mul_right _ hm
  rcases h2 with ⟨h', _⟩ | ⟨g', cap', cur, h', hb, hg, hnc, hcm, hcs, htake⟩
  · simp at h'
  · simp only [Value.slice.injEq, Option.some.injEq, Addr.mk.injEq, and_true, true_and] at h'
    obtain ⟨rfl, rfl⟩ := h'
    refine ⟨by rw [List.length_take]; omega, .inr ⟨g, cap, cur, rfl, hb, hg, by omega, hcm, hcs, ?_⟩⟩
    rw [← htake, List.take_take, Nat.min_eq_left hms]
def flatK (l : List KeyS) : List Value := (l.map KeyS.cs).flatten
theorem flatK_len (l : List KeyS) : (flatK l).length = l.length * 4 := by unfold flatK; rw [flatten_len (cs_len4 l), List.length_map]
theorem flatK_get {l : List KeyS} {j : Nat} {x : KeyS} (h : l[j]? = some x) (k : Nat) (hk : k < 4) : (flatK l)[j * 4 + k]? = x.cs[k]? := flatten_get (cs_len4 l) (by rw [List.getElem?_map, h]; rfl) k hk
theorem flatK_set {x : KeyS} {L : List KeyS} {i : Nat} (h : i < L.length) : flatK (L.set i x) = ((((flatK L).set (i * 4) (.int .u8 x.kind)).set (i * 4 + 1) (.string x.ctx)).set (i * 4 + 2) (.string x.res)).set (i * 4 + 3) (.string x.org) := by
  unfold flatK
  rw [List.map_set, flatten_set (cs_len4 L) (by rw [List.length_map]; exact h) rfl]
  rfl
theorem flatK_take : ∀ (L : List KeyS) (i : Nat), (flatK L).take (i * 4) = flatK (L.take i)
  | [], i => by simp [flatK]
  | y :: L, 0 => by simp [flatK]
  | y :: L, i + 1 => by
    rw [List.take_succ_cons, show flatK (y :: L) = y.cs ++ flatK L from rfl, show flatK (y :: L.take i) = y.cs ++ flatK (L.take i) from rfl, ← flatK_take L i]
    rw [show (i + 1) * 4 = y.cs.length + i * 4 by simp [KeyS.cs]; omega, List.take_length_add_append]
/-- Under way: j have been looked at; i of them stay, at the head. -/
structure DelK (p : KeyS → Bool) (bs : List KeyS) (j i : Nat) (L : List KeyS) : Prop where
  len : L.length = bs.length
  jn : j ≤ bs.length
  lt : i < j
  low : L.take i = (bs.take j).filter (fun x => !p x)
  high : ∀ m, i ≤ m → L[m]? = bs[m]?
theorem DelK.start {p : KeyS → Bool} {bs : List KeyS} {k : Nat} (hk : k < bs.length) (hp : p bs[k] = true) (h : ∀ j (hj : j < k), p (bs[j]'(by omega)) = false) : DelK p bs (k + 1) k bs := by
  refine ⟨rfl, hk, Nat.lt_succ_self _, ?_, fun _ _ => rfl⟩
  rw [List.take_succ_eq_append_getElem hk, List.filter_append, List.filter_cons, if_neg (by simp [hp]), List.filter_nil, List.append_nil]
  refine (List.filter_eq_self.2 (fun x hx => ?_)).symm
  obtain ⟨j, hj, rfl⟩ := List.mem_take_iff_getElem.1 hx
  rw [h j (by omega)]; rfl
theorem DelK.skip {p : KeyS → Bool} {bs L : List KeyS} {j i : Nat} (I : DelK p bs j i L) (hj : j < bs.length) (hp : p bs[j] = true) : DelK p bs (j + 1) i L := by
  refine ⟨I.len, hj, by have := I.lt; omega, ?_, I.high⟩
  rw [List.take_succ_eq_append_getElem hj, List.filter_append, List.filter_cons, if_neg (by simp [hp]), List.filter_nil, List.append_nil]
  exact I.low
theorem DelK.keep {p : KeyS → Bool} {bs L : List KeyS} {j i : Nat} (I : DelK p bs j i L) (hj : j < bs.length) (hp : p bs[j] = false) : DelK p bs (j + 1) (i + 1) (L.set i bs[j]) := by
  have hlt := I.lt
  have hl := I.len
  refine ⟨by simp [hl], hj, by omega, ?_, fun m hm => by rw [List.getElem?_set_ne (by omega)]; exact I.high m (by omega)⟩
  rw [List.take_succ_eq_append_getElem hj, List.filter_append, List.filter_cons, if_pos (by simp [hp]), List.filter_nil, ← I.low]
  rw [List.take_succ_eq_append_getElem (by simp; omega), List.getElem_set_self, List.take_set_of_le (Nat.le_refl i)]
/-- What the deleting leaves. -/
def DelPost (w : World) (base n cap : Nat) (a : Option Addr) (l : List KeyS) (e : Ending) (w' : World) : Prop :=
  ∃ m, e = .returned (.slice a m cap) ∧ m = l.length ∧ w'.ownsRow base 30 4 (.slice a m cap) m (flatK l) ∧ Off (fun k => (Value.slice a n cap).ownBlock = some k) w w'

set_option maxHeartbeats 3200000 in
set_option maxRecDepth 100000 in
theorem tdelete_any {w : World} {base n cap : Nat} {a : Option Addr} {bs : List KeyS} (hr : w.ownsRow base 30 4 (.slice a n cap) n (flatK bs)) (hn : bs.length = n) (few : n ≤ 1048576) (id : FuncId) (caps : Array Value) (p : KeyS → Bool)
    (he : ∀ x : KeyS, x ∈ bs → ∀ wx, (callFunc id (#[x.v] ++ caps)).run Try.prog wx = .ok (.enter id (#[x.v] ++ caps)) wx)
    (hf : ∀ x : KeyS, x ∈ bs → ∀ wx, Off (fun k => (Value.slice a n cap).ownBlock = some k) w wx → Calls Try.prog id (#[x.v] ++ caps) wx fun e w' => e = .returned (.bool (p x)) ∧ Below wx.heap.size wx w') :
    Calls Try.prog 25 #[.slice a n cap, .func (.func id) #[] caps] w (DelPost w base n cap a (bs.filter (fun x => !p x))) := by
  have HI := Lib.hid (tindex_any (cap := cap) (keysAt_row hr hn) hn (by omega) id caps p he (fun x hx wx hwx => hf x hx wx (Off.ofBelow hwx)))
  rcases idxT_cases p bs with ⟨e1, hall⟩ | ⟨k0, hk0, e1, hp0, hb0⟩
  · have hfil : bs.filter (fun x => !p x) = bs := List.filter_eq_self.2 (fun x hx => by rw [hall x hx]; rfl)
    rw [hfil]
    rw [e1] at HI
    have HR := Lib.hid hr
    have HN := Lib.hid hn
    clear hr he hf hall hfil e1 hn
    go_enter Try.func25, Try.ntmps25
    go_wp2_with (fail)
    refine HI.out.mono ?_
    rintro e wb ⟨rfl, hbb⟩
    go_wp2_with (fail)
    go_ret
    exact ⟨n, rfl, HN.out.symm, rowKept HR.out (fun g e => hbb.block g (HR.out.lt g e).2), Off.ofBelow hbb⟩
  · obtain ⟨g, hag⟩ : ∃ g, a = some ⟨g, 0, none⟩ := by
      rcases hr.2 with ⟨_, hz⟩ | ⟨g, cp, cur, hh, _⟩
      · omega
      · injection hh with h1 _ _; exact ⟨g, h1⟩
    subst hag
    have hgl := (hr.lt g rfl).2
    rw [e1] at HI
    have HSTART := Lib.hid (DelK.start hk0 hp0 hb0)
    have HN := Lib.hid hn
    have hk0n : k0 < n := by rw [← hn]; exact hk0
    have HR := Lib.hid hr
    have HE := Lib.hid he
    have HF := Lib.hid hf
    have hne1 : ((k0 : Int) == -1) = false := beq_eq_false_iff_ne.2 (by omega)
    clear hr he hf hb0 hp0 hk0 hn e1
    go_enter Try.func25, Try.ntmps25
    go_wp2_with (fail)
    refine HI.out.mono ?_
    rintro e wb ⟨rfl, hbb⟩
    have HBB := Lib.hid hbb
    clear hbb
    go_wp2_with (fail)
    go_loopw [5, 6, 7] (fun s5 s6 _ wr => ∃ (i j : Nat) (L : List KeyS), s5 = .int .i64 i ∧ s6 = .int .i64 j ∧ Hid (DelK p bs j i L) ∧ Hid (wr.ownsRow base 30 4 (.slice (some ⟨g, 0, none⟩) n cap) n (flatK L)) ∧ Hid (Off (fun k => some g = some k) w wr)) (fun _ s6 _ _ => n - (intOf s6).toNat)
    case atStart => exact ⟨k0, k0 + 1, bs, rfl, by go_num, HSTART, Lib.hid (rowKept HR.out (fun g e => HBB.out.block g (HR.out.lt g e).2)), Lib.hid (Off.ofBelow HBB.out)⟩
    case round =>
      rename World => wy
      obtain ⟨i, j, L, rfl, rfl, I, HO, HOff⟩ := hrel
      have hlt := I.out.lt
      have hjn : j ≤ n := by rw [← HN.out]; exact I.out.jn
      have hin : i < n := by omega
      have hgy : g < wy.heap.size := Nat.lt_of_lt_of_le hgl HOff.out.size
      by_cases hjlt : j < n
      · have hjb : j < bs.length := by rw [HN.out]; exact hjlt
        have k1 : (j : Int) < n := by omega
        have hmem : (bs[j]'hjb) ∈ bs := List.getElem_mem hjb
        have hLj : L[j]? = some (bs[j]'hjb) := by rw [I.out.high j (by omega)]; exact List.getElem?_eq_getElem hjb
        have d0 := HO.out.cellAt (j * 4) (by omega)
        have d1 := HO.out.cellAt (j * 4 + 1) (by omega)
        have d2 := HO.out.cellAt (j * 4 + 2) (by omega)
        have d3 := HO.out.cellAt (j * 4 + 3) (by omega)
        rw [show j * 4 = j * 4 + 0 from rfl, flatK_get hLj 0 (by omega)] at d0
        rw [flatK_get hLj 1 (by omega)] at d1
        rw [flatK_get hLj 2 (by omega)] at d2
        rw [flatK_get hLj 3 (by omega)] at d3
        simp only [KeyS.cs, Nat.add_zero, List.getElem?_cons_zero, List.getElem?_cons_succ] at d0 d1 d2 d3
        have HX := Lib.hid (HF.out _ hmem)
        have hen := HE.out _ hmem
        have HSK := Lib.hid (fun hp => I.out.skip hjb hp)
        have HKE := Lib.hid (fun hp => I.out.keep hjb hp)
        clear hLj
        generalize bs[j]'hjb = X at *
        obtain ⟨xk, xc, xr, xo⟩ := X
        dsimp only [KeyS.v] at *
        have hal : Off (fun k => some g = some k) w (wy.alloc (.cells #[.int .u8 xk, .string xc, .string xr, .string xo] 30)) := HOff.out.alloc _
        have HX2 := Lib.hid (HX.out _ hal)
        have HOA := Lib.hid (HO.out.alloc (.cells #[.int .u8 xk, .string xc, .string xr, .string xo] 30))
        clear HX
        cases hpx : p ⟨xk, xc, xr, xo⟩ with
        | true =>
          rw [hpx] at HX2
          have HK := Lib.hid (HSK.out hpx)
          clear HSK HKE hpx
          go_wp2_with (fail)
          refine HX2.out.mono ?_
          rintro e wc ⟨rfl, hbc⟩
          have HOC := Lib.hid (HOA.out.kept (row := none) ⟨hbc.os, hbc.tape, hbc.output, hbc.size, fun k hk _ => hbc.block k hk⟩ (Or.inr (by simp [Value.ownBlock])))
          have HOffC := Lib.hid (hal.trans (Off.ofBelow (S := fun k => some g = some k) hbc) (fun _ _ h => h))
          clear hbc
          go_wp2_with (fail)
          exact ⟨⟨i, j + 1, L, rfl, by go_num, HK, HOC, HOffC⟩, by first | (simp [intOf]; done) | (simp [intOf]; omega)⟩
        | false =>
          rw [hpx] at HX2
          have HK := Lib.hid (HKE.out hpx)
          clear HSK HKE hpx
          go_wp2_with (fail)
          refine HX2.out.mono ?_
          rintro e wc ⟨rfl, hbc⟩
          have HOC := Lib.hid (HOA.out.kept (row := none) ⟨hbc.os, hbc.tape, hbc.output, hbc.size, fun k hk _ => hbc.block k hk⟩ (Or.inr (by simp [Value.ownBlock])))
          have HOffC := Lib.hid (hal.trans (Off.ofBelow (S := fun k => some g = some k) hbc) (fun _ _ h => h))
          have hnew := (hbc.block wy.heap.size (by simp)).trans (new_blockS wy (.cells #[.int .u8 xk, .string xc, .string xr, .string xo] 30))
          obtain ⟨f0, f1, f2, f3⟩ := four_box hnew
          have z0 : wc.frozen? ⟨g, i * 4, none⟩ = false := HOC.out.frozenAt _
          have z1 : wc.frozen? ⟨g, i * 4 + 1, none⟩ = false := HOC.out.frozenAt _
          have z2 : wc.frozen? ⟨g, i * 4 + 2, none⟩ = false := HOC.out.frozenAt _
          have z3 : wc.frozen? ⟨g, i * 4 + 3, none⟩ = false := HOC.out.frozenAt _
          have hflen := I.out.len
          rw [HN.out] at hflen
          obtain ⟨u0, hu0⟩ : ∃ u, (flatK L)[i * 4]? = some u := ⟨_, List.getElem?_eq_getElem (by rw [flatK_len]; omega)⟩
          obtain ⟨u1, hu1⟩ : ∃ u, (flatK L)[i * 4 + 1]? = some u := ⟨_, List.getElem?_eq_getElem (by rw [flatK_len]; omega)⟩
          obtain ⟨u2, hu2⟩ : ∃ u, (flatK L)[i * 4 + 2]? = some u := ⟨_, List.getElem?_eq_getElem (by rw [flatK_len]; omega)⟩
          obtain ⟨u3, hu3⟩ : ∃ u, (flatK L)[i * 4 + 3]? = some u := ⟨_, List.getElem?_eq_getElem (by rw [flatK_len]; omega)⟩
          have c0 := (HOC.out.cellAt (i * 4) (by omega)).trans hu0
          have c1 := (HOC.out.cellAt (i * 4 + 1) (by omega)).trans hu1
          have c2 := (HOC.out.cellAt (i * 4 + 2) (by omega)).trans hu2
          have c3 := (HOC.out.cellAt (i * 4 + 3) (by omega)).trans hu3
          clear hbc hu0 hu1 hu2 hu3 hnew d0 d1 d2 d3
          go_wp2_with (fail)
          obtain ⟨s1, g1⟩ := HOC.out.stored (i * 4) (.int .u8 xk)
          obtain ⟨s2, g2⟩ := s1.stored (i * 4 + 1) (.string xc)
          obtain ⟨s3, g3⟩ := s2.stored (i * 4 + 2) (.string xr)
          obtain ⟨s4, g4⟩ := s3.stored (i * 4 + 3) (.string xo)
          rw [← flatK_set (x := ⟨xk, xc, xr, xo⟩) (by omega)] at s4
          exact ⟨⟨i + 1, j + 1, _, by go_num, by go_num, HK, Lib.hid s4, Lib.hid ((((HOffC.out.grown g1 (fun _ => rfl)).grown g2 (fun _ => rfl)).grown g3 (fun _ => rfl)).grown g4 (fun _ => rfl))⟩, by first | (simp [intOf]; done) | (simp [intOf]; omega)⟩
      · have k1 : ¬ (j : Int) < n := by omega
        have e1 : j = n := by omega
        have hcl := fun ty => run_clearK wy ty g (i * 4) (n - i) (cap - i) (by omega) (fun t ht => by
            rw [HO.out.cellAt (i * 4 + t) (by omega)]
            have hflen := I.out.len
            rw [HN.out] at hflen
            rw [List.getElem?_eq_getElem (by rw [flatK_len]; omega)]; rfl) (fun t ht => HO.out.frozenAt _)
        obtain ⟨ys, hy1, hy2, hy3⟩ := ownsRow_storedManyT (Builtin.zeroCells zK.toArray (n - i)).toList (i * 4) wy _ HO.out
        have HY1 := Lib.hid (ownsRow_cutT hy1 (Nat.le_of_lt hin))
        have HYT := Lib.hid (show ys.take (i * 4) = flatK (bs.filter (fun x => !p x)) by
          have h1 : ys.take (i * 4) = (flatK L).take (i * 4) := by
            apply List.ext_getElem?
            intro t
            rw [List.getElem?_take, List.getElem?_take]
            split
            · rename_i ht; exact hy2 t ht
            · rfl
          rw [h1, flatK_take, I.out.low, e1, ← HN.out, List.take_length])
        have HLEN := Lib.hid (show i = (bs.filter (fun x => !p x)).length by
          have h1 := congrArg List.length I.out.low
          rw [e1, ← HN.out, List.take_length, List.length_take, I.out.len, HN.out] at h1
          omega)
        have HOFF := Lib.hid (HOff.out.grown hy3 (fun _ => rfl))
        have hnc : n ≤ cap := by
          rcases HO.out.2 with ⟨h, _⟩ | ⟨g', cp, cur, h, _, _, hh, _⟩
          · cases h
          · injection h with _ _ h3; omega
        clear hy1 hy2 hy3
        generalize (wy.setCells g (i * 4) (Builtin.zeroCells zK.toArray (n - i)).toList) = wz at *
        go_wp2_with (fail)
        go_ret
        refine ⟨i, rfl, HLEN.out, ?_, HOFF.out⟩
        have h1 := HY1.out
        rw [HYT.out] at h1
        exact h1
end Go.Proofs.Ytpbbidijnmooaaa
