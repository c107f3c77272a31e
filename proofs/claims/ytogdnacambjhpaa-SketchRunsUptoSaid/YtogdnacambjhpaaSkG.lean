/- sketch: buckets that have left the window are deleted. -/
import Derived.Test.YtogdnacambjhpaaSkF
namespace Go.Proofs.Ytogdnacambjhpaa
open Go.RowKit
set_option linter.unusedVariables false
set_option linter.unusedSimpArgs false

def zB : List Value := [.int .i64 0, .int .i64 0, .map none]
theorem zeroBk (w : World) : (zeroValue 93).run Try.prog w = .ok (.agg zB.toArray) w := by kernel_rfl
theorem zeroCells_oneB (n : Nat) : ∀ v, v ∈ (Builtin.zeroCells zB.toArray n).toList → v.oneCell' = true := by
  intro v hv
  rw [Builtin.zeroCells, Array.toList_map, List.mem_map] at hv
  obtain ⟨i, _, rfl⟩ := hv
  have : (i % 3 = 0 ∨ i % 3 = 1 ∨ i % 3 = 2) := by omega
  have hz : zB.toArray.size = 3 := rfl
  rw [hz]
  rcases this with h | h | h <;> rw [h] <;> rfl
theorem zeroCells_lenB (n : Nat) : (Builtin.zeroCells zB.toArray n).toList.length = n * 3 := by
  rw [Array.length_toList, size_zeroCells]; rfl
theorem run_clearB (w : World) (ty : TypeId) (b o n c : Nat) (hn : 0 < n)
    (hc : ∀ j, j < n * 3 → (w.cell? ⟨b, o + j, none⟩).isSome = true) (hf : ∀ j, j < n * 3 → w.frozen? ⟨b, o + j, none⟩ = false) :
    (Builtin.clear_ #[85] ty #[.slice (some ⟨b, o, none⟩) n c]).run Try.prog w = .ok (.tuple #[]) (w.setCells b o (Builtin.zeroCells zB.toArray n).toList) := by
  have hst := run_storeCells_cells (P := Try.prog) b o (Builtin.zeroCells zB.toArray n).toList 0 w (by rw [zeroCells_lenB]; simpa using hc) (by rw [zeroCells_lenB]; simpa using hf) (zeroCells_oneB n)
  simp only [Nat.add_zero] at hst
  obtain ⟨m, rfl⟩ : ∃ m, n = m + 1 := ⟨n - 1, by omega⟩
  simp [Builtin.clear_, run_underlying Try.underlying85, zeroBk, Value.cells]
  rw [show (#[Value.int IntKind.i64 0, Value.int IntKind.i64 0, Value.map none] : Array Value) = zB.toArray from rfl, hst]
  rfl

theorem ownsRow_storedMany {base : Nat} {e : TypeId} {size g n cap : Nat} : ∀ (l : List Value) (o : Nat) (w : World) (xs : List Value), w.ownsRow base e size (.slice (some ⟨g, 0, none⟩) n cap) n xs →
    ∃ ys : List Value, (w.setCells g o l).ownsRow base e size (.slice (some ⟨g, 0, none⟩) n cap) n ys ∧ (∀ j, j < o → ys[j]? = xs[j]?) ∧ w.grownBy (w.setCells g o l) (some g)
  | [], o, w, xs, h => ⟨xs, h, fun _ _ => rfl, rfl, rfl, rfl, Nat.le_refl _, fun _ _ _ => rfl⟩
  | v :: l, o, w, xs, h => by
    obtain ⟨h1, g1⟩ := h.stored o v
    obtain ⟨ys, h2, h3, g2⟩ := ownsRow_storedMany l (o + 1) _ _ h1
    refine ⟨ys, h2, fun j hj => ?_, g2.os.trans g1.os, g2.tape.trans g1.tape, g2.output.trans g1.output, Nat.le_trans g1.size g2.size, fun k hk hne => (g2.block k (Nat.lt_of_lt_of_le hk g1.size) hne).trans (g1.block k hk hne)⟩
    rw [h3 j (by omega), List.getElem?_set_ne (by omega)]
theorem ownsRow_cut {base : Nat} {e : TypeId} {size g n cap : Nat} {w : World} {xs : List Value} (h : w.ownsRow base e size (.slice (some ⟨g, 0, none⟩) n cap) n xs) {m : Nat} (hm : m ≤ n) :
    w.ownsRow base e size (.slice (some ⟨g, 0, none⟩) m cap) m (xs.take (m * size)) := by
  obtain ⟨h1, h2⟩ := h
  have hms : m * size ≤ n * size := Nat.mul_le_mul_right _ hm
  rcases h2 with ⟨h', _⟩ | ⟨g', cap', cur, h', hb, hg, hnc, hcm, hcs, htake⟩
  · simp at h'
  · simp only [Value.slice.injEq, Option.some.injEq, Addr.mk.injEq, and_true, true_and] at h'
    obtain ⟨rfl, rfl⟩ := h'
    refine ⟨by rw [List.length_take]; omega, .inr ⟨g, cap, cur, rfl, hb, hg, by omega, hcm, hcs, ?_⟩⟩
    rw [← htake, List.take_take, Nat.min_eq_left hms]

theorem flatB_set {x : BkS} : ∀ {L : List BkS} {i : Nat}, i < L.length → flatB (L.set i x) = (((flatB L).set (i * 3) (.int .i64 x.at_)).set (i * 3 + 1) (.int .i64 x.tot)).set (i * 3 + 2) (.map (some x.m))
  | y :: L, 0, _ => by simp [flatB, BkS.vals]
  | y :: L, i + 1, h => by
    have ih := flatB_set (x := x) (L := L) (i := i) (by simpa using h)
    have e : flatB (y :: L) = y.vals ++ flatB L := rfl
    rw [List.set_cons_succ, show flatB (y :: L.set i x) = y.vals ++ flatB (L.set i x) from rfl, ih, e]
    rw [show (i + 1) * 3 = y.vals.length + i * 3 by simp [BkS.vals]; omega]
    rw [List.set_append_right _ _ (by omega), Nat.add_assoc, List.set_append_right _ _ (by omega), Nat.add_assoc, List.set_append_right _ _ (by omega)]
    congr 1
    simp only [Nat.add_sub_cancel_left]
theorem flatB_take : ∀ (L : List BkS) (i : Nat), (flatB L).take (i * 3) = flatB (L.take i)
  | [], i => by simp [flatB]
  | y :: L, 0 => by simp [flatB]
  | y :: L, i + 1 => by
    rw [List.take_succ_cons, show flatB (y :: L) = y.vals ++ flatB L from rfl, show flatB (y :: L.take i) = y.vals ++ flatB (L.take i) from rfl, ← flatB_take L i]
    rw [show (i + 1) * 3 = y.vals.length + i * 3 by simp [BkS.vals]; omega, List.take_length_add_append]

/-- Under way: j have been looked at; i of them stay, at the head. -/
structure DelI (p : BkS → Bool) (bs : List BkS) (j i : Nat) (L : List BkS) : Prop where
  len : L.length = bs.length
  jn : j ≤ bs.length
  lt : i < j
  low : L.take i = (bs.take j).filter (fun x => !p x)
  high : ∀ m, i ≤ m → L[m]? = bs[m]?
theorem DelI.start {p : BkS → Bool} {bs : List BkS} {k : Nat} (hk : k < bs.length) (hp : p bs[k] = true) (h : ∀ j (hj : j < k), p (bs[j]'(by omega)) = false) : DelI p bs (k + 1) k bs := by
  refine ⟨rfl, hk, Nat.lt_succ_self _, ?_, fun _ _ => rfl⟩
  rw [List.take_succ_eq_append_getElem hk, List.filter_append, List.filter_cons, if_neg (by simp [hp]), List.filter_nil, List.append_nil]
  refine (List.filter_eq_self.2 (fun x hx => ?_)).symm
  obtain ⟨j, hj, rfl⟩ := List.mem_take_iff_getElem.1 hx
  rw [h j (by omega)]; rfl
theorem DelI.skip {p : BkS → Bool} {bs L : List BkS} {j i : Nat} (I : DelI p bs j i L) (hj : j < bs.length) (hp : p bs[j] = true) : DelI p bs (j + 1) i L := by
  refine ⟨I.len, hj, by have := I.lt; omega, ?_, I.high⟩
  rw [List.take_succ_eq_append_getElem hj, List.filter_append, List.filter_cons, if_neg (by simp [hp]), List.filter_nil, List.append_nil]
  exact I.low
theorem DelI.keep {p : BkS → Bool} {bs L : List BkS} {j i : Nat} (I : DelI p bs j i L) (hj : j < bs.length) (hp : p bs[j] = false) : DelI p bs (j + 1) (i + 1) (L.set i bs[j]) := by
  have hlt := I.lt
  have hl := I.len
  refine ⟨by simp [hl], hj, by omega, ?_, fun m hm => by rw [List.getElem?_set_ne (by omega)]; exact I.high m (by omega)⟩
  rw [List.take_succ_eq_append_getElem hj, List.filter_append, List.filter_cons, if_pos (by simp [hp]), List.filter_nil, ← I.low]
  rw [List.take_succ_eq_append_getElem (by simp; omega), List.getElem_set_self, List.take_set_of_le (Nat.le_refl i)]

set_option maxHeartbeats 3200000 in
set_option maxRecDepth 100000 in
theorem skdelete_any {w : World} {v : Value} {bs : List BkS} (hr : RowB w v bs) (few : bs.length ≤ 9223372036854775807) (id : FuncId) (caps : Array Value) (p : BkS → Bool)
    (he : ∀ x : BkS, x ∈ bs → ∀ wx, (callFunc id (#[x.v] ++ caps)).run Try.prog wx = .ok (.enter id (#[x.v] ++ caps)) wx)
    (hf : ∀ x : BkS, x ∈ bs → ∀ wx, Off (fun k => v.ownBlock = some k) w wx → Calls Try.prog id (#[x.v] ++ caps) wx fun e w' => e = .returned (.bool (p x)) ∧ Below wx.heap.size wx w') :
    Calls Try.prog 38 #[v, .func (.func id) #[] caps] w fun e w' => ∃ v', e = .returned v' ∧ RowB w' v' (bs.filter (fun x => !p x)) ∧ v'.ownBlock = v.ownBlock ∧ Off (fun k => v.ownBlock = some k) w w' := by
  have HI := Lib.hid (skindex_any hr few id caps p he (fun x hx wx hwx => hf x hx wx (Off.ofBelow hwx)))
  rcases idxSk_cases p bs with ⟨e1, hall⟩ | ⟨k0, hk0, e1, hp0, hb0⟩
  · have hfil : bs.filter (fun x => !p x) = bs := List.filter_eq_self.2 (fun x hx => by rw [hall x hx]; rfl)
    rw [hfil]
    rw [e1] at HI
    have HR := Lib.hid hr
    clear hr he hf hall hfil e1
    go_enter Try.func38, Try.ntmps38
    go_wp2_with (fail)
    refine HI.out.mono ?_
    rintro e wb ⟨rfl, hbb⟩
    go_wp2_with (fail)
    go_ret
    exact ⟨v, rfl, HR.out.kept (fun g hg => hbb.block g (by obtain ⟨_, h2⟩ := HR.out; rcases h2 with ⟨rfl, _⟩ | ⟨g', cap, cur, rfl, hb, hgg, _⟩; (· cases hg); (· cases hg; exact (Array.getElem?_eq_some_iff.1 hgg).1))), rfl, Off.ofBelow hbb⟩
  · obtain ⟨g, cap, hv, hob, hcap, hgl, _⟩ := hr.cells (by intro e; rw [e] at hk0; simp at hk0)
    subst hv
    rw [e1] at HI
    have HSTART := Lib.hid (DelI.start hk0 hp0 hb0)
    obtain ⟨n, hn⟩ : ∃ n, bs.length = n := ⟨_, rfl⟩
    have HN := Lib.hid hn
    have hk0n : k0 < n := by rw [← hn]; exact hk0
    have HR := Lib.hid (show w.ownsRow 0 93 3 (.slice (some ⟨g, 0, none⟩) n cap) n (flatB bs) by rw [← hn]; exact hr)
    have HE := Lib.hid he
    have HF := Lib.hid hf
    rw [hn] at few hcap HI ⊢
    have hne1 : ((k0 : Int) == -1) = false := beq_eq_false_iff_ne.2 (by omega)
    clear hr he hf hb0 hp0 hk0 hn e1
    go_enter Try.func38, Try.ntmps38
    go_wp2_with (fail)
    refine HI.out.mono ?_
    rintro e wb ⟨rfl, hbb⟩
    have HBB := Lib.hid hbb
    clear hbb
    go_wp2_with (fail)
    go_loopw [5, 6, 7] (fun s5 s6 _ wr => ∃ (i j : Nat) (L : List BkS), s5 = .int .i64 i ∧ s6 = .int .i64 j ∧ Hid (DelI p bs j i L) ∧ Hid (wr.ownsRow 0 93 3 (.slice (some ⟨g, 0, none⟩) n cap) n (flatB L)) ∧ Hid (Off (fun k => some g = some k) w wr)) (fun _ s6 _ _ => n - (intOf s6).toNat)
    case atStart => exact ⟨k0, k0 + 1, bs, rfl, by go_num, HSTART, Lib.hid (HR.out.kept (row := none) ⟨HBB.out.os, HBB.out.tape, HBB.out.output, HBB.out.size, fun k hk _ => HBB.out.block k hk⟩ (Or.inr (by simp [Value.ownBlock]))), Lib.hid (Off.ofBelow HBB.out)⟩
    case round =>
      rename World => wy
      obtain ⟨i, j, L, rfl, rfl, I, HO, HOff⟩ := hrel
      have hlt := I.out.lt
      have hjn : j ≤ n := by rw [← HN.out]; exact I.out.jn
      have hin : i < n := by omega
      have hgy : g < wy.heap.size := Nat.lt_of_lt_of_le hgl HOff.out.size
      by_cases hjlt : j < n
      · have hjb : j < bs.length := by rw [HN.out]; exact hjlt
        have k1 : (j : Int) < n := by omega
        have hmem : (bs[j]'hjb) ∈ bs := List.getElem_mem hjb
        have hLj : L[j]? = some (bs[j]'hjb) := by rw [I.out.high j (by omega)]; exact List.getElem?_eq_getElem hjb
        have d0 := HO.out.cellAt (j * 3) (by omega)
        have d1 := HO.out.cellAt (j * 3 + 1) (by omega)
        have d2 := HO.out.cellAt (j * 3 + 2) (by omega)
        rw [show j * 3 = j * 3 + 0 from rfl, flatB_get hLj 0 (by omega)] at d0
        rw [flatB_get hLj 1 (by omega)] at d1
        rw [flatB_get hLj 2 (by omega)] at d2
        simp only [BkS.vals, Nat.add_zero, List.getElem?_cons_zero, List.getElem?_cons_succ] at d0 d1 d2
        have HX := Lib.hid (HF.out _ hmem)
        have hen := HE.out _ hmem
        have HSK := Lib.hid (fun hp => I.out.skip hjb hp)
        have HKE := Lib.hid (fun hp => I.out.keep hjb hp)
        clear hLj
        generalize bs[j]'hjb = X at *
        obtain ⟨xa, xt, xm, xc⟩ := X
        dsimp only [BkS.v] at *
        have hal : Off (fun k => some g = some k) w (wy.alloc (.cells #[.int .i64 xa, .int .i64 xt, .map (some xm)] 93)) := HOff.out.alloc _
        have HX2 := Lib.hid (HX.out _ hal)
        have HOA := Lib.hid (HO.out.alloc (.cells #[.int .i64 xa, .int .i64 xt, .map (some xm)] 93))
        clear HX
        cases hpx : p ⟨xa, xt, xm, xc⟩ with
        | true =>
          rw [hpx] at HX2
          have HK := Lib.hid (HSK.out hpx)
          clear HSK HKE hpx
          go_wp2_with (fail)
          refine HX2.out.mono ?_
          rintro e wc ⟨rfl, hbc⟩
          have HOC := Lib.hid (HOA.out.kept (row := none) ⟨hbc.os, hbc.tape, hbc.output, hbc.size, fun k hk _ => hbc.block k hk⟩ (Or.inr (by simp [Value.ownBlock])))
          have HOffC := Lib.hid (hal.trans (Off.ofBelow (S := fun k => some g = some k) hbc) (fun _ _ h => h))
          clear hbc
          go_wp2_with (fail)
          exact ⟨⟨i, j + 1, L, rfl, by go_num, HK, HOC, HOffC⟩, by first | (simp [intOf]; done) | (simp [intOf]; omega)⟩
        | false =>
          rw [hpx] at HX2
          have HK := Lib.hid (HKE.out hpx)
          clear HSK HKE hpx
          go_wp2_with (fail)
          refine HX2.out.mono ?_
          rintro e wc ⟨rfl, hbc⟩
          have HOC := Lib.hid (HOA.out.kept (row := none) ⟨hbc.os, hbc.tape, hbc.output, hbc.size, fun k hk _ => hbc.block k hk⟩ (Or.inr (by simp [Value.ownBlock])))
          have HOffC := Lib.hid (hal.trans (Off.ofBelow (S := fun k => some g = some k) hbc) (fun _ _ h => h))
          have hnew := (hbc.block wy.heap.size (by simp)).trans (new_blockS wy (.cells #[.int .i64 xa, .int .i64 xt, .map (some xm)] 93))
          have f0 : wc.cell? ⟨wy.heap.size, 0, none⟩ = some (.int .i64 xa) := by simp only [World.cell?, hnew]; rfl
          have f1 : wc.cell? ⟨wy.heap.size, 1, none⟩ = some (.int .i64 xt) := by simp only [World.cell?, hnew]; rfl
          have f2 : wc.cell? ⟨wy.heap.size, 2, none⟩ = some (.map (some xm)) := by simp only [World.cell?, hnew]; rfl
          have z0 : wc.frozen? ⟨g, i * 3, none⟩ = false := HOC.out.frozenAt _
          have z1 : wc.frozen? ⟨g, i * 3 + 1, none⟩ = false := HOC.out.frozenAt _
          have z2 : wc.frozen? ⟨g, i * 3 + 2, none⟩ = false := HOC.out.frozenAt _
          have hflen := I.out.len
          rw [HN.out] at hflen
          obtain ⟨u0, hu0⟩ : ∃ u, (flatB L)[i * 3]? = some u := ⟨_, List.getElem?_eq_getElem (by rw [flatB_len]; omega)⟩
          obtain ⟨u1, hu1⟩ : ∃ u, (flatB L)[i * 3 + 1]? = some u := ⟨_, List.getElem?_eq_getElem (by rw [flatB_len]; omega)⟩
          obtain ⟨u2, hu2⟩ : ∃ u, (flatB L)[i * 3 + 2]? = some u := ⟨_, List.getElem?_eq_getElem (by rw [flatB_len]; omega)⟩
          have c0 := (HOC.out.cellAt (i * 3) (by omega)).trans hu0
          have c1 := (HOC.out.cellAt (i * 3 + 1) (by omega)).trans hu1
          have c2 := (HOC.out.cellAt (i * 3 + 2) (by omega)).trans hu2
          clear hbc hu0 hu1 hu2 hnew d0 d1 d2
          go_wp2_with (fail)
          obtain ⟨s1, g1⟩ := HOC.out.stored (i * 3) (.int .i64 xa)
          obtain ⟨s2, g2⟩ := s1.stored (i * 3 + 1) (.int .i64 xt)
          obtain ⟨s3, g3⟩ := s2.stored (i * 3 + 2) (.map (some xm))
          rw [← flatB_set (x := ⟨xa, xt, xm, xc⟩) (by omega)] at s3
          exact ⟨⟨i + 1, j + 1, _, by go_num, by go_num, HK, Lib.hid s3, Lib.hid (((HOffC.out.grown g1 (fun _ => rfl)).grown g2 (fun _ => rfl)).grown g3 (fun _ => rfl))⟩, by first | (simp [intOf]; done) | (simp [intOf]; omega)⟩
      · have k1 : ¬ (j : Int) < n := by omega
        have e1 : j = n := by omega
        have hcl := fun ty => run_clearB wy ty g (i * 3) (n - i) (cap - i) (by omega) (fun t ht => by
            rw [HO.out.cellAt (i * 3 + t) (by omega)]
            have hflen := I.out.len
            rw [HN.out] at hflen
            rw [List.getElem?_eq_getElem (by rw [flatB_len]; omega)]; rfl) (fun t ht => HO.out.frozenAt _)
        obtain ⟨ys, hy1, hy2, hy3⟩ := ownsRow_storedMany (Builtin.zeroCells zB.toArray (n - i)).toList (i * 3) wy _ HO.out
        have HY1 := Lib.hid (ownsRow_cut hy1 (Nat.le_of_lt hin))
        have HYT := Lib.hid (show ys.take (i * 3) = flatB (bs.filter (fun x => !p x)) by
          have h1 : ys.take (i * 3) = (flatB L).take (i * 3) := by
            apply List.ext_getElem?
            intro t
            rw [List.getElem?_take, List.getElem?_take]
            split
            · rename_i ht; exact hy2 t ht
            · rfl
          rw [h1, flatB_take, I.out.low, e1, ← HN.out, List.take_length])
        have HLEN := Lib.hid (show i = (bs.filter (fun x => !p x)).length by
          have h1 := congrArg List.length I.out.low
          rw [e1, ← HN.out, List.take_length, List.length_take, I.out.len, HN.out] at h1
          omega)
        have HOFF := Lib.hid (HOff.out.grown hy3 (fun _ => rfl))
        clear hy1 hy2 hy3
        generalize (wy.setCells g (i * 3) (Builtin.zeroCells zB.toArray (n - i)).toList) = wz at *
        go_wp2_with (fail)
        go_ret
        refine ⟨_, rfl, ?_, rfl, HOFF.out⟩
        have h1 := HY1.out
        rw [HYT.out] at h1
        unfold RowB
        rw [← HLEN.out]
        exact h1
end Go.Proofs.Ytogdnacambjhpaa
