/- Texts of one chain, one behind the other: SkF, SkG, SkH, SkI, SkJ. -/
import Derived.Laws.OwnMore
import Derived.Lib.SliceRun
import Derived.Test.YtockmgcgifhepaaGSkC
import Derived.Test.YtockmgcgifhepaaRing
import Derived.Test.YtockmgcgifhepaaOwn
import Derived.Test.YtockmgcgifhepaaInts

/- sketch: which buckets go. -/
namespace Go.Proofs.Ytockmgcgifhepaa
open Go.RowKit
set_option linter.unusedVariables false
set_option linter.unusedSimpArgs false

/-- Where the first one stands, or -1. -/
def idxSk (p : BkS → Bool) (bs : List BkS) : Int := match bs.findIdx? p with | none => -1 | some k => k
theorem idxSk_none {p : BkS → Bool} {bs : List BkS} (h : ∀ x, x ∈ bs → p x = false) : idxSk p bs = -1 := by
  unfold idxSk
  rw [List.findIdx?_eq_none_iff.2 h]
theorem idxSk_some {p : BkS → Bool} {bs : List BkS} {k : Nat} (hk : k < bs.length) (hp : p bs[k] = true) (h : ∀ j (hj : j < k), p (bs[j]'(by omega)) = false) : idxSk p bs = k := by
  unfold idxSk
  rw [List.findIdx?_eq_some_iff_getElem.2 ⟨hk, hp, fun j hj => by rw [h j hj]; simp⟩]
theorem idxSk_cases (p : BkS → Bool) (bs : List BkS) : (idxSk p bs = -1 ∧ ∀ x, x ∈ bs → p x = false) ∨ ∃ k, ∃ hk : k < bs.length, idxSk p bs = k ∧ p bs[k] = true ∧ ∀ j (hj : j < k), p (bs[j]'(by omega)) = false := by
  unfold idxSk
  cases h : bs.findIdx? p with
  | none => exact Or.inl ⟨rfl, List.findIdx?_eq_none_iff.1 h⟩
  | some k =>
    obtain ⟨h1, h2, h3⟩ := List.findIdx?_eq_some_iff_getElem.1 h
    exact Or.inr ⟨k, h1, rfl, h2, fun j hj => by simpa using h3 j hj⟩

set_option maxHeartbeats 3200000 in
set_option maxRecDepth 100000 in
theorem skindex_any {w : World} {v : Value} {bs : List BkS} (hr : RowB w v bs) (few : bs.length ≤ 9223372036854775807) (id : FuncId) (caps : Array Value) (p : BkS → Bool)
    (he : ∀ x : BkS, x ∈ bs → ∀ wx, (callFunc id (#[x.v] ++ caps)).run Try.prog wx = .ok (.enter id (#[x.v] ++ caps)) wx)
    (hf : ∀ x : BkS, x ∈ bs → ∀ wx, Below w.heap.size w wx → Calls Try.prog id (#[x.v] ++ caps) wx fun e w' => e = .returned (.bool (p x)) ∧ Below wx.heap.size wx w') :
    Calls Try.prog 57 #[v, .func (.func id) #[] caps] w fun e w' => e = .returned (.int .i64 (idxSk p bs)) ∧ Below w.heap.size w w' := by
  have HR := Lib.hid hr
  have HE := Lib.hid he
  have HF := Lib.hid hf
  obtain ⟨a, cap, hv, hcap⟩ : ∃ a cap, v = .slice a bs.length cap ∧ bs.length ≤ cap := hr.slice
  clear hr he hf
  subst hv
  obtain ⟨n, hn⟩ : ∃ n, bs.length = n := ⟨_, rfl⟩
  have HN := Lib.hid hn
  rw [hn] at hcap few
  have hv : (Value.slice a bs.length cap) = .slice a n cap := by rw [hn]
  rw [hv]
  rw [hv] at HR
  clear hn hv
  go_enter Try.func57, Try.ntmps57
  go_wp2_with (fail)
  go_loopw [5, 8] (fun _ i wr => ∃ (k : Nat), k ≤ n ∧ i = .int .i64 k ∧ Hid (∀ x, x ∈ bs.take k → p x = false) ∧ Hid (Below w.heap.size w wr)) (fun _ i _ => n - (intOf i).toNat)
  case atStart => exact ⟨0, Nat.zero_le _, rfl, Lib.hid (by simp), Lib.hid (Below.refl _ _)⟩
  case round =>
    rename World => wy
    obtain ⟨k, hk, rfl, HP, HB⟩ := hrel
    have hbz := HB.out.size
    by_cases hlt : k < n
    · have hkl : k < bs.length := by rw [HN.out]; exact hlt
      obtain ⟨gb, capb, hv, _, _, hgb, hcells⟩ := HR.out.cells (by intro e; rw [e] at hkl; simp at hkl)
      injection hv with e1 e2 e3
      subst e1
      have k0 : (0 : Int) ≤ k := by omega
      have k1 : (k : Int) < n := by omega
      have hkx : bs[k]? = some (bs[k]'hkl) := List.getElem?_eq_getElem hkl
      have hmem : (bs[k]'hkl) ∈ bs := List.getElem_mem hkl
      obtain ⟨d0, d1, d2⟩ := hcells k _ hkx
      have d0 := (HB.out.cell (p := ⟨gb, k * 3, none⟩) hgb).trans d0
      have d1 := (HB.out.cell (p := ⟨gb, k * 3 + 1, none⟩) hgb).trans d1
      have d2 := (HB.out.cell (p := ⟨gb, k * 3 + 2, none⟩) hgb).trans d2
      have HX := Lib.hid (HF.out _ hmem wy HB.out)
      have hen := HE.out _ hmem
      have HTK := Lib.hid (show bs.take (k + 1) = bs.take k ++ [bs[k]'hkl] from List.take_succ_eq_append_getElem hkl)
      have HIX := Lib.hid (fun hp => idxSk_some hkl (p := p) hp (fun j hj => HP.out _ (by rw [List.mem_take_iff_getElem]; exact ⟨j, by omega, rfl⟩)))
      clear hkx hcells e2 e3
      generalize bs[k]'hkl = X at *
      obtain ⟨xa, xt, xm, xc⟩ := X
      dsimp only [BkS.v] at *
      cases hpx : p ⟨xa, xt, xm, xc⟩ with
      | true =>
        rw [hpx] at HX
        have hix := Lib.hid (HIX.out hpx)
        clear HIX hpx
        go_wp2_with (fail)
        refine HX.out.mono ?_
        rintro e wb ⟨rfl, hbb⟩
        have HBB := Lib.hid (HB.out.trans (hbb.mono hbz))
        clear hbb
        go_wp2_with (fail)
        go_ret
        exact ⟨by rw [hix.out]; rfl, HBB.out⟩
      | false =>
        rw [hpx] at HX
        have HPX := Lib.hid hpx
        clear HIX hpx
        go_wp2_with (fail)
        refine HX.out.mono ?_
        rintro e wb ⟨rfl, hbb⟩
        have HBB := Lib.hid (HB.out.trans (hbb.mono hbz))
        clear hbb
        go_wp2_with (fail)
        exact ⟨⟨k + 1, by omega, by go_num, Lib.hid (fun x hx => by
          rw [HTK.out, List.mem_append] at hx
          rcases hx with hx | hx
          · exact HP.out x hx
          · obtain rfl := List.mem_singleton.1 hx
            exact HPX.out), HBB⟩, by first | (simp [intOf]; done) | (simp [intOf]; omega)⟩
    · have k1 : ¬ (k : Int) < n := by omega
      have HALL : Hid (idxSk p bs = -1) := Lib.hid (idxSk_none (fun x hx => HP.out x (by rw [List.take_of_length_le (by rw [HN.out]; omega)]; exact hx)))
      clear HP
      go_wp2_with (fail)
      go_ret
      exact ⟨by rw [HALL.out]; rfl, HB.out⟩
end Go.Proofs.Ytockmgcgifhepaa

/- sketch: buckets that have left the window are deleted. -/
namespace Go.Proofs.Ytockmgcgifhepaa
open Go.RowKit
set_option linter.unusedVariables false
set_option linter.unusedSimpArgs false

def zB : List Value := [.int .i64 0, .int .i64 0, .map none]
theorem zeroBk (w : World) : (zeroValue 92).run Try.prog w = .ok (.agg zB.toArray) w := by kernel_rfl
theorem zeroCells_oneB (n : Nat) : ∀ v, v ∈ (Builtin.zeroCells zB.toArray n).toList → v.oneCell' = true := by
  intro v hv
  rw [Builtin.zeroCells, Array.toList_map, List.mem_map] at hv
  obtain ⟨i, _, rfl⟩ := hv
  have : (i % 3 = 0 ∨ i % 3 = 1 ∨ i % 3 = 2) := by omega
  have hz : zB.toArray.size = 3 := rfl
  rw [hz]
  rcases this with h | h | h <;> rw [h] <;> rfl
theorem zeroCells_lenB (n : Nat) : (Builtin.zeroCells zB.toArray n).toList.length = n * 3 := by
  rw [Array.length_toList, size_zeroCells]; rfl
theorem run_clearB (w : World) (ty : TypeId) (b o n c : Nat) (hn : 0 < n)
    (hc : ∀ j, j < n * 3 → (w.cell? ⟨b, o + j, none⟩).isSome = true) (hf : ∀ j, j < n * 3 → w.frozen? ⟨b, o + j, none⟩ = false) :
    (Builtin.clear_ #[84] ty #[.slice (some ⟨b, o, none⟩) n c]).run Try.prog w = .ok (.tuple #[]) (w.setCells b o (Builtin.zeroCells zB.toArray n).toList) := by
  have hst := run_storeCells_cells (P := Try.prog) b o (Builtin.zeroCells zB.toArray n).toList 0 w (by rw [zeroCells_lenB]; simpa using hc) (by rw [zeroCells_lenB]; simpa using hf) (zeroCells_oneB n)
  simp only [Nat.add_zero] at hst
  obtain ⟨m, rfl⟩ : ∃ m, n = m + 1 := ⟨n - 1, by omega⟩
  simp [Builtin.clear_, run_underlying Try.underlying84, zeroBk, Value.cells]
  rw [show (#[Value.int IntKind.i64 0, Value.int IntKind.i64 0, Value.map none] : Array Value) = zB.toArray from rfl, hst]
  rfl

theorem ownsRow_storedMany {base : Nat} {e : TypeId} {size g n cap : Nat} : ∀ (l : List Value) (o : Nat) (w : World) (xs : List Value), w.ownsRow base e size (.slice (some ⟨g, 0, none⟩) n cap) n xs →
    ∃ ys : List Value, (w.setCells g o l).ownsRow base e size (.slice (some ⟨g, 0, none⟩) n cap) n ys ∧ (∀ j, j < o → ys[j]? = xs[j]?) ∧ w.grownBy (w.setCells g o l) (some g)
  | [], o, w, xs, h => ⟨xs, h, fun _ _ => rfl, rfl, rfl, rfl, Nat.le_refl _, fun _ _ _ => rfl⟩
  | v :: l, o, w, xs, h => by
    obtain ⟨h1, g1⟩ := h.stored o v
    obtain ⟨ys, h2, h3, g2⟩ := ownsRow_storedMany l (o + 1) _ _ h1
    refine ⟨ys, h2, fun j hj => ?_, g2.os.trans g1.os, g2.tape.trans g1.tape, g2.output.trans g1.output, Nat.le_trans g1.size g2.size, fun k hk hne => (g2.block k (Nat.lt_of_lt_of_le hk g1.size) hne).trans (g1.block k hk hne)⟩
    rw [h3 j (by omega), List.getElem?_set_ne (by omega)]
theorem ownsRow_cut {base : Nat} {e : TypeId} {size g n cap : Nat} {w : World} {xs : List Value} (h : w.ownsRow base e size (.slice (some ⟨g, 0, none⟩) n cap) n xs) {m : Nat} (hm : m ≤ n) :
    w.ownsRow base e size (.slice (some ⟨g, 0, none⟩) m cap) m (xs.take (m * size)) := by
  obtain ⟨h1, h2⟩ := h
  have hms : m * size ≤ n * size := Nat.mul_le_mul_right _ hm
  rcases h2 with ⟨h', _⟩ | ⟨g', cap', cur, h', hb, hg, hnc, hcm, hcs, htake⟩
  · simp at h'
  · simp only [Value.slice.injEq, Option.some.injEq, Addr.mk.injEq, and_true, true_and] at h'
    obtain ⟨rfl, rfl⟩ := h'
    refine ⟨by rw [List.length_take]; omega, .inr ⟨g, cap, cur, rfl, hb, hg, by omega, hcm, hcs, ?_⟩⟩
    rw [← htake, List.take_take, Nat.min_eq_left hms]

theorem flatB_set {x : BkS} : ∀ {L : List BkS} {i : Nat}, i < L.length → flatB (L.set i x) = (((flatB L).set (i * 3) (.int .i64 x.at_)).set (i * 3 + 1) (.int .i64 x.tot)).set (i * 3 + 2) (.map (some x.m))
  | y :: L, 0, _ => by simp [flatB, BkS.vals]
  | y :: L, i + 1, h => by
    have ih := flatB_set (x := x) (L := L) (i := i) (by simpa using h)
    have e : flatB (y :: L) = y.vals ++ flatB L := rfl
    rw [List.set_cons_succ, show flatB (y :: L.set i x) = y.vals ++ flatB (L.set i x) from rfl, ih, e]
    rw [show (i + 1) * 3 = y.vals.length + i * 3 by simp [BkS.vals]; omega]
    rw [List.set_append_right _ _ (by omega), Nat.add_assoc, List.set_append_right _ _ (by omega), Nat.add_assoc, List.set_append_right _ _ (by omega)]
    congr 1
    simp only [Nat.add_sub_cancel_left]
theorem flatB_take : ∀ (L : List BkS) (i : Nat), (flatB L).take (i * 3) = flatB (L.take i)
  | [], i => by simp [flatB]
  | y :: L, 0 => by simp [flatB]
  | y :: L, i + 1 => by
    rw [List.take_succ_cons, show flatB (y :: L) = y.vals ++ flatB L from rfl, show flatB (y :: L.take i) = y.vals ++ flatB (L.take i) from rfl, ← flatB_take L i]
    rw [show (i + 1) * 3 = y.vals.length + i * 3 by simp [BkS.vals]; omega, List.take_length_add_append]

/-- Under way: j have been looked at; i of them stay, at the head. -/
structure DelI (p : BkS → Bool) (bs : List BkS) (j i : Nat) (L : List BkS) : Prop where
  len : L.length = bs.length
  jn : j ≤ bs.length
  lt : i < j
  low : L.take i = (bs.take j).filter (fun x => !p x)
  high : ∀ m, i ≤ m → L[m]? = bs[m]?
theorem DelI.start {p : BkS → Bool} {bs : List BkS} {k : Nat} (hk : k < bs.length) (hp : p bs[k] = true) (h : ∀ j (hj : j < k), p (bs[j]'(by omega)) = false) : DelI p bs (k + 1) k bs := by
  refine ⟨rfl, hk, Nat.lt_succ_self _, ?_, fun _ _ => rfl⟩
  rw [List.take_succ_eq_append_getElem hk, List.filter_append, List.filter_cons, if_neg (by simp [hp]), List.filter_nil, List.append_nil]
  refine (List.filter_eq_self.2 (fun x hx => ?_)).symm
  obtain ⟨j, hj, rfl⟩ := List.mem_take_iff_getElem.1 hx
  rw [h j (by omega)]; rfl
theorem DelI.skip {p : BkS → Bool} {bs L : List BkS} {j i : Nat} (I : DelI p bs j i L) (hj : j < bs.length) (hp : p bs[j] = true) : DelI p bs (j + 1) i L := by
  refine ⟨I.len, hj, by have := I.lt; omega, ?_, I.high⟩
  rw [List.take_succ_eq_append_getElem hj, List.filter_append, List.filter_cons, if_neg (by simp [hp]), List.filter_nil, List.append_nil]
  exact I.low
theorem DelI.keep {p : BkS → Bool} {bs L : List BkS} {j i : Nat} (I : DelI p bs j i L) (hj : j < bs.length) (hp : p bs[j] = false) : DelI p bs (j + 1) (i + 1) (L.set i bs[j]) := by
  have hlt := I.lt
  have hl := I.len
  refine ⟨by simp [hl], hj, by omega, ?_, fun m hm => by rw [List.getElem?_set_ne (by omega)]; exact I.high m (by omega)⟩
  rw [List.take_succ_eq_append_getElem hj, List.filter_append, List.filter_cons, if_pos (by simp [hp]), List.filter_nil, ← I.low]
  rw [List.take_succ_eq_append_getElem (by simp; omega), List.getElem_set_self, List.take_set_of_le (Nat.le_refl i)]

set_option maxHeartbeats 3200000 in
set_option maxRecDepth 100000 in
theorem skdelete_any {w : World} {v : Value} {bs : List BkS} (hr : RowB w v bs) (few : bs.length ≤ 9223372036854775807) (id : FuncId) (caps : Array Value) (p : BkS → Bool)
    (he : ∀ x : BkS, x ∈ bs → ∀ wx, (callFunc id (#[x.v] ++ caps)).run Try.prog wx = .ok (.enter id (#[x.v] ++ caps)) wx)
    (hf : ∀ x : BkS, x ∈ bs → ∀ wx, Off (fun k => v.ownBlock = some k) w wx → Calls Try.prog id (#[x.v] ++ caps) wx fun e w' => e = .returned (.bool (p x)) ∧ Below wx.heap.size wx w') :
    Calls Try.prog 45 #[v, .func (.func id) #[] caps] w fun e w' => ∃ v', e = .returned v' ∧ RowB w' v' (bs.filter (fun x => !p x)) ∧ v'.ownBlock = v.ownBlock ∧ Off (fun k => v.ownBlock = some k) w w' := by
  have HI := Lib.hid (skindex_any hr few id caps p he (fun x hx wx hwx => hf x hx wx (Off.ofBelow hwx)))
  rcases idxSk_cases p bs with ⟨e1, hall⟩ | ⟨k0, hk0, e1, hp0, hb0⟩
  · have hfil : bs.filter (fun x => !p x) = bs := List.filter_eq_self.2 (fun x hx => by rw [hall x hx]; rfl)
    rw [hfil]
    rw [e1] at HI
    have HR := Lib.hid hr
    clear hr he hf hall hfil e1
    go_enter Try.func45, Try.ntmps45
    go_wp2_with (fail)
    refine HI.out.mono ?_
    rintro e wb ⟨rfl, hbb⟩
    go_wp2_with (fail)
    go_ret
    exact ⟨v, rfl, HR.out.kept (fun g hg => hbb.block g (by obtain ⟨_, h2⟩ := HR.out; rcases h2 with ⟨rfl, _⟩ | ⟨g', cap, cur, rfl, hb, hgg, _⟩; (· cases hg); (· cases hg; exact (Array.getElem?_eq_some_iff.1 hgg).1))), rfl, Off.ofBelow hbb⟩
  · obtain ⟨g, cap, hv, hob, hcap, hgl, _⟩ := hr.cells (by intro e; rw [e] at hk0; simp at hk0)
    subst hv
    rw [e1] at HI
    have HSTART := Lib.hid (DelI.start hk0 hp0 hb0)
    obtain ⟨n, hn⟩ : ∃ n, bs.length = n := ⟨_, rfl⟩
    have HN := Lib.hid hn
    have hk0n : k0 < n := by rw [← hn]; exact hk0
    have HR := Lib.hid (show w.ownsRow 0 92 3 (.slice (some ⟨g, 0, none⟩) n cap) n (flatB bs) by rw [← hn]; exact hr)
    have HE := Lib.hid he
    have HF := Lib.hid hf
    rw [hn] at few hcap HI ⊢
    have hne1 : ((k0 : Int) == -1) = false := beq_eq_false_iff_ne.2 (by omega)
    clear hr he hf hb0 hp0 hk0 hn e1
    go_enter Try.func45, Try.ntmps45
    go_wp2_with (fail)
    refine HI.out.mono ?_
    rintro e wb ⟨rfl, hbb⟩
    have HBB := Lib.hid hbb
    clear hbb
    go_wp2_with (fail)
    go_loopw [5, 6, 7] (fun s5 s6 _ wr => ∃ (i j : Nat) (L : List BkS), s5 = .int .i64 i ∧ s6 = .int .i64 j ∧ Hid (DelI p bs j i L) ∧ Hid (wr.ownsRow 0 92 3 (.slice (some ⟨g, 0, none⟩) n cap) n (flatB L)) ∧ Hid (Off (fun k => some g = some k) w wr)) (fun _ s6 _ _ => n - (intOf s6).toNat)
    case atStart => exact ⟨k0, k0 + 1, bs, rfl, by go_num, HSTART, Lib.hid (HR.out.kept (row := none) ⟨HBB.out.os, HBB.out.tape, HBB.out.output, HBB.out.size, fun k hk _ => HBB.out.block k hk⟩ (Or.inr (by simp [Value.ownBlock]))), Lib.hid (Off.ofBelow HBB.out)⟩
    case round =>
      rename World => wy
      obtain ⟨i, j, L, rfl, rfl, I, HO, HOff⟩ := hrel
      have hlt := I.out.lt
      have hjn : j ≤ n := by rw [← HN.out]; exact I.out.jn
      have hin : i < n := by omega
      have hgy : g < wy.heap.size := Nat.lt_of_lt_of_le hgl HOff.out.size
      by_cases hjlt : j < n
      · have hjb : j < bs.length := by rw [HN.out]; exact hjlt
        have k1 : (j : Int) < n := by omega
        have hmem : (bs[j]'hjb) ∈ bs := List.getElem_mem hjb
        have hLj : L[j]? = some (bs[j]'hjb) := by rw [I.out.high j (by omega)]; exact List.getElem?_eq_getElem hjb
        have d0 := HO.out.cellAt (j * 3) (by omega)
        have d1 := HO.out.cellAt (j * 3 + 1) (by omega)
        have d2 := HO.out.cellAt (j * 3 + 2) (by omega)
        rw [show j * 3 = j * 3 + 0 from rfl, flatB_get hLj 0 (by omega)] at d0
        rw [flatB_get hLj 1 (by omega)] at d1
        rw [flatB_get hLj 2 (by omega)] at d2
        simp only [BkS.vals, Nat.add_zero, List.getElem?_cons_zero, List.getElem?_cons_succ] at d0 d1 d2
        have HX := Lib.hid (HF.out _ hmem)
        have hen := HE.out _ hmem
        have HSK := Lib.hid (fun hp => I.out.skip hjb hp)
        have HKE := Lib.hid (fun hp => I.out.keep hjb hp)
        clear hLj
        generalize bs[j]'hjb = X at *
        obtain ⟨xa, xt, xm, xc⟩ := X
        dsimp only [BkS.v] at *
        have hal : Off (fun k => some g = some k) w (wy.alloc (.cells #[.int .i64 xa, .int .i64 xt, .map (some xm)] 92)) := HOff.out.alloc _
        have HX2 := Lib.hid (HX.out _ hal)
        have HOA := Lib.hid (HO.out.alloc (.cells #[.int .i64 xa, .int .i64 xt, .map (some xm)] 92))
        clear HX
        cases hpx : p ⟨xa, xt, xm, xc⟩ with
        | true =>
          rw [hpx] at HX2
          have HK := Lib.hid (HSK.out hpx)
          clear HSK HKE hpx
          go_wp2_with (fail)
          refine HX2.out.mono ?_
          rintro e wc ⟨rfl, hbc⟩
          have HOC := Lib.hid (HOA.out.kept (row := none) ⟨hbc.os, hbc.tape, hbc.output, hbc.size, fun k hk _ => hbc.block k hk⟩ (Or.inr (by simp [Value.ownBlock])))
          have HOffC := Lib.hid (hal.trans (Off.ofBelow (S := fun k => some g = some k) hbc) (fun _ _ h => h))
          clear hbc
          go_wp2_with (fail)
          exact ⟨⟨i, j + 1, L, rfl, by go_num, HK, HOC, HOffC⟩, by first | (simp [intOf]; done) | (simp [intOf]; omega)⟩
        | false =>
          rw [hpx] at HX2
          have HK := Lib.hid (HKE.out hpx)
          clear HSK HKE hpx
          go_wp2_with (fail)
          refine HX2.out.mono ?_
          rintro e wc ⟨rfl, hbc⟩
          have HOC := Lib.hid (HOA.out.kept (row := none) ⟨hbc.os, hbc.tape, hbc.output, hbc.size, fun k hk _ => hbc.block k hk⟩ (Or.inr (by simp [Value.ownBlock])))
          have HOffC := Lib.hid (hal.trans (Off.ofBelow (S := fun k => some g = some k) hbc) (fun _ _ h => h))
          have hnew := (hbc.block wy.heap.size (by simp)).trans (new_blockS wy (.cells #[.int .i64 xa, .int .i64 xt, .map (some xm)] 92))
          have f0 : wc.cell? ⟨wy.heap.size, 0, none⟩ = some (.int .i64 xa) := by simp only [World.cell?, hnew]; rfl
          have f1 : wc.cell? ⟨wy.heap.size, 1, none⟩ = some (.int .i64 xt) := by simp only [World.cell?, hnew]; rfl
          have f2 : wc.cell? ⟨wy.heap.size, 2, none⟩ = some (.map (some xm)) := by simp only [World.cell?, hnew]; rfl
          have z0 : wc.frozen? ⟨g, i * 3, none⟩ = false := HOC.out.frozenAt _
          have z1 : wc.frozen? ⟨g, i * 3 + 1, none⟩ = false := HOC.out.frozenAt _
          have z2 : wc.frozen? ⟨g, i * 3 + 2, none⟩ = false := HOC.out.frozenAt _
          have hflen := I.out.len
          rw [HN.out] at hflen
          obtain ⟨u0, hu0⟩ : ∃ u, (flatB L)[i * 3]? = some u := ⟨_, List.getElem?_eq_getElem (by rw [flatB_len]; omega)⟩
          obtain ⟨u1, hu1⟩ : ∃ u, (flatB L)[i * 3 + 1]? = some u := ⟨_, List.getElem?_eq_getElem (by rw [flatB_len]; omega)⟩
          obtain ⟨u2, hu2⟩ : ∃ u, (flatB L)[i * 3 + 2]? = some u := ⟨_, List.getElem?_eq_getElem (by rw [flatB_len]; omega)⟩
          have c0 := (HOC.out.cellAt (i * 3) (by omega)).trans hu0
          have c1 := (HOC.out.cellAt (i * 3 + 1) (by omega)).trans hu1
          have c2 := (HOC.out.cellAt (i * 3 + 2) (by omega)).trans hu2
          clear hbc hu0 hu1 hu2 hnew d0 d1 d2
          go_wp2_with (fail)
          obtain ⟨s1, g1⟩ := HOC.out.stored (i * 3) (.int .i64 xa)
          obtain ⟨s2, g2⟩ := s1.stored (i * 3 + 1) (.int .i64 xt)
          obtain ⟨s3, g3⟩ := s2.stored (i * 3 + 2) (.map (some xm))
          rw [← flatB_set (x := ⟨xa, xt, xm, xc⟩) (by omega)] at s3
          exact ⟨⟨i + 1, j + 1, _, by go_num, by go_num, HK, Lib.hid s3, Lib.hid (((HOffC.out.grown g1 (fun _ => rfl)).grown g2 (fun _ => rfl)).grown g3 (fun _ => rfl))⟩, by first | (simp [intOf]; done) | (simp [intOf]; omega)⟩
      · have k1 : ¬ (j : Int) < n := by omega
        have e1 : j = n := by omega
        have hcl := fun ty => run_clearB wy ty g (i * 3) (n - i) (cap - i) (by omega) (fun t ht => by
            rw [HO.out.cellAt (i * 3 + t) (by omega)]
            have hflen := I.out.len
            rw [HN.out] at hflen
            rw [List.getElem?_eq_getElem (by rw [flatB_len]; omega)]; rfl) (fun t ht => HO.out.frozenAt _)
        obtain ⟨ys, hy1, hy2, hy3⟩ := ownsRow_storedMany (Builtin.zeroCells zB.toArray (n - i)).toList (i * 3) wy _ HO.out
        have HY1 := Lib.hid (ownsRow_cut hy1 (Nat.le_of_lt hin))
        have HYT := Lib.hid (show ys.take (i * 3) = flatB (bs.filter (fun x => !p x)) by
          have h1 : ys.take (i * 3) = (flatB L).take (i * 3) := by
            apply List.ext_getElem?
            intro t
            rw [List.getElem?_take, List.getElem?_take]
            split
            · rename_i ht; exact hy2 t ht
            · rfl
          rw [h1, flatB_take, I.out.low, e1, ← HN.out, List.take_length])
        have HLEN := Lib.hid (show i = (bs.filter (fun x => !p x)).length by
          have h1 := congrArg List.length I.out.low
          rw [e1, ← HN.out, List.take_length, List.length_take, I.out.len, HN.out] at h1
          omega)
        have HOFF := Lib.hid (HOff.out.grown hy3 (fun _ => rfl))
        clear hy1 hy2 hy3
        generalize (wy.setCells g (i * 3) (Builtin.zeroCells zB.toArray (n - i)).toList) = wz at *
        go_wp2_with (fail)
        go_ret
        refine ⟨_, rfl, ?_, rfl, HOFF.out⟩
        have h1 := HY1.out
        rw [HYT.out] at h1
        unfold RowB
        rw [← HLEN.out]
        exact h1
end Go.Proofs.Ytockmgcgifhepaa

/- sketch: adding to a bucket's map; what Add leaves. -/
namespace Go.Proofs.Ytockmgcgifhepaa
open Go.RowKit
set_option linter.unusedVariables false
set_option linter.unusedSimpArgs false

theorem wp_append_at {P : Program} (w : World) {o : Oper} {a : Act} {K : Act → World → Prop} {Q : Exit → Act → World → Prop} (s x : Operand) (t : TypeId)
    (ho : o.op = .call { callee := .builtin .append, args := #[s, x], argTypes := #[t, t] })
    (base : Nat) (e : TypeId) (i : TypeInfo) (z : Value) (size bytes : Nat) (ht : P.underlying t = some (.slice e)) (hi : P.info? e = some i) (hz : i.zero = some z)
    (hsize : i.size = size) (hby : i.bytes = bytes) (hzs : z.cells.size = size) (hsz : 0 < size)
    (v : Value) (n : Nat) (xs : List Value) (hs : a.eval s = v) (hown : w.ownsRow base e size v n xs)
    (ad : Addr) (m c : Nat) (news : List Value) (hx : a.eval x = .slice (some ad) m c) (hl : news.length = m * size) (hnews : ∀ j u, news[j]? = some u → w.cell? (ad.add j) = some u) (h1 : ∀ u ∈ news, u.oneCell' = true)
    (h63 : n + m ≤ maxLen) (hbytes : (n + m) * bytes ≤ 140737488355328) (hbase : base ≤ w.heap.size) (hm : m ≠ 0)
    (h : ∀ v' w', w'.ownsRow base e size v' (n + m) (xs ++ news) → w.grownBy w' v.ownBlock → (v'.ownBlock = v.ownBlock ∨ v'.ownBlock = some w.heap.size) → K (a.put o.dst v') w') : o.wp P a w K Q := by
  obtain ⟨v', w', hr, h2, h3, h4⟩ := run_append_where (P := P) w base t o.type e i z size bytes ht hi hz hsize hby hzs hsz v n xs hown ad m c news hl hnews h1 h63 hbytes hbase hm
  unfold Oper.wp execOp
  simp only [ho, resolve, invoke, builtin, Sem.run_bind, Sem.run_pure, Result.andThen_ok, List.map_toArray, List.map_cons, List.map_nil, hs, hx, hr]
  exact h v' w' h2 h3 h4

def setC (cnt : Int → Int → Int) (r c v : Int) : Int → Int → Int := fun r' c' => if r' = r ∧ c' = c then v else cnt r' c'
theorem cellV_inj {r c r' c' : Int} (h : cellV r c = cellV r' c') : r = r' ∧ c = c' := by
  unfold cellV at h
  injection h with h
  simp at h
  exact h
theorem CntAt.update {w : World} {m : Nat} {cnt : Int → Int → Int} (h : CntAt w m cnt) {r c v : Int} (r0 : 0 ≤ r) (r1 : r < 8) (c0 : 0 ≤ c) (c1 : c < 4096) (v0 : 0 ≤ v) (v1 : v ≤ 4611686018427387904) :
    ∃ w', (Instr.mapUpdate 90 (.map (some m)) (.agg #[.int .i64 r, .int .i64 c]) (.int .i64 v)).run Try.prog w = .ok () w' ∧ CntAt w' m (setC cnt r c v) ∧ w.grownBy w' (some m) ∧ w'.heap.size = w.heap.size := by
  obtain ⟨f, n, h1, h2, h3, h4⟩ := h
  obtain ⟨kl, hkl⟩ := keyOf_cell (wf_small r0 (by omega)) (wf_small c0 (by omega))
  have hn : n ≤ ((List.range 8).flatMap (fun r : Nat => (List.range 4096).map (fun c : Nat => cellV (r : Int) (c : Int)))).length := h1.size_le cellKeyed _ (fun key kl hk hf => by
    obtain ⟨r, c, hr, hc, rfl⟩ := h3 key hf
    rw [List.mem_flatMap]
    exact ⟨r, List.mem_range.2 hr, List.mem_map.2 ⟨c, List.mem_range.2 hc, rfl⟩⟩)
  have hL : ((List.range 8).flatMap (fun r : Nat => (List.range 4096).map (fun c : Nat => cellV (r : Int) (c : Int)))).length = 32768 := by
    rw [List.length_flatMap]
    simp only [List.length_map, List.length_range]
    rfl
  obtain ⟨w', e1, e2, e3, e4⟩ := h1.update cellKeyed Try.underlying90 (by rw [hL] at hn; unfold maxLen; omega) hkl (.int .i64 v)
  refine ⟨w', e1, ⟨_, _, e2, ?_, ?_, ?_⟩, e3, e4⟩
  · intro r' c' a0 a1 a2 a3
    unfold setC
    by_cases e : r' = r ∧ c' = c
    · obtain ⟨rfl, rfl⟩ := e
      rw [if_pos ⟨rfl, rfl⟩, updV_same]; rfl
    · rw [if_neg e, updV_other _ _ (fun he => e (cellV_inj he))]
      exact h2 r' c' a0 a1 a2 a3
  · intro key hk
    by_cases e : key = cellV r c
    · exact ⟨r.toNat, c.toNat, by omega, by omega, by rw [e, Int.toNat_of_nonneg r0, Int.toNat_of_nonneg c0]⟩
    · rw [updV_other _ _ e] at hk
      exact h3 key hk
  · intro r' c'
    unfold setC
    split
    · exact ⟨v0, v1⟩
    · exact h4 r' c'

/-- Where the adding of the k-th number stands: rows below r have it. -/
def cntK (R : Int) (col : Int → ByteArray → Int) (key : ByteArray) (ns : List Int) (k : Nat) (r : Int) (cnt : Int → Int → Int) : Int → Int → Int :=
  fun r' c => if (0 ≤ r' ∧ r' < R) ∧ c = col r' key then (if r' < r then foldS (cnt r' c) (ns.take (k + 1)) else foldS (cnt r' c) (ns.take k)) else cnt r' c
theorem cntK_zero (R : Int) (col : Int → ByteArray → Int) (key : ByteArray) (ns : List Int) (k : Nat) (x : BkA) : cntK R col key ns k 0 x.cnt = (addBk R col key (ns.take k) x).cnt := by
  funext r c
  unfold cntK addBk
  dsimp only
  by_cases h : (0 ≤ r ∧ r < R) ∧ c = col r key
  · rw [if_pos h, if_pos h, if_neg (by omega)]
  · rw [if_neg h, if_neg h]
theorem cntK_all (R : Int) (col : Int → ByteArray → Int) (key : ByteArray) (ns : List Int) (k : Nat) (x : BkA) : cntK R col key ns k R x.cnt = (addBk R col key (ns.take (k + 1)) x).cnt := by
  funext r c
  unfold cntK addBk
  dsimp only
  by_cases h : (0 ≤ r ∧ r < R) ∧ c = col r key
  · rw [if_pos h, if_pos h, if_pos (by omega)]
  · rw [if_neg h, if_neg h]
theorem foldS_snoc (s : Int) (ns : List Int) {k : Nat} {y : Int} (hy : ns[k]? = some y) : foldS s (ns.take (k + 1)) = plusS (foldS s (ns.take k)) y := by
  obtain ⟨hk, rfl⟩ := List.getElem?_eq_some_iff.1 hy
  unfold foldS
  rw [List.take_succ_eq_append_getElem hk, List.foldl_append]
  rfl
theorem cntK_step (R : Int) (col : Int → ByteArray → Int) (key : ByteArray) (ns : List Int) (k : Nat) {r y : Int} (r0 : 0 ≤ r) (r1 : r < R) (hy : ns[k]? = some y) (cnt : Int → Int → Int) :
    setC (cntK R col key ns k r cnt) r (col r key) (plusS (cntK R col key ns k r cnt r (col r key)) y) = cntK R col key ns k (r + 1) cnt := by
  funext r' c
  unfold setC
  by_cases e : r' = r ∧ c = col r key
  · obtain ⟨rfl, rfl⟩ := e
    rw [if_pos ⟨rfl, rfl⟩]
    have e1 : cntK R col key ns k r' cnt r' (col r' key) = foldS (cnt r' (col r' key)) (ns.take k) := by
      unfold cntK
      rw [if_pos ⟨⟨r0, r1⟩, rfl⟩, if_neg (by omega)]
    have e2 : cntK R col key ns k (r' + 1) cnt r' (col r' key) = foldS (cnt r' (col r' key)) (ns.take (k + 1)) := by
      unfold cntK
      rw [if_pos ⟨⟨r0, r1⟩, rfl⟩, if_pos (by omega)]
    rw [e1, e2, foldS_snoc _ _ hy]
  · rw [if_neg e]
    unfold cntK
    by_cases h : (0 ≤ r' ∧ r' < R) ∧ c = col r' key
    · rw [if_pos h, if_pos h]
      have hne : r' ≠ r := fun e' => e ⟨e', by rw [← e']; exact h.2⟩
      by_cases hlt : r' < r
      · rw [if_pos hlt, if_pos (by omega)]
      · rw [if_neg hlt, if_neg (by omega)]
    · rw [if_neg h, if_neg h]

def badS (x : Int) : Bool := decide (x < 0) || decide (1099511627776 < x)
def addE (last at_ : Int) (ns : List Int) : Int := if lookS last at_ = 2 then 2 else if ns.any badS then 2 else lookS last at_
theorem lookS_cases (last at_ : Int) : lookS last at_ = 2 ∨ lookS last at_ = 7 ∨ lookS last at_ = 0 := by
  unfold lookS; split
  · exact Or.inl rfl
  · split
    · exact Or.inr (Or.inl rfl)
    · exact Or.inr (Or.inr rfl)

/-- What Add leaves. -/
structure AddPost (w : World) (s : Nat) (h : ShapeS) (last : Int) (v : Value) (bs : List BkS) (b at_ : Int) (key : ByteArray) (ns : List Int) (e : Ending) (w' : World) : Prop where
  ret : e = .returned (.int .i64 (addE last at_ ns))
  off : Off (SkOwn s v bs) w w'
  fine : addE last at_ ns = 0 → ∃ v' bs' pre x, SkAt w' s h at_ v' bs' ∧ withBk (beginS b at_) (keepBk (beginS b at_) h.W (bs.map BkS.a)) = pre ++ [x] ∧ bs'.map BkS.a = pre ++ [addBk h.R (colS h) key ns x] ∧ (∀ i, SkOwn s v' bs' i → SkOwn s v bs i ∨ w.heap.size ≤ i)
  not : addE last at_ ns ≠ 0 → Below w.heap.size w w'

theorem filter_keep (g W : Int) (bs : List BkS) : (bs.filter (fun x => !decide (x.at_ ≤ g - W))).map BkS.a = keepBk g W (bs.map BkS.a) := by
  unfold keepBk
  rw [List.filter_map]
  congr 1
  refine List.filter_congr (fun x _ => ?_)
  show (!decide (x.at_ ≤ g - W)) = decide (g - W < x.at_)
  by_cases h : x.at_ ≤ g - W
  · rw [decide_eq_true h, decide_eq_false (by omega)]; rfl
  · rw [decide_eq_false h, decide_eq_true (by omega)]; rfl

set_option maxHeartbeats 400000 in
theorem skadd1_any (a c g W : Int) (m q r s : Nat) (hg0 : 0 ≤ g) (hg1 : g ≤ 1152921504606846976) (hW0 : 0 ≤ W) (hW1 : W ≤ 1152921504606846976) (w : World) (hq : w.cell? ⟨q, 0, none⟩ = some (.int .i64 g)) (hr : w.cell? ⟨r, 0, none⟩ = some (.pointer (some ⟨s, 0, none⟩))) (hs : w.cell? ⟨s, 0, none⟩ = some (.int .i64 W)) :
    Calls Try.prog 46 #[.agg #[.int .i64 a, .int .i64 c, .map (some m)], .pointer (some ⟨q, 0, none⟩), .pointer (some ⟨r, 0, none⟩)] w fun e w' => e = .returned (.bool (decide (a ≤ g - W))) ∧ Below w.heap.size w w' := by
  have ql := World.block_lt_of_cell? w _ hq
  have rl := World.block_lt_of_cell? w _ hr
  have sl := World.block_lt_of_cell? w _ hs
  have e1 : IntKind.i64.wrap (g - W) = g - W := IntWalk.i64_in _ (by omega)
  go_enter Try.func46, Try.ntmps46
  go_wp2_with (fail)
  go_quiet (fail)
  go_wp2_with (fail)
  go_ret
  exact ⟨rfl, below_drewS ((Below.refl _ _).alloc (Nat.le_refl _) _) _⟩
theorem enA1 (a b : Int) (m q r : Nat) (wx : World) : (callFunc 46 #[.agg #[.int .i64 a, .int .i64 b, .map (some m)], .pointer (some ⟨q, 0, none⟩), .pointer (some ⟨r, 0, none⟩)]).run Try.prog wx = .ok (.enter 46 #[.agg #[.int .i64 a, .int .i64 b, .map (some m)], .pointer (some ⟨q, 0, none⟩), .pointer (some ⟨r, 0, none⟩)]) wx := by kernel_rfl
end Go.Proofs.Ytockmgcgifhepaa

/- sketch: Add. -/
namespace Go.Proofs.Ytockmgcgifhepaa
open Go.RowKit
set_option linter.unusedVariables false
set_option linter.unusedSimpArgs false

theorem addE_look2 {last at_ : Int} {ns : List Int} (h : lookS last at_ = 2) : addE last at_ ns = 2 := by unfold addE; rw [if_pos h]
theorem addE_bad {last at_ : Int} {ns : List Int} (h : ns.any badS = true) : addE last at_ ns = 2 := by
  unfold addE
  by_cases e : lookS last at_ = 2
  · rw [if_pos e]
  · rw [if_neg e, if_pos h]
theorem addE_fine {last at_ : Int} {ns : List Int} (e : lookS last at_ ≠ 2) (h : ns.any badS = false) : addE last at_ ns = lookS last at_ := by
  unfold addE
  rw [if_neg e, if_neg (by rw [h]; simp)]
theorem AddPost.no {w w' : World} {s : Nat} {h : ShapeS} {last : Int} {v : Value} {bs : List BkS} {b at_ : Int} {key : ByteArray} {ns : List Int} {e : Ending} {x : Int} (hE : addE last at_ ns = x) (hx : x ≠ 0) (he : e = .returned (.int .i64 x)) (hw : Below w.heap.size w w') : AddPost w s h last v bs b at_ key ns e w' :=
  ⟨by rw [hE]; exact he, Off.ofBelow hw, fun h0 => absurd (hE.symm.trans h0) hx, fun _ => hw⟩
theorem IntsAt.get {w : World} {a : Option Addr} {xs : List Int} (h : IntsAt w a xs) {k : Nat} {y : Int} (hy : xs[k]? = some y) : ∃ b off, a = some ⟨b, off, none⟩ ∧ b < w.heap.size ∧ w.cell? ⟨b, off + k, none⟩ = some (.int .i64 y) := by
  obtain ⟨hk, rfl⟩ := List.getElem?_eq_some_iff.1 hy
  rcases h with rfl | ⟨b, off, rfl, hlt, hc⟩
  · simp at hk
  · refine ⟨b, off, rfl, hlt, ?_⟩
    rw [hc k hk, List.getD_eq_getElem?_getD, List.getElem?_eq_getElem hk]; rfl
theorem any_take_no {ns : List Int} {k : Nat} (h : (ns.take k).any badS = false) {y : Int} (hy : ns[k]? = some y) (hb : badS y = false) : (ns.take (k + 1)).any badS = false := by
  obtain ⟨hk, rfl⟩ := List.getElem?_eq_some_iff.1 hy
  rw [List.take_succ_eq_append_getElem hk, List.any_append, h, List.any_cons, hb]; rfl
theorem any_yes {ns : List Int} {k : Nat} {y : Int} (hy : ns[k]? = some y) (hb : badS y = true) : ns.any badS = true := List.any_eq_true.2 ⟨y, List.mem_of_getElem? hy, hb⟩

theorem skAt_last {w : World} {s : Nat} {h : ShapeS} {last : Int} {v : Value} {bs : List BkS} (k : SkAt w s h last v bs) {at_ : Int} (a0 : 0 ≤ at_) (a1 : at_ ≤ 1152921504606846976) : SkAt (w.setCell ⟨s, 6, none⟩ (.int .i64 at_)) s h at_ v bs := by
  have hap := k.apart
  rw [List.nodup_cons] at hap
  have ho : ∀ i, i ≠ s → (w.setCell ⟨s, 6, none⟩ (.int .i64 at_)).heap[i]? = w.heap[i]? := fun i hi => heap_setCell_other w _ i _ hi
  refine ⟨heap_setCell_same w s 6 _ _ _ k.head, k.row.kept (fun g hg => ho g (fun e => hap.1 (by rw [← e]; simp [hg]))), fun x hx => (k.maps x hx).kept (ho _ (fun e => hap.1 (by rw [← e]; simp only [List.mem_append, List.mem_map]; exact Or.inr ⟨x, hx, rfl⟩))), k.apart, k.few, k.tots, a0, a1⟩
theorem SkAt.drewN {w : World} {s : Nat} {h : ShapeS} {last : Int} {v : Value} {bs : List BkS} (k : SkAt w s h last v bs) (n : Nat) : SkAt (w.drewN n) s h last v bs := k.kept (fun _ _ => rfl)
theorem SkAt.drew {w : World} {s : Nat} {h : ShapeS} {last : Int} {v : Value} {bs : List BkS} (k : SkAt w s h last v bs) : SkAt w.drew s h last v bs := k.kept (fun _ _ => rfl)
theorem skAt_del {w w' : World} {s : Nat} {h : ShapeS} {last : Int} {v v' : Value} {bs : List BkS} (k : SkAt w s h last v bs) (p : BkS → Bool) (hr : RowB w' v' (bs.filter p)) (hv : v'.ownBlock = v.ownBlock) (ho : Off (fun k => v.ownBlock = some k) w w') :
    SkAt (w'.setCell ⟨s, 5, none⟩ v') s h last v' (bs.filter p) := by
  have hap := k.apart
  rw [List.nodup_cons, List.nodup_append] at hap
  obtain ⟨ap1, ap2, ap3, ap4⟩ := hap
  have hsv : ¬ v.ownBlock = some s := fun e => ap1 (by simp [e])
  have hs' : w'.heap[s]? = w.heap[s]? := ho.block s (k.lt (by simp [SkOwn])) hsv
  have h2 : ∀ i, i ≠ s → (w'.setCell ⟨s, 5, none⟩ v').heap[i]? = w'.heap[i]? := fun i hi => heap_setCell_other w' _ i _ hi
  refine ⟨heap_setCell_same w' s 5 _ _ _ (hs'.trans k.head), hr.kept (fun g hg => h2 g (fun e => hsv (by rw [← hv, ← e]; exact hg))), fun x hx => ?_, ?_, ?_, fun x hx => k.tots x (List.mem_filter.1 hx).1, k.l0, k.l1⟩
  · have hxb := (List.mem_filter.1 hx).1
    have hxm : x.m ∈ bs.map (·.m) := List.mem_map.2 ⟨x, hxb, rfl⟩
    refine ((k.maps x hxb).kept (ho.block x.m (k.maps x hxb).lt (fun e => ap4 x.m (by simp [e]) x.m hxm rfl))).kept (h2 _ (fun e => ap1 (by rw [← e]; simp only [List.mem_append]; exact Or.inr hxm)))
  · rw [hv]
    have hsub : ((bs.filter p).map (·.m)).Sublist (bs.map (·.m)) := List.Sublist.map _ List.filter_sublist
    refine List.Nodup.sublist ?_ k.apart
    exact ((List.Sublist.refl _).append hsub).cons_cons s
  · have := List.length_filter_le p bs
    have := k.few
    omega

theorem skAt_ne {w : World} {s : Nat} {h : ShapeS} {last : Int} {g n cap : Nat} {P : List BkS} {X : BkS} (k : SkAt w s h last (.slice (some ⟨g, 0, none⟩) n cap) (P ++ [X])) : g ≠ s ∧ X.m ≠ s ∧ X.m ≠ g ∧ (∀ x, x ∈ P → x.m ≠ g ∧ x.m ≠ X.m ∧ x.m ≠ s) := by
  have hap := k.apart
  simp only [Value.ownBlock, Option.toList_some, List.singleton_append, List.map_append, List.map_cons, List.map_nil, List.nodup_cons, List.mem_cons, List.mem_append, List.mem_map, List.mem_singleton, List.nodup_append, List.not_mem_nil, or_false, not_or] at hap
  obtain ⟨⟨a1, a2, a3⟩, ⟨a4, a5⟩, a6, a7, a8⟩ := hap
  refine ⟨fun e => a1 e.symm, fun e => a3 e.symm, fun e => a5 e.symm, fun x hx => ⟨fun e => a4 ⟨x, hx, e⟩, fun e => a8 x.m ⟨x, hx, rfl⟩ X.m rfl e, fun e => a2 ⟨x, hx, e⟩⟩⟩
theorem skAt_end {w w' : World} {s : Nat} {h : ShapeS} {last : Int} {g n cap : Nat} {P : List BkS} {X : BkS} (k : SkAt w s h last (.slice (some ⟨g, 0, none⟩) n cap) (P ++ [X])) (ho : Off (fun i => i = g ∨ i = X.m) w w')
    {T : Int} {C : Int → Int → Int} (hr : w'.ownsRow 0 92 3 (.slice (some ⟨g, 0, none⟩) n cap) n (flatB (P ++ [⟨X.at_, T, X.m, C⟩]))) (hn : n = P.length + 1) (hc : CntAt w' X.m C) (t0 : 0 ≤ T) (t1 : T ≤ 4611686018427387904) :
    SkAt w' s h last (.slice (some ⟨g, 0, none⟩) n cap) (P ++ [⟨X.at_, T, X.m, C⟩]) := by
  obtain ⟨n1, n2, n3, n4⟩ := skAt_ne k
  have hl : (P ++ [(⟨X.at_, T, X.m, C⟩ : BkS)]).length = n := by simp [hn]
  refine ⟨(ho.block s (k.lt (by simp [SkOwn])) (fun e => by rcases e with e | e; exact n1 e.symm; exact n2 e.symm)).trans k.head, by unfold RowB; rw [hl]; exact hr, fun x hx => ?_, ?_, ?_, fun x hx => ?_, k.l0, k.l1⟩
  · rcases List.mem_append.1 hx with hx | hx
    · have hm := k.maps x (by simp [hx])
      exact hm.kept (ho.block x.m hm.lt (fun e => by rcases e with e | e; exact (n4 x hx).1 e; exact (n4 x hx).2.1 e))
    · obtain rfl := List.mem_singleton.1 hx
      exact hc
  · have := k.apart
    simpa using this
  · rw [hl]; have := k.few; simp at this; omega
  · rcases List.mem_append.1 hx with hx | hx
    · exact k.tots x (by simp [hx])
    · obtain rfl := List.mem_singleton.1 hx
      have := k.tots X (by simp)
      exact ⟨this.1, this.2.1, t0, t1⟩
theorem last_split {bs : List BkS} {m : Nat} {X : BkS} (h : bs[m]? = some X) (hn : bs.length = m + 1) : bs = bs.take m ++ [X] := by
  obtain ⟨hh1, hh2⟩ := List.getElem?_eq_some_iff.1 h
  have h3 := List.take_succ_eq_append_getElem hh1
  rw [hh2, List.take_of_length_le (by omega)] at h3
  exact h3
theorem wp_mid {P : Program} {c : Code} {K : Exit → Act → World → Prop} {a : Act} {w : World} (R : Act → Act → World → Prop) (h1 : c.wp P (fun e a' w' => e = .normal ∧ R a a' w') a w) (h2 : ∀ a' w', R a a' w' → K .normal a' w') : c.wp P K a w :=
  wp_mono h1 (fun e a' w' h => by obtain ⟨rfl, h⟩ := h; exact h2 a' w' h)
theorem rowB_below {w wB : World} {s : Nat} {h : ShapeS} {last : Int} {v : Value} {bs : List BkS} (k : SkAt w s h last v bs) (hb : Below w.heap.size w wB) : wB.ownsRow 0 92 3 v bs.length (flatB bs) := (k.below hb).row
/-- A new bucket behind the others. -/
theorem skAt_push {w wB wN : World} {s : Nat} {h : ShapeS} {last : Int} {v v' : Value} {bs : List BkS} (k : SkAt w s h last v bs) (hb : Below w.heap.size w wB) {m : Nat} (hm : CntAt wB m (fun _ _ => 0)) (hm0 : w.heap.size ≤ m) {G : Int} (g0 : 0 ≤ G) (g1 : G ≤ 1152921504606846976)
    (hf : bs.length + 1 ≤ 9223372036854775807)
    (hr : wN.ownsRow 0 92 3 v' (bs.length + 1) (flatB bs ++ [.int .i64 G, .int .i64 0, .map (some m)])) (hg : wB.grownBy wN v.ownBlock) (hv : v'.ownBlock = v.ownBlock ∨ v'.ownBlock = some wB.heap.size) :
    SkAt (wN.setCell ⟨s, 5, none⟩ v') s h last v' (bs ++ [⟨G, 0, m, fun _ _ => 0⟩]) ∧ Off (SkOwn s v bs) w (wN.setCell ⟨s, 5, none⟩ v') ∧ (∀ i, SkOwn s v' (bs ++ [⟨G, 0, m, fun _ _ => 0⟩]) i → SkOwn s v bs i ∨ w.heap.size ≤ i) := by
  have hap := k.apart
  rw [List.nodup_cons, List.nodup_append] at hap
  obtain ⟨ap1, ap2, ap3, ap4⟩ := hap
  have kB := k.below hb
  have hvl : ∀ g, v.ownBlock = some g → g < w.heap.size := fun g e => k.lt (by simp [SkOwn, e])
  have hsl : s < w.heap.size := k.lt (by simp [SkOwn])
  have hz := hb.size
  have hml := hm.lt
  have hsv : ¬ v.ownBlock = some s := fun e => ap1 (by simp [e])
  have hsv' : ¬ v'.ownBlock = some s := fun e => by
    rcases hv with h1 | h1
    · exact hsv (h1.symm.trans e)
    · rw [h1] at e; injection e with e; omega
  have h2 : ∀ i, i ≠ s → (wN.setCell ⟨s, 5, none⟩ v').heap[i]? = wN.heap[i]? := fun i hi => heap_setCell_other wN _ i _ hi
  have hold : ∀ x, x ∈ bs → x.m < w.heap.size ∧ x.m ≠ s ∧ some x.m ≠ v.ownBlock := fun x hx => by
    have hxm : x.m ∈ bs.map (·.m) := List.mem_map.2 ⟨x, hx, rfl⟩
    exact ⟨(k.maps x hx).lt, fun e => ap1 (by rw [← e]; simp only [List.mem_append]; exact Or.inr hxm), fun e => ap4 x.m (by simp [← e]) x.m hxm rfl⟩
  have hms : m ≠ s := by omega
  have hmv : some m ≠ v.ownBlock := fun e => by have := hvl m e.symm; omega
  have hfl : flatB (bs ++ [⟨G, 0, m, fun _ _ => 0⟩]) = flatB bs ++ [.int .i64 G, .int .i64 0, .map (some m)] := by simp [flatB, BkS.vals]
  refine ⟨⟨?_, ?_, ?_, ?_, ?_, ?_, k.l0, k.l1⟩, ?_, ?_⟩
  · exact heap_setCell_same wN s 5 _ _ _ ((hg.block s (by omega) (fun e => hsv e.symm)).trans kB.head)
  · have hr2 : RowB wN v' (bs ++ [⟨G, 0, m, fun _ _ => 0⟩]) := by
      unfold RowB
      rw [hfl, show (bs ++ [(⟨G, 0, m, fun _ _ => 0⟩ : BkS)]).length = bs.length + 1 by simp]
      exact hr
    exact hr2.kept (fun g hg => h2 g (fun e => hsv' (by rw [← e]; exact hg)))
  · intro x hx
    rcases List.mem_append.1 hx with hx | hx
    · obtain ⟨e1, e2, e3⟩ := hold x hx
      exact ((kB.maps x hx).kept (hg.block x.m (by omega) e3)).kept (h2 _ e2)
    · obtain rfl := List.mem_singleton.1 hx
      exact (hm.kept (hg.block m hml hmv)).kept (h2 _ hms)
  · rw [List.nodup_cons, List.nodup_append]
    refine ⟨?_, by cases v'.ownBlock <;> simp, ?_, ?_⟩
    · intro e
      simp only [List.mem_append, Option.mem_toList, List.map_append, List.map_cons, List.map_nil, List.mem_singleton] at e
      rcases e with e | e | e
      · exact hsv' e
      · obtain ⟨x, hx, e⟩ := List.mem_map.1 e
        exact (hold x hx).2.1 e
      · exact hms e.symm
    · rw [List.map_append, List.nodup_append]
      refine ⟨ap3, by simp, fun a ha b hb' e => ?_⟩
      obtain ⟨x, hx, rfl⟩ := List.mem_map.1 ha
      have hb2 : b = m := by simpa using hb'
      have := (hold x hx).1
      omega
    · intro a ha b hb' e
      subst e
      have ha2 : v'.ownBlock = some a := by simpa using ha
      simp only [List.map_append, List.mem_append, List.map_cons, List.map_nil, List.mem_singleton] at hb'
      rcases hv with h1 | h1
      · rcases hb' with e | e
        · obtain ⟨x, hx, rfl⟩ := List.mem_map.1 e
          exact (hold x hx).2.2 (by rw [← h1]; exact ha2.symm)
        · subst e; exact hmv (by rw [← h1]; exact ha2.symm)
      · rw [h1] at ha2
        injection ha2 with ha2
        rcases hb' with e | e
        · obtain ⟨x, hx, e⟩ := List.mem_map.1 e
          have := (hold x hx).1
          omega
        · omega
  · simpa using hf
  · intro x hx
    rcases List.mem_append.1 hx with hx | hx
    · exact k.tots x hx
    · obtain rfl := List.mem_singleton.1 hx
      exact ⟨g0, g1, Int.le_refl _, by show (0 : Int) ≤ _; omega⟩
  · refine Off.setCell (p := ⟨s, 5, none⟩) ?_ (fun _ => by simp [SkOwn]) _
    refine (Off.ofBelow (S := SkOwn s v bs) hb).trans (S' := fun i => v.ownBlock = some i) ⟨hg.os, hg.tape, hg.output, hg.size, fun i hi hn => hg.block i hi (fun e => hn e.symm)⟩ (fun i _ e => by simp [SkOwn, e])
  · intro i hi
    unfold SkOwn at hi
    simp only [List.mem_cons, List.mem_append, Option.mem_toList, List.map_append, List.map_cons, List.map_nil, List.not_mem_nil, or_false] at hi
    rcases hi with hi | hi | hi | hi
    · exact Or.inl (by simp [SkOwn, hi])
    · rcases hv with h1 | h1
      · exact Or.inl (by rw [h1] at hi; simp [SkOwn, hi])
      · right; rw [h1] at hi; injection hi with hi; omega
    · exact Or.inl (by unfold SkOwn; simp only [List.mem_cons, List.mem_append]; exact Or.inr (Or.inr hi))
    · right; omega
theorem any_nonneg {ns : List Int} (h : ns.any badS = false) : ∀ x, x ∈ ns → 0 ≤ x ∧ x ≤ 1099511627776 := by
  intro x hx
  rw [List.any_eq_false] at h
  have := h x hx
  simp only [badS, Bool.or_eq_true, decide_eq_true_eq, not_or] at this
  omega
def stepB (h : ShapeS) (key : ByteArray) (ns : List Int) (X : BkS) : BkS := ⟨X.at_, foldS X.tot ns, X.m, (addBk h.R (colS h) key ns X.a).cnt⟩
theorem stepB_a (h : ShapeS) (key : ByteArray) (ns : List Int) (X : BkS) : (stepB h key ns X).a = addBk h.R (colS h) key ns X.a := rfl
theorem stepB_nil (h : ShapeS) (key : ByteArray) (X : BkS) : stepB h key [] X = X := by
  have : (addBk h.R (colS h) key [] X.a).cnt = X.cnt := by
    funext r c
    show (if (0 ≤ r ∧ r < h.R) ∧ c = colS h r key then X.cnt r c else X.cnt r c) = X.cnt r c
    split <;> rfl
  show (⟨X.at_, X.tot, X.m, (addBk h.R (colS h) key [] X.a).cnt⟩ : BkS) = X
  rw [this]
def midB (h : ShapeS) (key : ByteArray) (ns : List Int) (k : Nat) (r : Int) (X : BkS) : BkS := ⟨X.at_, foldS X.tot (ns.take (k + 1)), X.m, cntK h.R (colS h) key ns k r X.cnt⟩
theorem midB_all (h : ShapeS) (key : ByteArray) (ns : List Int) (k : Nat) (X : BkS) : midB h key ns k h.R X = stepB h key (ns.take (k + 1)) X := by
  unfold midB stepB
  rw [show cntK h.R (colS h) key ns k h.R X.cnt = cntK h.R (colS h) key ns k h.R X.a.cnt from rfl, cntK_all]

/-- What the region of the append leaves. -/
def PushR (a a' : Act) (w' w : World) (s : Nat) (h : ShapeS) (at_ : Int) (n1 : Nat) (bs1 : List BkS) (G : Int) (v : Value) (bs : List BkS) : Prop :=
  ∃ (x84 x85 x86 x87 x88 x89 x90 x91 x92 x93 x94 x95 : Value) (gN capN mN : Nat), a' = (((((((((((a.put (some 84) x84).put (some 85) x85).put (some 86) x86).put (some 87) x87).put (some 88) x88).put (some 89) x89).put (some 90) x90).put (some 91) x91).put (some 92) x92).put (some 93) x93).put (some 94) x94).put (some 95) x95 ∧
    SkAt w' s h at_ (.slice (some ⟨gN, 0, none⟩) (n1 + 1) capN) (bs1 ++ [⟨G, 0, mN, fun _ _ => 0⟩]) ∧ w'.cell? ⟨w.heap.size, 0, none⟩ = some (.pointer (some ⟨s, 0, none⟩)) ∧ Off (SkOwn s v bs) w w' ∧ (∀ i, SkOwn s (.slice (some ⟨gN, 0, none⟩) (n1 + 1) capN) (bs1 ++ [⟨G, 0, mN, fun _ _ => 0⟩]) i → SkOwn s v bs i ∨ w.heap.size < i)
theorem run_makeMapS (w : World) : (Instr.makeMap 90 none).run Try.prog w = .ok (.map (some w.heap.size)) (w.alloc (.map #[] 0)) := run_makeMap _ w
theorem info_bk : (Try.prog.info? 92).map (fun i => (i.zero, i.size, i.bytes)) = some (some (.agg zB.toArray), 3, 24) := by kernel_rfl
theorem three_cells (w : World) (x y z : Value) (t : TypeId) : ∀ j u, ([x, y, z] : List Value)[j]? = some u → (w.alloc (.cells #[x, y, z] t)).cell? ((⟨w.heap.size, 0, none⟩ : Addr).add j) = some u := by
  intro j u h
  have hz := new_blockS w (.cells #[x, y, z] t)
  rw [WideShapes.add_plain, Nat.zero_add]
  match j with
  | 0 => simp at h; subst h; simp only [World.cell?, hz]; rfl
  | 1 => simp at h; subst h; simp only [World.cell?, hz]; rfl
  | 2 => simp at h; subst h; simp only [World.cell?, hz]; rfl
theorem boxed2_grown {w w3 : World} {p q : Nat} {x y : Value} {row : Option Nat} (h : w.cell? ⟨p, 0, none⟩ = some x ∧ w.cell? ⟨q, 0, none⟩ = some y) (hg : w.grownBy w3 row) (h1 : row ≠ some p) (h2 : row ≠ some q) : w3.cell? ⟨p, 0, none⟩ = some x ∧ w3.cell? ⟨q, 0, none⟩ = some y :=
  ⟨hg.cell h.1 (fun e => h1 e.symm), hg.cell h.2 (fun e => h2 e.symm)⟩
theorem boxed2_set {w : World} {p q r o : Nat} {x y u : Value} (h : w.cell? ⟨p, 0, none⟩ = some x ∧ w.cell? ⟨q, 0, none⟩ = some y) (h1 : r ≠ p) (h2 : r ≠ q) : (w.setCell ⟨r, o, none⟩ u).cell? ⟨p, 0, none⟩ = some x ∧ (w.setCell ⟨r, o, none⟩ u).cell? ⟨q, 0, none⟩ = some y :=
  ⟨cell_far h.1 (by simp [h1]), cell_far h.2 (by simp [h2])⟩
theorem boxed2 {w : World} {p q : Nat} {x y : Value} {o : Obj} (h : w.cell? ⟨p, 0, none⟩ = some x ∧ w.cell? ⟨q, 0, none⟩ = some y) : (w.alloc o).cell? ⟨p, 0, none⟩ = some x ∧ (w.alloc o).cell? ⟨q, 0, none⟩ = some y :=
  ⟨(World.cell?_alloc_lt w _ _ (World.block_lt_of_cell? w _ h.1)).trans h.1, (World.cell?_alloc_lt w _ _ (World.block_lt_of_cell? w _ h.2)).trans h.2⟩
set_option maxHeartbeats 6400000 in
set_option maxRecDepth 100000 in
theorem skadd_any {w : World} {s : Nat} {h : ShapeS} {last : Int} {v : Value} {bs : List BkS} (hs : SkAt w s h last v bs) {b : Int} (hb : ShapeOk h b) (at_ : Int) (key : ByteArray) (hk : key.size ≤ maxLen)
    (a : Option Addr) (len cap : Nat) (ns : List Int) (hl : ns.length = len) (hm : len ≤ 9223372036854775807) (hn : IntsAt w a ns) (hap : ns ≠ [] → ∀ g off, a = some ⟨g, off, none⟩ → ¬ SkOwn s v bs g)
    (hroom : last ≤ at_ → (keepBk (beginS b at_) h.W (bs.map BkS.a)).length ≤ 1099511627776) :
    Calls Try.prog 20 #[.pointer (some ⟨s, 0, none⟩), .int .i64 at_, .string key, .slice a len cap] w (AddPost w s h last v bs b at_ key ns) := by
  obtain ⟨c0, c1, c2, c3, c4, c5, c6⟩ := hs.headCells
  have hsl := hs.lt (i := s) (by simp [SkOwn])
  have HS := Lib.hid hs
  have HBK := Lib.hid hb
  have HN := Lib.hid hn
  have HL := Lib.hid hl
  have HAP := Lib.hid hap
  have HROOM := Lib.hid hroom
  have hbox : ∀ o, (w.alloc o).heap.size = w.heap.size + 1 := by intro o; simp
  have HLK := Lib.hid (sklook_any s last at_ (w.alloc (.cells #[.pointer (some ⟨s, 0, none⟩)] 29)) ((World.cell?_alloc_lt w _ _ hsl).trans c6))
  have HBL : Hid (Below w.heap.size w (w.alloc (.cells #[.pointer (some ⟨s, 0, none⟩)] 29))) := (Below.refl _ _).alloc (Nat.le_refl _) _
  clear hs hb hn hl hap hroom hbox
  rcases lookS_cases last at_ with hE | hE | hE
  · have HE := Lib.hid hE
    rw [hE] at HLK
    clear hE
    go_enter Try.func20, Try.ntmps20
    go_wp2_with (fail)
    refine HLK.out.mono ?_
    rintro e wq ⟨rfl, hq⟩
    subst hq
    go_wp2_with (fail)
    go_ret
    exact AddPost.no (addE_look2 HE.out) (by decide) rfl HBL.out
  · have HE := Lib.hid hE
    rw [hE] at HLK
    clear hE
    go_enter Try.func20, Try.ntmps20
    go_wp2_with (fail)
    refine HLK.out.mono ?_
    rintro e wq ⟨rfl, hq⟩
    subst hq
    go_wp2_with (fail)
    go_loopw [11, 31] (fun _ i wr => ∃ (k : Nat), k ≤ len ∧ i = .int .i64 k ∧ Hid ((ns.take k).any badS = false) ∧ wr = w.alloc (.cells #[.pointer (some ⟨s, 0, none⟩)] 29)) (fun _ i _ => len - (intOf i).toNat)
    case atStart => exact ⟨0, Nat.zero_le _, rfl, Lib.hid (by simp), rfl⟩
    case round =>
      rename World => wy
      obtain ⟨k, hk2, rfl, HA, rfl⟩ := hrel
      by_cases hlt : k < len
      · have hkl : k < ns.length := by rw [HL.out]; exact hlt
        have k0 : (0 : Int) ≤ k := by omega
        have k1 : (k : Int) < len := by omega
        obtain ⟨y, hy⟩ : ∃ y, ns[k]? = some y := ⟨_, List.getElem?_eq_getElem hkl⟩
        obtain ⟨b0, off, ha, hb0, hc⟩ := HN.out.get hy
        have hc := (World.cell?_alloc_lt w (.cells #[.pointer (some ⟨s, 0, none⟩)] 29) ⟨b0, off + k, none⟩ hb0).trans hc
        have HY := Lib.hid hy
        subst ha
        clear hy
        by_cases hneg : y < 0
        · go_wp2_with (fail)
          go_ret
          exact AddPost.no (addE_bad (any_yes HY.out (by unfold badS; rw [decide_eq_true hneg]; rfl))) (by decide) rfl HBL.out
        · by_cases hbig : 1099511627776 < y
          · go_wp2_with (fail)
            go_ret
            exact AddPost.no (addE_bad (any_yes HY.out (by unfold badS; rw [decide_eq_true hbig, Bool.or_true]))) (by decide) rfl HBL.out
          · go_wp2_with (fail)
            exact ⟨⟨k + 1, by omega, by go_num, Lib.hid (any_take_no HA.out HY.out (by unfold badS; rw [decide_eq_false hneg, decide_eq_false hbig]; rfl)), by first | rfl | trivial⟩, by first | (simp [intOf]; done) | (simp [intOf]; omega)⟩
      · have k1 : ¬ (k : Int) < len := by omega
        have HALL := Lib.hid (show ns.any badS = false by
          have := HA.out
          rw [List.take_of_length_le (by rw [HL.out]; omega)] at this
          exact this)
        clear HA
        go_wp2_with (fail)
        go_ret
        exact AddPost.no ((addE_fine (by rw [HE.out]; decide) HALL.out).trans HE.out) (by decide) rfl HBL.out
  · have HE := Lib.hid hE
    rw [hE] at HLK
    clear hE
    go_enter Try.func20, Try.ntmps20
    go_wp2_with (fail)
    refine HLK.out.mono ?_
    rintro e wq ⟨rfl, hq⟩
    subst hq
    go_wp2_with (fail)
    go_loopw [11, 31] (fun _ i wr => ∃ (k : Nat), k ≤ len ∧ i = .int .i64 k ∧ Hid ((ns.take k).any badS = false) ∧ wr = w.alloc (.cells #[.pointer (some ⟨s, 0, none⟩)] 29)) (fun _ i _ => len - (intOf i).toNat)
    case atStart => exact ⟨0, Nat.zero_le _, rfl, Lib.hid (by simp), rfl⟩
    case round =>
      rename World => wy
      obtain ⟨k, hk2, rfl, HA, rfl⟩ := hrel
      by_cases hlt : k < len
      · have hkl : k < ns.length := by rw [HL.out]; exact hlt
        have k0 : (0 : Int) ≤ k := by omega
        have k1 : (k : Int) < len := by omega
        obtain ⟨y, hy⟩ : ∃ y, ns[k]? = some y := ⟨_, List.getElem?_eq_getElem hkl⟩
        obtain ⟨b0, off, ha, hb0, hc⟩ := HN.out.get hy
        have hc := (World.cell?_alloc_lt w (.cells #[.pointer (some ⟨s, 0, none⟩)] 29) ⟨b0, off + k, none⟩ hb0).trans hc
        have HY := Lib.hid hy
        subst ha
        clear hy
        by_cases hneg : y < 0
        · go_wp2_with (fail)
          go_ret
          exact AddPost.no (addE_bad (any_yes HY.out (by unfold badS; rw [decide_eq_true hneg]; rfl))) (by decide) rfl HBL.out
        · by_cases hbig : 1099511627776 < y
          · go_wp2_with (fail)
            go_ret
            exact AddPost.no (addE_bad (any_yes HY.out (by unfold badS; rw [decide_eq_true hbig, Bool.or_true]))) (by decide) rfl HBL.out
          · go_wp2_with (fail)
            exact ⟨⟨k + 1, by omega, by go_num, Lib.hid (any_take_no HA.out HY.out (by unfold badS; rw [decide_eq_false hneg, decide_eq_false hbig]; rfl)), by first | rfl | trivial⟩, by first | (simp [intOf]; done) | (simp [intOf]; omega)⟩
      · have k1 : ¬ (k : Int) < len := by omega
        have HALL := Lib.hid (show ns.any badS = false by
          have := HA.out
          rw [List.take_of_length_le (by rw [HL.out]; omega)] at this
          exact this)
        clear HA
        have HADD := Lib.hid ((addE_fine (ns := ns) (by rw [HE.out]; decide) HALL.out).trans HE.out)
        obtain ⟨a0, a1, a2⟩ := lookS_ok HE.out
        have HBG := Lib.hid (fun wx => skbegin_any h b at_ HBK.out a0 (by omega) wx)
        have hg0 := beginS_nonneg (b := b) (t := at_) (by have := HBK.out.b1; omega) a0
        have hg1 := beginS_le (b := b) (t := at_) (by have := HBK.out.b1; omega)
        obtain ⟨G, hG⟩ : ∃ G, beginS b at_ = G := ⟨_, rfl⟩
        rw [hG] at HBG hg0 hg1
        have HGG := Lib.hid hG
        have hfrz : w.frozen? ⟨s, 6, none⟩ = false := frozen_of_row w s 6 _ _ HS.out.head
        clear hG
        go_wp2_with (fail)
        refine (HBG.out _).mono ?_
        rintro e wb ⟨rfl, hbb⟩
        have hkA : SkAt ((w.setCell ⟨s, 6, none⟩ (.int .i64 at_)).alloc (.cells #[.pointer (some ⟨s, 0, none⟩)] 29)) s h at_ v bs := (skAt_last HS.out a0 a1).below ((Below.refl _ _).alloc (Nat.le_refl _) _)
        have hzA : ((w.setCell ⟨s, 6, none⟩ (.int .i64 at_)).alloc (.cells #[.pointer (some ⟨s, 0, none⟩)] 29)).heap.size = w.heap.size + 1 := by simp
        have hoA : Off (SkOwn s v bs) w ((w.setCell ⟨s, 6, none⟩ (.int .i64 at_)).alloc (.cells #[.pointer (some ⟨s, 0, none⟩)] 29)) := ((Off.refl _ w).setCell (p := ⟨s, 6, none⟩) (fun _ => by simp [SkOwn]) _).alloc _
        have hbA : ((w.setCell ⟨s, 6, none⟩ (.int .i64 at_)).alloc (.cells #[.pointer (some ⟨s, 0, none⟩)] 29)).cell? ⟨w.heap.size, 0, none⟩ = some (.pointer (some ⟨s, 0, none⟩)) := by
          have := new_blockS (w.setCell ⟨s, 6, none⟩ (.int .i64 at_)) (.cells #[.pointer (some ⟨s, 0, none⟩)] 29)
          rw [World.size_setCell] at this
          simp only [World.cell?, this]; rfl
        generalize (w.setCell ⟨s, 6, none⟩ (.int .i64 at_)).alloc (.cells #[.pointer (some ⟨s, 0, none⟩)] 29) = wA at *
        have hzb := hbb.size
        have hal : Below wb.heap.size wb (wb.alloc (.cells #[.int .i64 G] 3)) := (Below.refl _ _).alloc (Nat.le_refl _) _
        have hAC : Below wA.heap.size wA (wb.alloc (.cells #[.int .i64 G] 3)) := hbb.trans (hal.mono hzb)
        have hkC := hkA.below hAC
        have hoC := hoA.trans (Off.ofBelow (S := SkOwn s v bs) hAC) (fun _ _ h => h)
        have hbC := (hAC.cell (p := ⟨w.heap.size, 0, none⟩) (show w.heap.size < wA.heap.size by omega)).trans hbA
        have hqC : (wb.alloc (.cells #[.int .i64 G] 3)).cell? ⟨wb.heap.size, 0, none⟩ = some (.int .i64 G) := by
          have := new_blockS wb (.cells #[.int .i64 G] 3)
          simp only [World.cell?, this]; rfl
        obtain ⟨q, hq⟩ : ∃ q, wb.heap.size = q := ⟨_, rfl⟩
        have hqw : w.heap.size < q := by omega
        rw [hq] at hqC
        have HZ : Hid ((wb.alloc (.cells #[.int .i64 G] 3)).heap.size = q + 1) := Lib.hid (by simp [hq])
        have hnC := HN.out
        go_wp2_with (fail)
        clear c0 c1 c2 c3 c4 c5 c6 hbA hoA hkA hal hzb hfrz
        generalize wb.alloc (.cells #[.int .i64 G] 3) = wC at *
        obtain ⟨c0, c1, c2, c3, c4, c5, c6⟩ := hkC.headCells
        have w1 := HBK.out.W1
        have w2 := HBK.out.W2
        have hhead : s < w.heap.size := hsl
        have hvne : ∀ k, v.ownBlock = some k → k < w.heap.size ∧ k ≠ s := fun k e => ⟨HS.out.lt (by simp [SkOwn, e]), fun e2 => by
          have hap := HS.out.apart
          rw [List.nodup_cons] at hap
          exact hap.1 (by rw [← e2]; simp [e])⟩
        have HDEL := Lib.hid (skdelete_any (w := wC.drew) (v := v) (bs := bs) (hkC.row.kept (fun _ _ => rfl)) hkC.few 46 #[.pointer (some ⟨q, 0, none⟩), .pointer (some ⟨w.heap.size, 0, none⟩)] (fun x => decide (x.at_ ≤ G - h.W))
          (fun x _ wx => enA1 _ _ _ _ _ wx) (fun x hx wx ho => skadd1_any x.at_ x.tot G h.W x.m q w.heap.size s hg0 (by omega) (by omega) (by omega) wx
            (ho.cell (show wC.drew.cell? _ = _ from hqC) (fun e => by have := (hvne _ e).1; dsimp only at this; omega))
            (ho.cell (show wC.drew.cell? _ = _ from hbC) (fun e => by have := (hvne _ e).1; dsimp only at this; omega))
            (ho.cell (show wC.drew.cell? _ = _ from c0) (fun e => (hvne _ e).2 rfl))))
        have HKC := Lib.hid hkC
        have HOC := Lib.hid hoC
        have HVNE := Lib.hid hvne
        have HQC := Lib.hid hqC
        have hz14 := HZ.out
        have hfrz5 : wC.frozen? ⟨s, 5, none⟩ = false := frozen_of_row wC s 5 _ _ hkC.head
        have HHEAD := Lib.hid hkC.head
        clear hkC hoC hvne hAC hbb
        refine wp_region_held_drew (S := fun wx => wx.cell? ⟨w.heap.size, 0, none⟩ = some (.pointer (some ⟨s, 0, none⟩))) (by kernel_rfl) ?_ (fun hHeld => ?_)
        · exact hbC
        refine wpAnyH_take (i := 0) (v := ?_) rfl (by kernel_rfl) (by kernel_rfl) (by kernel_rfl) (fun _ _ _ h => h) (Or.inl ⟨by rfl, ?hy⟩) (by assumption) ?_
        case hy => intro w hSw; (try dsimp only at hSw); go_simp; try with_reducible rfl
        try simp only [Act.put, List.getElem_toArray, List.getElem_cons_succ, List.getElem_cons_zero, List.setIfInBounds_toArray, List.set_cons_zero, List.set_cons_succ]
        refine wpAnyH_take (i := 1) (v := ?_) rfl (by kernel_rfl) (by kernel_rfl) (by kernel_rfl) (fun _ _ _ h => h) (Or.inl ⟨by rfl, ?hy⟩) (by assumption) ?_
        case hy => intro w hSw; (try dsimp only at hSw); go_simp; try with_reducible rfl
        try simp only [Act.put, List.getElem_toArray, List.getElem_cons_succ, List.getElem_cons_zero, List.setIfInBounds_toArray, List.set_cons_zero, List.set_cons_succ]
        refine wpAnyH_take (i := 2) (v := ?_) rfl (by kernel_rfl) (by kernel_rfl) (by kernel_rfl) (fun _ _ _ h => h) (Or.inl ⟨by rfl, ?hy⟩) (by assumption) ?_
        case hy => intro w hSw; (try dsimp only at hSw); go_simp; try with_reducible rfl
        try simp only [Act.put, List.getElem_toArray, List.getElem_cons_succ, List.getElem_cons_zero, List.setIfInBounds_toArray, List.set_cons_zero, List.set_cons_succ]
        refine wpAnyH_take (i := 3) (v := ?_) rfl (by kernel_rfl) (by kernel_rfl) (by kernel_rfl) (fun _ _ _ h => h) (Or.inl ⟨by rfl, ?hy⟩) (by assumption) ?_
        case hy => intro w hSw; (try dsimp only at hSw); go_simp; try with_reducible rfl
        try simp only [Act.put, List.getElem_toArray, List.getElem_cons_succ, List.getElem_cons_zero, List.setIfInBounds_toArray, List.set_cons_zero, List.set_cons_succ]
        refine wpAnyH_take (i := 5) (v := ?_) rfl (by kernel_rfl) (by kernel_rfl) (by kernel_rfl) (fun _ _ _ h => h) (Or.inl ⟨by rfl, ?hy⟩) (by assumption) ?_
        case hy => intro w hSw; (try dsimp only at hSw); go_simp; try with_reducible rfl
        try simp only [Act.put, List.getElem_toArray, List.getElem_cons_succ, List.getElem_cons_zero, List.setIfInBounds_toArray, List.set_cons_zero, List.set_cons_succ]
        refine wpAnyH_ready (rs := [4]) (by kernel_rfl) (by simp) (AllReadyH.cons rfl (fun K hK => ?_) AllReadyH.nil)
        go_simp
        skip
        try (go_wp2_with fail)
        refine hK.out _ _ ?_ (fun hHeld => ?_)
        · exact hHeld
        clear hK K
        try simp only [Act.put, List.getElem_toArray, List.getElem_cons_succ, List.getElem_cons_zero, List.setIfInBounds_toArray, List.set_cons_zero, List.set_cons_succ]
        refine wpAnyH_ready (rs := [6]) (by kernel_rfl) (by simp) (AllReadyH.cons rfl (fun K hK => ?_) AllReadyH.nil)
        go_simp
        refine HDEL.out.mono ?_
        rintro e wD ⟨vD, rfl, hrD, hvD, hoD⟩
        have hkD := skAt_del HKC.out.drew _ hrD hvD hoD
        have hsD : ¬ v.ownBlock = some s := fun e => (HVNE.out _ e).2 rfl
        have hfrD : wD.frozen? ⟨s, 5, none⟩ = false := frozen_of_row wD s 5 _ _ ((hoD.block s (show s < wC.drew.heap.size by have := HZ.out; have : wC.drew.heap.size = wC.heap.size := rfl; omega) hsD).trans HHEAD.out)
        have hcD := hoD.cell (show wC.drew.cell? _ = _ from c5) hsD
        have hmp := filter_keep G h.W bs
        have hsubm : ∀ x, x ∈ bs.filter (fun x => !decide (x.at_ ≤ G - h.W)) → x.m ∈ bs.map (·.m) := fun x hx => List.mem_map.2 ⟨x, (List.mem_filter.1 hx).1, rfl⟩
        generalize bs.filter (fun x => !decide (x.at_ ≤ G - h.W)) = bs1 at *
        obtain ⟨aD, capD, hvD1, hcapD⟩ := hrD.slice
        obtain ⟨n1, hn1⟩ : ∃ n1, bs1.length = n1 := ⟨_, rfl⟩
        rw [hn1] at hvD1 hcapD
        subst hvD1
        try (go_wp2_with fail)
        refine hK.out _ _ ?_ (fun hHeld => ?_)
        · exact hoD.cell hHeld (fun e => by have := (HVNE.out _ e).1; dsimp only at this; omega)
        clear hK K
        try simp only [Act.put, List.getElem_toArray, List.getElem_cons_succ, List.getElem_cons_zero, List.setIfInBounds_toArray, List.set_cons_zero, List.set_cons_succ]
        refine wpAnyH_take (i := 7) (v := ?_) rfl (by kernel_rfl) (by kernel_rfl) (by kernel_rfl) (fun _ _ _ h => h) (Or.inl ⟨by rfl, ?hy⟩) (by assumption) ?_
        case hy => intro w hSw; (try dsimp only at hSw); go_simp; try with_reducible rfl
        try simp only [Act.put, List.getElem_toArray, List.getElem_cons_succ, List.getElem_cons_zero, List.setIfInBounds_toArray, List.set_cons_zero, List.set_cons_succ]
        refine wpAnyH_take (i := 8) (v := ?_) rfl (by kernel_rfl) (by kernel_rfl) (by kernel_rfl) (fun _ _ _ h => h) (Or.inl ⟨by rfl, ?hy⟩) (by assumption) ?_
        case hy => intro w hSw; (try dsimp only at hSw); go_simp; try with_reducible rfl
        try simp only [Act.put, List.getElem_toArray, List.getElem_cons_succ, List.getElem_cons_zero, List.setIfInBounds_toArray, List.set_cons_zero, List.set_cons_succ]
        refine wpAnyH_ready (rs := [9]) (by kernel_rfl) (by simp) (AllReadyH.cons rfl (fun K hK => ?_) AllReadyH.nil)
        go_simp
        skip
        try (go_wp2_with fail)
        refine hK.out _ _ ?_ (fun hHeld => ?_)
        · exact cell_far hHeld (by first | (simp; done) | (simp; omega))
        clear hK K
        try simp only [Act.put, List.getElem_toArray, List.getElem_cons_succ, List.getElem_cons_zero, List.setIfInBounds_toArray, List.set_cons_zero, List.set_cons_succ]
        refine wpAnyH_done (by kernel_rfl) ?_ _
        have hbE := hHeld
        have hqE : (wD.setCell ⟨s, 5, none⟩ (.slice aD n1 capD)).cell? ⟨q, 0, none⟩ = some (.int .i64 G) := cell_far (hoD.cell (show wC.drew.cell? _ = _ from hqC) (fun e => by have := (HVNE.out _ e).1; dsimp only at this; omega)) (by first | (simp; done) | (simp; omega))
        have hzE : q + 1 ≤ (wD.setCell ⟨s, 5, none⟩ (.slice aD n1 capD)).heap.size := by
          have := hoD.size
          rw [show wC.drew.heap.size = wC.heap.size from rfl, HZ.out] at this
          simpa using this
        have HOE : Hid (Off (SkOwn s v bs) w (wD.setCell ⟨s, 5, none⟩ (.slice aD n1 capD))) := Lib.hid ((((HOC.out.trans (Off.ofBelow (S := SkOwn s v bs) ((Below.refl _ _).drew)) (fun _ _ h => h)).trans hoD (fun i _ e => by simp [SkOwn, e])).setCell (p := ⟨s, 5, none⟩) (fun _ => by simp [SkOwn]) _))
        have HOWN : Hid (∀ i, SkOwn s (.slice aD n1 capD) bs1 i → SkOwn s v bs i) := Lib.hid (fun i hi => by
          unfold SkOwn at hi ⊢
          rw [hvD] at hi
          simp only [List.mem_cons, List.mem_append] at hi ⊢
          rcases hi with hi | hi | hi
          · exact Or.inl hi
          · exact Or.inr (Or.inl hi)
          · obtain ⟨x, hx, rfl⟩ := List.mem_map.1 hi
            exact Or.inr (Or.inr (hsubm x hx)))
        have HMP := Lib.hid hmp
        have HKE := Lib.hid hkD
        clear HDEL hoD hsD hfrD hcD hrD hkD hbC hqC c0 c1 c2 c3 c4 c5 c6 hfrz5 HHEAD HKC HOC HQC hmp hsubm hHeld hz14 HZ
        clear hvD
        generalize wD.setCell ⟨s, 5, none⟩ (.slice aD n1 capD) = wE at *
        obtain ⟨c0, c1, c2, c3, c4, c5, c6⟩ := HKE.out.headCells
        go_wp2_with (fail)
        by_cases hn0 : n1 = 0
        · have hz0 : ((n1 : Int) == 0) = true := by simp [hn0]
          have HN1 := Lib.hid hn1
          have HN0 := Lib.hid hn0
          have HNL := Lib.hid (show ¬ (bs1.map BkS.a).getLast?.map (·.at_) = some G by
            have : bs1 = [] := List.length_eq_zero_iff.1 (by omega)
            rw [this]; simp)
          clear hn1 hn0
          go_quiet (fail)
          go_wp2_with (fail)
          have HKF := Lib.hid (HKE.out.drewN nq)
          have hzF : q + 1 ≤ (wE.drewN nq).heap.size := hzE
          have HOF := Lib.hid (HOE.out.trans (Off.ofBelow (S := SkOwn s v bs) (w := wE) (w' := wE.drewN nq) ⟨rfl, rfl, rfl, Nat.le_refl _, fun _ _ => rfl⟩) (fun _ _ h => h))
          have hbF : (wE.drewN nq).cell? ⟨w.heap.size, 0, none⟩ = some (.pointer (some ⟨s, 0, none⟩)) := hbE
          have hqF : (wE.drewN nq).cell? ⟨q, 0, none⟩ = some (.int .i64 G) := hqE
          have c5F : (wE.drewN nq).cell? ⟨s, 5, none⟩ = some (.slice aD n1 capD) := c5
          generalize wE.drewN nq = wF at *
          refine wp_mid (fun a a' w' => PushR a a' w' w s h at_ n1 bs1 G v bs) ?_ ?_
          · have c5A : ∀ o, (wF.alloc o).cell? ⟨s, 5, none⟩ = some (.slice aD n1 capD) := fun o => (World.cell?_alloc_lt wF o _ (World.block_lt_of_cell? wF _ c5F)).trans c5F
            have c5B : ∀ o o', ((wF.alloc o).alloc o').cell? ⟨s, 5, none⟩ = some (.slice aD n1 capD) := fun o o' => (World.cell?_alloc_lt _ o' _ (World.block_lt_of_cell? _ _ (c5A o))).trans (c5A o)
            obtain ⟨i0, hi, hz0, hz1, hz2⟩ := info_parts info_bk
            have hmk := fun wx => run_makeMapS wx
            have hn1b : n1 ≤ 1099511627776 := by
              have h1 := congrArg List.length HMP.out
              rw [List.length_map, HN1.out] at h1
              rw [h1, ← HGG.out]; exact HROOM.out a2
            have hbm : Below wF.heap.size wF (wF.alloc (.map #[] 0)) := (Below.refl _ _).alloc (Nat.le_refl _) _
            have HBW := Lib.hid (show Below wF.heap.size wF ((wF.alloc (.map #[] 0)).alloc (.cells #[.int .i64 G, .int .i64 0, .map (some wF.heap.size)] 92)).drew from (hbm.alloc (by simp) _).drew)
            have HROW := Lib.hid (show ((wF.alloc (.map #[] 0)).alloc (.cells #[.int .i64 G, .int .i64 0, .map (some wF.heap.size)] 92)).drew.ownsRow 0 92 3 (.slice aD n1 capD) n1 (flatB bs1) by
              have h1 := rowB_below HKF.out HBW.out
              rw [HN1.out] at h1
              exact h1)
            have HTC := Lib.hid (show ∀ j u, ([.int .i64 G, .int .i64 0, .map (some wF.heap.size)] : List Value)[j]? = some u → ((wF.alloc (.map #[] 0)).alloc (.cells #[.int .i64 G, .int .i64 0, .map (some wF.heap.size)] 92)).drew.cell? ((⟨wF.heap.size + 1, 0, none⟩ : Addr).add j) = some u from fun j u hu => by
              have h1 := three_cells (wF.alloc (.map #[] 0)) (.int .i64 G) (.int .i64 0) (.map (some wF.heap.size)) 92 j u hu
              rw [World.size_alloc] at h1
              exact h1)
            have HCN := Lib.hid (show CntAt ((wF.alloc (.map #[] 0)).alloc (.cells #[.int .i64 G, .int .i64 0, .map (some wF.heap.size)] 92)).drew wF.heap.size (fun _ _ => 0) from (cntAt_made wF).kept (by
              show ((wF.alloc (.map #[] 0)).alloc _).heap[wF.heap.size]? = _
              rw [get_allocS, if_neg (by simp)]))
            have hslF : s < wF.heap.size := HKF.out.lt (by simp [SkOwn])
            have HHW := Lib.hid ((HBW.out.block s hslF).trans HKF.out.head)
            have HSW := Lib.hid (show s < ((wF.alloc (.map #[] 0)).alloc (.cells #[.int .i64 G, .int .i64 0, .map (some wF.heap.size)] 92)).drew.heap.size from Nat.lt_of_lt_of_le hslF HBW.out.size)
            have hvo : ∀ i, (Value.slice aD n1 capD).ownBlock = some i → i < w.heap.size ∧ i ≠ s := fun i e => ⟨HS.out.lt (HOWN.out i (by simp [SkOwn, e])), fun e2 => by
              have hap := HKF.out.apart
              rw [List.nodup_cons] at hap
              exact hap.1 (by rw [← e2]; simp [e])⟩
            have HVS := Lib.hid (show ¬ (Value.slice aD n1 capD).ownBlock = some s from fun e => (hvo s e).2 rfl)
            have HVB := Lib.hid (show (Value.slice aD n1 capD).ownBlock ≠ some w.heap.size ∧ (Value.slice aD n1 capD).ownBlock ≠ some q from ⟨fun e => by have := (hvo _ e).1; omega, fun e => by have := (hvo _ e).1; omega⟩)
            clear hbm hvo
            refine wp_region_noPanic ?_
            refine wp_region_held_drew (S := fun wx => wx.cell? ⟨w.heap.size, 0, none⟩ = some (.pointer (some ⟨s, 0, none⟩)) ∧ wx.cell? ⟨q, 0, none⟩ = some (.int .i64 G)) (by kernel_rfl) ?_ (fun hHeld => ?_)
            · exact ⟨hbF, hqF⟩
            refine wpAnyH_take (i := 0) (v := ?_) rfl (by kernel_rfl) (by kernel_rfl) (by kernel_rfl) (fun _ _ _ h => h) (Or.inl ⟨by rfl, ?hy⟩) (by assumption) ?_
            case hy => intro w hSw; (try dsimp only at hSw); go_simp; try with_reducible rfl
            try simp only [Act.put, List.getElem_toArray, List.getElem_cons_succ, List.getElem_cons_zero, List.setIfInBounds_toArray, List.set_cons_zero, List.set_cons_succ]
            refine wpAnyH_take (i := 1) (v := ?_) rfl (by kernel_rfl) (by kernel_rfl) (by kernel_rfl) (fun _ _ _ h => h) (Or.inl ⟨by rfl, ?hy⟩) (by assumption) ?_
            case hy => intro w hSw; (try dsimp only at hSw); go_simp; try with_reducible rfl
            try simp only [Act.put, List.getElem_toArray, List.getElem_cons_succ, List.getElem_cons_zero, List.setIfInBounds_toArray, List.set_cons_zero, List.set_cons_succ]
            refine wpAnyH_take (i := 2) (v := ?_) rfl (by kernel_rfl) (by kernel_rfl) (by kernel_rfl) (fun _ _ _ h => h) (Or.inl ⟨by rfl, ?hy⟩) (by assumption) ?_
            case hy => intro w hSw; (try dsimp only at hSw); go_simp; try with_reducible rfl
            try simp only [Act.put, List.getElem_toArray, List.getElem_cons_succ, List.getElem_cons_zero, List.setIfInBounds_toArray, List.set_cons_zero, List.set_cons_succ]
            refine wpAnyH_take (i := 3) (v := ?_) rfl (by kernel_rfl) (by kernel_rfl) (by kernel_rfl) (fun _ _ _ h => h) (Or.inl ⟨by rfl, ?hy⟩) (by assumption) ?_
            case hy => intro w hSw; (try dsimp only at hSw); go_simp; try with_reducible rfl
            try simp only [Act.put, List.getElem_toArray, List.getElem_cons_succ, List.getElem_cons_zero, List.setIfInBounds_toArray, List.set_cons_zero, List.set_cons_succ]
            refine wpAnyH_take (i := 5) (v := ?_) rfl (by kernel_rfl) (by kernel_rfl) (by kernel_rfl) (fun _ _ _ h => h) (Or.inl ⟨by rfl, ?hy⟩) (by assumption) ?_
            case hy => intro w hSw; (try dsimp only at hSw); go_simp; try with_reducible rfl
            try simp only [Act.put, List.getElem_toArray, List.getElem_cons_succ, List.getElem_cons_zero, List.setIfInBounds_toArray, List.set_cons_zero, List.set_cons_succ]
            refine wpAnyH_ready (rs := [4, 6]) (by kernel_rfl) (by simp) (AllReadyH.cons rfl (fun K hK => ?_) (AllReadyH.cons rfl (fun K hK => ?_) AllReadyH.nil))
            · go_simp
              try (go_wp2_with fail)
              refine hK.out _ _ ?_ (fun hHeld => ?_)
              · exact hHeld
              clear hK K
              try simp only [Act.put, List.getElem_toArray, List.getElem_cons_succ, List.getElem_cons_zero, List.setIfInBounds_toArray, List.set_cons_zero, List.set_cons_succ]
              refine wpAnyH_ready (rs := [6]) (by kernel_rfl) (by simp) (AllReadyH.cons rfl (fun K hK => ?_) AllReadyH.nil)
              go_simp
              skip
              try (go_wp2_with fail)
              refine hK.out _ _ ?_ (fun hHeld => ?_)
              · exact boxed2 hHeld
              clear hK K
              try simp only [Act.put, List.getElem_toArray, List.getElem_cons_succ, List.getElem_cons_zero, List.setIfInBounds_toArray, List.set_cons_zero, List.set_cons_succ]
              refine wpAnyH_take (i := 7) (v := ?_) rfl (by kernel_rfl) (by kernel_rfl) (by kernel_rfl) (fun _ _ _ h => h) (Or.inl ⟨by rfl, ?hy⟩) (by assumption) ?_
              case hy => intro w hSw; (try dsimp only at hSw); go_simp; try with_reducible rfl
              try simp only [Act.put, List.getElem_toArray, List.getElem_cons_succ, List.getElem_cons_zero, List.setIfInBounds_toArray, List.set_cons_zero, List.set_cons_succ]
              refine wpAnyH_ready (rs := [8]) (by kernel_rfl) (by simp) (AllReadyH.cons rfl (fun K hK => ?_) AllReadyH.nil)
              go_simp
              skip
              try (go_wp2_with fail)
              refine hK.out _ _ ?_ (fun hHeld => ?_)
              · exact boxed2 hHeld
              clear hK K
              try simp only [Act.put, List.getElem_toArray, List.getElem_cons_succ, List.getElem_cons_zero, List.setIfInBounds_toArray, List.set_cons_zero, List.set_cons_succ]
              refine wpAnyH_ready (rs := [9]) (by kernel_rfl) (by simp) (AllReadyH.cons rfl (fun K hK => ?_) AllReadyH.nil)
              rw [if_pos (by rfl)]
              refine wp_append_at _ (.tmp 88) (.tmp 92) 84 rfl 0 92 i0 (.agg zB.toArray) 3 24 Try.underlying84 hi hz0 hz1 hz2 rfl (by decide) (.slice aD n1 capD) n1 (flatB bs1) rfl HROW.out ⟨wF.heap.size + 1, 0, none⟩ 1 1 [.int .i64 G, .int .i64 0, .map (some wF.heap.size)] rfl rfl HTC.out (by intro u hu; simp at hu; rcases hu with rfl | rfl | rfl <;> rfl) (by unfold maxLen; omega) (by omega) (Nat.zero_le _) (by decide) ?_
              intro v3 w3 hown3 hg3 hk3
              obtain ⟨g3, cap3, rfl⟩ : ∃ g c, v3 = .slice (some ⟨g, 0, none⟩) (n1 + 1) c := by
                rcases hown3.2 with ⟨_, hz⟩ | ⟨g, c, cur, hz, _⟩
                · omega
                · exact ⟨g, c, hz⟩
              have HPUSH := Lib.hid (skAt_push HKF.out HBW.out HCN.out (Nat.le_refl _) hg0 (by omega) (by rw [HN1.out]; omega) (by rw [HN1.out]; exact hown3) hg3 hk3)
              have hs3 := (hg3.block s HSW.out (fun e => HVS.out e.symm)).trans HHW.out
              have c3s : w3.cell? ⟨s, 5, none⟩ = some (.slice aD n1 capD) := by simp only [World.cell?, hs3]; rfl
              have f3s : w3.frozen? ⟨s, 5, none⟩ = false := frozen_of_row w3 s 5 _ _ hs3
              have HG3 := Lib.hid hg3
              clear hown3 hg3 hk3 hs3
              refine hK.out _ _ (boxed2_grown hHeld HG3.out HVB.out.1 HVB.out.2) (fun hHeld => ?_)
              clear hK K
              try simp only [Act.put, List.getElem_toArray, List.getElem_cons_succ, List.getElem_cons_zero, List.setIfInBounds_toArray, List.set_cons_zero, List.set_cons_succ]
              refine wpAnyH_take (i := 10) (v := ?_) rfl (by kernel_rfl) (by kernel_rfl) (by kernel_rfl) (fun _ _ _ h => h) (Or.inl ⟨by rfl, ?hy⟩) (by assumption) ?_
              case hy => intro w hSw; (try dsimp only at hSw); go_simp; try with_reducible rfl
              try simp only [Act.put, List.getElem_toArray, List.getElem_cons_succ, List.getElem_cons_zero, List.setIfInBounds_toArray, List.set_cons_zero, List.set_cons_succ]
              refine wpAnyH_take (i := 11) (v := ?_) rfl (by kernel_rfl) (by kernel_rfl) (by kernel_rfl) (fun _ _ _ h => h) (Or.inl ⟨by rfl, ?hy⟩) (by assumption) ?_
              case hy => intro w hSw; (try dsimp only at hSw); go_simp; try with_reducible rfl
              try simp only [Act.put, List.getElem_toArray, List.getElem_cons_succ, List.getElem_cons_zero, List.setIfInBounds_toArray, List.set_cons_zero, List.set_cons_succ]
              refine wpAnyH_ready (rs := [12]) (by kernel_rfl) (by simp) (AllReadyH.cons rfl (fun K hK => ?_) AllReadyH.nil)
              go_simp
              skip
              try (go_wp2_with fail)
              refine hK.out _ _ ?_ (fun hHeld => ?_)
              · exact boxed2_set hHeld (by omega) (by omega)
              clear hK K
              try simp only [Act.put, List.getElem_toArray, List.getElem_cons_succ, List.getElem_cons_zero, List.setIfInBounds_toArray, List.set_cons_zero, List.set_cons_succ]
              refine wpAnyH_done (by kernel_rfl) ?_ _
              refine NoPanic.normal ?_
              refine ⟨rfl, .pointer (some ⟨s, 0, none⟩), .pointer (some ⟨s, 0, none⟩), .pointer (some ⟨s, 0, none⟩), .pointer (some ⟨s, 5, none⟩), .slice aD n1 capD, .int .i64 G, .map (some wF.heap.size), .agg #[.int .i64 G, .int .i64 0, .map (some wF.heap.size)], .slice (some ⟨wF.heap.size + 1, 0, none⟩) 1 1, .slice (some ⟨g3, 0, none⟩) (n1 + 1) cap3, .pointer (some ⟨s, 0, none⟩), .pointer (some ⟨s, 5, none⟩), g3, cap3, wF.heap.size, ?_, HPUSH.out.1, hHeld.1, HOF.out.trans HPUSH.out.2.1 (fun i _ hi => HOWN.out i hi), fun i hi => ?_⟩
              · simp only [Act.put, List.setIfInBounds_toArray, List.set_cons_zero, List.set_cons_succ]
              rcases HPUSH.out.2.2 i hi with h1 | h1
              · exact Or.inl (HOWN.out i h1)
              · exact Or.inr (by omega)
            · go_simp
              try (go_wp2_with fail)
              refine hK.out _ _ ?_ (fun hHeld => ?_)
              · exact boxed2 hHeld
              clear hK K
              try simp only [Act.put, List.getElem_toArray, List.getElem_cons_succ, List.getElem_cons_zero, List.setIfInBounds_toArray, List.set_cons_zero, List.set_cons_succ]
              refine wpAnyH_take (i := 7) (v := ?_) rfl (by kernel_rfl) (by kernel_rfl) (by kernel_rfl) (fun _ _ _ h => h) (Or.inl ⟨by rfl, ?hy⟩) (by assumption) ?_
              case hy => intro w hSw; (try dsimp only at hSw); go_simp; try with_reducible rfl
              try simp only [Act.put, List.getElem_toArray, List.getElem_cons_succ, List.getElem_cons_zero, List.setIfInBounds_toArray, List.set_cons_zero, List.set_cons_succ]
              refine wpAnyH_ready (rs := [4, 8]) (by kernel_rfl) (by simp) (AllReadyH.cons rfl (fun K hK => ?_) (AllReadyH.cons rfl (fun K hK => ?_) AllReadyH.nil))
              · go_simp
                try (go_wp2_with fail)
                refine hK.out _ _ ?_ (fun hHeld => ?_)
                · exact hHeld
                clear hK K
                try simp only [Act.put, List.getElem_toArray, List.getElem_cons_succ, List.getElem_cons_zero, List.setIfInBounds_toArray, List.set_cons_zero, List.set_cons_succ]
                refine wpAnyH_ready (rs := [8]) (by kernel_rfl) (by simp) (AllReadyH.cons rfl (fun K hK => ?_) AllReadyH.nil)
                go_simp
                skip
                try (go_wp2_with fail)
                refine hK.out _ _ ?_ (fun hHeld => ?_)
                · exact boxed2 hHeld
                clear hK K
                try simp only [Act.put, List.getElem_toArray, List.getElem_cons_succ, List.getElem_cons_zero, List.setIfInBounds_toArray, List.set_cons_zero, List.set_cons_succ]
                refine wpAnyH_ready (rs := [9]) (by kernel_rfl) (by simp) (AllReadyH.cons rfl (fun K hK => ?_) AllReadyH.nil)
                rw [if_pos (by rfl)]
                refine wp_append_at _ (.tmp 88) (.tmp 92) 84 rfl 0 92 i0 (.agg zB.toArray) 3 24 Try.underlying84 hi hz0 hz1 hz2 rfl (by decide) (.slice aD n1 capD) n1 (flatB bs1) rfl HROW.out ⟨wF.heap.size + 1, 0, none⟩ 1 1 [.int .i64 G, .int .i64 0, .map (some wF.heap.size)] rfl rfl HTC.out (by intro u hu; simp at hu; rcases hu with rfl | rfl | rfl <;> rfl) (by unfold maxLen; omega) (by omega) (Nat.zero_le _) (by decide) ?_
                intro v3 w3 hown3 hg3 hk3
                obtain ⟨g3, cap3, rfl⟩ : ∃ g c, v3 = .slice (some ⟨g, 0, none⟩) (n1 + 1) c := by
                  rcases hown3.2 with ⟨_, hz⟩ | ⟨g, c, cur, hz, _⟩
                  · omega
                  · exact ⟨g, c, hz⟩
                have HPUSH := Lib.hid (skAt_push HKF.out HBW.out HCN.out (Nat.le_refl _) hg0 (by omega) (by rw [HN1.out]; omega) (by rw [HN1.out]; exact hown3) hg3 hk3)
                have hs3 := (hg3.block s HSW.out (fun e => HVS.out e.symm)).trans HHW.out
                have c3s : w3.cell? ⟨s, 5, none⟩ = some (.slice aD n1 capD) := by simp only [World.cell?, hs3]; rfl
                have f3s : w3.frozen? ⟨s, 5, none⟩ = false := frozen_of_row w3 s 5 _ _ hs3
                have HG3 := Lib.hid hg3
                clear hown3 hg3 hk3 hs3
                refine hK.out _ _ (boxed2_grown hHeld HG3.out HVB.out.1 HVB.out.2) (fun hHeld => ?_)
                clear hK K
                try simp only [Act.put, List.getElem_toArray, List.getElem_cons_succ, List.getElem_cons_zero, List.setIfInBounds_toArray, List.set_cons_zero, List.set_cons_succ]
                refine wpAnyH_take (i := 10) (v := ?_) rfl (by kernel_rfl) (by kernel_rfl) (by kernel_rfl) (fun _ _ _ h => h) (Or.inl ⟨by rfl, ?hy⟩) (by assumption) ?_
                case hy => intro w hSw; (try dsimp only at hSw); go_simp; try with_reducible rfl
                try simp only [Act.put, List.getElem_toArray, List.getElem_cons_succ, List.getElem_cons_zero, List.setIfInBounds_toArray, List.set_cons_zero, List.set_cons_succ]
                refine wpAnyH_take (i := 11) (v := ?_) rfl (by kernel_rfl) (by kernel_rfl) (by kernel_rfl) (fun _ _ _ h => h) (Or.inl ⟨by rfl, ?hy⟩) (by assumption) ?_
                case hy => intro w hSw; (try dsimp only at hSw); go_simp; try with_reducible rfl
                try simp only [Act.put, List.getElem_toArray, List.getElem_cons_succ, List.getElem_cons_zero, List.setIfInBounds_toArray, List.set_cons_zero, List.set_cons_succ]
                refine wpAnyH_ready (rs := [12]) (by kernel_rfl) (by simp) (AllReadyH.cons rfl (fun K hK => ?_) AllReadyH.nil)
                go_simp
                skip
                try (go_wp2_with fail)
                refine hK.out _ _ ?_ (fun hHeld => ?_)
                · exact boxed2_set hHeld (by omega) (by omega)
                clear hK K
                try simp only [Act.put, List.getElem_toArray, List.getElem_cons_succ, List.getElem_cons_zero, List.setIfInBounds_toArray, List.set_cons_zero, List.set_cons_succ]
                refine wpAnyH_done (by kernel_rfl) ?_ _
                refine NoPanic.normal ?_
                refine ⟨rfl, .pointer (some ⟨s, 0, none⟩), .pointer (some ⟨s, 0, none⟩), .pointer (some ⟨s, 0, none⟩), .pointer (some ⟨s, 5, none⟩), .slice aD n1 capD, .int .i64 G, .map (some wF.heap.size), .agg #[.int .i64 G, .int .i64 0, .map (some wF.heap.size)], .slice (some ⟨wF.heap.size + 1, 0, none⟩) 1 1, .slice (some ⟨g3, 0, none⟩) (n1 + 1) cap3, .pointer (some ⟨s, 0, none⟩), .pointer (some ⟨s, 5, none⟩), g3, cap3, wF.heap.size, ?_, HPUSH.out.1, hHeld.1, HOF.out.trans HPUSH.out.2.1 (fun i _ hi => HOWN.out i hi), fun i hi => ?_⟩
                · simp only [Act.put, List.setIfInBounds_toArray, List.set_cons_zero, List.set_cons_succ]
                rcases HPUSH.out.2.2 i hi with h1 | h1
                · exact Or.inl (HOWN.out i h1)
                · exact Or.inr (by omega)
              · go_simp
                try (go_wp2_with fail)
                refine hK.out _ _ ?_ (fun hHeld => ?_)
                · exact boxed2 hHeld
                clear hK K
                try simp only [Act.put, List.getElem_toArray, List.getElem_cons_succ, List.getElem_cons_zero, List.setIfInBounds_toArray, List.set_cons_zero, List.set_cons_succ]
                refine wpAnyH_ready (rs := [4]) (by kernel_rfl) (by simp) (AllReadyH.cons rfl (fun K hK => ?_) AllReadyH.nil)
                go_simp
                skip
                try (go_wp2_with fail)
                refine hK.out _ _ ?_ (fun hHeld => ?_)
                · exact hHeld
                clear hK K
                try simp only [Act.put, List.getElem_toArray, List.getElem_cons_succ, List.getElem_cons_zero, List.setIfInBounds_toArray, List.set_cons_zero, List.set_cons_succ]
                refine wpAnyH_ready (rs := [9]) (by kernel_rfl) (by simp) (AllReadyH.cons rfl (fun K hK => ?_) AllReadyH.nil)
                rw [if_pos (by rfl)]
                refine wp_append_at _ (.tmp 88) (.tmp 92) 84 rfl 0 92 i0 (.agg zB.toArray) 3 24 Try.underlying84 hi hz0 hz1 hz2 rfl (by decide) (.slice aD n1 capD) n1 (flatB bs1) rfl HROW.out ⟨wF.heap.size + 1, 0, none⟩ 1 1 [.int .i64 G, .int .i64 0, .map (some wF.heap.size)] rfl rfl HTC.out (by intro u hu; simp at hu; rcases hu with rfl | rfl | rfl <;> rfl) (by unfold maxLen; omega) (by omega) (Nat.zero_le _) (by decide) ?_
                intro v3 w3 hown3 hg3 hk3
                obtain ⟨g3, cap3, rfl⟩ : ∃ g c, v3 = .slice (some ⟨g, 0, none⟩) (n1 + 1) c := by
                  rcases hown3.2 with ⟨_, hz⟩ | ⟨g, c, cur, hz, _⟩
                  · omega
                  · exact ⟨g, c, hz⟩
                have HPUSH := Lib.hid (skAt_push HKF.out HBW.out HCN.out (Nat.le_refl _) hg0 (by omega) (by rw [HN1.out]; omega) (by rw [HN1.out]; exact hown3) hg3 hk3)
                have hs3 := (hg3.block s HSW.out (fun e => HVS.out e.symm)).trans HHW.out
                have c3s : w3.cell? ⟨s, 5, none⟩ = some (.slice aD n1 capD) := by simp only [World.cell?, hs3]; rfl
                have f3s : w3.frozen? ⟨s, 5, none⟩ = false := frozen_of_row w3 s 5 _ _ hs3
                have HG3 := Lib.hid hg3
                clear hown3 hg3 hk3 hs3
                refine hK.out _ _ (boxed2_grown hHeld HG3.out HVB.out.1 HVB.out.2) (fun hHeld => ?_)
                clear hK K
                try simp only [Act.put, List.getElem_toArray, List.getElem_cons_succ, List.getElem_cons_zero, List.setIfInBounds_toArray, List.set_cons_zero, List.set_cons_succ]
                refine wpAnyH_take (i := 10) (v := ?_) rfl (by kernel_rfl) (by kernel_rfl) (by kernel_rfl) (fun _ _ _ h => h) (Or.inl ⟨by rfl, ?hy⟩) (by assumption) ?_
                case hy => intro w hSw; (try dsimp only at hSw); go_simp; try with_reducible rfl
                try simp only [Act.put, List.getElem_toArray, List.getElem_cons_succ, List.getElem_cons_zero, List.setIfInBounds_toArray, List.set_cons_zero, List.set_cons_succ]
                refine wpAnyH_take (i := 11) (v := ?_) rfl (by kernel_rfl) (by kernel_rfl) (by kernel_rfl) (fun _ _ _ h => h) (Or.inl ⟨by rfl, ?hy⟩) (by assumption) ?_
                case hy => intro w hSw; (try dsimp only at hSw); go_simp; try with_reducible rfl
                try simp only [Act.put, List.getElem_toArray, List.getElem_cons_succ, List.getElem_cons_zero, List.setIfInBounds_toArray, List.set_cons_zero, List.set_cons_succ]
                refine wpAnyH_ready (rs := [12]) (by kernel_rfl) (by simp) (AllReadyH.cons rfl (fun K hK => ?_) AllReadyH.nil)
                go_simp
                skip
                try (go_wp2_with fail)
                refine hK.out _ _ ?_ (fun hHeld => ?_)
                · exact boxed2_set hHeld (by omega) (by omega)
                clear hK K
                try simp only [Act.put, List.getElem_toArray, List.getElem_cons_succ, List.getElem_cons_zero, List.setIfInBounds_toArray, List.set_cons_zero, List.set_cons_succ]
                refine wpAnyH_done (by kernel_rfl) ?_ _
                refine NoPanic.normal ?_
                refine ⟨rfl, .pointer (some ⟨s, 0, none⟩), .pointer (some ⟨s, 0, none⟩), .pointer (some ⟨s, 0, none⟩), .pointer (some ⟨s, 5, none⟩), .slice aD n1 capD, .int .i64 G, .map (some wF.heap.size), .agg #[.int .i64 G, .int .i64 0, .map (some wF.heap.size)], .slice (some ⟨wF.heap.size + 1, 0, none⟩) 1 1, .slice (some ⟨g3, 0, none⟩) (n1 + 1) cap3, .pointer (some ⟨s, 0, none⟩), .pointer (some ⟨s, 5, none⟩), g3, cap3, wF.heap.size, ?_, HPUSH.out.1, hHeld.1, HOF.out.trans HPUSH.out.2.1 (fun i _ hi => HOWN.out i hi), fun i hi => ?_⟩
                · simp only [Act.put, List.setIfInBounds_toArray, List.set_cons_zero, List.set_cons_succ]
                rcases HPUSH.out.2.2 i hi with h1 | h1
                · exact Or.inl (HOWN.out i h1)
                · exact Or.inr (by omega)
          · rintro a' w5 ⟨x84, x85, x86, x87, x88, x89, x90, x91, x92, x93, x94, x95, gD, capD, mN, rfl, hK5, hb5, hO5, hown5⟩
            simp only [Act.put, List.setIfInBounds_toArray, List.set_cons_zero, List.set_cons_succ]
            have hwith : withBk G (keepBk G h.W (bs.map BkS.a)) = bs1.map BkS.a ++ [BkS.a ⟨G, 0, mN, fun _ _ => 0⟩] := by
              rw [← HMP.out]
              unfold withBk
              rw [if_neg HNL.out]; rfl
            obtain ⟨xa, xt, xm, xc, hX, hxa⟩ : ∃ xa xt xm xc, (⟨G, 0, mN, fun _ _ => 0⟩ : BkS) = ⟨xa, xt, xm, xc⟩ ∧ xa = G := ⟨_, _, _, _, rfl, rfl⟩
            rw [hX] at hK5 hown5 hwith
            have HXA := Lib.hid hxa
            have hP := HN1.out
            clear hX hxa c0 c1 c2 c3 c4 c5 c6 hqE hbE HMP HKE HOE HKF hbF hqF c5F HOF HOWN HN1 HNL
            obtain ⟨m1, hm1⟩ : ∃ m1, m1 = n1 := ⟨_, rfl⟩
            subst hm1
            obtain ⟨P, hP1⟩ : ∃ P, P = bs1 := ⟨_, rfl⟩
            subst hP1
            go_wp2_with (fail)
            have hfew5 := hK5.few
            have hwi : IntKind.i64.wrap ((m1 : Int) + 1 - 1) = m1 := by rw [Int.add_sub_cancel]; exact IntWalk.i64_in _ (by simp [hP] at hfew5; omega)
            have k1m : (m1 : Int) < (m1 : Int) + 1 := by omega
            have k0m : (0 : Int) ≤ (m1 : Int) := by omega
            have hwm : IntKind.i64.wrap (m1 : Int) = m1 := IntWalk.i64_in _ (by simp [hP] at hfew5; omega)
            obtain ⟨c0, c1, c2, c3, c4, c5, c6⟩ := hK5.headCells
            have HK5 := Lib.hid hK5
            have HWITH := Lib.hid hwith
            have HOWN5 := Lib.hid hown5
            have HO5 := Lib.hid hO5
            have HP := Lib.hid hP
            have HB5 := Lib.hid hb5
            have hw5 := hO5.size
            clear hK5 hwith hown5 hO5 hP hfew5
            go_quiet (fail)
            go_wp2_with (fail)
            have HFIN := Lib.hid (any_nonneg HALL.out)
            have hXt := HK5.out.tots ⟨xa, xt, xm, xc⟩ (by simp)
            have hXm := HK5.out.maps ⟨xa, xt, xm, xc⟩ (by simp)
            have HNE := Lib.hid (skAt_ne HK5.out)
            have HK6 := Lib.hid (HK5.out.drewN nq)
            have HR6 := Lib.hid (show (w5.drewN nq).ownsRow 0 92 3 (.slice (some ⟨gD, 0, none⟩) (m1 + 1) capD) (m1 + 1) (flatB (P ++ [⟨xa, xt, xm, xc⟩])) by
              have h1 := HK6.out.row
              unfold RowB at h1
              rw [show (P ++ [(⟨xa, xt, xm, xc⟩ : BkS)]).length = m1 + 1 by simp [HP.out]] at h1
              exact h1)
            have HB6 := Lib.hid (show (w5.drewN nq).cell? ⟨w.heap.size, 0, none⟩ = some (.pointer (some ⟨s, 0, none⟩)) from hb5)
            have HO6 := Lib.hid (HO5.out.trans (Off.ofBelow (S := SkOwn s v bs) (w := w5) (w' := w5.drewN nq) ⟨rfl, rfl, rfl, Nat.le_refl _, fun _ _ => rfl⟩) (fun _ _ h => h))
            have HWF := Lib.hid (show ∀ i, i = gD ∨ i = xm → SkOwn s v bs i ∨ w.heap.size < i from fun i hi => HOWN5.out i (by
              unfold SkOwn
              simp only [Value.ownBlock, Option.toList_some, List.mem_cons, List.mem_append, List.map_append, List.map_cons, List.mem_singleton]
              rcases hi with e | e
              · exact Or.inr (Or.inl (Or.inl e))
              · exact Or.inr (Or.inr (Or.inr (Or.inl e)))))
            have hM0 := HK6.out.maps ⟨xa, xt, xm, xc⟩ (by simp)
            have HM0 := Lib.hid hM0
            obtain ⟨nR, hnR⟩ : ∃ nR : Nat, h.R = nR := ⟨h.R.toNat, by have := HBK.out.R1; omega⟩
            have hnR8 : nR ≤ 8 := by have := HBK.out.R2; omega
            have HNR := Lib.hid hnR
            clear hXm hM0 c0 c1 c2 c3 c4 c5 c6 hb5 HB5 HK5 HO5 hnR
            generalize hw6 : w5.drewN nq = w6 at *
            have h6z : w.heap.size ≤ w6.heap.size := by rw [← hw6]; exact hw5
            clear hw6
            generalize hn5 : m1 + 1 = n5 at *
            have HN5 := Lib.hid (show n5 = P.length + 1 by rw [HP.out]; exact hn5.symm)
            have hm5 : m1 < n5 := by omega
            have hP := HP.out
            clear hn5 hwi k1m
            go_loopw [16, 17, 18, 109] (fun _ _ _ i wr => ∃ (k : Nat), k ≤ len ∧ i = .int .i64 k ∧ Hid (Off (fun i => i = gD ∨ i = xm) w6 wr) ∧ Hid (wr.ownsRow 0 92 3 (.slice (some ⟨gD, 0, none⟩) n5 capD) n5 (flatB (P ++ [stepB h key (ns.take k) ⟨xa, xt, xm, xc⟩]))) ∧ Hid (CntAt wr xm (stepB h key (ns.take k) ⟨xa, xt, xm, xc⟩).cnt)) (fun _ _ _ i _ => len - (intOf i).toNat)
            case atStart => exact ⟨0, Nat.zero_le _, rfl, Lib.hid (Off.refl _ _), by rw [List.take_zero, stepB_nil]; exact HR6, by rw [List.take_zero, stepB_nil]; exact HM0⟩
            case round =>
              rename World => wy
              obtain ⟨k, hk3, rfl, HOY, HRY, HMY⟩ := hrel
              by_cases hlt : k < len
              · have hkl : k < ns.length := by rw [HL.out]; exact hlt
                have k0 : (0 : Int) ≤ k := by omega
                have k1 : (k : Int) < len := by omega
                obtain ⟨y, hy⟩ : ∃ y, ns[k]? = some y := ⟨_, List.getElem?_eq_getElem hkl⟩
                obtain ⟨b0, off, ha, hb0, hc⟩ := HN.out.get hy
                obtain ⟨n1, n2, n3, n4⟩ := HNE.out
                have hapk := HAP.out (by intro e; rw [e] at hkl; simp at hkl)
                have hcY := HOY.out.cell (HO6.out.cell hc (hapk _ _ ha)) (fun e => by
                  rcases HWF.out b0 e with h1 | h1
                  · exact hapk _ _ ha h1
                  · omega)
                subst ha
                have hy2 := HFIN.out y (List.mem_of_getElem? hy)
                have HY := Lib.hid hy
                have hs6 := HK6.out.lt (i := s) (by simp [SkOwn])
                obtain ⟨c0, c1, c2, c3, c4, c5, c6⟩ := HK6.out.headCells
                have hns : ¬ (s = gD ∨ s = xm) := fun e => by rcases e with e | e; exact n1 e.symm; exact n2 e.symm
                have hnb : ¬ (w.heap.size = gD ∨ w.heap.size = xm) := fun e => by
                  rcases HWF.out _ e with h1 | h1
                  · exact Nat.lt_irrefl _ (HS.out.lt h1)
                  · omega
                have hbY := HOY.out.cell HB6.out hnb
                have c2Y := HOY.out.cell c2 hns
                rw [HNR.out] at c2Y
                have hget : (P ++ [stepB h key (ns.take k) ⟨xa, xt, xm, xc⟩])[m1]? = some (stepB h key (ns.take k) ⟨xa, xt, xm, xc⟩) := by rw [List.getElem?_append_right (by omega), hP, Nat.sub_self]; rfl
                have d1 := (HRY.out.cellAt (m1 * 3 + 1) (by omega)).trans (flatB_get hget 1 (by omega))
                have hfrz : wy.frozen? ⟨gD, m1 * 3 + 1, none⟩ = false := HRY.out.frozenAt _
                simp only [BkS.vals, stepB, List.getElem?_cons_zero, List.getElem?_cons_succ] at d1
                have hfb := foldS_bd (ns := ns.take k) hXt.2.2.1 hXt.2.2.2 (fun x hx => (HFIN.out x (List.mem_of_mem_take hx)).1)
                have hsnoc := foldS_snoc xt ns hy
                obtain ⟨R1, G1⟩ := HRY.out.stored (m1 * 3 + 1) (.int .i64 (foldS xt (ns.take (k + 1))))
                have HRZ := Lib.hid (show (wy.setCell ⟨gD, m1 * 3 + 1, none⟩ (.int .i64 (foldS xt (ns.take (k + 1))))).ownsRow 0 92 3 (.slice (some ⟨gD, 0, none⟩) n5 capD) n5 (flatB (P ++ [midB h key ns k 0 ⟨xa, xt, xm, xc⟩])) by
                  have e : flatB (P ++ [midB h key ns k 0 ⟨xa, xt, xm, xc⟩]) = (flatB (P ++ [stepB h key (ns.take k) ⟨xa, xt, xm, xc⟩])).set (m1 * 3 + 1) (.int .i64 (foldS xt (ns.take (k + 1)))) := by
                    have q : ∀ Z : BkS, flatB (P ++ [Z]) = flatB P ++ Z.vals := fun Z => by simp [flatB]
                    rw [q, q, List.set_append_right _ _ (by rw [flatB_len, hP]; omega), flatB_len, hP, show m1 * 3 + 1 - m1 * 3 = 1 by omega]
                    rfl
                  rw [e]; exact R1)
                have HOZ := Lib.hid (HOY.out.grown G1 (fun _ => Or.inl rfl))
                have HMZ := Lib.hid (show CntAt (wy.setCell ⟨gD, m1 * 3 + 1, none⟩ (.int .i64 (foldS xt (ns.take (k + 1))))) xm (midB h key ns k 0 ⟨xa, xt, xm, xc⟩).cnt by
                  have e : (midB h key ns k 0 ⟨xa, xt, xm, xc⟩).cnt = (stepB h key (ns.take k) ⟨xa, xt, xm, xc⟩).cnt := cntK_zero h.R (colS h) key ns k (BkS.a ⟨xa, xt, xm, xc⟩)
                  rw [e]
                  exact HMY.out.kept (heap_setCell_other wy _ _ _ n3))
                have HPL := Lib.hid (fun wx => skplus_any (foldS xt (ns.take k)) y hfb.1 hfb.2 hy2.1 (by omega) wx)
                rw [← hsnoc] at HPL
                clear hsnoc R1 G1 hget hy c0 c1 c2 c3 c4 c5 c6 hc
                generalize foldS xt (ns.take k) = T at *
                have hTT : Hid (∀ r : Int, ∀ w' : World, w'.ownsRow 0 92 3 (.slice (some ⟨gD, 0, none⟩) n5 capD) n5 (flatB (P ++ [midB h key ns k r ⟨xa, xt, xm, xc⟩])) → ∀ r' : Int, w'.ownsRow 0 92 3 (.slice (some ⟨gD, 0, none⟩) n5 capD) n5 (flatB (P ++ [midB h key ns k r' ⟨xa, xt, xm, xc⟩]))) := Lib.hid (fun r w' hh r' => by
                  have q : ∀ Z : BkS, flatB (P ++ [Z]) = flatB P ++ Z.vals := fun Z => by simp [flatB]
                  rw [q] at hh ⊢
                  exact hh)
                generalize foldS xt (ns.take (k + 1)) = T' at *
                go_wp2_with (fail)
                refine (HPL.out _).mono ?_
                rintro e wq ⟨rfl, hq⟩
                subst hq
                go_wp2_with (fail)
                generalize wq.setCell ⟨gD, m1 * 3 + 1, none⟩ (.int .i64 T') = wz at *
                clear hcY hbY c2Y d1 hfrz HRY HOY HMY HPL
                have k1R : k1 = k1 := rfl
                clear k1R
                go_loopw [17, 18, 127] (fun _ _ i wr => ∃ (r : Nat), r ≤ nR ∧ i = .int .i64 r ∧ Hid (Off (fun i => i = gD ∨ i = xm) w6 wr) ∧ Hid (wr.ownsRow 0 92 3 (.slice (some ⟨gD, 0, none⟩) n5 capD) n5 (flatB (P ++ [midB h key ns k r ⟨xa, xt, xm, xc⟩]))) ∧ Hid (CntAt wr xm (midB h key ns k r ⟨xa, xt, xm, xc⟩).cnt)) (fun _ _ i _ => nR - (intOf i).toNat)
                case atStart => exact ⟨0, Nat.zero_le _, rfl, HOZ, HRZ, HMZ⟩
                case round =>
                  rename World => wv
                  obtain ⟨r, hr3, rfl, HOV, HRV, HMV⟩ := hrel
                  by_cases hrl : r < nR
                  · have r0 : (0 : Int) ≤ r := by omega
                    have HTT2 := Lib.hid (fun w' hh => hTT.out r w' hh (r + 1))
                    have r1 : (r : Int) < nR := by omega
                    obtain ⟨c0, c1, c2, c3, c4, c5, c6⟩ := HK6.out.headCells
                    have hbV := HOV.out.cell HB6.out hnb
                    have c0 := HOV.out.cell c0 hns
                    have c1 := HOV.out.cell c1 hns
                    have c2 := HOV.out.cell c2 hns
                    have c3 := HOV.out.cell c3 hns
                    have c4 := HOV.out.cell c4 hns
                    rw [HNR.out] at c2
                    have HC := Lib.hid (skcolumn_any h b r HBK.out r0 (by omega) key hk wv)
                    have hcb := colS_bd HBK.out r key
                    have hC2 := HBK.out.C2
                    rw [show h.c = #[.int .i64 h.W, .int .i64 h.B, .int .i64 nR, .int .i64 h.C, .int .u64 h.seed] by unfold ShapeS.c; rw [HNR.out]] at HC
                    have HSTEP := Lib.hid (cntK_step h.R (colS h) key ns k r0 (by rw [HNR.out]; exact r1) HY.out xc)
                    obtain ⟨CC, hCC⟩ : ∃ CC, colS h r key = CC := ⟨_, rfl⟩
                    rw [hCC] at HC hcb HSTEP
                    clear hCC c5 c6
                    go_wp2_with (fail)
                    refine HC.out.mono ?_
                    rintro e wa ⟨rfl, ha⟩
                    have hgv : gD < wv.heap.size := by
                      rcases HRV.out.2 with ⟨h', _⟩ | ⟨g', cap', cur, h', _, hg, _⟩
                      · cases h'
                      · injection h' with h1; injection h1 with h1; injection h1 with h1; rw [h1]; exact (Array.getElem?_eq_some_iff.1 hg).1
                    have hal : Below wa.heap.size wa (wa.alloc (.cells #[.int .i64 r, .int .i64 CC] 97)) := (Below.refl _ _).alloc (Nat.le_refl _) _
                    have hvb := ha.trans (hal.mono ha.size)
                    have HOB := Lib.hid (HOV.out.trans (Off.ofBelow (S := fun i => i = gD ∨ i = xm) hvb) (fun _ _ h => h))
                    have HRB := Lib.hid (HRV.out.kept (row := none) ⟨hvb.os, hvb.tape, hvb.output, hvb.size, fun k hk _ => hvb.block k hk⟩ (Or.inr (by simp [Value.ownBlock])))
                    have HMB := Lib.hid (HMV.out.kept (hvb.block _ HMV.out.lt))
                    have hnew := new_blockS wa (.cells #[.int .i64 r, .int .i64 CC] 97)
                    have x0 : (wa.alloc (.cells #[.int .i64 r, .int .i64 CC] 97)).cell? ⟨wa.heap.size, 0, none⟩ = some (.int .i64 r) := by simp only [World.cell?, hnew]; rfl
                    have x1 : (wa.alloc (.cells #[.int .i64 r, .int .i64 CC] 97)).cell? ⟨wa.heap.size, 1, none⟩ = some (.int .i64 CC) := by simp only [World.cell?, hnew]; rfl
                    have hget : (P ++ [midB h key ns k r ⟨xa, xt, xm, xc⟩])[m1]? = some (midB h key ns k r ⟨xa, xt, xm, xc⟩) := by rw [List.getElem?_append_right (by omega), hP, Nat.sub_self]; rfl
                    have x2 := (HRB.out.cellAt (m1 * 3 + 2) (by omega)).trans (flatB_get hget 2 (by omega))
                    simp only [BkS.vals, midB, List.getElem?_cons_zero, List.getElem?_cons_succ] at x2
                    have hbx : wa.heap.size = wa.heap.size := rfl
                    have hXm := wa.heap.size
                    have hav := ha.size
                    generalize hwb : wa.heap.size = bx at *
                    clear hnew hget hbx hXm ha hal hvb hgv
                    have HOB2 := HOB
                    have hr8 : (r : Int) < 8 := by omega
                    have hc4 : CC < 4096 := by omega
                    obtain ⟨V, hV⟩ : ∃ V, cntK h.R (colS h) key ns k r xc r CC = V := ⟨_, rfl⟩
                    rw [hV] at HSTEP
                    have hVb : 0 ≤ V ∧ V ≤ 4611686018427387904 := by
                      obtain ⟨f, n, _, _, _, hbd⟩ := HMB.out
                      rw [← hV]; exact hbd r CC
                    have HV := Lib.hid hV
                    clear hV
                    go_wp2_with (fail)
                    generalize wa.alloc (.cells #[.int .i64 r, .int .i64 CC] 97) = wk at *
                    have HMD : CntAt wk.drew xm (midB h key ns k r ⟨xa, xt, xm, xc⟩).cnt := HMB.out.kept rfl
                    have hlk := HMD.look r0 hr8 hcb.1 hc4
                    rw [show (midB h key ns k r ⟨xa, xt, xm, xc⟩).cnt r CC = V from HV.out] at hlk
                    have hpb := plusS_bd hVb.1 hy2.1
                    obtain ⟨wU, hup, HMU, hgU, hzU⟩ := HMD.update r0 hr8 hcb.1 hc4 hpb.1 hpb.2
                    have HMU2 := Lib.hid (show CntAt wU xm (midB h key ns k (r + 1) ⟨xa, xt, xm, xc⟩).cnt by
                      have h1 := HMU
                      rw [show (midB h key ns k r ⟨xa, xt, xm, xc⟩).cnt = cntK h.R (colS h) key ns k r xc from rfl, HSTEP.out] at h1
                      exact h1)
                    have HPL2 := Lib.hid (fun wx => skplus_any V y hVb.1 hVb.2 hy2.1 (by omega) wx)
                    have HGU := Lib.hid hgU
                    have HOU := Lib.hid ((HOB.out.trans (Off.ofBelow (S := fun i => i = gD ∨ i = xm) ((Below.refl _ wk).drew)) (fun _ _ h => h)).grown hgU (fun _ => Or.inr rfl))
                    have HRU := Lib.hid (((show wk.drew.ownsRow 0 92 3 (.slice (some ⟨gD, 0, none⟩) n5 capD) n5 (flatB (P ++ [midB h key ns k r ⟨xa, xt, xm, xc⟩])) from HRB.out)).kept hgU (Or.inr (by simp [Value.ownBlock]; exact fun e => n3 e.symm)))
                    have hbxne : bx ≠ xm := fun e => by
                      have := HMV.out.lt
                      have := hav
                      omega
                    clear HMD HMU hgU hzU HV HSTEP HMV HRV HOV hbV c0 c1 c2 c3 c4
                    generalize plusS V y = V' at *
                    refine wp_region_noPanic ?_
                    refine wp_region_held_drew (S := fun wx => wx.cell? ⟨gD, m1 * 3 + 2, none⟩ = some (.map (some xm)) ∧ wx.cell? ⟨bx, 0, none⟩ = some (.int .i64 r) ∧ wx.cell? ⟨bx, 1, none⟩ = some (.int .i64 CC)) (by kernel_rfl) ?_ (fun hHeld => ?_)
                    · exact ⟨x2, x0, x1⟩
                    refine wpAnyH_take (i := 0) (v := ?_) rfl (by kernel_rfl) (by kernel_rfl) (by kernel_rfl) (fun _ _ _ h => h) (Or.inl ⟨by rfl, ?hy⟩) (by assumption) ?_
                    case hy => intro w hSw; (try dsimp only at hSw); go_simp; try with_reducible rfl
                    try simp only [Act.put, List.getElem_toArray, List.getElem_cons_succ, List.getElem_cons_zero, List.setIfInBounds_toArray, List.set_cons_zero, List.set_cons_succ]
                    refine wpAnyH_take (i := 1) (v := ?_) rfl (by kernel_rfl) (by kernel_rfl) (by kernel_rfl) (fun _ _ _ h => h) (Or.inl ⟨by rfl, ?hy⟩) (by assumption) ?_
                    case hy => intro w hSw; (try dsimp only at hSw); go_simp; try with_reducible rfl
                    try simp only [Act.put, List.getElem_toArray, List.getElem_cons_succ, List.getElem_cons_zero, List.setIfInBounds_toArray, List.set_cons_zero, List.set_cons_succ]
                    refine wpAnyH_take (i := 2) (v := ?_) rfl (by kernel_rfl) (by kernel_rfl) (by kernel_rfl) (fun _ _ _ h => h) (Or.inl ⟨by rfl, ?hy⟩) (by assumption) ?_
                    case hy => intro w hSw; (try dsimp only at hSw); go_simp; try with_reducible rfl
                    try simp only [Act.put, List.getElem_toArray, List.getElem_cons_succ, List.getElem_cons_zero, List.setIfInBounds_toArray, List.set_cons_zero, List.set_cons_succ]
                    refine wpAnyH_take (i := 3) (v := ?_) rfl (by kernel_rfl) (by kernel_rfl) (by kernel_rfl) (fun _ _ _ h => h) (Or.inl ⟨by rfl, ?hy⟩) (by assumption) ?_
                    case hy => intro w hSw; (try dsimp only at hSw); go_simp; try with_reducible rfl
                    try simp only [Act.put, List.getElem_toArray, List.getElem_cons_succ, List.getElem_cons_zero, List.setIfInBounds_toArray, List.set_cons_zero, List.set_cons_succ]
                    refine wpAnyH_take (i := 4) (v := ?_) rfl (by kernel_rfl) (by kernel_rfl) (by kernel_rfl) (fun _ _ _ h => h) (Or.inl ⟨by rfl, ?hy⟩) (by assumption) ?_
                    case hy => intro w hSw; (try dsimp only at hSw); go_simp; try with_reducible rfl
                    try simp only [Act.put, List.getElem_toArray, List.getElem_cons_succ, List.getElem_cons_zero, List.setIfInBounds_toArray, List.set_cons_zero, List.set_cons_succ]
                    refine wpAnyH_take (i := 5) (v := ?_) rfl (by kernel_rfl) (by kernel_rfl) (by kernel_rfl) (fun _ _ _ h => h) (Or.inl ⟨by rfl, ?hy⟩) (by assumption) ?_
                    case hy => intro w hSw; (try dsimp only at hSw); go_simp; try with_reducible rfl
                    try simp only [Act.put, List.getElem_toArray, List.getElem_cons_succ, List.getElem_cons_zero, List.setIfInBounds_toArray, List.set_cons_zero, List.set_cons_succ]
                    refine wpAnyH_take (i := 6) (v := ?_) rfl (by kernel_rfl) (by kernel_rfl) (by kernel_rfl) (fun _ _ _ h => h) (Or.inl ⟨by rfl, ?hy⟩) (by assumption) ?_
                    case hy => intro w hSw; (try dsimp only at hSw); go_simp; try with_reducible rfl
                    try simp only [Act.put, List.getElem_toArray, List.getElem_cons_succ, List.getElem_cons_zero, List.setIfInBounds_toArray, List.set_cons_zero, List.set_cons_succ]
                    refine wpAnyH_take (i := 7) (v := ?_) rfl (by kernel_rfl) (by kernel_rfl) (by kernel_rfl) (fun _ _ _ h => h) (Or.inl ⟨by rfl, ?hy⟩) (by assumption) ?_
                    case hy => intro w hSw; (try dsimp only at hSw); go_simp; try with_reducible rfl
                    try simp only [Act.put, List.getElem_toArray, List.getElem_cons_succ, List.getElem_cons_zero, List.setIfInBounds_toArray, List.set_cons_zero, List.set_cons_succ]
                    refine wpAnyH_take (i := 8) (v := ?_) rfl (by kernel_rfl) (by kernel_rfl) (by kernel_rfl) (fun _ _ _ h => h) (Or.inl ⟨by rfl, ?hy⟩) (by assumption) ?_
                    case hy => intro w hSw; (try dsimp only at hSw); go_simp; try with_reducible rfl
                    try simp only [Act.put, List.getElem_toArray, List.getElem_cons_succ, List.getElem_cons_zero, List.setIfInBounds_toArray, List.set_cons_zero, List.set_cons_succ]
                    refine wpAnyH_take (i := 9) (v := ?_) rfl (by kernel_rfl) (by kernel_rfl) (by kernel_rfl) (fun _ _ _ h => h) (Or.inl ⟨by rfl, ?hy⟩) (by assumption) ?_
                    case hy => intro w hSw; (try dsimp only at hSw); go_simp; try with_reducible rfl
                    try simp only [Act.put, List.getElem_toArray, List.getElem_cons_succ, List.getElem_cons_zero, List.setIfInBounds_toArray, List.set_cons_zero, List.set_cons_succ]
                    refine wpAnyH_take (i := 11) (v := ?_) rfl (by kernel_rfl) (by kernel_rfl) (by kernel_rfl) (fun _ _ _ h => h) (Or.inl ⟨by rfl, ?hy⟩) (by assumption) ?_
                    case hy => intro w hSw; (try dsimp only at hSw); go_simp; try with_reducible rfl
                    try simp only [Act.put, List.getElem_toArray, List.getElem_cons_succ, List.getElem_cons_zero, List.setIfInBounds_toArray, List.set_cons_zero, List.set_cons_succ]
                    refine wpAnyH_ready (rs := [10]) (by kernel_rfl) (by simp) (AllReadyH.cons rfl (fun K hK => ?_) AllReadyH.nil)
                    go_simp
                    skip
                    try (go_wp2_with fail)
                    refine hK.out _ _ ?_ (fun hHeld => ?_)
                    · exact hHeld
                    clear hK K
                    try simp only [Act.put, List.getElem_toArray, List.getElem_cons_succ, List.getElem_cons_zero, List.setIfInBounds_toArray, List.set_cons_zero, List.set_cons_succ]
                    refine wpAnyH_ready (rs := [12]) (by kernel_rfl) (by simp) (AllReadyH.cons rfl (fun K hK => ?_) AllReadyH.nil)
                    go_simp
                    refine (HPL2.out _).mono ?_
                    rintro e wq2 ⟨rfl, hq2⟩
                    subst hq2
                    try (go_wp2_with fail)
                    refine hK.out _ _ ?_ (fun hHeld => ?_)
                    · exact hHeld
                    clear hK K
                    try simp only [Act.put, List.getElem_toArray, List.getElem_cons_succ, List.getElem_cons_zero, List.setIfInBounds_toArray, List.set_cons_zero, List.set_cons_succ]
                    refine wpAnyH_ready (rs := [13]) (by kernel_rfl) (by simp) (AllReadyH.cons rfl (fun K hK => ?_) AllReadyH.nil)
                    go_simp
                    skip
                    try (go_wp2_with fail)
                    refine hK.out _ _ ?_ (fun hHeld => ?_)
                    · exact ⟨HGU.out.cell hHeld.1 (by simp; exact fun e => n3 e.symm), HGU.out.cell hHeld.2.1 (by simpa using hbxne), HGU.out.cell hHeld.2.2 (by simpa using hbxne)⟩
                    clear hK K
                    try simp only [Act.put, List.getElem_toArray, List.getElem_cons_succ, List.getElem_cons_zero, List.setIfInBounds_toArray, List.set_cons_zero, List.set_cons_succ]
                    refine wpAnyH_done (by kernel_rfl) ?_ _
                    refine NoPanic.normal ?_
                    go_wp2_with (fail)
                    exact ⟨⟨r + 1, by omega, by go_num, HOU, HTT2.out wU HRU.out, HMU2⟩, by first | (simp [intOf]; done) | (simp [intOf]; omega)⟩
                  · have k1 : ¬ (r : Int) < nR := by omega
                    have e1 : r = nR := by omega
                    have HRW := HRV.out
                    have HMW := HMV.out
                    rw [e1, ← HNR.out, midB_all] at HRW HMW
                    clear HRV HMV e1
                    go_wp2_with (fail)
                    exact ⟨⟨k + 1, by omega, by go_num, HOV, HRW, HMW⟩, by first | (simp [intOf]; done) | (simp [intOf]; omega)⟩
              · have k1 : ¬ (k : Int) < len := by omega
                have e1 : ns.take k = ns := List.take_of_length_le (by rw [HL.out]; omega)
                rw [e1] at HRY HMY
                clear e1
                go_wp2_with (fail)
                go_ret
                have hfb := foldS_bd (ns := ns) hXt.2.2.1 hXt.2.2.2 (fun x hx => (HFIN.out x hx).1)
                refine ⟨by rw [HADD.out]; rfl, ?_, fun _ => ?_, fun hne => absurd HADD.out hne⟩
                · exact HO6.out.trans HOY.out (fun i hi e => by rcases HWF.out i e with h1 | h1; exact h1; omega)
                · refine ⟨_, _, _, BkS.a ⟨xa, xt, xm, xc⟩, skAt_end HK6.out HOY.out HRY.out HN5.out HMY.out hfb.1 hfb.2, by rw [HGG.out]; exact HWITH.out, by rw [List.map_append]; rfl, fun i hi => ?_⟩
                  have := HOWN5.out i (by simpa [SkOwn] using hi)
                  rcases this with h1 | h1
                  · exact Or.inl h1
                  · exact Or.inr (by omega)
        · obtain ⟨m1, hm1⟩ : ∃ m1, n1 = m1 + 1 := ⟨n1 - 1, by omega⟩
          subst hm1
          have hlt1 : m1 < bs1.length := by omega
          obtain ⟨gD, capE, hvE, _, hcapE, hgD, hcells⟩ := HKE.out.row.cells (by intro e; rw [e] at hlt1; simp at hlt1)
          injection hvE with e1 e2 e3
          subst e1
          have hXX : bs1[m1]? = some (bs1[m1]'hlt1) := List.getElem?_eq_getElem hlt1
          obtain ⟨d0, d1, d2⟩ := hcells m1 _ hXX
          have hz1 : (((m1 + 1 : Nat) : Int) == 0) = false := by rw [beq_eq_false_iff_ne]; omega
          have hfew := HKE.out.few
          have hwi : IntKind.i64.wrap ((m1 : Int) + 1 - 1) = m1 := by rw [Int.add_sub_cancel]; exact IntWalk.i64_in _ (by omega)
          have k1m : (m1 : Int) < (m1 : Int) + 1 := by omega
          have k0m : (0 : Int) ≤ (m1 : Int) := by omega
          have hzz : ((m1 : Int) + 1 == 0) = false := by rw [beq_eq_false_iff_ne]; omega
          have HN1 := Lib.hid hn1
          have HXX := Lib.hid hXX
          clear hn1 hcells hXX e2 e3 hn0
          generalize bs1[m1]'hlt1 = X at *
          obtain ⟨xa, xt, xm, xc⟩ := X
          dsimp only at *
          by_cases hat : xa = G
          · have hdec : (xa != G) = false := by simp [hat]
            have HAT := Lib.hid hat
            clear hat
            go_quiet (fail)
            go_wp2_with (fail)
            have e := last_split HXX.out HN1.out
            have hK5 : SkAt (wE.drewN nq) s h at_ (.slice (some ⟨gD, 0, none⟩) (m1 + 1) capD) (bs1.take m1 ++ [⟨xa, xt, xm, xc⟩]) := by
              rw [← e]; exact HKE.out.drewN nq
            have hwith : withBk G (keepBk G h.W (bs.map BkS.a)) = (bs1.take m1).map BkS.a ++ [BkS.a ⟨xa, xt, xm, xc⟩] := by
              have e2 : bs1.map BkS.a = (bs1.take m1).map BkS.a ++ [BkS.a ⟨xa, xt, xm, xc⟩] := by
                rw [← List.map_singleton, ← List.map_append, ← e]
              rw [← HMP.out, e2]
              unfold withBk
              rw [if_pos (by rw [List.getLast?_concat]; show some xa = some G; rw [HAT.out])]
            have hown5 : ∀ i, SkOwn s (.slice (some ⟨gD, 0, none⟩) (m1 + 1) capD) (bs1.take m1 ++ [⟨xa, xt, xm, xc⟩]) i → SkOwn s v bs i ∨ w.heap.size < i := fun i hi => by
              rw [← e] at hi
              exact Or.inl (HOWN.out i hi)
            clear e
            have hP : (bs1.take m1).length = m1 := by rw [List.length_take]; omega
            have hO5 : Off (SkOwn s v bs) w (wE.drewN nq) := HOE.out.trans (Off.ofBelow (S := SkOwn s v bs) ⟨rfl, rfl, rfl, Nat.le_refl _, fun _ _ => rfl⟩) (fun _ _ h => h)
            have hb5 : (wE.drewN nq).cell? ⟨w.heap.size, 0, none⟩ = some (.pointer (some ⟨s, 0, none⟩)) := hbE
            generalize bs1.take m1 = P at *
            have HXA := Lib.hid HAT.out
            clear c0 c1 c2 c3 c4 c5 c6 d0 d1 d2 hqE hbE HXX HN1 HOWN HMP HKE HOE hcapE hcapD hgD hlt1 hz1 hzz hfew hdec HAT hHeld
            generalize wE.drewN nq = w5 at *
            have hfew5 := hK5.few
            have hwi : IntKind.i64.wrap ((m1 : Int) + 1 - 1) = m1 := by rw [Int.add_sub_cancel]; exact IntWalk.i64_in _ (by simp [hP] at hfew5; omega)
            have k1m : (m1 : Int) < (m1 : Int) + 1 := by omega
            have k0m : (0 : Int) ≤ (m1 : Int) := by omega
            have hwm : IntKind.i64.wrap (m1 : Int) = m1 := IntWalk.i64_in _ (by simp [hP] at hfew5; omega)
            obtain ⟨c0, c1, c2, c3, c4, c5, c6⟩ := hK5.headCells
            have HK5 := Lib.hid hK5
            have HWITH := Lib.hid hwith
            have HOWN5 := Lib.hid hown5
            have HO5 := Lib.hid hO5
            have HP := Lib.hid hP
            have HB5 := Lib.hid hb5
            have hw5 := hO5.size
            clear hK5 hwith hown5 hO5 hP hfew5
            go_quiet (fail)
            go_wp2_with (fail)
            have HFIN := Lib.hid (any_nonneg HALL.out)
            have hXt := HK5.out.tots ⟨xa, xt, xm, xc⟩ (by simp)
            have hXm := HK5.out.maps ⟨xa, xt, xm, xc⟩ (by simp)
            have HNE := Lib.hid (skAt_ne HK5.out)
            have HK6 := Lib.hid (HK5.out.drewN nq)
            have HR6 := Lib.hid (show (w5.drewN nq).ownsRow 0 92 3 (.slice (some ⟨gD, 0, none⟩) (m1 + 1) capD) (m1 + 1) (flatB (P ++ [⟨xa, xt, xm, xc⟩])) by
              have h1 := HK6.out.row
              unfold RowB at h1
              rw [show (P ++ [(⟨xa, xt, xm, xc⟩ : BkS)]).length = m1 + 1 by simp [HP.out]] at h1
              exact h1)
            have HB6 := Lib.hid (show (w5.drewN nq).cell? ⟨w.heap.size, 0, none⟩ = some (.pointer (some ⟨s, 0, none⟩)) from hb5)
            have HO6 := Lib.hid (HO5.out.trans (Off.ofBelow (S := SkOwn s v bs) (w := w5) (w' := w5.drewN nq) ⟨rfl, rfl, rfl, Nat.le_refl _, fun _ _ => rfl⟩) (fun _ _ h => h))
            have HWF := Lib.hid (show ∀ i, i = gD ∨ i = xm → SkOwn s v bs i ∨ w.heap.size < i from fun i hi => HOWN5.out i (by
              unfold SkOwn
              simp only [Value.ownBlock, Option.toList_some, List.mem_cons, List.mem_append, List.map_append, List.map_cons, List.mem_singleton]
              rcases hi with e | e
              · exact Or.inr (Or.inl (Or.inl e))
              · exact Or.inr (Or.inr (Or.inr (Or.inl e)))))
            have hM0 := HK6.out.maps ⟨xa, xt, xm, xc⟩ (by simp)
            have HM0 := Lib.hid hM0
            obtain ⟨nR, hnR⟩ : ∃ nR : Nat, h.R = nR := ⟨h.R.toNat, by have := HBK.out.R1; omega⟩
            have hnR8 : nR ≤ 8 := by have := HBK.out.R2; omega
            have HNR := Lib.hid hnR
            clear hXm hM0 c0 c1 c2 c3 c4 c5 c6 hb5 HB5 HK5 HO5 hnR
            generalize hw6 : w5.drewN nq = w6 at *
            have h6z : w.heap.size ≤ w6.heap.size := by rw [← hw6]; exact hw5
            clear hw6
            generalize hn5 : m1 + 1 = n5 at *
            have HN5 := Lib.hid (show n5 = P.length + 1 by rw [HP.out]; exact hn5.symm)
            have hm5 : m1 < n5 := by omega
            have hP := HP.out
            clear hn5 hwi k1m
            go_loopw [16, 17, 18, 109] (fun _ _ _ i wr => ∃ (k : Nat), k ≤ len ∧ i = .int .i64 k ∧ Hid (Off (fun i => i = gD ∨ i = xm) w6 wr) ∧ Hid (wr.ownsRow 0 92 3 (.slice (some ⟨gD, 0, none⟩) n5 capD) n5 (flatB (P ++ [stepB h key (ns.take k) ⟨xa, xt, xm, xc⟩]))) ∧ Hid (CntAt wr xm (stepB h key (ns.take k) ⟨xa, xt, xm, xc⟩).cnt)) (fun _ _ _ i _ => len - (intOf i).toNat)
            case atStart => exact ⟨0, Nat.zero_le _, rfl, Lib.hid (Off.refl _ _), by rw [List.take_zero, stepB_nil]; exact HR6, by rw [List.take_zero, stepB_nil]; exact HM0⟩
            case round =>
              rename World => wy
              obtain ⟨k, hk3, rfl, HOY, HRY, HMY⟩ := hrel
              by_cases hlt : k < len
              · have hkl : k < ns.length := by rw [HL.out]; exact hlt
                have k0 : (0 : Int) ≤ k := by omega
                have k1 : (k : Int) < len := by omega
                obtain ⟨y, hy⟩ : ∃ y, ns[k]? = some y := ⟨_, List.getElem?_eq_getElem hkl⟩
                obtain ⟨b0, off, ha, hb0, hc⟩ := HN.out.get hy
                obtain ⟨n1, n2, n3, n4⟩ := HNE.out
                have hapk := HAP.out (by intro e; rw [e] at hkl; simp at hkl)
                have hcY := HOY.out.cell (HO6.out.cell hc (hapk _ _ ha)) (fun e => by
                  rcases HWF.out b0 e with h1 | h1
                  · exact hapk _ _ ha h1
                  · omega)
                subst ha
                have hy2 := HFIN.out y (List.mem_of_getElem? hy)
                have HY := Lib.hid hy
                have hs6 := HK6.out.lt (i := s) (by simp [SkOwn])
                obtain ⟨c0, c1, c2, c3, c4, c5, c6⟩ := HK6.out.headCells
                have hns : ¬ (s = gD ∨ s = xm) := fun e => by rcases e with e | e; exact n1 e.symm; exact n2 e.symm
                have hnb : ¬ (w.heap.size = gD ∨ w.heap.size = xm) := fun e => by
                  rcases HWF.out _ e with h1 | h1
                  · exact Nat.lt_irrefl _ (HS.out.lt h1)
                  · omega
                have hbY := HOY.out.cell HB6.out hnb
                have c2Y := HOY.out.cell c2 hns
                rw [HNR.out] at c2Y
                have hget : (P ++ [stepB h key (ns.take k) ⟨xa, xt, xm, xc⟩])[m1]? = some (stepB h key (ns.take k) ⟨xa, xt, xm, xc⟩) := by rw [List.getElem?_append_right (by omega), hP, Nat.sub_self]; rfl
                have d1 := (HRY.out.cellAt (m1 * 3 + 1) (by omega)).trans (flatB_get hget 1 (by omega))
                have hfrz : wy.frozen? ⟨gD, m1 * 3 + 1, none⟩ = false := HRY.out.frozenAt _
                simp only [BkS.vals, stepB, List.getElem?_cons_zero, List.getElem?_cons_succ] at d1
                have hfb := foldS_bd (ns := ns.take k) hXt.2.2.1 hXt.2.2.2 (fun x hx => (HFIN.out x (List.mem_of_mem_take hx)).1)
                have hsnoc := foldS_snoc xt ns hy
                obtain ⟨R1, G1⟩ := HRY.out.stored (m1 * 3 + 1) (.int .i64 (foldS xt (ns.take (k + 1))))
                have HRZ := Lib.hid (show (wy.setCell ⟨gD, m1 * 3 + 1, none⟩ (.int .i64 (foldS xt (ns.take (k + 1))))).ownsRow 0 92 3 (.slice (some ⟨gD, 0, none⟩) n5 capD) n5 (flatB (P ++ [midB h key ns k 0 ⟨xa, xt, xm, xc⟩])) by
                  have e : flatB (P ++ [midB h key ns k 0 ⟨xa, xt, xm, xc⟩]) = (flatB (P ++ [stepB h key (ns.take k) ⟨xa, xt, xm, xc⟩])).set (m1 * 3 + 1) (.int .i64 (foldS xt (ns.take (k + 1)))) := by
                    have q : ∀ Z : BkS, flatB (P ++ [Z]) = flatB P ++ Z.vals := fun Z => by simp [flatB]
                    rw [q, q, List.set_append_right _ _ (by rw [flatB_len, hP]; omega), flatB_len, hP, show m1 * 3 + 1 - m1 * 3 = 1 by omega]
                    rfl
                  rw [e]; exact R1)
                have HOZ := Lib.hid (HOY.out.grown G1 (fun _ => Or.inl rfl))
                have HMZ := Lib.hid (show CntAt (wy.setCell ⟨gD, m1 * 3 + 1, none⟩ (.int .i64 (foldS xt (ns.take (k + 1))))) xm (midB h key ns k 0 ⟨xa, xt, xm, xc⟩).cnt by
                  have e : (midB h key ns k 0 ⟨xa, xt, xm, xc⟩).cnt = (stepB h key (ns.take k) ⟨xa, xt, xm, xc⟩).cnt := cntK_zero h.R (colS h) key ns k (BkS.a ⟨xa, xt, xm, xc⟩)
                  rw [e]
                  exact HMY.out.kept (heap_setCell_other wy _ _ _ n3))
                have HPL := Lib.hid (fun wx => skplus_any (foldS xt (ns.take k)) y hfb.1 hfb.2 hy2.1 (by omega) wx)
                rw [← hsnoc] at HPL
                clear hsnoc R1 G1 hget hy c0 c1 c2 c3 c4 c5 c6 hc
                generalize foldS xt (ns.take k) = T at *
                have hTT : Hid (∀ r : Int, ∀ w' : World, w'.ownsRow 0 92 3 (.slice (some ⟨gD, 0, none⟩) n5 capD) n5 (flatB (P ++ [midB h key ns k r ⟨xa, xt, xm, xc⟩])) → ∀ r' : Int, w'.ownsRow 0 92 3 (.slice (some ⟨gD, 0, none⟩) n5 capD) n5 (flatB (P ++ [midB h key ns k r' ⟨xa, xt, xm, xc⟩]))) := Lib.hid (fun r w' hh r' => by
                  have q : ∀ Z : BkS, flatB (P ++ [Z]) = flatB P ++ Z.vals := fun Z => by simp [flatB]
                  rw [q] at hh ⊢
                  exact hh)
                generalize foldS xt (ns.take (k + 1)) = T' at *
                go_wp2_with (fail)
                refine (HPL.out _).mono ?_
                rintro e wq ⟨rfl, hq⟩
                subst hq
                go_wp2_with (fail)
                generalize wq.setCell ⟨gD, m1 * 3 + 1, none⟩ (.int .i64 T') = wz at *
                clear hcY hbY c2Y d1 hfrz HRY HOY HMY HPL
                have k1R : k1 = k1 := rfl
                clear k1R
                go_loopw [17, 18, 127] (fun _ _ i wr => ∃ (r : Nat), r ≤ nR ∧ i = .int .i64 r ∧ Hid (Off (fun i => i = gD ∨ i = xm) w6 wr) ∧ Hid (wr.ownsRow 0 92 3 (.slice (some ⟨gD, 0, none⟩) n5 capD) n5 (flatB (P ++ [midB h key ns k r ⟨xa, xt, xm, xc⟩]))) ∧ Hid (CntAt wr xm (midB h key ns k r ⟨xa, xt, xm, xc⟩).cnt)) (fun _ _ i _ => nR - (intOf i).toNat)
                case atStart => exact ⟨0, Nat.zero_le _, rfl, HOZ, HRZ, HMZ⟩
                case round =>
                  rename World => wv
                  obtain ⟨r, hr3, rfl, HOV, HRV, HMV⟩ := hrel
                  by_cases hrl : r < nR
                  · have r0 : (0 : Int) ≤ r := by omega
                    have HTT2 := Lib.hid (fun w' hh => hTT.out r w' hh (r + 1))
                    have r1 : (r : Int) < nR := by omega
                    obtain ⟨c0, c1, c2, c3, c4, c5, c6⟩ := HK6.out.headCells
                    have hbV := HOV.out.cell HB6.out hnb
                    have c0 := HOV.out.cell c0 hns
                    have c1 := HOV.out.cell c1 hns
                    have c2 := HOV.out.cell c2 hns
                    have c3 := HOV.out.cell c3 hns
                    have c4 := HOV.out.cell c4 hns
                    rw [HNR.out] at c2
                    have HC := Lib.hid (skcolumn_any h b r HBK.out r0 (by omega) key hk wv)
                    have hcb := colS_bd HBK.out r key
                    have hC2 := HBK.out.C2
                    rw [show h.c = #[.int .i64 h.W, .int .i64 h.B, .int .i64 nR, .int .i64 h.C, .int .u64 h.seed] by unfold ShapeS.c; rw [HNR.out]] at HC
                    have HSTEP := Lib.hid (cntK_step h.R (colS h) key ns k r0 (by rw [HNR.out]; exact r1) HY.out xc)
                    obtain ⟨CC, hCC⟩ : ∃ CC, colS h r key = CC := ⟨_, rfl⟩
                    rw [hCC] at HC hcb HSTEP
                    clear hCC c5 c6
                    go_wp2_with (fail)
                    refine HC.out.mono ?_
                    rintro e wa ⟨rfl, ha⟩
                    have hgv : gD < wv.heap.size := by
                      rcases HRV.out.2 with ⟨h', _⟩ | ⟨g', cap', cur, h', _, hg, _⟩
                      · cases h'
                      · injection h' with h1; injection h1 with h1; injection h1 with h1; rw [h1]; exact (Array.getElem?_eq_some_iff.1 hg).1
                    have hal : Below wa.heap.size wa (wa.alloc (.cells #[.int .i64 r, .int .i64 CC] 97)) := (Below.refl _ _).alloc (Nat.le_refl _) _
                    have hvb := ha.trans (hal.mono ha.size)
                    have HOB := Lib.hid (HOV.out.trans (Off.ofBelow (S := fun i => i = gD ∨ i = xm) hvb) (fun _ _ h => h))
                    have HRB := Lib.hid (HRV.out.kept (row := none) ⟨hvb.os, hvb.tape, hvb.output, hvb.size, fun k hk _ => hvb.block k hk⟩ (Or.inr (by simp [Value.ownBlock])))
                    have HMB := Lib.hid (HMV.out.kept (hvb.block _ HMV.out.lt))
                    have hnew := new_blockS wa (.cells #[.int .i64 r, .int .i64 CC] 97)
                    have x0 : (wa.alloc (.cells #[.int .i64 r, .int .i64 CC] 97)).cell? ⟨wa.heap.size, 0, none⟩ = some (.int .i64 r) := by simp only [World.cell?, hnew]; rfl
                    have x1 : (wa.alloc (.cells #[.int .i64 r, .int .i64 CC] 97)).cell? ⟨wa.heap.size, 1, none⟩ = some (.int .i64 CC) := by simp only [World.cell?, hnew]; rfl
                    have hget : (P ++ [midB h key ns k r ⟨xa, xt, xm, xc⟩])[m1]? = some (midB h key ns k r ⟨xa, xt, xm, xc⟩) := by rw [List.getElem?_append_right (by omega), hP, Nat.sub_self]; rfl
                    have x2 := (HRB.out.cellAt (m1 * 3 + 2) (by omega)).trans (flatB_get hget 2 (by omega))
                    simp only [BkS.vals, midB, List.getElem?_cons_zero, List.getElem?_cons_succ] at x2
                    have hbx : wa.heap.size = wa.heap.size := rfl
                    have hXm := wa.heap.size
                    have hav := ha.size
                    generalize hwb : wa.heap.size = bx at *
                    clear hnew hget hbx hXm ha hal hvb hgv
                    have HOB2 := HOB
                    have hr8 : (r : Int) < 8 := by omega
                    have hc4 : CC < 4096 := by omega
                    obtain ⟨V, hV⟩ : ∃ V, cntK h.R (colS h) key ns k r xc r CC = V := ⟨_, rfl⟩
                    rw [hV] at HSTEP
                    have hVb : 0 ≤ V ∧ V ≤ 4611686018427387904 := by
                      obtain ⟨f, n, _, _, _, hbd⟩ := HMB.out
                      rw [← hV]; exact hbd r CC
                    have HV := Lib.hid hV
                    clear hV
                    go_wp2_with (fail)
                    generalize wa.alloc (.cells #[.int .i64 r, .int .i64 CC] 97) = wk at *
                    have HMD : CntAt wk.drew xm (midB h key ns k r ⟨xa, xt, xm, xc⟩).cnt := HMB.out.kept rfl
                    have hlk := HMD.look r0 hr8 hcb.1 hc4
                    rw [show (midB h key ns k r ⟨xa, xt, xm, xc⟩).cnt r CC = V from HV.out] at hlk
                    have hpb := plusS_bd hVb.1 hy2.1
                    obtain ⟨wU, hup, HMU, hgU, hzU⟩ := HMD.update r0 hr8 hcb.1 hc4 hpb.1 hpb.2
                    have HMU2 := Lib.hid (show CntAt wU xm (midB h key ns k (r + 1) ⟨xa, xt, xm, xc⟩).cnt by
                      have h1 := HMU
                      rw [show (midB h key ns k r ⟨xa, xt, xm, xc⟩).cnt = cntK h.R (colS h) key ns k r xc from rfl, HSTEP.out] at h1
                      exact h1)
                    have HPL2 := Lib.hid (fun wx => skplus_any V y hVb.1 hVb.2 hy2.1 (by omega) wx)
                    have HGU := Lib.hid hgU
                    have HOU := Lib.hid ((HOB.out.trans (Off.ofBelow (S := fun i => i = gD ∨ i = xm) ((Below.refl _ wk).drew)) (fun _ _ h => h)).grown hgU (fun _ => Or.inr rfl))
                    have HRU := Lib.hid (((show wk.drew.ownsRow 0 92 3 (.slice (some ⟨gD, 0, none⟩) n5 capD) n5 (flatB (P ++ [midB h key ns k r ⟨xa, xt, xm, xc⟩])) from HRB.out)).kept hgU (Or.inr (by simp [Value.ownBlock]; exact fun e => n3 e.symm)))
                    have hbxne : bx ≠ xm := fun e => by
                      have := HMV.out.lt
                      have := hav
                      omega
                    clear HMD HMU hgU hzU HV HSTEP HMV HRV HOV hbV c0 c1 c2 c3 c4
                    generalize plusS V y = V' at *
                    refine wp_region_noPanic ?_
                    refine wp_region_held_drew (S := fun wx => wx.cell? ⟨gD, m1 * 3 + 2, none⟩ = some (.map (some xm)) ∧ wx.cell? ⟨bx, 0, none⟩ = some (.int .i64 r) ∧ wx.cell? ⟨bx, 1, none⟩ = some (.int .i64 CC)) (by kernel_rfl) ?_ (fun hHeld => ?_)
                    · exact ⟨x2, x0, x1⟩
                    refine wpAnyH_take (i := 0) (v := ?_) rfl (by kernel_rfl) (by kernel_rfl) (by kernel_rfl) (fun _ _ _ h => h) (Or.inl ⟨by rfl, ?hy⟩) (by assumption) ?_
                    case hy => intro w hSw; (try dsimp only at hSw); go_simp; try with_reducible rfl
                    try simp only [Act.put, List.getElem_toArray, List.getElem_cons_succ, List.getElem_cons_zero, List.setIfInBounds_toArray, List.set_cons_zero, List.set_cons_succ]
                    refine wpAnyH_take (i := 1) (v := ?_) rfl (by kernel_rfl) (by kernel_rfl) (by kernel_rfl) (fun _ _ _ h => h) (Or.inl ⟨by rfl, ?hy⟩) (by assumption) ?_
                    case hy => intro w hSw; (try dsimp only at hSw); go_simp; try with_reducible rfl
                    try simp only [Act.put, List.getElem_toArray, List.getElem_cons_succ, List.getElem_cons_zero, List.setIfInBounds_toArray, List.set_cons_zero, List.set_cons_succ]
                    refine wpAnyH_take (i := 2) (v := ?_) rfl (by kernel_rfl) (by kernel_rfl) (by kernel_rfl) (fun _ _ _ h => h) (Or.inl ⟨by rfl, ?hy⟩) (by assumption) ?_
                    case hy => intro w hSw; (try dsimp only at hSw); go_simp; try with_reducible rfl
                    try simp only [Act.put, List.getElem_toArray, List.getElem_cons_succ, List.getElem_cons_zero, List.setIfInBounds_toArray, List.set_cons_zero, List.set_cons_succ]
                    refine wpAnyH_take (i := 3) (v := ?_) rfl (by kernel_rfl) (by kernel_rfl) (by kernel_rfl) (fun _ _ _ h => h) (Or.inl ⟨by rfl, ?hy⟩) (by assumption) ?_
                    case hy => intro w hSw; (try dsimp only at hSw); go_simp; try with_reducible rfl
                    try simp only [Act.put, List.getElem_toArray, List.getElem_cons_succ, List.getElem_cons_zero, List.setIfInBounds_toArray, List.set_cons_zero, List.set_cons_succ]
                    refine wpAnyH_take (i := 4) (v := ?_) rfl (by kernel_rfl) (by kernel_rfl) (by kernel_rfl) (fun _ _ _ h => h) (Or.inl ⟨by rfl, ?hy⟩) (by assumption) ?_
                    case hy => intro w hSw; (try dsimp only at hSw); go_simp; try with_reducible rfl
                    try simp only [Act.put, List.getElem_toArray, List.getElem_cons_succ, List.getElem_cons_zero, List.setIfInBounds_toArray, List.set_cons_zero, List.set_cons_succ]
                    refine wpAnyH_take (i := 5) (v := ?_) rfl (by kernel_rfl) (by kernel_rfl) (by kernel_rfl) (fun _ _ _ h => h) (Or.inl ⟨by rfl, ?hy⟩) (by assumption) ?_
                    case hy => intro w hSw; (try dsimp only at hSw); go_simp; try with_reducible rfl
                    try simp only [Act.put, List.getElem_toArray, List.getElem_cons_succ, List.getElem_cons_zero, List.setIfInBounds_toArray, List.set_cons_zero, List.set_cons_succ]
                    refine wpAnyH_take (i := 6) (v := ?_) rfl (by kernel_rfl) (by kernel_rfl) (by kernel_rfl) (fun _ _ _ h => h) (Or.inl ⟨by rfl, ?hy⟩) (by assumption) ?_
                    case hy => intro w hSw; (try dsimp only at hSw); go_simp; try with_reducible rfl
                    try simp only [Act.put, List.getElem_toArray, List.getElem_cons_succ, List.getElem_cons_zero, List.setIfInBounds_toArray, List.set_cons_zero, List.set_cons_succ]
                    refine wpAnyH_take (i := 7) (v := ?_) rfl (by kernel_rfl) (by kernel_rfl) (by kernel_rfl) (fun _ _ _ h => h) (Or.inl ⟨by rfl, ?hy⟩) (by assumption) ?_
                    case hy => intro w hSw; (try dsimp only at hSw); go_simp; try with_reducible rfl
                    try simp only [Act.put, List.getElem_toArray, List.getElem_cons_succ, List.getElem_cons_zero, List.setIfInBounds_toArray, List.set_cons_zero, List.set_cons_succ]
                    refine wpAnyH_take (i := 8) (v := ?_) rfl (by kernel_rfl) (by kernel_rfl) (by kernel_rfl) (fun _ _ _ h => h) (Or.inl ⟨by rfl, ?hy⟩) (by assumption) ?_
                    case hy => intro w hSw; (try dsimp only at hSw); go_simp; try with_reducible rfl
                    try simp only [Act.put, List.getElem_toArray, List.getElem_cons_succ, List.getElem_cons_zero, List.setIfInBounds_toArray, List.set_cons_zero, List.set_cons_succ]
                    refine wpAnyH_take (i := 9) (v := ?_) rfl (by kernel_rfl) (by kernel_rfl) (by kernel_rfl) (fun _ _ _ h => h) (Or.inl ⟨by rfl, ?hy⟩) (by assumption) ?_
                    case hy => intro w hSw; (try dsimp only at hSw); go_simp; try with_reducible rfl
                    try simp only [Act.put, List.getElem_toArray, List.getElem_cons_succ, List.getElem_cons_zero, List.setIfInBounds_toArray, List.set_cons_zero, List.set_cons_succ]
                    refine wpAnyH_take (i := 11) (v := ?_) rfl (by kernel_rfl) (by kernel_rfl) (by kernel_rfl) (fun _ _ _ h => h) (Or.inl ⟨by rfl, ?hy⟩) (by assumption) ?_
                    case hy => intro w hSw; (try dsimp only at hSw); go_simp; try with_reducible rfl
                    try simp only [Act.put, List.getElem_toArray, List.getElem_cons_succ, List.getElem_cons_zero, List.setIfInBounds_toArray, List.set_cons_zero, List.set_cons_succ]
                    refine wpAnyH_ready (rs := [10]) (by kernel_rfl) (by simp) (AllReadyH.cons rfl (fun K hK => ?_) AllReadyH.nil)
                    go_simp
                    skip
                    try (go_wp2_with fail)
                    refine hK.out _ _ ?_ (fun hHeld => ?_)
                    · exact hHeld
                    clear hK K
                    try simp only [Act.put, List.getElem_toArray, List.getElem_cons_succ, List.getElem_cons_zero, List.setIfInBounds_toArray, List.set_cons_zero, List.set_cons_succ]
                    refine wpAnyH_ready (rs := [12]) (by kernel_rfl) (by simp) (AllReadyH.cons rfl (fun K hK => ?_) AllReadyH.nil)
                    go_simp
                    refine (HPL2.out _).mono ?_
                    rintro e wq2 ⟨rfl, hq2⟩
                    subst hq2
                    try (go_wp2_with fail)
                    refine hK.out _ _ ?_ (fun hHeld => ?_)
                    · exact hHeld
                    clear hK K
                    try simp only [Act.put, List.getElem_toArray, List.getElem_cons_succ, List.getElem_cons_zero, List.setIfInBounds_toArray, List.set_cons_zero, List.set_cons_succ]
                    refine wpAnyH_ready (rs := [13]) (by kernel_rfl) (by simp) (AllReadyH.cons rfl (fun K hK => ?_) AllReadyH.nil)
                    go_simp
                    skip
                    try (go_wp2_with fail)
                    refine hK.out _ _ ?_ (fun hHeld => ?_)
                    · exact ⟨HGU.out.cell hHeld.1 (by simp; exact fun e => n3 e.symm), HGU.out.cell hHeld.2.1 (by simpa using hbxne), HGU.out.cell hHeld.2.2 (by simpa using hbxne)⟩
                    clear hK K
                    try simp only [Act.put, List.getElem_toArray, List.getElem_cons_succ, List.getElem_cons_zero, List.setIfInBounds_toArray, List.set_cons_zero, List.set_cons_succ]
                    refine wpAnyH_done (by kernel_rfl) ?_ _
                    refine NoPanic.normal ?_
                    go_wp2_with (fail)
                    exact ⟨⟨r + 1, by omega, by go_num, HOU, HTT2.out wU HRU.out, HMU2⟩, by first | (simp [intOf]; done) | (simp [intOf]; omega)⟩
                  · have k1 : ¬ (r : Int) < nR := by omega
                    have e1 : r = nR := by omega
                    have HRW := HRV.out
                    have HMW := HMV.out
                    rw [e1, ← HNR.out, midB_all] at HRW HMW
                    clear HRV HMV e1
                    go_wp2_with (fail)
                    exact ⟨⟨k + 1, by omega, by go_num, HOV, HRW, HMW⟩, by first | (simp [intOf]; done) | (simp [intOf]; omega)⟩
              · have k1 : ¬ (k : Int) < len := by omega
                have e1 : ns.take k = ns := List.take_of_length_le (by rw [HL.out]; omega)
                rw [e1] at HRY HMY
                clear e1
                go_wp2_with (fail)
                go_ret
                have hfb := foldS_bd (ns := ns) hXt.2.2.1 hXt.2.2.2 (fun x hx => (HFIN.out x hx).1)
                refine ⟨by rw [HADD.out]; rfl, ?_, fun _ => ?_, fun hne => absurd HADD.out hne⟩
                · exact HO6.out.trans HOY.out (fun i hi e => by rcases HWF.out i e with h1 | h1; exact h1; omega)
                · refine ⟨_, _, _, BkS.a ⟨xa, xt, xm, xc⟩, skAt_end HK6.out HOY.out HRY.out HN5.out HMY.out hfb.1 hfb.2, by rw [HGG.out]; exact HWITH.out, by rw [List.map_append]; rfl, fun i hi => ?_⟩
                  have := HOWN5.out i (by simpa [SkOwn] using hi)
                  rcases this with h1 | h1
                  · exact Or.inl h1
                  · exact Or.inr (by omega)
          · have hdec : (xa != G) = true := by simp [hat]
            have HNL := Lib.hid (show ¬ (bs1.map BkS.a).getLast?.map (·.at_) = some G by
              rw [last_split HXX.out HN1.out, List.map_append, List.map_singleton, List.getLast?_concat]
              intro e
              injection e with e
              exact hat e)
            clear hat
            go_quiet (fail)
            go_wp2_with (fail)
            clear d0 d1 d2 HXX hlt1 hcapE hgD hz1 hzz hfew hwi k1m k0m hdec
            generalize (some ⟨gD, 0, none⟩ : Option Addr) = aD at *
            generalize hn1e : m1 + 1 = n1 at *
            clear hn1e
            have HKF := Lib.hid (HKE.out.drewN nq)
            have hzF : q + 1 ≤ (wE.drewN nq).heap.size := hzE
            have HOF := Lib.hid (HOE.out.trans (Off.ofBelow (S := SkOwn s v bs) (w := wE) (w' := wE.drewN nq) ⟨rfl, rfl, rfl, Nat.le_refl _, fun _ _ => rfl⟩) (fun _ _ h => h))
            have hbF : (wE.drewN nq).cell? ⟨w.heap.size, 0, none⟩ = some (.pointer (some ⟨s, 0, none⟩)) := hbE
            have hqF : (wE.drewN nq).cell? ⟨q, 0, none⟩ = some (.int .i64 G) := hqE
            have c5F : (wE.drewN nq).cell? ⟨s, 5, none⟩ = some (.slice aD n1 capD) := c5
            generalize wE.drewN nq = wF at *
            refine wp_mid (fun a a' w' => PushR a a' w' w s h at_ n1 bs1 G v bs) ?_ ?_
            · have c5A : ∀ o, (wF.alloc o).cell? ⟨s, 5, none⟩ = some (.slice aD n1 capD) := fun o => (World.cell?_alloc_lt wF o _ (World.block_lt_of_cell? wF _ c5F)).trans c5F
              have c5B : ∀ o o', ((wF.alloc o).alloc o').cell? ⟨s, 5, none⟩ = some (.slice aD n1 capD) := fun o o' => (World.cell?_alloc_lt _ o' _ (World.block_lt_of_cell? _ _ (c5A o))).trans (c5A o)
              obtain ⟨i0, hi, hz0, hz1, hz2⟩ := info_parts info_bk
              have hmk := fun wx => run_makeMapS wx
              have hn1b : n1 ≤ 1099511627776 := by
                have h1 := congrArg List.length HMP.out
                rw [List.length_map, HN1.out] at h1
                rw [h1, ← HGG.out]; exact HROOM.out a2
              have hbm : Below wF.heap.size wF (wF.alloc (.map #[] 0)) := (Below.refl _ _).alloc (Nat.le_refl _) _
              have HBW := Lib.hid (show Below wF.heap.size wF ((wF.alloc (.map #[] 0)).alloc (.cells #[.int .i64 G, .int .i64 0, .map (some wF.heap.size)] 92)).drew from (hbm.alloc (by simp) _).drew)
              have HROW := Lib.hid (show ((wF.alloc (.map #[] 0)).alloc (.cells #[.int .i64 G, .int .i64 0, .map (some wF.heap.size)] 92)).drew.ownsRow 0 92 3 (.slice aD n1 capD) n1 (flatB bs1) by
                have h1 := rowB_below HKF.out HBW.out
                rw [HN1.out] at h1
                exact h1)
              have HTC := Lib.hid (show ∀ j u, ([.int .i64 G, .int .i64 0, .map (some wF.heap.size)] : List Value)[j]? = some u → ((wF.alloc (.map #[] 0)).alloc (.cells #[.int .i64 G, .int .i64 0, .map (some wF.heap.size)] 92)).drew.cell? ((⟨wF.heap.size + 1, 0, none⟩ : Addr).add j) = some u from fun j u hu => by
                have h1 := three_cells (wF.alloc (.map #[] 0)) (.int .i64 G) (.int .i64 0) (.map (some wF.heap.size)) 92 j u hu
                rw [World.size_alloc] at h1
                exact h1)
              have HCN := Lib.hid (show CntAt ((wF.alloc (.map #[] 0)).alloc (.cells #[.int .i64 G, .int .i64 0, .map (some wF.heap.size)] 92)).drew wF.heap.size (fun _ _ => 0) from (cntAt_made wF).kept (by
                show ((wF.alloc (.map #[] 0)).alloc _).heap[wF.heap.size]? = _
                rw [get_allocS, if_neg (by simp)]))
              have hslF : s < wF.heap.size := HKF.out.lt (by simp [SkOwn])
              have HHW := Lib.hid ((HBW.out.block s hslF).trans HKF.out.head)
              have HSW := Lib.hid (show s < ((wF.alloc (.map #[] 0)).alloc (.cells #[.int .i64 G, .int .i64 0, .map (some wF.heap.size)] 92)).drew.heap.size from Nat.lt_of_lt_of_le hslF HBW.out.size)
              have hvo : ∀ i, (Value.slice aD n1 capD).ownBlock = some i → i < w.heap.size ∧ i ≠ s := fun i e => ⟨HS.out.lt (HOWN.out i (by simp [SkOwn, e])), fun e2 => by
                have hap := HKF.out.apart
                rw [List.nodup_cons] at hap
                exact hap.1 (by rw [← e2]; simp [e])⟩
              have HVS := Lib.hid (show ¬ (Value.slice aD n1 capD).ownBlock = some s from fun e => (hvo s e).2 rfl)
              have HVB := Lib.hid (show (Value.slice aD n1 capD).ownBlock ≠ some w.heap.size ∧ (Value.slice aD n1 capD).ownBlock ≠ some q from ⟨fun e => by have := (hvo _ e).1; omega, fun e => by have := (hvo _ e).1; omega⟩)
              clear hbm hvo
              refine wp_region_noPanic ?_
              refine wp_region_held_drew (S := fun wx => wx.cell? ⟨w.heap.size, 0, none⟩ = some (.pointer (some ⟨s, 0, none⟩)) ∧ wx.cell? ⟨q, 0, none⟩ = some (.int .i64 G)) (by kernel_rfl) ?_ (fun hHeld => ?_)
              · exact ⟨hbF, hqF⟩
              refine wpAnyH_take (i := 0) (v := ?_) rfl (by kernel_rfl) (by kernel_rfl) (by kernel_rfl) (fun _ _ _ h => h) (Or.inl ⟨by rfl, ?hy⟩) (by assumption) ?_
              case hy => intro w hSw; (try dsimp only at hSw); go_simp; try with_reducible rfl
              try simp only [Act.put, List.getElem_toArray, List.getElem_cons_succ, List.getElem_cons_zero, List.setIfInBounds_toArray, List.set_cons_zero, List.set_cons_succ]
              refine wpAnyH_take (i := 1) (v := ?_) rfl (by kernel_rfl) (by kernel_rfl) (by kernel_rfl) (fun _ _ _ h => h) (Or.inl ⟨by rfl, ?hy⟩) (by assumption) ?_
              case hy => intro w hSw; (try dsimp only at hSw); go_simp; try with_reducible rfl
              try simp only [Act.put, List.getElem_toArray, List.getElem_cons_succ, List.getElem_cons_zero, List.setIfInBounds_toArray, List.set_cons_zero, List.set_cons_succ]
              refine wpAnyH_take (i := 2) (v := ?_) rfl (by kernel_rfl) (by kernel_rfl) (by kernel_rfl) (fun _ _ _ h => h) (Or.inl ⟨by rfl, ?hy⟩) (by assumption) ?_
              case hy => intro w hSw; (try dsimp only at hSw); go_simp; try with_reducible rfl
              try simp only [Act.put, List.getElem_toArray, List.getElem_cons_succ, List.getElem_cons_zero, List.setIfInBounds_toArray, List.set_cons_zero, List.set_cons_succ]
              refine wpAnyH_take (i := 3) (v := ?_) rfl (by kernel_rfl) (by kernel_rfl) (by kernel_rfl) (fun _ _ _ h => h) (Or.inl ⟨by rfl, ?hy⟩) (by assumption) ?_
              case hy => intro w hSw; (try dsimp only at hSw); go_simp; try with_reducible rfl
              try simp only [Act.put, List.getElem_toArray, List.getElem_cons_succ, List.getElem_cons_zero, List.setIfInBounds_toArray, List.set_cons_zero, List.set_cons_succ]
              refine wpAnyH_take (i := 5) (v := ?_) rfl (by kernel_rfl) (by kernel_rfl) (by kernel_rfl) (fun _ _ _ h => h) (Or.inl ⟨by rfl, ?hy⟩) (by assumption) ?_
              case hy => intro w hSw; (try dsimp only at hSw); go_simp; try with_reducible rfl
              try simp only [Act.put, List.getElem_toArray, List.getElem_cons_succ, List.getElem_cons_zero, List.setIfInBounds_toArray, List.set_cons_zero, List.set_cons_succ]
              refine wpAnyH_ready (rs := [4, 6]) (by kernel_rfl) (by simp) (AllReadyH.cons rfl (fun K hK => ?_) (AllReadyH.cons rfl (fun K hK => ?_) AllReadyH.nil))
              · go_simp
                try (go_wp2_with fail)
                refine hK.out _ _ ?_ (fun hHeld => ?_)
                · exact hHeld
                clear hK K
                try simp only [Act.put, List.getElem_toArray, List.getElem_cons_succ, List.getElem_cons_zero, List.setIfInBounds_toArray, List.set_cons_zero, List.set_cons_succ]
                refine wpAnyH_ready (rs := [6]) (by kernel_rfl) (by simp) (AllReadyH.cons rfl (fun K hK => ?_) AllReadyH.nil)
                go_simp
                skip
                try (go_wp2_with fail)
                refine hK.out _ _ ?_ (fun hHeld => ?_)
                · exact boxed2 hHeld
                clear hK K
                try simp only [Act.put, List.getElem_toArray, List.getElem_cons_succ, List.getElem_cons_zero, List.setIfInBounds_toArray, List.set_cons_zero, List.set_cons_succ]
                refine wpAnyH_take (i := 7) (v := ?_) rfl (by kernel_rfl) (by kernel_rfl) (by kernel_rfl) (fun _ _ _ h => h) (Or.inl ⟨by rfl, ?hy⟩) (by assumption) ?_
                case hy => intro w hSw; (try dsimp only at hSw); go_simp; try with_reducible rfl
                try simp only [Act.put, List.getElem_toArray, List.getElem_cons_succ, List.getElem_cons_zero, List.setIfInBounds_toArray, List.set_cons_zero, List.set_cons_succ]
                refine wpAnyH_ready (rs := [8]) (by kernel_rfl) (by simp) (AllReadyH.cons rfl (fun K hK => ?_) AllReadyH.nil)
                go_simp
                skip
                try (go_wp2_with fail)
                refine hK.out _ _ ?_ (fun hHeld => ?_)
                · exact boxed2 hHeld
                clear hK K
                try simp only [Act.put, List.getElem_toArray, List.getElem_cons_succ, List.getElem_cons_zero, List.setIfInBounds_toArray, List.set_cons_zero, List.set_cons_succ]
                refine wpAnyH_ready (rs := [9]) (by kernel_rfl) (by simp) (AllReadyH.cons rfl (fun K hK => ?_) AllReadyH.nil)
                rw [if_pos (by rfl)]
                refine wp_append_at _ (.tmp 88) (.tmp 92) 84 rfl 0 92 i0 (.agg zB.toArray) 3 24 Try.underlying84 hi hz0 hz1 hz2 rfl (by decide) (.slice aD n1 capD) n1 (flatB bs1) rfl HROW.out ⟨wF.heap.size + 1, 0, none⟩ 1 1 [.int .i64 G, .int .i64 0, .map (some wF.heap.size)] rfl rfl HTC.out (by intro u hu; simp at hu; rcases hu with rfl | rfl | rfl <;> rfl) (by unfold maxLen; omega) (by omega) (Nat.zero_le _) (by decide) ?_
                intro v3 w3 hown3 hg3 hk3
                obtain ⟨g3, cap3, rfl⟩ : ∃ g c, v3 = .slice (some ⟨g, 0, none⟩) (n1 + 1) c := by
                  rcases hown3.2 with ⟨_, hz⟩ | ⟨g, c, cur, hz, _⟩
                  · omega
                  · exact ⟨g, c, hz⟩
                have HPUSH := Lib.hid (skAt_push HKF.out HBW.out HCN.out (Nat.le_refl _) hg0 (by omega) (by rw [HN1.out]; omega) (by rw [HN1.out]; exact hown3) hg3 hk3)
                have hs3 := (hg3.block s HSW.out (fun e => HVS.out e.symm)).trans HHW.out
                have c3s : w3.cell? ⟨s, 5, none⟩ = some (.slice aD n1 capD) := by simp only [World.cell?, hs3]; rfl
                have f3s : w3.frozen? ⟨s, 5, none⟩ = false := frozen_of_row w3 s 5 _ _ hs3
                have HG3 := Lib.hid hg3
                clear hown3 hg3 hk3 hs3
                refine hK.out _ _ (boxed2_grown hHeld HG3.out HVB.out.1 HVB.out.2) (fun hHeld => ?_)
                clear hK K
                try simp only [Act.put, List.getElem_toArray, List.getElem_cons_succ, List.getElem_cons_zero, List.setIfInBounds_toArray, List.set_cons_zero, List.set_cons_succ]
                refine wpAnyH_take (i := 10) (v := ?_) rfl (by kernel_rfl) (by kernel_rfl) (by kernel_rfl) (fun _ _ _ h => h) (Or.inl ⟨by rfl, ?hy⟩) (by assumption) ?_
                case hy => intro w hSw; (try dsimp only at hSw); go_simp; try with_reducible rfl
                try simp only [Act.put, List.getElem_toArray, List.getElem_cons_succ, List.getElem_cons_zero, List.setIfInBounds_toArray, List.set_cons_zero, List.set_cons_succ]
                refine wpAnyH_take (i := 11) (v := ?_) rfl (by kernel_rfl) (by kernel_rfl) (by kernel_rfl) (fun _ _ _ h => h) (Or.inl ⟨by rfl, ?hy⟩) (by assumption) ?_
                case hy => intro w hSw; (try dsimp only at hSw); go_simp; try with_reducible rfl
                try simp only [Act.put, List.getElem_toArray, List.getElem_cons_succ, List.getElem_cons_zero, List.setIfInBounds_toArray, List.set_cons_zero, List.set_cons_succ]
                refine wpAnyH_ready (rs := [12]) (by kernel_rfl) (by simp) (AllReadyH.cons rfl (fun K hK => ?_) AllReadyH.nil)
                go_simp
                skip
                try (go_wp2_with fail)
                refine hK.out _ _ ?_ (fun hHeld => ?_)
                · exact boxed2_set hHeld (by omega) (by omega)
                clear hK K
                try simp only [Act.put, List.getElem_toArray, List.getElem_cons_succ, List.getElem_cons_zero, List.setIfInBounds_toArray, List.set_cons_zero, List.set_cons_succ]
                refine wpAnyH_done (by kernel_rfl) ?_ _
                refine NoPanic.normal ?_
                refine ⟨rfl, .pointer (some ⟨s, 0, none⟩), .pointer (some ⟨s, 0, none⟩), .pointer (some ⟨s, 0, none⟩), .pointer (some ⟨s, 5, none⟩), .slice aD n1 capD, .int .i64 G, .map (some wF.heap.size), .agg #[.int .i64 G, .int .i64 0, .map (some wF.heap.size)], .slice (some ⟨wF.heap.size + 1, 0, none⟩) 1 1, .slice (some ⟨g3, 0, none⟩) (n1 + 1) cap3, .pointer (some ⟨s, 0, none⟩), .pointer (some ⟨s, 5, none⟩), g3, cap3, wF.heap.size, ?_, HPUSH.out.1, hHeld.1, HOF.out.trans HPUSH.out.2.1 (fun i _ hi => HOWN.out i hi), fun i hi => ?_⟩
                · simp only [Act.put, List.setIfInBounds_toArray, List.set_cons_zero, List.set_cons_succ]
                rcases HPUSH.out.2.2 i hi with h1 | h1
                · exact Or.inl (HOWN.out i h1)
                · exact Or.inr (by omega)
              · go_simp
                try (go_wp2_with fail)
                refine hK.out _ _ ?_ (fun hHeld => ?_)
                · exact boxed2 hHeld
                clear hK K
                try simp only [Act.put, List.getElem_toArray, List.getElem_cons_succ, List.getElem_cons_zero, List.setIfInBounds_toArray, List.set_cons_zero, List.set_cons_succ]
                refine wpAnyH_take (i := 7) (v := ?_) rfl (by kernel_rfl) (by kernel_rfl) (by kernel_rfl) (fun _ _ _ h => h) (Or.inl ⟨by rfl, ?hy⟩) (by assumption) ?_
                case hy => intro w hSw; (try dsimp only at hSw); go_simp; try with_reducible rfl
                try simp only [Act.put, List.getElem_toArray, List.getElem_cons_succ, List.getElem_cons_zero, List.setIfInBounds_toArray, List.set_cons_zero, List.set_cons_succ]
                refine wpAnyH_ready (rs := [4, 8]) (by kernel_rfl) (by simp) (AllReadyH.cons rfl (fun K hK => ?_) (AllReadyH.cons rfl (fun K hK => ?_) AllReadyH.nil))
                · go_simp
                  try (go_wp2_with fail)
                  refine hK.out _ _ ?_ (fun hHeld => ?_)
                  · exact hHeld
                  clear hK K
                  try simp only [Act.put, List.getElem_toArray, List.getElem_cons_succ, List.getElem_cons_zero, List.setIfInBounds_toArray, List.set_cons_zero, List.set_cons_succ]
                  refine wpAnyH_ready (rs := [8]) (by kernel_rfl) (by simp) (AllReadyH.cons rfl (fun K hK => ?_) AllReadyH.nil)
                  go_simp
                  skip
                  try (go_wp2_with fail)
                  refine hK.out _ _ ?_ (fun hHeld => ?_)
                  · exact boxed2 hHeld
                  clear hK K
                  try simp only [Act.put, List.getElem_toArray, List.getElem_cons_succ, List.getElem_cons_zero, List.setIfInBounds_toArray, List.set_cons_zero, List.set_cons_succ]
                  refine wpAnyH_ready (rs := [9]) (by kernel_rfl) (by simp) (AllReadyH.cons rfl (fun K hK => ?_) AllReadyH.nil)
                  rw [if_pos (by rfl)]
                  refine wp_append_at _ (.tmp 88) (.tmp 92) 84 rfl 0 92 i0 (.agg zB.toArray) 3 24 Try.underlying84 hi hz0 hz1 hz2 rfl (by decide) (.slice aD n1 capD) n1 (flatB bs1) rfl HROW.out ⟨wF.heap.size + 1, 0, none⟩ 1 1 [.int .i64 G, .int .i64 0, .map (some wF.heap.size)] rfl rfl HTC.out (by intro u hu; simp at hu; rcases hu with rfl | rfl | rfl <;> rfl) (by unfold maxLen; omega) (by omega) (Nat.zero_le _) (by decide) ?_
                  intro v3 w3 hown3 hg3 hk3
                  obtain ⟨g3, cap3, rfl⟩ : ∃ g c, v3 = .slice (some ⟨g, 0, none⟩) (n1 + 1) c := by
                    rcases hown3.2 with ⟨_, hz⟩ | ⟨g, c, cur, hz, _⟩
                    · omega
                    · exact ⟨g, c, hz⟩
                  have HPUSH := Lib.hid (skAt_push HKF.out HBW.out HCN.out (Nat.le_refl _) hg0 (by omega) (by rw [HN1.out]; omega) (by rw [HN1.out]; exact hown3) hg3 hk3)
                  have hs3 := (hg3.block s HSW.out (fun e => HVS.out e.symm)).trans HHW.out
                  have c3s : w3.cell? ⟨s, 5, none⟩ = some (.slice aD n1 capD) := by simp only [World.cell?, hs3]; rfl
                  have f3s : w3.frozen? ⟨s, 5, none⟩ = false := frozen_of_row w3 s 5 _ _ hs3
                  have HG3 := Lib.hid hg3
                  clear hown3 hg3 hk3 hs3
                  refine hK.out _ _ (boxed2_grown hHeld HG3.out HVB.out.1 HVB.out.2) (fun hHeld => ?_)
                  clear hK K
                  try simp only [Act.put, List.getElem_toArray, List.getElem_cons_succ, List.getElem_cons_zero, List.setIfInBounds_toArray, List.set_cons_zero, List.set_cons_succ]
                  refine wpAnyH_take (i := 10) (v := ?_) rfl (by kernel_rfl) (by kernel_rfl) (by kernel_rfl) (fun _ _ _ h => h) (Or.inl ⟨by rfl, ?hy⟩) (by assumption) ?_
                  case hy => intro w hSw; (try dsimp only at hSw); go_simp; try with_reducible rfl
                  try simp only [Act.put, List.getElem_toArray, List.getElem_cons_succ, List.getElem_cons_zero, List.setIfInBounds_toArray, List.set_cons_zero, List.set_cons_succ]
                  refine wpAnyH_take (i := 11) (v := ?_) rfl (by kernel_rfl) (by kernel_rfl) (by kernel_rfl) (fun _ _ _ h => h) (Or.inl ⟨by rfl, ?hy⟩) (by assumption) ?_
                  case hy => intro w hSw; (try dsimp only at hSw); go_simp; try with_reducible rfl
                  try simp only [Act.put, List.getElem_toArray, List.getElem_cons_succ, List.getElem_cons_zero, List.setIfInBounds_toArray, List.set_cons_zero, List.set_cons_succ]
                  refine wpAnyH_ready (rs := [12]) (by kernel_rfl) (by simp) (AllReadyH.cons rfl (fun K hK => ?_) AllReadyH.nil)
                  go_simp
                  skip
                  try (go_wp2_with fail)
                  refine hK.out _ _ ?_ (fun hHeld => ?_)
                  · exact boxed2_set hHeld (by omega) (by omega)
                  clear hK K
                  try simp only [Act.put, List.getElem_toArray, List.getElem_cons_succ, List.getElem_cons_zero, List.setIfInBounds_toArray, List.set_cons_zero, List.set_cons_succ]
                  refine wpAnyH_done (by kernel_rfl) ?_ _
                  refine NoPanic.normal ?_
                  refine ⟨rfl, .pointer (some ⟨s, 0, none⟩), .pointer (some ⟨s, 0, none⟩), .pointer (some ⟨s, 0, none⟩), .pointer (some ⟨s, 5, none⟩), .slice aD n1 capD, .int .i64 G, .map (some wF.heap.size), .agg #[.int .i64 G, .int .i64 0, .map (some wF.heap.size)], .slice (some ⟨wF.heap.size + 1, 0, none⟩) 1 1, .slice (some ⟨g3, 0, none⟩) (n1 + 1) cap3, .pointer (some ⟨s, 0, none⟩), .pointer (some ⟨s, 5, none⟩), g3, cap3, wF.heap.size, ?_, HPUSH.out.1, hHeld.1, HOF.out.trans HPUSH.out.2.1 (fun i _ hi => HOWN.out i hi), fun i hi => ?_⟩
                  · simp only [Act.put, List.setIfInBounds_toArray, List.set_cons_zero, List.set_cons_succ]
                  rcases HPUSH.out.2.2 i hi with h1 | h1
                  · exact Or.inl (HOWN.out i h1)
                  · exact Or.inr (by omega)
                · go_simp
                  try (go_wp2_with fail)
                  refine hK.out _ _ ?_ (fun hHeld => ?_)
                  · exact boxed2 hHeld
                  clear hK K
                  try simp only [Act.put, List.getElem_toArray, List.getElem_cons_succ, List.getElem_cons_zero, List.setIfInBounds_toArray, List.set_cons_zero, List.set_cons_succ]
                  refine wpAnyH_ready (rs := [4]) (by kernel_rfl) (by simp) (AllReadyH.cons rfl (fun K hK => ?_) AllReadyH.nil)
                  go_simp
                  skip
                  try (go_wp2_with fail)
                  refine hK.out _ _ ?_ (fun hHeld => ?_)
                  · exact hHeld
                  clear hK K
                  try simp only [Act.put, List.getElem_toArray, List.getElem_cons_succ, List.getElem_cons_zero, List.setIfInBounds_toArray, List.set_cons_zero, List.set_cons_succ]
                  refine wpAnyH_ready (rs := [9]) (by kernel_rfl) (by simp) (AllReadyH.cons rfl (fun K hK => ?_) AllReadyH.nil)
                  rw [if_pos (by rfl)]
                  refine wp_append_at _ (.tmp 88) (.tmp 92) 84 rfl 0 92 i0 (.agg zB.toArray) 3 24 Try.underlying84 hi hz0 hz1 hz2 rfl (by decide) (.slice aD n1 capD) n1 (flatB bs1) rfl HROW.out ⟨wF.heap.size + 1, 0, none⟩ 1 1 [.int .i64 G, .int .i64 0, .map (some wF.heap.size)] rfl rfl HTC.out (by intro u hu; simp at hu; rcases hu with rfl | rfl | rfl <;> rfl) (by unfold maxLen; omega) (by omega) (Nat.zero_le _) (by decide) ?_
                  intro v3 w3 hown3 hg3 hk3
                  obtain ⟨g3, cap3, rfl⟩ : ∃ g c, v3 = .slice (some ⟨g, 0, none⟩) (n1 + 1) c := by
                    rcases hown3.2 with ⟨_, hz⟩ | ⟨g, c, cur, hz, _⟩
                    · omega
                    · exact ⟨g, c, hz⟩
                  have HPUSH := Lib.hid (skAt_push HKF.out HBW.out HCN.out (Nat.le_refl _) hg0 (by omega) (by rw [HN1.out]; omega) (by rw [HN1.out]; exact hown3) hg3 hk3)
                  have hs3 := (hg3.block s HSW.out (fun e => HVS.out e.symm)).trans HHW.out
                  have c3s : w3.cell? ⟨s, 5, none⟩ = some (.slice aD n1 capD) := by simp only [World.cell?, hs3]; rfl
                  have f3s : w3.frozen? ⟨s, 5, none⟩ = false := frozen_of_row w3 s 5 _ _ hs3
                  have HG3 := Lib.hid hg3
                  clear hown3 hg3 hk3 hs3
                  refine hK.out _ _ (boxed2_grown hHeld HG3.out HVB.out.1 HVB.out.2) (fun hHeld => ?_)
                  clear hK K
                  try simp only [Act.put, List.getElem_toArray, List.getElem_cons_succ, List.getElem_cons_zero, List.setIfInBounds_toArray, List.set_cons_zero, List.set_cons_succ]
                  refine wpAnyH_take (i := 10) (v := ?_) rfl (by kernel_rfl) (by kernel_rfl) (by kernel_rfl) (fun _ _ _ h => h) (Or.inl ⟨by rfl, ?hy⟩) (by assumption) ?_
                  case hy => intro w hSw; (try dsimp only at hSw); go_simp; try with_reducible rfl
                  try simp only [Act.put, List.getElem_toArray, List.getElem_cons_succ, List.getElem_cons_zero, List.setIfInBounds_toArray, List.set_cons_zero, List.set_cons_succ]
                  refine wpAnyH_take (i := 11) (v := ?_) rfl (by kernel_rfl) (by kernel_rfl) (by kernel_rfl) (fun _ _ _ h => h) (Or.inl ⟨by rfl, ?hy⟩) (by assumption) ?_
                  case hy => intro w hSw; (try dsimp only at hSw); go_simp; try with_reducible rfl
                  try simp only [Act.put, List.getElem_toArray, List.getElem_cons_succ, List.getElem_cons_zero, List.setIfInBounds_toArray, List.set_cons_zero, List.set_cons_succ]
                  refine wpAnyH_ready (rs := [12]) (by kernel_rfl) (by simp) (AllReadyH.cons rfl (fun K hK => ?_) AllReadyH.nil)
                  go_simp
                  skip
                  try (go_wp2_with fail)
                  refine hK.out _ _ ?_ (fun hHeld => ?_)
                  · exact boxed2_set hHeld (by omega) (by omega)
                  clear hK K
                  try simp only [Act.put, List.getElem_toArray, List.getElem_cons_succ, List.getElem_cons_zero, List.setIfInBounds_toArray, List.set_cons_zero, List.set_cons_succ]
                  refine wpAnyH_done (by kernel_rfl) ?_ _
                  refine NoPanic.normal ?_
                  refine ⟨rfl, .pointer (some ⟨s, 0, none⟩), .pointer (some ⟨s, 0, none⟩), .pointer (some ⟨s, 0, none⟩), .pointer (some ⟨s, 5, none⟩), .slice aD n1 capD, .int .i64 G, .map (some wF.heap.size), .agg #[.int .i64 G, .int .i64 0, .map (some wF.heap.size)], .slice (some ⟨wF.heap.size + 1, 0, none⟩) 1 1, .slice (some ⟨g3, 0, none⟩) (n1 + 1) cap3, .pointer (some ⟨s, 0, none⟩), .pointer (some ⟨s, 5, none⟩), g3, cap3, wF.heap.size, ?_, HPUSH.out.1, hHeld.1, HOF.out.trans HPUSH.out.2.1 (fun i _ hi => HOWN.out i hi), fun i hi => ?_⟩
                  · simp only [Act.put, List.setIfInBounds_toArray, List.set_cons_zero, List.set_cons_succ]
                  rcases HPUSH.out.2.2 i hi with h1 | h1
                  · exact Or.inl (HOWN.out i h1)
                  · exact Or.inr (by omega)
            · rintro a' w5 ⟨x84, x85, x86, x87, x88, x89, x90, x91, x92, x93, x94, x95, gD, capD, mN, rfl, hK5, hb5, hO5, hown5⟩
              simp only [Act.put, List.setIfInBounds_toArray, List.set_cons_zero, List.set_cons_succ]
              have hwith : withBk G (keepBk G h.W (bs.map BkS.a)) = bs1.map BkS.a ++ [BkS.a ⟨G, 0, mN, fun _ _ => 0⟩] := by
                rw [← HMP.out]
                unfold withBk
                rw [if_neg HNL.out]; rfl
              obtain ⟨xa, xt, xm, xc, hX, hxa⟩ : ∃ xa xt xm xc, (⟨G, 0, mN, fun _ _ => 0⟩ : BkS) = ⟨xa, xt, xm, xc⟩ ∧ xa = G := ⟨_, _, _, _, rfl, rfl⟩
              rw [hX] at hK5 hown5 hwith
              have HXA := Lib.hid hxa
              have hP := HN1.out
              clear hX hxa c0 c1 c2 c3 c4 c5 c6 hqE hbE HMP HKE HOE HKF hbF hqF c5F HOF HOWN HN1 HNL
              obtain ⟨m1, hm1⟩ : ∃ m1, m1 = n1 := ⟨_, rfl⟩
              subst hm1
              obtain ⟨P, hP1⟩ : ∃ P, P = bs1 := ⟨_, rfl⟩
              subst hP1
              go_wp2_with (fail)
              have hfew5 := hK5.few
              have hwi : IntKind.i64.wrap ((m1 : Int) + 1 - 1) = m1 := by rw [Int.add_sub_cancel]; exact IntWalk.i64_in _ (by simp [hP] at hfew5; omega)
              have k1m : (m1 : Int) < (m1 : Int) + 1 := by omega
              have k0m : (0 : Int) ≤ (m1 : Int) := by omega
              have hwm : IntKind.i64.wrap (m1 : Int) = m1 := IntWalk.i64_in _ (by simp [hP] at hfew5; omega)
              obtain ⟨c0, c1, c2, c3, c4, c5, c6⟩ := hK5.headCells
              have HK5 := Lib.hid hK5
              have HWITH := Lib.hid hwith
              have HOWN5 := Lib.hid hown5
              have HO5 := Lib.hid hO5
              have HP := Lib.hid hP
              have HB5 := Lib.hid hb5
              have hw5 := hO5.size
              clear hK5 hwith hown5 hO5 hP hfew5
              go_quiet (fail)
              go_wp2_with (fail)
              have HFIN := Lib.hid (any_nonneg HALL.out)
              have hXt := HK5.out.tots ⟨xa, xt, xm, xc⟩ (by simp)
              have hXm := HK5.out.maps ⟨xa, xt, xm, xc⟩ (by simp)
              have HNE := Lib.hid (skAt_ne HK5.out)
              have HK6 := Lib.hid (HK5.out.drewN nq)
              have HR6 := Lib.hid (show (w5.drewN nq).ownsRow 0 92 3 (.slice (some ⟨gD, 0, none⟩) (m1 + 1) capD) (m1 + 1) (flatB (P ++ [⟨xa, xt, xm, xc⟩])) by
                have h1 := HK6.out.row
                unfold RowB at h1
                rw [show (P ++ [(⟨xa, xt, xm, xc⟩ : BkS)]).length = m1 + 1 by simp [HP.out]] at h1
                exact h1)
              have HB6 := Lib.hid (show (w5.drewN nq).cell? ⟨w.heap.size, 0, none⟩ = some (.pointer (some ⟨s, 0, none⟩)) from hb5)
              have HO6 := Lib.hid (HO5.out.trans (Off.ofBelow (S := SkOwn s v bs) (w := w5) (w' := w5.drewN nq) ⟨rfl, rfl, rfl, Nat.le_refl _, fun _ _ => rfl⟩) (fun _ _ h => h))
              have HWF := Lib.hid (show ∀ i, i = gD ∨ i = xm → SkOwn s v bs i ∨ w.heap.size < i from fun i hi => HOWN5.out i (by
                unfold SkOwn
                simp only [Value.ownBlock, Option.toList_some, List.mem_cons, List.mem_append, List.map_append, List.map_cons, List.mem_singleton]
                rcases hi with e | e
                · exact Or.inr (Or.inl (Or.inl e))
                · exact Or.inr (Or.inr (Or.inr (Or.inl e)))))
              have hM0 := HK6.out.maps ⟨xa, xt, xm, xc⟩ (by simp)
              have HM0 := Lib.hid hM0
              obtain ⟨nR, hnR⟩ : ∃ nR : Nat, h.R = nR := ⟨h.R.toNat, by have := HBK.out.R1; omega⟩
              have hnR8 : nR ≤ 8 := by have := HBK.out.R2; omega
              have HNR := Lib.hid hnR
              clear hXm hM0 c0 c1 c2 c3 c4 c5 c6 hb5 HB5 HK5 HO5 hnR
              generalize hw6 : w5.drewN nq = w6 at *
              have h6z : w.heap.size ≤ w6.heap.size := by rw [← hw6]; exact hw5
              clear hw6
              generalize hn5 : m1 + 1 = n5 at *
              have HN5 := Lib.hid (show n5 = P.length + 1 by rw [HP.out]; exact hn5.symm)
              have hm5 : m1 < n5 := by omega
              have hP := HP.out
              clear hn5 hwi k1m
              go_loopw [16, 17, 18, 109] (fun _ _ _ i wr => ∃ (k : Nat), k ≤ len ∧ i = .int .i64 k ∧ Hid (Off (fun i => i = gD ∨ i = xm) w6 wr) ∧ Hid (wr.ownsRow 0 92 3 (.slice (some ⟨gD, 0, none⟩) n5 capD) n5 (flatB (P ++ [stepB h key (ns.take k) ⟨xa, xt, xm, xc⟩]))) ∧ Hid (CntAt wr xm (stepB h key (ns.take k) ⟨xa, xt, xm, xc⟩).cnt)) (fun _ _ _ i _ => len - (intOf i).toNat)
              case atStart => exact ⟨0, Nat.zero_le _, rfl, Lib.hid (Off.refl _ _), by rw [List.take_zero, stepB_nil]; exact HR6, by rw [List.take_zero, stepB_nil]; exact HM0⟩
              case round =>
                rename World => wy
                obtain ⟨k, hk3, rfl, HOY, HRY, HMY⟩ := hrel
                by_cases hlt : k < len
                · have hkl : k < ns.length := by rw [HL.out]; exact hlt
                  have k0 : (0 : Int) ≤ k := by omega
                  have k1 : (k : Int) < len := by omega
                  obtain ⟨y, hy⟩ : ∃ y, ns[k]? = some y := ⟨_, List.getElem?_eq_getElem hkl⟩
                  obtain ⟨b0, off, ha, hb0, hc⟩ := HN.out.get hy
                  obtain ⟨n1, n2, n3, n4⟩ := HNE.out
                  have hapk := HAP.out (by intro e; rw [e] at hkl; simp at hkl)
                  have hcY := HOY.out.cell (HO6.out.cell hc (hapk _ _ ha)) (fun e => by
                    rcases HWF.out b0 e with h1 | h1
                    · exact hapk _ _ ha h1
                    · omega)
                  subst ha
                  have hy2 := HFIN.out y (List.mem_of_getElem? hy)
                  have HY := Lib.hid hy
                  have hs6 := HK6.out.lt (i := s) (by simp [SkOwn])
                  obtain ⟨c0, c1, c2, c3, c4, c5, c6⟩ := HK6.out.headCells
                  have hns : ¬ (s = gD ∨ s = xm) := fun e => by rcases e with e | e; exact n1 e.symm; exact n2 e.symm
                  have hnb : ¬ (w.heap.size = gD ∨ w.heap.size = xm) := fun e => by
                    rcases HWF.out _ e with h1 | h1
                    · exact Nat.lt_irrefl _ (HS.out.lt h1)
                    · omega
                  have hbY := HOY.out.cell HB6.out hnb
                  have c2Y := HOY.out.cell c2 hns
                  rw [HNR.out] at c2Y
                  have hget : (P ++ [stepB h key (ns.take k) ⟨xa, xt, xm, xc⟩])[m1]? = some (stepB h key (ns.take k) ⟨xa, xt, xm, xc⟩) := by rw [List.getElem?_append_right (by omega), hP, Nat.sub_self]; rfl
                  have d1 := (HRY.out.cellAt (m1 * 3 + 1) (by omega)).trans (flatB_get hget 1 (by omega))
                  have hfrz : wy.frozen? ⟨gD, m1 * 3 + 1, none⟩ = false := HRY.out.frozenAt _
                  simp only [BkS.vals, stepB, List.getElem?_cons_zero, List.getElem?_cons_succ] at d1
                  have hfb := foldS_bd (ns := ns.take k) hXt.2.2.1 hXt.2.2.2 (fun x hx => (HFIN.out x (List.mem_of_mem_take hx)).1)
                  have hsnoc := foldS_snoc xt ns hy
                  obtain ⟨R1, G1⟩ := HRY.out.stored (m1 * 3 + 1) (.int .i64 (foldS xt (ns.take (k + 1))))
                  have HRZ := Lib.hid (show (wy.setCell ⟨gD, m1 * 3 + 1, none⟩ (.int .i64 (foldS xt (ns.take (k + 1))))).ownsRow 0 92 3 (.slice (some ⟨gD, 0, none⟩) n5 capD) n5 (flatB (P ++ [midB h key ns k 0 ⟨xa, xt, xm, xc⟩])) by
                    have e : flatB (P ++ [midB h key ns k 0 ⟨xa, xt, xm, xc⟩]) = (flatB (P ++ [stepB h key (ns.take k) ⟨xa, xt, xm, xc⟩])).set (m1 * 3 + 1) (.int .i64 (foldS xt (ns.take (k + 1)))) := by
                      have q : ∀ Z : BkS, flatB (P ++ [Z]) = flatB P ++ Z.vals := fun Z => by simp [flatB]
                      rw [q, q, List.set_append_right _ _ (by rw [flatB_len, hP]; omega), flatB_len, hP, show m1 * 3 + 1 - m1 * 3 = 1 by omega]
                      rfl
                    rw [e]; exact R1)
                  have HOZ := Lib.hid (HOY.out.grown G1 (fun _ => Or.inl rfl))
                  have HMZ := Lib.hid (show CntAt (wy.setCell ⟨gD, m1 * 3 + 1, none⟩ (.int .i64 (foldS xt (ns.take (k + 1))))) xm (midB h key ns k 0 ⟨xa, xt, xm, xc⟩).cnt by
                    have e : (midB h key ns k 0 ⟨xa, xt, xm, xc⟩).cnt = (stepB h key (ns.take k) ⟨xa, xt, xm, xc⟩).cnt := cntK_zero h.R (colS h) key ns k (BkS.a ⟨xa, xt, xm, xc⟩)
                    rw [e]
                    exact HMY.out.kept (heap_setCell_other wy _ _ _ n3))
                  have HPL := Lib.hid (fun wx => skplus_any (foldS xt (ns.take k)) y hfb.1 hfb.2 hy2.1 (by omega) wx)
                  rw [← hsnoc] at HPL
                  clear hsnoc R1 G1 hget hy c0 c1 c2 c3 c4 c5 c6 hc
                  generalize foldS xt (ns.take k) = T at *
                  have hTT : Hid (∀ r : Int, ∀ w' : World, w'.ownsRow 0 92 3 (.slice (some ⟨gD, 0, none⟩) n5 capD) n5 (flatB (P ++ [midB h key ns k r ⟨xa, xt, xm, xc⟩])) → ∀ r' : Int, w'.ownsRow 0 92 3 (.slice (some ⟨gD, 0, none⟩) n5 capD) n5 (flatB (P ++ [midB h key ns k r' ⟨xa, xt, xm, xc⟩]))) := Lib.hid (fun r w' hh r' => by
                    have q : ∀ Z : BkS, flatB (P ++ [Z]) = flatB P ++ Z.vals := fun Z => by simp [flatB]
                    rw [q] at hh ⊢
                    exact hh)
                  generalize foldS xt (ns.take (k + 1)) = T' at *
                  go_wp2_with (fail)
                  refine (HPL.out _).mono ?_
                  rintro e wq ⟨rfl, hq⟩
                  subst hq
                  go_wp2_with (fail)
                  generalize wq.setCell ⟨gD, m1 * 3 + 1, none⟩ (.int .i64 T') = wz at *
                  clear hcY hbY c2Y d1 hfrz HRY HOY HMY HPL
                  have k1R : k1 = k1 := rfl
                  clear k1R
                  go_loopw [17, 18, 127] (fun _ _ i wr => ∃ (r : Nat), r ≤ nR ∧ i = .int .i64 r ∧ Hid (Off (fun i => i = gD ∨ i = xm) w6 wr) ∧ Hid (wr.ownsRow 0 92 3 (.slice (some ⟨gD, 0, none⟩) n5 capD) n5 (flatB (P ++ [midB h key ns k r ⟨xa, xt, xm, xc⟩]))) ∧ Hid (CntAt wr xm (midB h key ns k r ⟨xa, xt, xm, xc⟩).cnt)) (fun _ _ i _ => nR - (intOf i).toNat)
                  case atStart => exact ⟨0, Nat.zero_le _, rfl, HOZ, HRZ, HMZ⟩
                  case round =>
                    rename World => wv
                    obtain ⟨r, hr3, rfl, HOV, HRV, HMV⟩ := hrel
                    by_cases hrl : r < nR
                    · have r0 : (0 : Int) ≤ r := by omega
                      have HTT2 := Lib.hid (fun w' hh => hTT.out r w' hh (r + 1))
                      have r1 : (r : Int) < nR := by omega
                      obtain ⟨c0, c1, c2, c3, c4, c5, c6⟩ := HK6.out.headCells
                      have hbV := HOV.out.cell HB6.out hnb
                      have c0 := HOV.out.cell c0 hns
                      have c1 := HOV.out.cell c1 hns
                      have c2 := HOV.out.cell c2 hns
                      have c3 := HOV.out.cell c3 hns
                      have c4 := HOV.out.cell c4 hns
                      rw [HNR.out] at c2
                      have HC := Lib.hid (skcolumn_any h b r HBK.out r0 (by omega) key hk wv)
                      have hcb := colS_bd HBK.out r key
                      have hC2 := HBK.out.C2
                      rw [show h.c = #[.int .i64 h.W, .int .i64 h.B, .int .i64 nR, .int .i64 h.C, .int .u64 h.seed] by unfold ShapeS.c; rw [HNR.out]] at HC
                      have HSTEP := Lib.hid (cntK_step h.R (colS h) key ns k r0 (by rw [HNR.out]; exact r1) HY.out xc)
                      obtain ⟨CC, hCC⟩ : ∃ CC, colS h r key = CC := ⟨_, rfl⟩
                      rw [hCC] at HC hcb HSTEP
                      clear hCC c5 c6
                      go_wp2_with (fail)
                      refine HC.out.mono ?_
                      rintro e wa ⟨rfl, ha⟩
                      have hgv : gD < wv.heap.size := by
                        rcases HRV.out.2 with ⟨h', _⟩ | ⟨g', cap', cur, h', _, hg, _⟩
                        · cases h'
                        · injection h' with h1; injection h1 with h1; injection h1 with h1; rw [h1]; exact (Array.getElem?_eq_some_iff.1 hg).1
                      have hal : Below wa.heap.size wa (wa.alloc (.cells #[.int .i64 r, .int .i64 CC] 97)) := (Below.refl _ _).alloc (Nat.le_refl _) _
                      have hvb := ha.trans (hal.mono ha.size)
                      have HOB := Lib.hid (HOV.out.trans (Off.ofBelow (S := fun i => i = gD ∨ i = xm) hvb) (fun _ _ h => h))
                      have HRB := Lib.hid (HRV.out.kept (row := none) ⟨hvb.os, hvb.tape, hvb.output, hvb.size, fun k hk _ => hvb.block k hk⟩ (Or.inr (by simp [Value.ownBlock])))
                      have HMB := Lib.hid (HMV.out.kept (hvb.block _ HMV.out.lt))
                      have hnew := new_blockS wa (.cells #[.int .i64 r, .int .i64 CC] 97)
                      have x0 : (wa.alloc (.cells #[.int .i64 r, .int .i64 CC] 97)).cell? ⟨wa.heap.size, 0, none⟩ = some (.int .i64 r) := by simp only [World.cell?, hnew]; rfl
                      have x1 : (wa.alloc (.cells #[.int .i64 r, .int .i64 CC] 97)).cell? ⟨wa.heap.size, 1, none⟩ = some (.int .i64 CC) := by simp only [World.cell?, hnew]; rfl
                      have hget : (P ++ [midB h key ns k r ⟨xa, xt, xm, xc⟩])[m1]? = some (midB h key ns k r ⟨xa, xt, xm, xc⟩) := by rw [List.getElem?_append_right (by omega), hP, Nat.sub_self]; rfl
                      have x2 := (HRB.out.cellAt (m1 * 3 + 2) (by omega)).trans (flatB_get hget 2 (by omega))
                      simp only [BkS.vals, midB, List.getElem?_cons_zero, List.getElem?_cons_succ] at x2
                      have hbx : wa.heap.size = wa.heap.size := rfl
                      have hXm := wa.heap.size
                      have hav := ha.size
                      generalize hwb : wa.heap.size = bx at *
                      clear hnew hget hbx hXm ha hal hvb hgv
                      have HOB2 := HOB
                      have hr8 : (r : Int) < 8 := by omega
                      have hc4 : CC < 4096 := by omega
                      obtain ⟨V, hV⟩ : ∃ V, cntK h.R (colS h) key ns k r xc r CC = V := ⟨_, rfl⟩
                      rw [hV] at HSTEP
                      have hVb : 0 ≤ V ∧ V ≤ 4611686018427387904 := by
                        obtain ⟨f, n, _, _, _, hbd⟩ := HMB.out
                        rw [← hV]; exact hbd r CC
                      have HV := Lib.hid hV
                      clear hV
                      go_wp2_with (fail)
                      generalize wa.alloc (.cells #[.int .i64 r, .int .i64 CC] 97) = wk at *
                      have HMD : CntAt wk.drew xm (midB h key ns k r ⟨xa, xt, xm, xc⟩).cnt := HMB.out.kept rfl
                      have hlk := HMD.look r0 hr8 hcb.1 hc4
                      rw [show (midB h key ns k r ⟨xa, xt, xm, xc⟩).cnt r CC = V from HV.out] at hlk
                      have hpb := plusS_bd hVb.1 hy2.1
                      obtain ⟨wU, hup, HMU, hgU, hzU⟩ := HMD.update r0 hr8 hcb.1 hc4 hpb.1 hpb.2
                      have HMU2 := Lib.hid (show CntAt wU xm (midB h key ns k (r + 1) ⟨xa, xt, xm, xc⟩).cnt by
                        have h1 := HMU
                        rw [show (midB h key ns k r ⟨xa, xt, xm, xc⟩).cnt = cntK h.R (colS h) key ns k r xc from rfl, HSTEP.out] at h1
                        exact h1)
                      have HPL2 := Lib.hid (fun wx => skplus_any V y hVb.1 hVb.2 hy2.1 (by omega) wx)
                      have HGU := Lib.hid hgU
                      have HOU := Lib.hid ((HOB.out.trans (Off.ofBelow (S := fun i => i = gD ∨ i = xm) ((Below.refl _ wk).drew)) (fun _ _ h => h)).grown hgU (fun _ => Or.inr rfl))
                      have HRU := Lib.hid (((show wk.drew.ownsRow 0 92 3 (.slice (some ⟨gD, 0, none⟩) n5 capD) n5 (flatB (P ++ [midB h key ns k r ⟨xa, xt, xm, xc⟩])) from HRB.out)).kept hgU (Or.inr (by simp [Value.ownBlock]; exact fun e => n3 e.symm)))
                      have hbxne : bx ≠ xm := fun e => by
                        have := HMV.out.lt
                        have := hav
                        omega
                      clear HMD HMU hgU hzU HV HSTEP HMV HRV HOV hbV c0 c1 c2 c3 c4
                      generalize plusS V y = V' at *
                      refine wp_region_noPanic ?_
                      refine wp_region_held_drew (S := fun wx => wx.cell? ⟨gD, m1 * 3 + 2, none⟩ = some (.map (some xm)) ∧ wx.cell? ⟨bx, 0, none⟩ = some (.int .i64 r) ∧ wx.cell? ⟨bx, 1, none⟩ = some (.int .i64 CC)) (by kernel_rfl) ?_ (fun hHeld => ?_)
                      · exact ⟨x2, x0, x1⟩
                      refine wpAnyH_take (i := 0) (v := ?_) rfl (by kernel_rfl) (by kernel_rfl) (by kernel_rfl) (fun _ _ _ h => h) (Or.inl ⟨by rfl, ?hy⟩) (by assumption) ?_
                      case hy => intro w hSw; (try dsimp only at hSw); go_simp; try with_reducible rfl
                      try simp only [Act.put, List.getElem_toArray, List.getElem_cons_succ, List.getElem_cons_zero, List.setIfInBounds_toArray, List.set_cons_zero, List.set_cons_succ]
                      refine wpAnyH_take (i := 1) (v := ?_) rfl (by kernel_rfl) (by kernel_rfl) (by kernel_rfl) (fun _ _ _ h => h) (Or.inl ⟨by rfl, ?hy⟩) (by assumption) ?_
                      case hy => intro w hSw; (try dsimp only at hSw); go_simp; try with_reducible rfl
                      try simp only [Act.put, List.getElem_toArray, List.getElem_cons_succ, List.getElem_cons_zero, List.setIfInBounds_toArray, List.set_cons_zero, List.set_cons_succ]
                      refine wpAnyH_take (i := 2) (v := ?_) rfl (by kernel_rfl) (by kernel_rfl) (by kernel_rfl) (fun _ _ _ h => h) (Or.inl ⟨by rfl, ?hy⟩) (by assumption) ?_
                      case hy => intro w hSw; (try dsimp only at hSw); go_simp; try with_reducible rfl
                      try simp only [Act.put, List.getElem_toArray, List.getElem_cons_succ, List.getElem_cons_zero, List.setIfInBounds_toArray, List.set_cons_zero, List.set_cons_succ]
                      refine wpAnyH_take (i := 3) (v := ?_) rfl (by kernel_rfl) (by kernel_rfl) (by kernel_rfl) (fun _ _ _ h => h) (Or.inl ⟨by rfl, ?hy⟩) (by assumption) ?_
                      case hy => intro w hSw; (try dsimp only at hSw); go_simp; try with_reducible rfl
                      try simp only [Act.put, List.getElem_toArray, List.getElem_cons_succ, List.getElem_cons_zero, List.setIfInBounds_toArray, List.set_cons_zero, List.set_cons_succ]
                      refine wpAnyH_take (i := 4) (v := ?_) rfl (by kernel_rfl) (by kernel_rfl) (by kernel_rfl) (fun _ _ _ h => h) (Or.inl ⟨by rfl, ?hy⟩) (by assumption) ?_
                      case hy => intro w hSw; (try dsimp only at hSw); go_simp; try with_reducible rfl
                      try simp only [Act.put, List.getElem_toArray, List.getElem_cons_succ, List.getElem_cons_zero, List.setIfInBounds_toArray, List.set_cons_zero, List.set_cons_succ]
                      refine wpAnyH_take (i := 5) (v := ?_) rfl (by kernel_rfl) (by kernel_rfl) (by kernel_rfl) (fun _ _ _ h => h) (Or.inl ⟨by rfl, ?hy⟩) (by assumption) ?_
                      case hy => intro w hSw; (try dsimp only at hSw); go_simp; try with_reducible rfl
                      try simp only [Act.put, List.getElem_toArray, List.getElem_cons_succ, List.getElem_cons_zero, List.setIfInBounds_toArray, List.set_cons_zero, List.set_cons_succ]
                      refine wpAnyH_take (i := 6) (v := ?_) rfl (by kernel_rfl) (by kernel_rfl) (by kernel_rfl) (fun _ _ _ h => h) (Or.inl ⟨by rfl, ?hy⟩) (by assumption) ?_
                      case hy => intro w hSw; (try dsimp only at hSw); go_simp; try with_reducible rfl
                      try simp only [Act.put, List.getElem_toArray, List.getElem_cons_succ, List.getElem_cons_zero, List.setIfInBounds_toArray, List.set_cons_zero, List.set_cons_succ]
                      refine wpAnyH_take (i := 7) (v := ?_) rfl (by kernel_rfl) (by kernel_rfl) (by kernel_rfl) (fun _ _ _ h => h) (Or.inl ⟨by rfl, ?hy⟩) (by assumption) ?_
                      case hy => intro w hSw; (try dsimp only at hSw); go_simp; try with_reducible rfl
                      try simp only [Act.put, List.getElem_toArray, List.getElem_cons_succ, List.getElem_cons_zero, List.setIfInBounds_toArray, List.set_cons_zero, List.set_cons_succ]
                      refine wpAnyH_take (i := 8) (v := ?_) rfl (by kernel_rfl) (by kernel_rfl) (by kernel_rfl) (fun _ _ _ h => h) (Or.inl ⟨by rfl, ?hy⟩) (by assumption) ?_
                      case hy => intro w hSw; (try dsimp only at hSw); go_simp; try with_reducible rfl
                      try simp only [Act.put, List.getElem_toArray, List.getElem_cons_succ, List.getElem_cons_zero, List.setIfInBounds_toArray, List.set_cons_zero, List.set_cons_succ]
                      refine wpAnyH_take (i := 9) (v := ?_) rfl (by kernel_rfl) (by kernel_rfl) (by kernel_rfl) (fun _ _ _ h => h) (Or.inl ⟨by rfl, ?hy⟩) (by assumption) ?_
                      case hy => intro w hSw; (try dsimp only at hSw); go_simp; try with_reducible rfl
                      try simp only [Act.put, List.getElem_toArray, List.getElem_cons_succ, List.getElem_cons_zero, List.setIfInBounds_toArray, List.set_cons_zero, List.set_cons_succ]
                      refine wpAnyH_take (i := 11) (v := ?_) rfl (by kernel_rfl) (by kernel_rfl) (by kernel_rfl) (fun _ _ _ h => h) (Or.inl ⟨by rfl, ?hy⟩) (by assumption) ?_
                      case hy => intro w hSw; (try dsimp only at hSw); go_simp; try with_reducible rfl
                      try simp only [Act.put, List.getElem_toArray, List.getElem_cons_succ, List.getElem_cons_zero, List.setIfInBounds_toArray, List.set_cons_zero, List.set_cons_succ]
                      refine wpAnyH_ready (rs := [10]) (by kernel_rfl) (by simp) (AllReadyH.cons rfl (fun K hK => ?_) AllReadyH.nil)
                      go_simp
                      skip
                      try (go_wp2_with fail)
                      refine hK.out _ _ ?_ (fun hHeld => ?_)
                      · exact hHeld
                      clear hK K
                      try simp only [Act.put, List.getElem_toArray, List.getElem_cons_succ, List.getElem_cons_zero, List.setIfInBounds_toArray, List.set_cons_zero, List.set_cons_succ]
                      refine wpAnyH_ready (rs := [12]) (by kernel_rfl) (by simp) (AllReadyH.cons rfl (fun K hK => ?_) AllReadyH.nil)
                      go_simp
                      refine (HPL2.out _).mono ?_
                      rintro e wq2 ⟨rfl, hq2⟩
                      subst hq2
                      try (go_wp2_with fail)
                      refine hK.out _ _ ?_ (fun hHeld => ?_)
                      · exact hHeld
                      clear hK K
                      try simp only [Act.put, List.getElem_toArray, List.getElem_cons_succ, List.getElem_cons_zero, List.setIfInBounds_toArray, List.set_cons_zero, List.set_cons_succ]
                      refine wpAnyH_ready (rs := [13]) (by kernel_rfl) (by simp) (AllReadyH.cons rfl (fun K hK => ?_) AllReadyH.nil)
                      go_simp
                      skip
                      try (go_wp2_with fail)
                      refine hK.out _ _ ?_ (fun hHeld => ?_)
                      · exact ⟨HGU.out.cell hHeld.1 (by simp; exact fun e => n3 e.symm), HGU.out.cell hHeld.2.1 (by simpa using hbxne), HGU.out.cell hHeld.2.2 (by simpa using hbxne)⟩
                      clear hK K
                      try simp only [Act.put, List.getElem_toArray, List.getElem_cons_succ, List.getElem_cons_zero, List.setIfInBounds_toArray, List.set_cons_zero, List.set_cons_succ]
                      refine wpAnyH_done (by kernel_rfl) ?_ _
                      refine NoPanic.normal ?_
                      go_wp2_with (fail)
                      exact ⟨⟨r + 1, by omega, by go_num, HOU, HTT2.out wU HRU.out, HMU2⟩, by first | (simp [intOf]; done) | (simp [intOf]; omega)⟩
                    · have k1 : ¬ (r : Int) < nR := by omega
                      have e1 : r = nR := by omega
                      have HRW := HRV.out
                      have HMW := HMV.out
                      rw [e1, ← HNR.out, midB_all] at HRW HMW
                      clear HRV HMV e1
                      go_wp2_with (fail)
                      exact ⟨⟨k + 1, by omega, by go_num, HOV, HRW, HMW⟩, by first | (simp [intOf]; done) | (simp [intOf]; omega)⟩
                · have k1 : ¬ (k : Int) < len := by omega
                  have e1 : ns.take k = ns := List.take_of_length_le (by rw [HL.out]; omega)
                  rw [e1] at HRY HMY
                  clear e1
                  go_wp2_with (fail)
                  go_ret
                  have hfb := foldS_bd (ns := ns) hXt.2.2.1 hXt.2.2.2 (fun x hx => (HFIN.out x hx).1)
                  refine ⟨by rw [HADD.out]; rfl, ?_, fun _ => ?_, fun hne => absurd HADD.out hne⟩
                  · exact HO6.out.trans HOY.out (fun i hi e => by rcases HWF.out i e with h1 | h1; exact h1; omega)
                  · refine ⟨_, _, _, BkS.a ⟨xa, xt, xm, xc⟩, skAt_end HK6.out HOY.out HRY.out HN5.out HMY.out hfb.1 hfb.2, by rw [HGG.out]; exact HWITH.out, by rw [List.map_append]; rfl, fun i hi => ?_⟩
                    have := HOWN5.out i (by simpa [SkOwn] using hi)
                    rcases this with h1 | h1
                    · exact Or.inl h1
                    · exact Or.inr (by omega)
end Go.Proofs.Ytockmgcgifhepaa

/- sketch: nil ones; what must be whatever is asked. -/
namespace Go.Proofs.Ytockmgcgifhepaa
open Go.RowKit
set_option linter.unusedVariables false
set_option linter.unusedSimpArgs false

set_option maxHeartbeats 400000 in
theorem skEstimate_nil (at_ : Int) (key : ByteArray) (w : World) : Calls Try.prog 21 #[.pointer none, .int .i64 at_, .string key] w fun e w' => e = .returned (.tuple #[.int .i64 0, .int .i64 1]) ∧ w' = w := by
  go_enter Try.func21, Try.ntmps21
  go_wp2_with (fail)
  refine (sklook_nil _ _).mono ?_
  rintro e wq ⟨rfl, hq⟩
  subst hq
  go_wp2_with (fail)
  go_ret2
  exact ⟨rfl, rfl⟩
set_option maxHeartbeats 400000 in
theorem skTotal_nil (at_ : Int) (w : World) : Calls Try.prog 22 #[.pointer none, .int .i64 at_] w fun e w' => e = .returned (.tuple #[.int .i64 0, .int .i64 1]) ∧ w' = w := by
  go_enter Try.func22, Try.ntmps22
  go_wp2_with (fail)
  refine (sklook_nil _ _).mono ?_
  rintro e wq ⟨rfl, hq⟩
  subst hq
  go_wp2_with (fail)
  go_ret2
  exact ⟨rfl, rfl⟩
set_option maxHeartbeats 400000 in
theorem skTop_nil (at_ k : Int) (v : Value) (w : World) : Calls Try.prog 9 #[.pointer none, .int .i64 at_, .int .i64 k, v] w fun e w' => e = .returned (.tuple #[.slice none 0 0, .int .i64 1]) ∧ w' = w := by
  go_enter Try.func9, Try.ntmps9
  go_wp2_with (fail)
  refine (sklook_nil _ _).mono ?_
  rintro e wq ⟨rfl, hq⟩
  subst hq
  go_wp2_with (fail)
  go_ret2
  exact ⟨rfl, rfl⟩
set_option maxHeartbeats 400000 in
theorem skColumn_nil (row : Int) (key : ByteArray) (w : World) : Calls Try.prog 13 #[.pointer none, .int .i64 row, .string key] w fun e w' => e = .returned (.tuple #[.int .i64 0, .int .i64 1]) ∧ w' = w := by
  go_enter Try.func13, Try.ntmps13
  go_wp2_with (fail)
  go_ret2
  exact ⟨rfl, rfl⟩
set_option maxHeartbeats 400000 in
theorem skAdd_nil (at_ : Int) (key : ByteArray) (v : Value) (w : World) : Calls Try.prog 20 #[.pointer none, .int .i64 at_, .string key, v] w fun e w' => e = .returned (.int .i64 1) ∧ Below w.heap.size w w' := by
  go_enter Try.func20, Try.ntmps20
  go_wp2_with (fail)
  refine (sklook_nil _ _).mono ?_
  rintro e wq ⟨rfl, hq⟩
  subst hq
  go_wp2_with (fail)
  go_ret
  exact ⟨rfl, (Below.refl _ _).alloc (Nat.le_refl _) _⟩
def liveH : ShapeS := ⟨1000000, 10, 2, 64, 1⟩
def liveK : ByteArray := ⟨#[97]⟩
theorem liveOk : ShapeOk liveH 100000 := ⟨by decide, by decide, by decide, by decide, by decide, by decide, by decide, by decide, by decide, by decide, by decide, by decide⟩
def liveX : BkA := addBk 2 (colS liveH) liveK [1, 2] ⟨0, 0, fun _ _ => 0⟩
theorem liveX_cnt (r : Nat) (h : r < 2) : liveX.cnt r (colS liveH r liveK) = 3 := by
  unfold liveX addBk
  dsimp only
  rw [if_pos ⟨⟨by omega, by omega⟩, rfl⟩]
  rfl
theorem live1 : estS liveH 100000 999999 liveK [liveX] = 3 := by
  have h0 := liveX_cnt 0 (by omega)
  have h1 := liveX_cnt 1 (by omega)
  unfold estS
  show leastS _ 2 = 3
  rw [leastS, leastS, leastS]
  rw [sumB, sumB, sumB, sumB, if_pos (by show (_ : Int) < 0; decide), if_pos (by show (_ : Int) < 0; decide), h0, h1]
  decide
theorem live2 : estS liveH 100000 1000000 liveK [liveX] = 0 := by
  unfold estS
  show leastS _ 2 = 0
  rw [leastS, leastS, leastS]
  rw [sumB, sumB, sumB, sumB, if_neg (by show ¬ (_ : Int) < 0; decide), if_neg (by show ¬ (_ : Int) < 0; decide)]
  decide
theorem live3 : totS liveH 100000 5 [liveX] = 3 := by
  unfold totS
  rw [sumB, sumB, if_pos (by show (_ : Int) < 0; decide)]
  rfl
theorem live4 : hashS liveK = 12638187200555641996 := by decide +kernel
theorem live5 : newE liveH = 0 := by decide

set_option maxHeartbeats 3200000 in
set_option maxRecDepth 100000 in
theorem sklive_any (w : World) : Calls Try.prog 6 #[] w fun e w' => e = .returned (.bool true) ∧ Below w.heap.size w w' := by
  have HN := Lib.hid (sknew_any liveH w)
  have e1 : ∀ pre x, withBk (beginS 100000 0) (keepBk (beginS 100000 0) liveH.W (([] : List BkS).map BkS.a)) = pre ++ [x] → pre = [] ∧ x = ⟨0, 0, fun _ _ => 0⟩ := fun pre x h => by
    have : withBk (beginS 100000 0) (keepBk (beginS 100000 0) liveH.W (([] : List BkS).map BkS.a)) = [] ++ [⟨0, 0, fun _ _ => 0⟩] := rfl
    rw [this] at h
    obtain ⟨h1, h2⟩ := List.append_inj' h rfl
    exact ⟨h1.symm, by simpa using h2.symm⟩
  have E1 := Lib.hid e1
  have HH := Lib.hid (fun wx => skhash_any liveK (by show 1 ≤ maxLen; unfold maxLen; omega) wx)
  rw [live4] at HH
  clear e1
  go_enter Try.func6, Try.ntmps6
  go_wp2_with (fail)
  refine HN.out.mono ?_
  intro e wa hp
  obtain ⟨rfl, rfl⟩ := hp.2 live5
  have hk0 := skAt_made w liveH
  have hb0 : Below w.heap.size w (w.alloc (skObj liveH)) := (Below.refl _ _).alloc (Nat.le_refl _) _
  have hz0 : (w.alloc (skObj liveH)).heap.size = w.heap.size + 1 := by simp
  clear HN hp
  generalize w.alloc (skObj liveH) = wa at *
  go_wp2_with (fail)
  have hal : Below wa.heap.size wa (wa.alloc (.cells #[.int .i64 1, .int .i64 2] 3)) := (Below.refl _ _).alloc (Nat.le_refl _) _
  have hnew := new_blockS wa (.cells #[.int .i64 1, .int .i64 2] 3)
  refine (skadd_any (hk0.below hal) liveOk 0 liveK (by show 1 ≤ maxLen; unfold maxLen; omega) (some ⟨w.heap.size + 1, 0, none⟩) 2 2 [1, 2] rfl (by omega) (Or.inr ⟨_, _, rfl, by simp; omega, fun j hj => by
    rw [← hz0]
    match j with
    | 0 => simp only [World.cell?, hnew]; rfl
    | 1 => simp only [World.cell?, hnew]; rfl
    | j + 2 => simp at hj; omega⟩) (fun _ g off he => by
      injection he with he
      injection he with he
      subst he
      unfold SkOwn
      simp [Value.ownBlock]) (fun _ => by show (0 : Nat) ≤ _; omega)).mono ?_
  intro e wb hp
  obtain ⟨ret, off, fine, _⟩ := hp
  obtain ⟨v', bs', pre, x, hk, hw, hm, _⟩ := fine (by decide)
  obtain ⟨rfl, rfl⟩ := E1.out _ _ hw
  have hm2 : bs'.map BkS.a = [liveX] := hm
  have HOF := Lib.hid (hb0.trans ((hal.mono (by omega)).trans (off.below (B := w.heap.size) (by simp; omega) (fun k hk1 hs => by unfold SkOwn at hs; simp [Value.ownBlock] at hs; omega))))
  have HZB := Lib.hid HOF.out.size
  subst ret
  have hk1 : (liveK).size ≤ maxLen := by show 1 ≤ maxLen; unfold maxLen; omega
  have HE1 := Lib.hid (skEstimate_any hk liveOk 999999 liveK hk1)
  rw [hm2, live1, show lookS 0 999999 = 0 by decide, if_pos rfl] at HE1
  have HK := Lib.hid hk
  have HM2 := Lib.hid hm2
  have HKK := Lib.hid hk1
  rw [show addE 0 0 [1, 2] = 0 by decide]
  clear hk hm hm2 hw fine off hnew hal hk0 hk1
  rw [show liveK = ⟨#[97]⟩ from rfl] at HE1
  go_wp2_with (fail)
  refine HE1.out.mono ?_
  rintro e wc ⟨rfl, hbc⟩
  have HBC := Lib.hid hbc
  have HE2 := Lib.hid (skEstimate_any (HK.out.below hbc) liveOk 1000000 liveK HKK.out)
  rw [HM2.out, live2, show lookS 0 1000000 = 0 by decide, if_pos rfl] at HE2
  rw [show liveK = ⟨#[97]⟩ from rfl] at HE2
  clear hbc
  go_wp2_with (fail)
  refine HE2.out.mono ?_
  rintro e wd ⟨rfl, hbd⟩
  have HBD := Lib.hid (HBC.out.trans (hbd.mono HBC.out.size))
  have HE3 := Lib.hid (skTotal_any (HK.out.below HBD.out) liveOk 5)
  rw [HM2.out, live3, show lookS 0 5 = 0 by decide, if_pos rfl] at HE3
  clear hbd
  go_wp2_with (fail)
  refine HE3.out.mono ?_
  rintro e we ⟨rfl, hbe⟩
  have HBE := Lib.hid (HBD.out.trans (hbe.mono HBD.out.size))
  rw [show liveK = ⟨#[97]⟩ from rfl] at HH
  clear hbe
  go_wp2_with (fail)
  refine (HH.out _).mono ?_
  rintro e wf ⟨rfl, hq⟩
  subst hq
  go_wp2_with (fail)
  go_ret
  exact ⟨rfl, HOF.out.trans (HBE.out.mono HZB.out)⟩
end Go.Proofs.Ytockmgcgifhepaa
