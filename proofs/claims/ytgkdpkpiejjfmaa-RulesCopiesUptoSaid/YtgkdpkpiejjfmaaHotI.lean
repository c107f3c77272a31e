/- A rule's items: which is the first that is p. -/
import Derived.Test.YtgkdpkpiejjfmaaRulesIn
import Derived.Lib.SliceRun
namespace Go.Proofs.Ytgkdpkpiejjfmaa
open Go.RowKit
set_option linter.unusedVariables false
set_option linter.unusedSimpArgs false

def ItemS.v (x : ItemS) : Value := .agg #[.string x.val, .int .i64 x.cnt]
def idxI (p : ItemS → Bool) (bs : List ItemS) : Int := match bs.findIdx? p with | none => -1 | some k => k
theorem idxI_none {p : ItemS → Bool} {bs : List ItemS} (h : ∀ x, x ∈ bs → p x = false) : idxI p bs = -1 := by
  unfold idxI
  rw [List.findIdx?_eq_none_iff.2 h]
theorem idxI_some {p : ItemS → Bool} {bs : List ItemS} {k : Nat} (hk : k < bs.length) (hp : p bs[k] = true) (h : ∀ j (hj : j < k), p (bs[j]'(by omega)) = false) : idxI p bs = k := by
  unfold idxI
  rw [List.findIdx?_eq_some_iff_getElem.2 ⟨hk, hp, fun j hj => by rw [h j hj]; simp⟩]
theorem idxI_cases (p : ItemS → Bool) (bs : List ItemS) : (idxI p bs = -1 ∧ ∀ x, x ∈ bs → p x = false) ∨ ∃ k, ∃ hk : k < bs.length, idxI p bs = k ∧ p bs[k] = true ∧ ∀ j (hj : j < k), p (bs[j]'(by omega)) = false := by
  unfold idxI
  cases h : bs.findIdx? p with
  | none => exact Or.inl ⟨rfl, List.findIdx?_eq_none_iff.1 h⟩
  | some k =>
    obtain ⟨h1, h2, h3⟩ := List.findIdx?_eq_some_iff_getElem.1 h
    exact Or.inr ⟨k, h1, rfl, h2, fun j hj => by simpa using h3 j hj⟩
theorem items_get {w : World} {a : Option Addr} {bs : List ItemS} (h : RowsAt w a 2 (bs.map ItemS.cs)) {k : Nat} (hk : k < bs.length) : ∃ b off, a = some ⟨b, off, none⟩ ∧ b < w.heap.size ∧ w.cell? ⟨b, off + k * 2, none⟩ = some (.string (bs[k]'hk).val) ∧ w.cell? ⟨b, off + k * 2 + 1, none⟩ = some (.int .i64 (bs[k]'hk).cnt) := by
  rcases h with h | ⟨b, off, rfl, hl, hc⟩
  · have : bs = [] := by simpa using h
    subst this; simp at hk
  · have hj : (bs.map ItemS.cs)[k]? = some (bs[k]'hk).cs := by rw [List.getElem?_map, List.getElem?_eq_getElem hk]; rfl
    exact ⟨b, off, rfl, hl, hc k _ hj 0 (.string (bs[k]'hk).val) (by decide) rfl, hc k _ hj 1 (.int .i64 (bs[k]'hk).cnt) (by decide) rfl⟩

set_option maxHeartbeats 3200000 in
set_option maxRecDepth 100000 in
theorem itemidx_any {w : World} (a : Option Addr) (n cap : Nat) (bs : List ItemS) (hn : bs.length = n) (few : n ≤ 9223372036854775807) (hr : RowsAt w a 2 (bs.map ItemS.cs)) (id : FuncId) (caps : Array Value) (p : ItemS → Bool)
    (he : ∀ x : ItemS, x ∈ bs → ∀ wx, (callFunc id (#[x.v] ++ caps)).run Try.prog wx = .ok (.enter id (#[x.v] ++ caps)) wx)
    (hf : ∀ x : ItemS, x ∈ bs → ∀ wx, Below w.heap.size w wx → Calls Try.prog id (#[x.v] ++ caps) wx fun e w' => e = .returned (.bool (p x)) ∧ Below wx.heap.size wx w') :
    Calls Try.prog 69 #[.slice a n cap, .func (.func id) #[] caps] w fun e w' => e = .returned (.int .i64 (idxI p bs)) ∧ Below w.heap.size w w' := by
  have HR := Lib.hid hr
  have HE := Lib.hid he
  have HF := Lib.hid hf
  have HN := Lib.hid hn
  clear hr he hf hn
  go_enter Try.func69, Try.ntmps69
  go_wp2_with (fail)
  go_loopw [5, 8] (fun _ i wr => ∃ (k : Nat), k ≤ n ∧ i = .int .i64 k ∧ Hid (∀ x, x ∈ bs.take k → p x = false) ∧ Hid (Below w.heap.size w wr)) (fun _ i _ => n - (intOf i).toNat)
  case atStart => exact ⟨0, Nat.zero_le _, rfl, Lib.hid (by simp), Lib.hid (Below.refl _ _)⟩
  case round =>
    rename World => wy
    obtain ⟨k, hk, rfl, HP, HB⟩ := hrel
    have hbz := HB.out.size
    by_cases hlt : k < n
    · have hkl : k < bs.length := by rw [HN.out]; exact hlt
      obtain ⟨gb, off, rfl, hgb, d0, d1⟩ := items_get HR.out hkl
      have k0 : (0 : Int) ≤ k := by omega
      have k1 : (k : Int) < n := by omega
      have hmem : (bs[k]'hkl) ∈ bs := List.getElem_mem hkl
      have d0 := (HB.out.cell (p := ⟨gb, off + k * 2, none⟩) hgb).trans d0
      have d1 := (HB.out.cell (p := ⟨gb, off + k * 2 + 1, none⟩) hgb).trans d1
      have HX := Lib.hid (HF.out _ hmem wy HB.out)
      have hen := HE.out _ hmem
      have HTK := Lib.hid (show bs.take (k + 1) = bs.take k ++ [bs[k]'hkl] from List.take_succ_eq_append_getElem hkl)
      have HIX := Lib.hid (fun hp => idxI_some hkl (p := p) hp (fun j hj => HP.out _ (by rw [List.mem_take_iff_getElem]; exact ⟨j, by omega, rfl⟩)))
      generalize bs[k]'hkl = X at *
      obtain ⟨xa, xt⟩ := X
      dsimp only [ItemS.v] at *
      cases hpx : p ⟨xa, xt⟩ with
      | true =>
        rw [hpx] at HX
        have hix := Lib.hid (HIX.out hpx)
        clear HIX hpx
        go_wp2_with (fail)
        refine HX.out.mono ?_
        rintro e wb ⟨rfl, hbb⟩
        have HBB := Lib.hid (HB.out.trans (hbb.mono hbz))
        clear hbb
        go_wp2_with (fail)
        go_ret
        exact ⟨by rw [hix.out]; rfl, HBB.out⟩
      | false =>
        rw [hpx] at HX
        have HPX := Lib.hid hpx
        clear HIX hpx
        go_wp2_with (fail)
        refine HX.out.mono ?_
        rintro e wb ⟨rfl, hbb⟩
        have HBB := Lib.hid (HB.out.trans (hbb.mono hbz))
        clear hbb
        go_wp2_with (fail)
        exact ⟨⟨k + 1, by omega, by go_num, Lib.hid (fun x hx => by
          rw [HTK.out, List.mem_append] at hx
          rcases hx with hx | hx
          · exact HP.out x hx
          · obtain rfl := List.mem_singleton.1 hx
            exact HPX.out), HBB⟩, by first | (simp [intOf]; done) | (simp [intOf]; omega)⟩
    · have k1 : ¬ (k : Int) < n := by omega
      have HALL : Hid (idxI p bs = -1) := Lib.hid (idxI_none (fun x hx => HP.out x (by rw [List.take_of_length_le (by rw [HN.out]; omega)]; exact hx)))
      clear HP
      go_wp2_with (fail)
      go_ret
      exact ⟨by rw [HALL.out]; rfl, HB.out⟩

set_option maxHeartbeats 1600000 in
set_option maxRecDepth 100000 in
theorem itemany_any {w : World} (a : Option Addr) (n cap : Nat) (bs : List ItemS) (hn : bs.length = n) (few : n ≤ 9223372036854775807) (hr : RowsAt w a 2 (bs.map ItemS.cs)) (id : FuncId) (caps : Array Value) (p : ItemS → Bool)
    (he : ∀ x : ItemS, x ∈ bs → ∀ wx, (callFunc id (#[x.v] ++ caps)).run Try.prog wx = .ok (.enter id (#[x.v] ++ caps)) wx)
    (hf : ∀ x : ItemS, x ∈ bs → ∀ wx, Below w.heap.size w wx → Calls Try.prog id (#[x.v] ++ caps) wx fun e w' => e = .returned (.bool (p x)) ∧ Below wx.heap.size wx w') :
    Calls Try.prog 64 #[.slice a n cap, .func (.func id) #[] caps] w fun e w' => e = .returned (.bool (bs.any p)) ∧ Below w.heap.size w w' := by
  have HI := Lib.hid (itemidx_any a n cap bs hn few hr id caps p he hf)
  rcases idxI_cases p bs with ⟨e1, hall⟩ | ⟨k0, hk0, e1, hp0, _⟩
  · have : bs.any p = false := by rw [List.any_eq_false]; intro x hx; rw [hall x hx]; simp
    rw [this]
    rw [e1] at HI
    clear hr he hf hall e1 this
    go_enter Try.func64, Try.ntmps64
    go_wp2_with (fail)
    refine HI.out.mono ?_
    rintro e wb ⟨rfl, hbb⟩
    have HB := Lib.hid hbb
    clear hbb
    go_wp2_with (fail)
    go_ret
    exact ⟨rfl, HB.out⟩
  · have : bs.any p = true := List.any_eq_true.2 ⟨_, List.getElem_mem hk0, hp0⟩
    rw [this]
    rw [e1] at HI
    have k0' : (0 : Int) ≤ k0 := by omega
    clear hr he hf hp0 e1 this
    go_enter Try.func64, Try.ntmps64
    go_wp2_with (fail)
    refine HI.out.mono ?_
    rintro e wb ⟨rfl, hbb⟩
    have HB := Lib.hid hbb
    clear hbb
    go_wp2_with (fail)
    go_ret
    exact ⟨rfl, HB.out⟩
end Go.Proofs.Ytgkdpkpiejjfmaa
