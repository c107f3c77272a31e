/- sketch: which buckets go. -/
import Derived.Test.YtogdnacambjhpaaSkE
import Derived.Test.YtogdnacambjhpaaRing
import Derived.Laws.OwnMore
import Derived.Lib.SliceRun
namespace Go.Proofs.Ytogdnacambjhpaa
open Go.RowKit
set_option linter.unusedVariables false
set_option linter.unusedSimpArgs false

/-- Where the first one stands, or -1. -/
def idxSk (p : BkS → Bool) (bs : List BkS) : Int := match bs.findIdx? p with | none => -1 | some k => k
theorem idxSk_none {p : BkS → Bool} {bs : List BkS} (h : ∀ x, x ∈ bs → p x = false) : idxSk p bs = -1 := by
  unfold idxSk
  rw [List.findIdx?_eq_none_iff.2 h]
theorem idxSk_some {p : BkS → Bool} {bs : List BkS} {k : Nat} (hk : k < bs.length) (hp : p bs[k] = true) (h : ∀ j (hj : j < k), p (bs[j]'(by omega)) = false) : idxSk p bs = k := by
  unfold idxSk
  rw [List.findIdx?_eq_some_iff_getElem.2 ⟨hk, hp, fun j hj => by rw [h j hj]; simp⟩]
theorem idxSk_cases (p : BkS → Bool) (bs : List BkS) : (idxSk p bs = -1 ∧ ∀ x, x ∈ bs → p x = false) ∨ ∃ k, ∃ hk : k < bs.length, idxSk p bs = k ∧ p bs[k] = true ∧ ∀ j (hj : j < k), p (bs[j]'(by omega)) = false := by
  unfold idxSk
  cases h : bs.findIdx? p with
  | none => exact Or.inl ⟨rfl, List.findIdx?_eq_none_iff.1 h⟩
  | some k =>
    obtain ⟨h1, h2, h3⟩ := List.findIdx?_eq_some_iff_getElem.1 h
    exact Or.inr ⟨k, h1, rfl, h2, fun j hj => by simpa using h3 j hj⟩

set_option maxHeartbeats 3200000 in
set_option maxRecDepth 100000 in
theorem skindex_any {w : World} {v : Value} {bs : List BkS} (hr : RowB w v bs) (few : bs.length ≤ 9223372036854775807) (id : FuncId) (caps : Array Value) (p : BkS → Bool)
    (he : ∀ x : BkS, x ∈ bs → ∀ wx, (callFunc id (#[x.v] ++ caps)).run Try.prog wx = .ok (.enter id (#[x.v] ++ caps)) wx)
    (hf : ∀ x : BkS, x ∈ bs → ∀ wx, Below w.heap.size w wx → Calls Try.prog id (#[x.v] ++ caps) wx fun e w' => e = .returned (.bool (p x)) ∧ Below wx.heap.size wx w') :
    Calls Try.prog 64 #[v, .func (.func id) #[] caps] w fun e w' => e = .returned (.int .i64 (idxSk p bs)) ∧ Below w.heap.size w w' := by
  have HR := Lib.hid hr
  have HE := Lib.hid he
  have HF := Lib.hid hf
  obtain ⟨a, cap, hv, hcap⟩ : ∃ a cap, v = .slice a bs.length cap ∧ bs.length ≤ cap := hr.slice
  clear hr he hf
  subst hv
  obtain ⟨n, hn⟩ : ∃ n, bs.length = n := ⟨_, rfl⟩
  have HN := Lib.hid hn
  rw [hn] at hcap few
  have hv : (Value.slice a bs.length cap) = .slice a n cap := by rw [hn]
  rw [hv]
  rw [hv] at HR
  clear hn hv
  go_enter Try.func64, Try.ntmps64
  go_wp2_with (fail)
  go_loopw [5, 8] (fun _ i wr => ∃ (k : Nat), k ≤ n ∧ i = .int .i64 k ∧ Hid (∀ x, x ∈ bs.take k → p x = false) ∧ Hid (Below w.heap.size w wr)) (fun _ i _ => n - (intOf i).toNat)
  case atStart => exact ⟨0, Nat.zero_le _, rfl, Lib.hid (by simp), Lib.hid (Below.refl _ _)⟩
  case round =>
    rename World => wy
    obtain ⟨k, hk, rfl, HP, HB⟩ := hrel
    have hbz := HB.out.size
    by_cases hlt : k < n
    · have hkl : k < bs.length := by rw [HN.out]; exact hlt
      obtain ⟨gb, capb, hv, _, _, hgb, hcells⟩ := HR.out.cells (by intro e; rw [e] at hkl; simp at hkl)
      injection hv with e1 e2 e3
      subst e1
      have k0 : (0 : Int) ≤ k := by omega
      have k1 : (k : Int) < n := by omega
      have hkx : bs[k]? = some (bs[k]'hkl) := List.getElem?_eq_getElem hkl
      have hmem : (bs[k]'hkl) ∈ bs := List.getElem_mem hkl
      obtain ⟨d0, d1, d2⟩ := hcells k _ hkx
      have d0 := (HB.out.cell (p := ⟨gb, k * 3, none⟩) hgb).trans d0
      have d1 := (HB.out.cell (p := ⟨gb, k * 3 + 1, none⟩) hgb).trans d1
      have d2 := (HB.out.cell (p := ⟨gb, k * 3 + 2, none⟩) hgb).trans d2
      have HX := Lib.hid (HF.out _ hmem wy HB.out)
      have hen := HE.out _ hmem
      have HTK := Lib.hid (show bs.take (k + 1) = bs.take k ++ [bs[k]'hkl] from List.take_succ_eq_append_getElem hkl)
      have HIX := Lib.hid (fun hp => idxSk_some hkl (p := p) hp (fun j hj => HP.out _ (by rw [List.mem_take_iff_getElem]; exact ⟨j, by omega, rfl⟩)))
      clear hkx hcells e2 e3
      generalize bs[k]'hkl = X at *
      obtain ⟨xa, xt, xm, xc⟩ := X
      dsimp only [BkS.v] at *
      cases hpx : p ⟨xa, xt, xm, xc⟩ with
      | true =>
        rw [hpx] at HX
        have hix := Lib.hid (HIX.out hpx)
        clear HIX hpx
        go_wp2_with (fail)
        refine HX.out.mono ?_
        rintro e wb ⟨rfl, hbb⟩
        have HBB := Lib.hid (HB.out.trans (hbb.mono hbz))
        clear hbb
        go_wp2_with (fail)
        go_ret
        exact ⟨by rw [hix.out]; rfl, HBB.out⟩
      | false =>
        rw [hpx] at HX
        have HPX := Lib.hid hpx
        clear HIX hpx
        go_wp2_with (fail)
        refine HX.out.mono ?_
        rintro e wb ⟨rfl, hbb⟩
        have HBB := Lib.hid (HB.out.trans (hbb.mono hbz))
        clear hbb
        go_wp2_with (fail)
        exact ⟨⟨k + 1, by omega, by go_num, Lib.hid (fun x hx => by
          rw [HTK.out, List.mem_append] at hx
          rcases hx with hx | hx
          · exact HP.out x hx
          · obtain rfl := List.mem_singleton.1 hx
            exact HPX.out), HBB⟩, by first | (simp [intOf]; done) | (simp [intOf]; omega)⟩
    · have k1 : ¬ (k : Int) < n := by omega
      have HALL : Hid (idxSk p bs = -1) := Lib.hid (idxSk_none (fun x hx => HP.out x (by rw [List.take_of_length_le (by rw [HN.out]; omega)]; exact hx)))
      clear HP
      go_wp2_with (fail)
      go_ret
      exact ⟨by rw [HALL.out]; rfl, HB.out⟩
end Go.Proofs.Ytogdnacambjhpaa
