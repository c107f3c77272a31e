/- reject.Least and the document's: a loop over numbers. -/
import Derived.Test.YtalpilahemajoaaRConc
import Derived.Test.YtalpilahemajoaaNumLists
namespace Go.Proofs.Ytalpilahemajoaa
open Go.RowKit
set_option linter.unusedVariables false
set_option linter.unusedSimpArgs false

def okF (f : FlowS) : Bool := decide (f.strat = 0) && ((f.org.toList == defaultL) && (decide (f.shape = 0) && !f.thr))
def leastStep (fs : List FlowS) (p : Int × Bool) (x : Int) : Int × Bool :=
  if x < 0 then p else match fs[x.toNat]? with
    | none => p
    | some f => if okF f then (if !p.2 || decide (f.cnt < p.1) then f.cnt else p.1, true) else p
def leastN (fs : List FlowS) (ns : List Int) : Int × Bool := ns.foldl (leastStep fs) (0, false)
theorem leastN_step {fs : List FlowS} {ns : List Int} {k : Nat} {x : Int} (h : ns[k]? = some x) : leastN fs (ns.take (k + 1)) = leastStep fs (leastN fs (ns.take k)) x := by
  unfold leastN
  rw [List.take_add_one, h, List.foldl_append]; rfl
theorem ls_neg {fs : List FlowS} {p : Int × Bool} {x : Int} (h : x < 0) : leastStep fs p x = p := by simp [leastStep, h]
theorem ls_far {fs : List FlowS} {p : Int × Bool} {m : Nat} (h : fs.length ≤ m) : leastStep fs p (m : Int) = p := by
  have : fs[m]? = none := List.getElem?_eq_none h
  have h0 : ¬ ((m : Int) < 0) := by omega
  simp [leastStep, this, h0]
theorem ls_some {fs : List FlowS} {p : Int × Bool} {m : Nat} {f : FlowS} (h : fs[m]? = some f) : leastStep fs p (m : Int) = if okF f then (if !p.2 || decide (f.cnt < p.1) then f.cnt else p.1, true) else p := by
  have h0 : ¬ ((m : Int) < 0) := by omega
  simp [leastStep, h, h0]


set_option maxHeartbeats 6400000 in
set_option maxRecDepth 100000 in
theorem least_any (a : Option Addr) (len cap : Nat) (fs : List FlowS) (an : Option Addr) (ln cn : Nat) (ns : List Int) (w : World) (hl : fs.length = len) (hm : len * 8 ≤ 140737488351232) (hf : FlowsAt w a fs)
    (hln : ns.length = ln) (hmn : ln * 8 ≤ 140737488351232) (hn : IntsAt w an ns) :
    Calls Try.prog 10 #[.slice a len cap, .slice an ln cn] w fun e w' => e = .returned (.tuple #[.int .i64 (leastN fs ns).1, .bool (leastN fs ns).2]) ∧ Below w.heap.size w w' := by
  have HFA := Lib.hid hf
  have Hl := Lib.hid hl
  have HNA := Lib.hid hn
  have Hln := Lib.hid hln
  clear hf hl hn hln
  go_enter Try.func10, Try.ntmps10
  go_wp2_with (fail)
  go_loopw [6, 7, 13] (fun v1 v2 i wr => ∃ k : Nat, ∃ p : Int × Bool, k ≤ ln ∧ i = .int .i64 k ∧ v1 = .int .i64 p.1 ∧ v2 = .bool p.2 ∧ Hid (p = leastN fs (ns.take k)) ∧ Below w.heap.size w wr)
    (fun _ _ i _ => ln - (intOf i).toNat)
  case atStart => exact ⟨0, (0, false), Nat.zero_le _, rfl, rfl, rfl, rfl, Below.refl _ _⟩
  case round =>
    obtain ⟨k, ⟨p1, p2⟩, hk, rfl, rfl, rfl, hp, hbr⟩ := hrel
    dsimp only at *
    by_cases hlt : k < ln
    · obtain ⟨bn, on, rfl, hl4, hfc⟩ : ∃ b off, an = some ⟨b, off, none⟩ ∧ b < w.heap.size ∧ ∀ j, j < ns.length → w.cell? ⟨b, off + j, none⟩ = some (.int .i64 (ns.getD j 0)) := by
        rcases HNA.out with h | h
        · have := Hln.out; rw [h] at this; simp at this; omega
        · exact h
      obtain ⟨x, hx⟩ : ∃ x, ns[k]? = some x := ⟨_, List.getElem?_eq_getElem (by rw [Hln.out]; exact hlt)⟩
      have hcx : wr.cell? ⟨bn, on + k, none⟩ = some (.int .i64 x) := by
        rw [(hbr.cell (p := ⟨bn, on + k, none⟩) hl4), hfc k (by rw [Hln.out]; exact hlt)]
        simp [List.getD, hx]
      have Hst := Lib.hid (leastN_step (fs := fs) hx)
      have k0 : (0 : Int) ≤ k := by omega
      have k1 : (k : Int) < ln := by omega
      clear hx hfc hl4
      by_cases hx0 : x < 0
      · have hs := Hst.out
        rw [ls_neg hx0, ← hp.out] at hs
        have HS := Lib.hid hs
        clear Hst hs hp
        go_wp2_with (fail)
        exact ⟨⟨k + 1, (p1, p2), by omega, by go_num, rfl, rfl, HS.out.symm, hbr⟩, by simp [intOf]; omega⟩
      · obtain ⟨m, rfl⟩ : ∃ m : Nat, x = m := ⟨x.toNat, by omega⟩
        by_cases hx1 : len ≤ m
        · have hs := Hst.out
          rw [ls_far (by rw [Hl.out]; exact hx1), ← hp.out] at hs
          have HS := Lib.hid hs
          clear Hst hs hp
          go_wp2_with (fail)
          exact ⟨⟨k + 1, (p1, p2), by omega, by go_num, rfl, rfl, HS.out.symm, hbr⟩, by simp [intOf]; omega⟩
        · have hm1 : m < len := by omega
          obtain ⟨b, off, rfl, hl4, hfc⟩ : ∃ b off, a = some ⟨b, off, none⟩ ∧ b < w.heap.size ∧ ∀ j f, fs[j]? = some f → FlowAt w b (off + j * 12) f := by
            rcases HFA.out with h | h
            · have := Hl.out; rw [h] at this; simp at this; omega
            · exact h
          obtain ⟨f, hg⟩ : ∃ g, fs[m]? = some g := ⟨_, List.getElem?_eq_getElem (by rw [Hl.out]; exact hm1)⟩
          obtain ⟨h0, h1, h2, h3, h4, h5, h6, h7, h8, h9, h10, h11⟩ := (hfc m f hg).of_block (hbr.block b hl4)
          have hst := Hst.out
          rw [ls_some hg, ← hp.out] at hst
          have Bad := Lib.hid (show okF f = false → leastN fs (ns.take (k + 1)) = (p1, p2) from fun h => by rw [hst, h]; rfl)
          have Good := Lib.hid (show okF f = true → leastN fs (ns.take (k + 1)) = (if !p2 || decide (f.cnt < p1) then f.cnt else p1, true) from fun h => by rw [hst, h]; rfl)
          have m0 : (0 : Int) ≤ m := by omega
          have m1 : (m : Int) < len := by omega
          have m2 : ¬ ((len : Int) ≤ m) := by omega
          have m3 : ¬ ((m : Int) < 0) := by omega
          unfold okF at Bad Good
          rw [show defaultL = [100, 101, 102, 97, 117, 108, 116] from rfl] at Bad Good
          clear hst Hst hg hfc hl4 hp HFA HNA hx0 hx1
          skip
          by_cases g1 : f.strat = 0
          · cases g2 : (f.org.toList == [100, 101, 102, 97, 117, 108, 116])
            · have HS := Lib.hid (Bad.out (by rw [g2]; simp))
              clear Bad Good
              go_wp2_with (fail)
              exact ⟨⟨k + 1, (p1, p2), by omega, by go_num, rfl, rfl, HS.out.symm, hbr.alloc (by have := hbr.size; omega) _⟩, by simp [intOf]; omega⟩
            · by_cases g3 : f.shape = 0
              · cases g4 : f.thr
                · have hg := Good.out (by rw [g1, g2, g3, g4]; rfl)
                  rw [g4] at h2
                  cases p2
                  · have HS := Lib.hid hg
                    clear Bad Good hg
                    go_wp2_with (fail)
                    exact ⟨⟨k + 1, (f.cnt, true), by omega, by go_num, rfl, rfl, HS.out.symm, hbr.alloc (by have := hbr.size; omega) _⟩, by simp [intOf]; omega⟩
                  · by_cases g5 : f.cnt < p1
                    · have HS := Lib.hid (hg.trans (by simp [g5] : _ = (f.cnt, true)))
                      clear Bad Good hg
                      go_wp2_with (fail)
                      exact ⟨⟨k + 1, (f.cnt, true), by omega, by go_num, rfl, rfl, HS.out.symm, hbr.alloc (by have := hbr.size; omega) _⟩, by simp [intOf]; omega⟩
                    · have HS := Lib.hid (hg.trans (by simp [g5] : _ = (p1, true)))
                      clear Bad Good hg
                      go_wp2_with (fail)
                      exact ⟨⟨k + 1, (p1, true), by omega, by go_num, rfl, rfl, HS.out.symm, hbr.alloc (by have := hbr.size; omega) _⟩, by simp [intOf]; omega⟩
                · have HS := Lib.hid (Bad.out (by rw [g4]; simp))
                  rw [g4] at h2
                  clear Bad Good
                  go_wp2_with (fail)
                  exact ⟨⟨k + 1, (p1, p2), by omega, by go_num, rfl, rfl, HS.out.symm, hbr.alloc (by have := hbr.size; omega) _⟩, by simp [intOf]; omega⟩
              · have HS := Lib.hid (Bad.out (by simp [g3]))
                clear Bad Good
                go_wp2_with (fail)
                exact ⟨⟨k + 1, (p1, p2), by omega, by go_num, rfl, rfl, HS.out.symm, hbr.alloc (by have := hbr.size; omega) _⟩, by simp [intOf]; omega⟩
          · have HS := Lib.hid (Bad.out (by simp [g1]))
            clear Bad Good
            go_wp2_with (fail)
            exact ⟨⟨k + 1, (p1, p2), by omega, by go_num, rfl, rfl, HS.out.symm, hbr.alloc (by have := hbr.size; omega) _⟩, by simp [intOf]; omega⟩
    · have hkl : k = ln := by omega
      subst hkl
      go_wp2_with (fail)
      go_ret2
      have := hp.out
      rw [← Hln.out, List.take_length] at this
      rw [← this]
      exact ⟨rfl, hbr⟩

set_option maxHeartbeats 6400000 in
set_option maxRecDepth 100000 in
theorem rleast_any (a : Option Addr) (len cap : Nat) (fs : List FlowS) (an : Option Addr) (ln cn : Nat) (ns : List Int) (w : World) (hl : fs.length = len) (hm : len * 8 ≤ 140737488351232) (hf : FlowsAt w a fs)
    (hln : ns.length = ln) (hmn : ln * 8 ≤ 140737488351232) (hn : IntsAt w an ns) :
    Calls Try.prog 11 #[.slice a len cap, .slice an ln cn] w fun e w' => e = .returned (.tuple #[.int .i64 (leastN fs ns).1, .bool (leastN fs ns).2]) ∧ Below w.heap.size w w' := by
  have HFA := Lib.hid hf
  have Hl := Lib.hid hl
  have HNA := Lib.hid hn
  have Hln := Lib.hid hln
  clear hf hl hn hln
  go_enter Try.func11, Try.ntmps11
  go_wp2_with (fail)
  go_loopw [6, 7, 8] (fun v1 v2 i wr => ∃ k : Nat, ∃ p : Int × Bool, k ≤ ln ∧ i = .int .i64 k ∧ v1 = .int .i64 p.1 ∧ v2 = .bool p.2 ∧ Hid (p = leastN fs (ns.take k)) ∧ Below w.heap.size w wr)
    (fun _ _ i _ => ln - (intOf i).toNat)
  case atStart => exact ⟨0, (0, false), Nat.zero_le _, rfl, rfl, rfl, rfl, Below.refl _ _⟩
  case round =>
    obtain ⟨k, ⟨p1, p2⟩, hk, rfl, rfl, rfl, hp, hbr⟩ := hrel
    dsimp only at *
    by_cases hlt : k < ln
    · obtain ⟨bn, on, rfl, hl4, hfc⟩ : ∃ b off, an = some ⟨b, off, none⟩ ∧ b < w.heap.size ∧ ∀ j, j < ns.length → w.cell? ⟨b, off + j, none⟩ = some (.int .i64 (ns.getD j 0)) := by
        rcases HNA.out with h | h
        · have := Hln.out; rw [h] at this; simp at this; omega
        · exact h
      obtain ⟨x, hx⟩ : ∃ x, ns[k]? = some x := ⟨_, List.getElem?_eq_getElem (by rw [Hln.out]; exact hlt)⟩
      have hcx : wr.cell? ⟨bn, on + k, none⟩ = some (.int .i64 x) := by
        rw [(hbr.cell (p := ⟨bn, on + k, none⟩) hl4), hfc k (by rw [Hln.out]; exact hlt)]
        simp [List.getD, hx]
      have Hst := Lib.hid (leastN_step (fs := fs) hx)
      have k0 : (0 : Int) ≤ k := by omega
      have k1 : (k : Int) < ln := by omega
      clear hx hfc hl4
      by_cases hx0 : x < 0
      · have hs := Hst.out
        rw [ls_neg hx0, ← hp.out] at hs
        have HS := Lib.hid hs
        clear Hst hs hp
        go_wp2_with (fail)
        exact ⟨⟨k + 1, (p1, p2), by omega, by go_num, rfl, rfl, HS.out.symm, hbr⟩, by simp [intOf]; omega⟩
      · obtain ⟨m, rfl⟩ : ∃ m : Nat, x = m := ⟨x.toNat, by omega⟩
        by_cases hx1 : len ≤ m
        · have hs := Hst.out
          rw [ls_far (by rw [Hl.out]; exact hx1), ← hp.out] at hs
          have HS := Lib.hid hs
          clear Hst hs hp
          go_wp2_with (fail)
          exact ⟨⟨k + 1, (p1, p2), by omega, by go_num, rfl, rfl, HS.out.symm, hbr⟩, by simp [intOf]; omega⟩
        · have hm1 : m < len := by omega
          obtain ⟨b, off, rfl, hl4, hfc⟩ : ∃ b off, a = some ⟨b, off, none⟩ ∧ b < w.heap.size ∧ ∀ j f, fs[j]? = some f → FlowAt w b (off + j * 12) f := by
            rcases HFA.out with h | h
            · have := Hl.out; rw [h] at this; simp at this; omega
            · exact h
          obtain ⟨f, hg⟩ : ∃ g, fs[m]? = some g := ⟨_, List.getElem?_eq_getElem (by rw [Hl.out]; exact hm1)⟩
          obtain ⟨h0, h1, h2, h3, h4, h5, h6, h7, h8, h9, h10, h11⟩ := (hfc m f hg).of_block (hbr.block b hl4)
          have hst := Hst.out
          rw [ls_some hg, ← hp.out] at hst
          have Bad := Lib.hid (show okF f = false → leastN fs (ns.take (k + 1)) = (p1, p2) from fun h => by rw [hst, h]; rfl)
          have Good := Lib.hid (show okF f = true → leastN fs (ns.take (k + 1)) = (if !p2 || decide (f.cnt < p1) then f.cnt else p1, true) from fun h => by rw [hst, h]; rfl)
          have m0 : (0 : Int) ≤ m := by omega
          have m1 : (m : Int) < len := by omega
          have m2 : ¬ ((len : Int) ≤ m) := by omega
          have m3 : ¬ ((m : Int) < 0) := by omega
          unfold okF at Bad Good
          rw [show defaultL = [100, 101, 102, 97, 117, 108, 116] from rfl] at Bad Good
          clear hst Hst hg hfc hl4 hp HFA HNA hx0 hx1
          skip
          by_cases g1 : f.strat = 0
          · cases g2 : (f.org.toList == [100, 101, 102, 97, 117, 108, 116])
            · have HS := Lib.hid (Bad.out (by rw [g2]; simp))
              clear Bad Good
              go_wp2_with (fail)
              exact ⟨⟨k + 1, (p1, p2), by omega, by go_num, rfl, rfl, HS.out.symm, hbr⟩, by simp [intOf]; omega⟩
            · by_cases g3 : f.shape = 0
              · cases g4 : f.thr
                · have hg := Good.out (by rw [g1, g2, g3, g4]; rfl)
                  rw [g4] at h2
                  cases p2
                  · have HS := Lib.hid hg
                    clear Bad Good hg
                    go_wp2_with (fail)
                    exact ⟨⟨k + 1, (f.cnt, true), by omega, by go_num, rfl, rfl, HS.out.symm, hbr⟩, by simp [intOf]; omega⟩
                  · by_cases g5 : f.cnt < p1
                    · have HS := Lib.hid (hg.trans (by simp [g5] : _ = (f.cnt, true)))
                      clear Bad Good hg
                      go_wp2_with (fail)
                      exact ⟨⟨k + 1, (f.cnt, true), by omega, by go_num, rfl, rfl, HS.out.symm, hbr⟩, by simp [intOf]; omega⟩
                    · have HS := Lib.hid (hg.trans (by simp [g5] : _ = (p1, true)))
                      clear Bad Good hg
                      go_wp2_with (fail)
                      exact ⟨⟨k + 1, (p1, true), by omega, by go_num, rfl, rfl, HS.out.symm, hbr⟩, by simp [intOf]; omega⟩
                · have HS := Lib.hid (Bad.out (by rw [g4]; simp))
                  rw [g4] at h2
                  clear Bad Good
                  go_wp2_with (fail)
                  exact ⟨⟨k + 1, (p1, p2), by omega, by go_num, rfl, rfl, HS.out.symm, hbr⟩, by simp [intOf]; omega⟩
              · have HS := Lib.hid (Bad.out (by simp [g3]))
                clear Bad Good
                go_wp2_with (fail)
                exact ⟨⟨k + 1, (p1, p2), by omega, by go_num, rfl, rfl, HS.out.symm, hbr⟩, by simp [intOf]; omega⟩
          · have HS := Lib.hid (Bad.out (by simp [g1]))
            clear Bad Good
            go_wp2_with (fail)
            exact ⟨⟨k + 1, (p1, p2), by omega, by go_num, rfl, rfl, HS.out.symm, hbr⟩, by simp [intOf]; omega⟩
    · have hkl : k = ln := by omega
      subst hkl
      go_wp2_with (fail)
      go_ret2
      have := hp.out
      rw [← Hln.out, List.take_length] at this
      rw [← this]
      exact ⟨rfl, hbr⟩
end Go.Proofs.Ytalpilahemajoaa
