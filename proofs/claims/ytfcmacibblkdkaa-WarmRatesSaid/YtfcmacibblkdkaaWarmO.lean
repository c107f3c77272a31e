/- The laws of the layer warmup: WarmRates. -/
import Derived.Test.YtfcmacibblkdkaaWarmD
import Derived.Test.YtfcmacibblkdkaaOwn
import Derived.Test.YtfcmacibblkdkaaRecs
import Derived.Deep.RegionWith
import Derived.Deep.QuietTactic
import Derived.BigQuiet
namespace Go.Proofs.Ytfcmacibblkdkaa
open Go.RowKit
set_option linter.unusedVariables false
set_option linter.unusedSimpArgs false

theorem info_int : (Try.prog.info? 3).map (fun i => (i.zero, i.size, i.bytes)) = some (some (.int .i64 0), 1, 8) := by kernel_rfl
def ints (xs : List Int) : List Value := xs.map (Value.int .i64)
theorem ints_len (xs : List Int) : (ints xs).length = xs.length := by simp [ints]
theorem ints_snoc (xs : List Int) (x : Int) : ints (xs ++ [x]) = ints xs ++ [.int .i64 x] := by simp [ints]
theorem own_below {w w' : World} {base : Nat} {e : TypeId} {size : Nat} {v : Value} {n : Nat} {xs : List Value} (h : w.ownsRow base e size v n xs) (g : Below w.heap.size w w') : w'.ownsRow base e size v n xs :=
  h.kept (row := none) (grown_below g none) (by cases v.ownBlock <;> simp)

/-- The two rows of the call's own, and the warm-up. -/
structure RatesAt (wr : World) (base b : Nat) (s : WarmS) (vt vr : Value) (ts : List Int) : Prop where
  p : WarmAt wr b s
  ok : WarmOk s
  lt : b < base
  ot : wr.ownsRow base 3 1 vt ts.length (ints ts)
  or : wr.ownsRow base 3 1 vr ts.length (ints (ts.map (rateN s)))
  ne : ∀ k, vt.ownBlock = some k → vr.ownBlock ≠ some k
  bd : ∀ t ∈ ts, 0 ≤ t ∧ t ≤ allOf s

theorem rateN_same {s s' : WarmS} (h1 : s'.count = s.count) (h2 : s'.seconds = s.seconds) : rateN s' = rateN s ∧ allOf s' = allOf s := by
  have hA : allOf s' = allOf s := by unfold allOf; rw [h1, h2]
  have hW : warnOf s' = warnOf s := by unfold warnOf; rw [hA]
  refine ⟨?_, hA⟩
  funext t
  unfold rateN; rw [hA, hW, h1]
theorem fillS_same (s : WarmS) (x past : Int) : (fillS s x past).count = s.count ∧ (fillS s x past).seconds = s.seconds := by
  unfold fillS; split <;> exact ⟨rfl, rfl⟩
theorem rates_fill {w w' : World} {base b : Nat} {s : WarmS} {vt vr : Value} {ts : List Int} (h : RatesAt w base b s vt vr ts) (x past : Int) (hp : WarmAt w' b (fillS s x past)) (hg : w.grownBy w' (some b)) :
    RatesAt w' base b (fillS s x past) vt vr ts := by
  obtain ⟨e1, e2⟩ := fillS_same s x past
  obtain ⟨e3, e4⟩ := rateN_same e1 e2
  refine ⟨hp, fillS_ok h.ok x past, h.lt, h.ot.kept hg (Or.inr fun e => ?_), ?_, h.ne, ?_⟩
  · have := (h.ot.lt b e).1; have := h.lt; omega
  · rw [e3]; exact h.or.kept hg (Or.inr fun e => by have := (h.or.lt b e).1; have := h.lt; omega)
  · rw [e4]; exact h.bd
theorem rates_below {w w' : World} {base b : Nat} {s : WarmS} {vt vr : Value} {ts : List Int} (h : RatesAt w base b s vt vr ts) (g : Below w.heap.size w w') : RatesAt w' base b s vt vr ts :=
  ⟨h.p.below g, h.ok, h.lt, own_below h.ot g, own_below h.or g, h.ne, h.bd⟩
/-- What a fill tells. -/
theorem rates_told {s : WarmS} (h : WarmOk s) {x past : Int} (he : lookE s x [past] = 0) :
    fillV s x past = rateN (fillS s x past) (fillS s x past).tokens ∧ 1 ≤ fillV s x past ∧ fillV s x past ≤ s.count ∧ s.count / 3 ≤ fillV s x past ∧ 0 ≤ (fillS s x past).tokens ∧ (fillS s x past).tokens ≤ allOf s := by
  obtain ⟨e1, e2⟩ := fillS_same s x past
  obtain ⟨e3, e4⟩ := rateN_same e1 e2
  have ok' := fillS_ok h x past
  have hv : fillV s x past = rateN s (fillN s x past) := by unfold fillV; rw [if_pos he]
  have ht : (fillS s x past).tokens = fillN s x past := by unfold fillS; rw [if_pos he]; rfl
  have hb := ok'.t2
  have hb0 := ok'.t1
  rw [e4] at hb
  have hr := rateN_bd h (t := fillN s x past) (by rw [← ht]; exact hb)
  rw [e3, ht, hv]
  rw [ht] at hb hb0
  exact ⟨rfl, hr.1, hr.2.1, hr.2.2, hb0, hb⟩

theorem rates_ne {w : World} {base b : Nat} {s : WarmS} {vt vr : Value} {ts : List Int} (h : RatesAt w base b s vt vr ts) : vr.ownBlock = none ∨ vr.ownBlock ≠ vt.ownBlock := by
  by_cases hn : vr.ownBlock = none
  · exact Or.inl hn
  · right
    intro e
    obtain ⟨k, hk⟩ := Option.ne_none_iff_exists'.1 hn
    exact h.ne k (by rw [← e]; exact hk) hk
/-- Behind both appends. -/
theorem rates_push {w w1 w2 : World} {base b : Nat} {s : WarmS} {vt vr vt' vr' : Value} {ts : List Int} {T R : Int} {o1 o2 : Obj} (h : RatesAt w base b s vt vr ts) (hT : T = s.tokens) (hR : R = rateN s T) (hbase : base ≤ w.heap.size)
    (t1 : w1.ownsRow base 3 1 vt' (ts.length + 1) (ints ts ++ [.int .i64 T])) (g1 : (w.alloc o1).grownBy w1 vt.ownBlock) (k1 : vt'.ownBlock = vt.ownBlock ∨ vt'.ownBlock = some (w.alloc o1).heap.size)
    (t2 : w2.ownsRow base 3 1 vr' (ts.length + 1) (ints (ts.map (rateN s)) ++ [.int .i64 R])) (g2 : (w1.alloc o2).grownBy w2 vr.ownBlock) (k2 : vr'.ownBlock = vr.ownBlock ∨ vr'.ownBlock = some (w1.alloc o2).heap.size) :
    RatesAt w2 base b s vt' vr' (ts ++ [T]) := by
  have z1 := g1.size
  simp at z1
  have hbl := h.lt
  have B1 : Below w.heap.size w (w.alloc o1) := (Below.refl _ _).alloc (Nat.le_refl _) _
  have p1 : WarmAt w1 b s := (h.p.below B1).grown g1 (fun e => by have := (h.ot.lt b e.symm).1; omega)
  have p2 : WarmAt w2 b s := (p1.below ((Below.refl _ _).alloc (Nat.le_refl _) _)).grown g2 (fun e => by have := (h.or.lt b e.symm).1; omega)
  have ne1 : ∀ k, vt'.ownBlock = some k → vr.ownBlock ≠ some k := by
    intro k hk e
    rcases k1 with k1 | k1
    · exact h.ne k (by rw [← k1]; exact hk) e
    · rw [hk] at k1
      injection k1 with k1
      have := (h.or.lt k e).2
      simp at k1; omega
  have t1' : w2.ownsRow base 3 1 vt' (ts.length + 1) (ints ts ++ [.int .i64 T]) := by
    refine (t1.alloc o2).kept g2 ?_
    by_cases hn : vt'.ownBlock = none
    · exact Or.inl hn
    · right
      intro e
      obtain ⟨k, hk⟩ := Option.ne_none_iff_exists'.1 hn
      exact ne1 k hk (by rw [← e]; exact hk)
  refine ⟨p2, h.ok, hbl, ?_, ?_, ?_, ?_⟩
  · rw [ints_snoc, List.length_append]; exact t1'
  · rw [List.map_append, List.map_cons, List.map_nil, ints_snoc, List.length_append, ← hR]; exact t2
  · intro k hk e
    rcases k2 with k2 | k2
    · exact ne1 k hk (by rw [← k2]; exact e)
    · rw [e] at k2
      injection k2 with k2
      have := (t1.lt k hk).2
      simp at k2; omega
  · intro t ht
    rcases List.mem_append.1 ht with ht | ht
    · exact h.bd t ht
    · simp at ht; subst ht; rw [hT]; exact ⟨h.ok.t1, h.ok.t2⟩
end Go.Proofs.Ytfcmacibblkdkaa
