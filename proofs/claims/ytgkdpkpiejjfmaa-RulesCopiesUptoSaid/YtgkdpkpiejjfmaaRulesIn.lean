/- Rules that come in: what each of their lists holds, and how they are opened. -/
import Derived.Test.YtgkdpkpiejjfmaaFlowsIn
import Derived.Test.YtgkdpkpiejjfmaaZin
import Derived.Test.YtgkdpkpiejjfmaaBrA
namespace Go.Proofs.Ytgkdpkpiejjfmaa
open Go.ChangeShapes Go.WideShapes Go.ChangeAt Go.RowKit Go.Deep
set_option linter.unusedVariables false
set_option linter.unusedSimpArgs false

/-- Where a slice of structs of n cells each reads. -/
def RowsAt (w : World) (a : Option Addr) (n : Nat) (rs : List (List Value)) : Prop :=
  rs = [] ∨ ∃ b off, a = some ⟨b, off, none⟩ ∧ b < w.heap.size ∧ ∀ j r, rs[j]? = some r → ∀ k u, k < n → r[k]? = some u → w.cell? ⟨b, off + j * n + k, none⟩ = some u
theorem RowsAt.below {N : Nat} {w w' : World} {a : Option Addr} {n : Nat} {rs : List (List Value)} (h : RowsAt w a n rs) (hn : w.heap.size ≤ N) (hb : Below N w w') : RowsAt w' a n rs := by
  rcases h with h | ⟨b, off, rfl, hl, hc⟩
  · exact Or.inl h
  · exact Or.inr ⟨b, off, rfl, Nat.lt_of_lt_of_le hl hb.size, fun j r hj k u hk hu => (World.cell?_of_block (a := ⟨b, off + j * n + k, none⟩) (hb.block b (Nat.lt_of_lt_of_le hl hn))).trans (hc j r hj k u hk hu)⟩
theorem TextsAt.below2 {N : Nat} {w w' : World} {a : Option Addr} {ss : List ByteArray} (h : TextsAt w a ss) (hn : w.heap.size ≤ N) (hb : Below N w w') : TextsAt w' a ss := by
  rcases h with h | ⟨b, off, rfl, hl, hc⟩
  · exact Or.inl h
  · exact Or.inr ⟨b, off, rfl, Nat.lt_of_lt_of_le hl hb.size, fun j hj => (World.cell?_of_block (a := ⟨b, off + j, none⟩) (hb.block b (Nat.lt_of_lt_of_le hl hn))).trans (hc j hj)⟩

structure ItemS where
  val : ByteArray
  cnt : Int
structure HotS where
  res : ByteArray
  idx : Int
  cnt : Int
  secs : Int
  ia : Option Addr
  il : Nat
  ic : Nat
  items : List ItemS
structure SysR where
  q : Int
  t : Int
  r : Int
  l : Int
  c : Int
structure AuthS where
  res : ByteArray
  white : Bool
  oa : Option Addr
  ol : Nat
  oc : Nat
  orig : List ByteArray
def ItemS.cs (x : ItemS) : List Value := [.string x.val, .int .i64 x.cnt]
def HotS.cs (h : HotS) : List Value := [.string h.res, .int .i64 h.idx, .int .i64 h.cnt, .int .i64 h.secs, .slice h.ia h.il h.ic]
def SysR.cs (s : SysR) : List Value := [.int .i64 s.q, .int .i64 s.t, .int .i64 s.r, .int .i64 s.l, .int .i64 s.c]
def AuthS.cs (x : AuthS) : List Value := [.string x.res, .bool x.white, .slice x.oa x.ol x.oc]
def BreakS.cs (r : BreakS) : List Value := [.string r.res, .int .u8 r.gr, .int .i64 r.cnt, .int .i64 r.slow, .int .i64 r.least, .int .i64 r.win, .int .i64 r.rec_]
structure HotOk (w : World) (h : HotS) : Prop where
  z : h.res.size ≤ maxLen
  l : h.items.length = h.il
  lc : h.il ≤ h.ic
  b : h.il * 24 ≤ 140737488351232
  nil : h.ia = none → h.il = 0 ∧ h.ic = 0
  at_ : RowsAt w h.ia 2 (h.items.map ItemS.cs)
  iz : ∀ x ∈ h.items, x.val.size ≤ maxLen
structure AuthOk (w : World) (x : AuthS) : Prop where
  z : x.res.size ≤ maxLen
  l : x.orig.length = x.ol
  lc : x.ol ≤ x.oc
  b : x.ol * 16 ≤ 140737488351232
  nil : x.oa = none → x.ol = 0 ∧ x.oc = 0
  at_ : TextsAt w x.oa x.orig
  iz : ∀ s ∈ x.orig, s.size ≤ maxLen
theorem HotOk.below {N : Nat} {w w' : World} {h : HotS} (x : HotOk w h) (hn : w.heap.size ≤ N) (hb : Below N w w') : HotOk w' h := ⟨x.z, x.l, x.lc, x.b, x.nil, x.at_.below hn hb, x.iz⟩
theorem AuthOk.below {N : Nat} {w w' : World} {h : AuthS} (x : AuthOk w h) (hn : w.heap.size ≤ N) (hb : Below N w w') : AuthOk w' h := ⟨x.z, x.l, x.lc, x.b, x.nil, x.at_.below2 hn hb, x.iz⟩
structure RulesS where
  a0 : Option Addr
  n0 : Nat
  c0 : Nat
  a1 : Option Addr
  n1 : Nat
  c1 : Nat
  a2 : Option Addr
  n2 : Nat
  c2 : Nat
  a3 : Option Addr
  n3 : Nat
  c3 : Nat
  a4 : Option Addr
  n4 : Nat
  c4 : Nat
  fl : List FlowS
  br : List BreakS
  ho : List HotS
  sy : List SysR
  au : List AuthS
def RulesS.cs (r : RulesS) : Array Value := #[.slice r.a0 r.n0 r.c0, .slice r.a1 r.n1 r.c1, .slice r.a2 r.n2 r.c2, .slice r.a3 r.n3 r.c3, .slice r.a4 r.n4 r.c4]
def RulesS.v (r : RulesS) : Value := .agg r.cs
structure RulesAt (w : World) (r : RulesS) : Prop where
  l0 : r.fl.length = r.n0
  l1 : r.br.length = r.n1
  l2 : r.ho.length = r.n2
  l3 : r.sy.length = r.n3
  l4 : r.au.length = r.n4
  s0 : r.n0 * 120 ≤ 140737488351232
  s1 : r.n1 * 64 ≤ 140737488351232
  s2 : r.n2 * 64 ≤ 140737488351232
  s3 : r.n3 * 40 ≤ 140737488351232
  s4 : r.n4 * 48 ≤ 140737488351232
  i0 : r.a0 = none → r.n0 = 0 ∧ r.c0 = 0
  i1 : r.a1 = none → r.n1 = 0 ∧ r.c1 = 0
  i2 : r.a2 = none → r.n2 = 0 ∧ r.c2 = 0
  i3 : r.a3 = none → r.n3 = 0 ∧ r.c3 = 0
  i4 : r.a4 = none → r.n4 = 0 ∧ r.c4 = 0
  fl : FlowsAt w r.a0 r.fl
  br : RowsAt w r.a1 7 (r.br.map BreakS.cs)
  ho : RowsAt w r.a2 5 (r.ho.map HotS.cs)
  sy : RowsAt w r.a3 5 (r.sy.map SysR.cs)
  au : RowsAt w r.a4 3 (r.au.map AuthS.cs)
  zf : ∀ f ∈ r.fl, f.res.size ≤ maxLen ∧ f.org.size ≤ maxLen ∧ f.ref.size ≤ maxLen
  zb : ∀ b ∈ r.br, b.res.size ≤ maxLen
  zh : ∀ h ∈ r.ho, HotOk w h
  za : ∀ a ∈ r.au, AuthOk w a
  wf : ∀ f ∈ r.fl, 0 ≤ f.strat ∧ 0 ≤ f.shape
  wb : ∀ b ∈ r.br, 0 ≤ b.gr
theorem RulesAt.below {N : Nat} {w w' : World} {r : RulesS} (x : RulesAt w r) (hn : w.heap.size ≤ N) (hb : Below N w w') : RulesAt w' r :=
  ⟨x.l0, x.l1, x.l2, x.l3, x.l4, x.s0, x.s1, x.s2, x.s3, x.s4, x.i0, x.i1, x.i2, x.i3, x.i4, x.fl.below hn hb, x.br.below hn hb, x.ho.below hn hb, x.sy.below hn hb, x.au.below hn hb, x.zf, x.zb, fun h m => (x.zh h m).below hn hb, fun a m => (x.za a m).below hn hb, x.wf, x.wb⟩

/-! How they are opened. -/
def slcOf : Value → Option Addr × Nat × Nat | .slice a l c => (a, l, c) | _ => (none, 0, 0)
theorem rows_of {α : Type} {w : World} {a : Option Addr} {n len : Nat} {V : Nat → Nat → Value} {mk : Nat → α} {cs : α → List Value} (h : RecsAt w a n len V) (hc : ∀ j, j < len → ∀ k u, k < n → (cs (mk j))[k]? = some u → V j k = u) :
    RowsAt w a n (((List.range len).map mk).map cs) := by
  rcases h with h | ⟨b, off, rfl, hlt, hcell⟩
  · subst h; exact Or.inl rfl
  · refine Or.inr ⟨b, off, rfl, hlt, fun j r hj k u hk hu => ?_⟩
    have hjl : j < len := by have := (List.getElem?_eq_some_iff.1 hj).1; simpa using this
    simp only [List.getElem?_map, List.getElem?_range hjl, Option.map_some, Option.some.injEq] at hj
    subst hj
    rw [show off + j * n + k = off + (j * n + k) by omega, hcell j hjl k hk, hc j hjl k u hk hu]

set_option maxRecDepth 100000 in
theorem read_textsZ {H : Type} {enc : TypeId × Value → H} {W : World} {spare : Nat → Bool} {held : Bool} {base t fuel : Nat} {v : Value} {x : DataW H × List MemPlace}
    (ht : Try.prog.underlying t = some (.slice 9)) (hf : DataW.trod enc Try.prog W base spare held fuel t [v] = some x) (hsz : Sz t x.1) :
    ∃ (a : Option Addr) (len cap : Nat) (ss : List ByteArray), v = .slice a len cap ∧ ss.length = len ∧ len * 16 ≤ 140737488351232 ∧ len ≤ cap ∧ (a = none → len = 0 ∧ cap = 0) ∧ TextsAt W a ss ∧ (∀ s, s ∈ ss → s.size ≤ maxLen) := by
  rcases open_strings ht Try.underlying9 (by kernel_rfl) hf with ⟨hcs, hx⟩ | ⟨a, len, cap, zs, hcs, _, hl, hm, hz, hx, hcell, hwz⟩
  · simp at hcs
    subst hcs
    exact ⟨none, 0, 0, [], rfl, rfl, by omega, by omega, fun _ => ⟨rfl, rfl⟩, Or.inl rfl, by simp⟩
  · simp at hcs
    subst hcs
    have hzl : len ≤ zs.length := by rw [hz]; split <;> omega
    have hb : len * 16 ≤ 140737488351232 := by
      rw [hx] at hsz
      have h1 := sz_slice ht hsz
      rw [show Try.prog.bytesOf 9 = 16 from by kernel_rfl] at h1
      simp only [strs, List.length_map, reachBytes, List.length_take] at h1
      omega
    refine ⟨some a, len, cap, zs.take len, rfl, by simp; omega, hb, by omega, by simp, ?_, fun s hs => hwz s (List.mem_of_mem_take hs)⟩
    by_cases h0 : len = 0
    · left; simp [h0]
    · right
      have h1 := hcell 0 (by omega)
      obtain ⟨b, off, spot⟩ := a
      have hspot : spot = none := by simpa [Addr.add] using World.cell?_spot h1
      subst hspot
      refine ⟨b, off, rfl, ?_, fun j hj => ?_⟩
      · have := World.block_lt_of_cell? W _ h1
        simpa [add_plain] using this
      · have hj' : j < len := by simp at hj; omega
        have h2 := hcell j (by omega)
        rw [add_plain] at h2
        rw [h2]
        simp [List.getD, hj']
        rfl

theorem read_items {H : Type} {enc : TypeId × Value → H} {W : World} {spare : Nat → Bool} {held : Bool} {base fuel : Nat} {v : Value} {x : DataW H × List MemPlace}
    (hf : DataW.trod enc Try.prog W base spare held fuel 42 [v] = some x) (hsz : Sz 42 x.1) :
    ∃ (a : Option Addr) (len cap : Nat) (xs : List ItemS), v = .slice a len cap ∧ xs.length = len ∧ len * 24 ≤ 140737488351232 ∧ len ≤ cap ∧ (a = none → len = 0 ∧ cap = 0) ∧ RowsAt W a 2 (xs.map ItemS.cs) ∧ (∀ s, s ∈ xs → s.val.size ≤ maxLen) := by
  obtain ⟨a, len, cap, V, hv, hr, hn, hlc, hB, hm, hF⟩ := read_recsZ Try.underlying42 Try.underlying46 (by kernel_rfl) (by kernel_rfl) (by decide) hf hsz (by rw [show Try.prog.bytesOf 46 = 24 from by kernel_rfl]; decide)
  rw [show Try.prog.bytesOf 46 = 24 from by kernel_rfl] at hB
  have f0 : ∀ j, j < len → V j 0 = .string (strOf (V j 0)) ∧ (strOf (V j 0)).size ≤ maxLen := fun j hj => by obtain ⟨y, m, hy, _⟩ := hF j hj 0 _ rfl; exact recs_strZ Try.underlying9 hy
  have f1 : ∀ j, j < len → V j 1 = .int .i64 (intOf (V j 1)) := fun j hj => by obtain ⟨y, m, hy, _⟩ := hF j hj 1 _ rfl; exact (recs_int Try.underlying3 hy).1
  refine ⟨a, len, cap, (List.range len).map fun j => ⟨strOf (V j 0), intOf (V j 1)⟩, hv, by simp, hB, hlc, hn, ?_, ?_⟩
  · refine rows_of hr fun j hj k u hk hu => ?_
    match k, hk with
    | 0, _ => rw [(f0 j hj).1]; exact Option.some.inj hu
    | 1, _ => rw [f1 j hj]; exact Option.some.inj hu
  · intro s hs
    obtain ⟨j, hj, rfl⟩ := List.mem_map.1 hs
    exact (f0 j (List.mem_range.1 hj)).2
theorem read_hots {H : Type} {enc : TypeId × Value → H} {W : World} {spare : Nat → Bool} {held : Bool} {base fuel : Nat} {v : Value} {x : DataW H × List MemPlace}
    (hf : DataW.trod enc Try.prog W base spare held fuel 24 [v] = some x) (hsz : Sz 24 x.1) :
    ∃ (a : Option Addr) (len cap : Nat) (xs : List HotS), v = .slice a len cap ∧ xs.length = len ∧ len * 64 ≤ 140737488351232 ∧ len ≤ cap ∧ (a = none → len = 0 ∧ cap = 0) ∧ RowsAt W a 5 (xs.map HotS.cs) ∧ (∀ s, s ∈ xs → HotOk W s) := by
  obtain ⟨a, len, cap, V, hv, hr, hn, hlc, hB, hm, hF⟩ := read_recsZ Try.underlying24 Try.underlying44 (by kernel_rfl) (by kernel_rfl) (by decide) hf hsz (by rw [show Try.prog.bytesOf 44 = 64 from by kernel_rfl]; decide)
  rw [show Try.prog.bytesOf 44 = 64 from by kernel_rfl] at hB
  have f0 : ∀ j, j < len → V j 0 = .string (strOf (V j 0)) ∧ (strOf (V j 0)).size ≤ maxLen := fun j hj => by obtain ⟨y, m, hy, _⟩ := hF j hj 0 _ rfl; exact recs_strZ Try.underlying9 hy
  have f1 : ∀ j, j < len → V j 1 = .int .i64 (intOf (V j 1)) := fun j hj => by obtain ⟨y, m, hy, _⟩ := hF j hj 1 _ rfl; exact (recs_int Try.underlying3 hy).1
  have f2 : ∀ j, j < len → V j 2 = .int .i64 (intOf (V j 2)) := fun j hj => by obtain ⟨y, m, hy, _⟩ := hF j hj 2 _ rfl; exact (recs_int Try.underlying3 hy).1
  have f3 : ∀ j, j < len → V j 3 = .int .i64 (intOf (V j 3)) := fun j hj => by obtain ⟨y, m, hy, _⟩ := hF j hj 3 _ rfl; exact (recs_int Try.underlying3 hy).1
  have f4 : ∀ j, j < len → ∃ (xs : List ItemS) , V j 4 = .slice (slcOf (V j 4)).1 (slcOf (V j 4)).2.1 (slcOf (V j 4)).2.2 ∧ xs.length = (slcOf (V j 4)).2.1 ∧ (slcOf (V j 4)).2.1 * 24 ≤ 140737488351232 ∧ (slcOf (V j 4)).2.1 ≤ (slcOf (V j 4)).2.2 ∧ ((slcOf (V j 4)).1 = none → (slcOf (V j 4)).2.1 = 0 ∧ (slcOf (V j 4)).2.2 = 0) ∧ RowsAt W (slcOf (V j 4)).1 2 (xs.map ItemS.cs) ∧ (∀ s, s ∈ xs → s.val.size ≤ maxLen) := fun j hj => by
    obtain ⟨y, m, hy, hz⟩ := hF j hj 4 _ rfl
    obtain ⟨a, l, c, xs, hv, h1, h2, h3, h4, h5, h6⟩ := read_items hy hz
    rw [hv]
    exact ⟨xs, rfl, h1, h2, h3, h4, h5, h6⟩
  obtain ⟨I, hI⟩ := choose_lt f4
  refine ⟨a, len, cap, (List.range len).map fun j => ⟨strOf (V j 0), intOf (V j 1), intOf (V j 2), intOf (V j 3), (slcOf (V j 4)).1, (slcOf (V j 4)).2.1, (slcOf (V j 4)).2.2, I j⟩, hv, by simp, hB, hlc, hn, ?_, ?_⟩
  · refine rows_of hr fun j hj k u hk hu => ?_
    match k, hk with
    | 0, _ => rw [(f0 j hj).1]; exact Option.some.inj hu
    | 1, _ => rw [f1 j hj]; exact Option.some.inj hu
    | 2, _ => rw [f2 j hj]; exact Option.some.inj hu
    | 3, _ => rw [f3 j hj]; exact Option.some.inj hu
    | 4, _ => rw [(hI j hj).1]; exact Option.some.inj hu
  · intro s hs
    obtain ⟨j, hj, rfl⟩ := List.mem_map.1 hs
    have hj := List.mem_range.1 hj
    obtain ⟨e, h1, h2, h3, h4, h5, h6⟩ := hI j hj
    exact ⟨(f0 j hj).2, h1, h3, h2, h4, h5, h6⟩
theorem read_auths {H : Type} {enc : TypeId × Value → H} {W : World} {spare : Nat → Bool} {held : Bool} {base fuel : Nat} {v : Value} {x : DataW H × List MemPlace}
    (hf : DataW.trod enc Try.prog W base spare held fuel 26 [v] = some x) (hsz : Sz 26 x.1) :
    ∃ (a : Option Addr) (len cap : Nat) (xs : List AuthS), v = .slice a len cap ∧ xs.length = len ∧ len * 48 ≤ 140737488351232 ∧ len ≤ cap ∧ (a = none → len = 0 ∧ cap = 0) ∧ RowsAt W a 3 (xs.map AuthS.cs) ∧ (∀ s, s ∈ xs → AuthOk W s) := by
  obtain ⟨a, len, cap, V, hv, hr, hn, hlc, hB, hm, hF⟩ := read_recsZ Try.underlying26 Try.underlying48 (by kernel_rfl) (by kernel_rfl) (by decide) hf hsz (by rw [show Try.prog.bytesOf 48 = 48 from by kernel_rfl]; decide)
  rw [show Try.prog.bytesOf 48 = 48 from by kernel_rfl] at hB
  have f0 : ∀ j, j < len → V j 0 = .string (strOf (V j 0)) ∧ (strOf (V j 0)).size ≤ maxLen := fun j hj => by obtain ⟨y, m, hy, _⟩ := hF j hj 0 _ rfl; exact recs_strZ Try.underlying9 hy
  have f1 : ∀ j, j < len → V j 1 = .bool (boolOf (V j 1)) := fun j hj => by obtain ⟨y, m, hy, _⟩ := hF j hj 1 _ rfl; exact recs_bool Try.underlying4 hy
  have f2 : ∀ j, j < len → ∃ (xs : List ByteArray) , V j 2 = .slice (slcOf (V j 2)).1 (slcOf (V j 2)).2.1 (slcOf (V j 2)).2.2 ∧ xs.length = (slcOf (V j 2)).2.1 ∧ (slcOf (V j 2)).2.1 * 16 ≤ 140737488351232 ∧ (slcOf (V j 2)).2.1 ≤ (slcOf (V j 2)).2.2 ∧ ((slcOf (V j 2)).1 = none → (slcOf (V j 2)).2.1 = 0 ∧ (slcOf (V j 2)).2.2 = 0) ∧ TextsAt W (slcOf (V j 2)).1 xs ∧ (∀ s, s ∈ xs → s.size ≤ maxLen) := fun j hj => by
    obtain ⟨y, m, hy, hz⟩ := hF j hj 2 _ rfl
    obtain ⟨a, l, c, xs, hv, h1, h2, h3, h4, h5, h6⟩ := read_textsZ Try.underlying36 hy hz
    rw [hv]
    exact ⟨xs, rfl, h1, h2, h3, h4, h5, h6⟩
  obtain ⟨I, hI⟩ := choose_lt f2
  refine ⟨a, len, cap, (List.range len).map fun j => ⟨strOf (V j 0), boolOf (V j 1), (slcOf (V j 2)).1, (slcOf (V j 2)).2.1, (slcOf (V j 2)).2.2, I j⟩, hv, by simp, hB, hlc, hn, ?_, ?_⟩
  · refine rows_of hr fun j hj k u hk hu => ?_
    match k, hk with
    | 0, _ => rw [(f0 j hj).1]; exact Option.some.inj hu
    | 1, _ => rw [f1 j hj]; exact Option.some.inj hu
    | 2, _ => rw [(hI j hj).1]; exact Option.some.inj hu
  · intro s hs
    obtain ⟨j, hj, rfl⟩ := List.mem_map.1 hs
    have hj := List.mem_range.1 hj
    obtain ⟨e, h1, h2, h3, h4, h5, h6⟩ := hI j hj
    exact ⟨(f0 j hj).2, h1, h3, h2, h4, h5, h6⟩
theorem read_syss {H : Type} {enc : TypeId × Value → H} {W : World} {spare : Nat → Bool} {held : Bool} {base fuel : Nat} {v : Value} {x : DataW H × List MemPlace}
    (hf : DataW.trod enc Try.prog W base spare held fuel 25 [v] = some x) (hsz : Sz 25 x.1) :
    ∃ (a : Option Addr) (len cap : Nat) (xs : List SysR), v = .slice a len cap ∧ xs.length = len ∧ len * 40 ≤ 140737488351232 ∧ len ≤ cap ∧ (a = none → len = 0 ∧ cap = 0) ∧ RowsAt W a 5 (xs.map SysR.cs) := by
  obtain ⟨a, len, cap, V, hv, hr, hn, hlc, hB, hm, hF⟩ := read_recsZ Try.underlying25 Try.underlying63 (by kernel_rfl) (by kernel_rfl) (by decide) hf hsz (by rw [show Try.prog.bytesOf 63 = 40 from by kernel_rfl]; decide)
  rw [show Try.prog.bytesOf 63 = 40 from by kernel_rfl] at hB
  have f0 : ∀ j, j < len → V j 0 = .int .i64 (intOf (V j 0)) := fun j hj => by obtain ⟨y, m, hy, _⟩ := hF j hj 0 _ rfl; exact (recs_int Try.underlying3 hy).1
  have f1 : ∀ j, j < len → V j 1 = .int .i64 (intOf (V j 1)) := fun j hj => by obtain ⟨y, m, hy, _⟩ := hF j hj 1 _ rfl; exact (recs_int Try.underlying3 hy).1
  have f2 : ∀ j, j < len → V j 2 = .int .i64 (intOf (V j 2)) := fun j hj => by obtain ⟨y, m, hy, _⟩ := hF j hj 2 _ rfl; exact (recs_int Try.underlying3 hy).1
  have f3 : ∀ j, j < len → V j 3 = .int .i64 (intOf (V j 3)) := fun j hj => by obtain ⟨y, m, hy, _⟩ := hF j hj 3 _ rfl; exact (recs_int Try.underlying3 hy).1
  have f4 : ∀ j, j < len → V j 4 = .int .i64 (intOf (V j 4)) := fun j hj => by obtain ⟨y, m, hy, _⟩ := hF j hj 4 _ rfl; exact (recs_int Try.underlying3 hy).1
  refine ⟨a, len, cap, (List.range len).map fun j => ⟨intOf (V j 0), intOf (V j 1), intOf (V j 2), intOf (V j 3), intOf (V j 4)⟩, hv, by simp, hB, hlc, hn, ?_⟩
  refine rows_of hr fun j hj k u hk hu => ?_
  match k, hk with
  | 0, _ => rw [f0 j hj]; exact Option.some.inj hu
  | 1, _ => rw [f1 j hj]; exact Option.some.inj hu
  | 2, _ => rw [f2 j hj]; exact Option.some.inj hu
  | 3, _ => rw [f3 j hj]; exact Option.some.inj hu
  | 4, _ => rw [f4 j hj]; exact Option.some.inj hu
theorem wf_u8 {n : Int} (h : (Lit.int .u8 n).wf = true) : 0 ≤ n := by
  simp [Lit.wf] at h
  have : IntKind.u8.min = 0 := by decide
  omega
theorem read_breaks {H : Type} {enc : TypeId × Value → H} {W : World} {spare : Nat → Bool} {held : Bool} {base fuel : Nat} {v : Value} {x : DataW H × List MemPlace}
    (hf : DataW.trod enc Try.prog W base spare held fuel 23 [v] = some x) (hsz : Sz 23 x.1) :
    ∃ (a : Option Addr) (len cap : Nat) (xs : List BreakS), v = .slice a len cap ∧ xs.length = len ∧ len * 64 ≤ 140737488351232 ∧ len ≤ cap ∧ (a = none → len = 0 ∧ cap = 0) ∧ RowsAt W a 7 (xs.map BreakS.cs) ∧ (∀ s, s ∈ xs → s.res.size ≤ maxLen) ∧ (∀ s, s ∈ xs → 0 ≤ s.gr) := by
  obtain ⟨a, len, cap, V, hv, hr, hn, hlc, hB, hm, hF⟩ := read_recsZ Try.underlying23 Try.underlying51 (by kernel_rfl) (by kernel_rfl) (by decide) hf hsz (by rw [show Try.prog.bytesOf 51 = 64 from by kernel_rfl]; decide)
  rw [show Try.prog.bytesOf 51 = 64 from by kernel_rfl] at hB
  have f0 : ∀ j, j < len → V j 0 = .string (strOf (V j 0)) ∧ (strOf (V j 0)).size ≤ maxLen := fun j hj => by obtain ⟨y, m, hy, _⟩ := hF j hj 0 _ rfl; exact recs_strZ Try.underlying9 hy
  have f1w : ∀ j, j < len → V j 1 = .int .u8 (intOf (V j 1)) ∧ (Lit.int .u8 (intOf (V j 1))).wf = true := fun j hj => by obtain ⟨y, m, hy, _⟩ := hF j hj 1 _ rfl; exact recs_int Try.underlying49 hy
  have f1 : ∀ j, j < len → V j 1 = .int .u8 (intOf (V j 1)) := fun j hj => (f1w j hj).1
  have f2 : ∀ j, j < len → V j 2 = .int .i64 (intOf (V j 2)) := fun j hj => by obtain ⟨y, m, hy, _⟩ := hF j hj 2 _ rfl; exact (recs_int Try.underlying3 hy).1
  have f3 : ∀ j, j < len → V j 3 = .int .i64 (intOf (V j 3)) := fun j hj => by obtain ⟨y, m, hy, _⟩ := hF j hj 3 _ rfl; exact (recs_int Try.underlying3 hy).1
  have f4 : ∀ j, j < len → V j 4 = .int .i64 (intOf (V j 4)) := fun j hj => by obtain ⟨y, m, hy, _⟩ := hF j hj 4 _ rfl; exact (recs_int Try.underlying3 hy).1
  have f5 : ∀ j, j < len → V j 5 = .int .i64 (intOf (V j 5)) := fun j hj => by obtain ⟨y, m, hy, _⟩ := hF j hj 5 _ rfl; exact (recs_int Try.underlying3 hy).1
  have f6 : ∀ j, j < len → V j 6 = .int .i64 (intOf (V j 6)) := fun j hj => by obtain ⟨y, m, hy, _⟩ := hF j hj 6 _ rfl; exact (recs_int Try.underlying3 hy).1
  refine ⟨a, len, cap, (List.range len).map fun j => ⟨strOf (V j 0), intOf (V j 1), intOf (V j 2), intOf (V j 3), intOf (V j 4), intOf (V j 5), intOf (V j 6)⟩, hv, by simp, hB, hlc, hn, ?_, ?_, ?_⟩
  · refine rows_of hr fun j hj k u hk hu => ?_
    match k, hk with
    | 0, _ => rw [(f0 j hj).1]; exact Option.some.inj hu
    | 1, _ => rw [f1 j hj]; exact Option.some.inj hu
    | 2, _ => rw [f2 j hj]; exact Option.some.inj hu
    | 3, _ => rw [f3 j hj]; exact Option.some.inj hu
    | 4, _ => rw [f4 j hj]; exact Option.some.inj hu
    | 5, _ => rw [f5 j hj]; exact Option.some.inj hu
    | 6, _ => rw [f6 j hj]; exact Option.some.inj hu
  · intro s hs
    obtain ⟨j, hj, rfl⟩ := List.mem_map.1 hs
    exact (f0 j (List.mem_range.1 hj)).2
  · intro s hs
    obtain ⟨j, hj, rfl⟩ := List.mem_map.1 hs
    exact wf_u8 (f1w j (List.mem_range.1 hj)).2
theorem read_flows {H : Type} {enc : TypeId × Value → H} {W : World} {spare : Nat → Bool} {held : Bool} {base fuel : Nat} {v : Value} {x : DataW H × List MemPlace}
    (hf : DataW.trod enc Try.prog W base spare held fuel 22 [v] = some x) (hsz : Sz 22 x.1) :
    ∃ (a : Option Addr) (len cap : Nat) (xs : List FlowS), v = .slice a len cap ∧ xs.length = len ∧ len * 120 ≤ 140737488351232 ∧ len ≤ cap ∧ (a = none → len = 0 ∧ cap = 0) ∧ FlowsAt W a xs ∧ (∀ f ∈ xs, f.res.size ≤ maxLen ∧ f.org.size ≤ maxLen ∧ f.ref.size ≤ maxLen) ∧ (∀ f ∈ xs, 0 ≤ f.strat ∧ 0 ≤ f.shape) := by
  obtain ⟨a, len, cap, V, hv, hr, hn, hlc, hB, hm, hF⟩ := read_recsZ Try.underlying22 Try.underlying41 (by kernel_rfl) (by kernel_rfl) (by decide) hf hsz (by rw [show Try.prog.bytesOf 41 = 120 from by kernel_rfl]; decide)
  rw [show Try.prog.bytesOf 41 = 120 from by kernel_rfl] at hB
  have f0 : ∀ j, j < len → V j 0 = .string (strOf (V j 0)) ∧ (strOf (V j 0)).size ≤ maxLen := fun j hj => by obtain ⟨y, m, hy, _⟩ := hF j hj 0 _ rfl; exact recs_strZ Try.underlying9 hy
  have f1 : ∀ j, j < len → V j 1 = .string (strOf (V j 1)) ∧ (strOf (V j 1)).size ≤ maxLen := fun j hj => by obtain ⟨y, m, hy, _⟩ := hF j hj 1 _ rfl; exact recs_strZ Try.underlying9 hy
  have f2 : ∀ j, j < len → V j 2 = .bool (boolOf (V j 2)) := fun j hj => by obtain ⟨y, m, hy, _⟩ := hF j hj 2 _ rfl; exact recs_bool Try.underlying4 hy
  have f3 : ∀ j, j < len → V j 3 = .int .i64 (intOf (V j 3)) ∧ (Lit.int .i64 (intOf (V j 3))).wf = true := fun j hj => by obtain ⟨y, m, hy, _⟩ := hF j hj 3 _ rfl; exact recs_int Try.underlying3 hy
  have f4 : ∀ j, j < len → V j 4 = .int .u8 (intOf (V j 4)) ∧ (Lit.int .u8 (intOf (V j 4))).wf = true := fun j hj => by obtain ⟨y, m, hy, _⟩ := hF j hj 4 _ rfl; exact recs_int Try.underlying38 hy
  have f5 : ∀ j, j < len → V j 5 = .string (strOf (V j 5)) ∧ (strOf (V j 5)).size ≤ maxLen := fun j hj => by obtain ⟨y, m, hy, _⟩ := hF j hj 5 _ rfl; exact recs_strZ Try.underlying9 hy
  have f6 : ∀ j, j < len → V j 6 = .int .u8 (intOf (V j 6)) ∧ (Lit.int .u8 (intOf (V j 6))).wf = true := fun j hj => by obtain ⟨y, m, hy, _⟩ := hF j hj 6 _ rfl; exact recs_int Try.underlying39 hy
  have f7 : ∀ j, j < len → V j 7 = .int .i64 (intOf (V j 7)) ∧ (Lit.int .i64 (intOf (V j 7))).wf = true := fun j hj => by obtain ⟨y, m, hy, _⟩ := hF j hj 7 _ rfl; exact recs_int Try.underlying3 hy
  have f8 : ∀ j, j < len → V j 8 = .int .i64 (intOf (V j 8)) ∧ (Lit.int .i64 (intOf (V j 8))).wf = true := fun j hj => by obtain ⟨y, m, hy, _⟩ := hF j hj 8 _ rfl; exact recs_int Try.underlying3 hy
  have f9 : ∀ j, j < len → V j 9 = .bool (boolOf (V j 9)) := fun j hj => by obtain ⟨y, m, hy, _⟩ := hF j hj 9 _ rfl; exact recs_bool Try.underlying4 hy
  have f10 : ∀ j, j < len → V j 10 = .int .i64 (intOf (V j 10)) ∧ (Lit.int .i64 (intOf (V j 10))).wf = true := fun j hj => by obtain ⟨y, m, hy, _⟩ := hF j hj 10 _ rfl; exact recs_int Try.underlying3 hy
  have f11 : ∀ j, j < len → V j 11 = .bool (boolOf (V j 11)) := fun j hj => by obtain ⟨y, m, hy, _⟩ := hF j hj 11 _ rfl; exact recs_bool Try.underlying4 hy
  refine ⟨a, len, cap, flowsOf V len, hv, flowsOf_length V len, hB, hlc, hn, flows_at hr (fun j hj => (f0 j hj).1) (fun j hj => (f1 j hj).1) f2 f3 f4 (fun j hj => (f5 j hj).1) f6 f7 f8 f9 f10 f11, ?_, ?_⟩
  · intro f hf
    obtain ⟨j, hj, rfl⟩ := List.mem_map.1 hf
    have hj := List.mem_range.1 hj
    exact ⟨(f0 j hj).2, (f1 j hj).2, (f5 j hj).2⟩
  · intro f hf
    obtain ⟨j, hj, rfl⟩ := List.mem_map.1 hf
    have hj := List.mem_range.1 hj
    exact ⟨wf_u8 (f4 j hj).2, wf_u8 (f6 j hj).2⟩

set_option maxRecDepth 100000 in
theorem open_rules {H : Type} {enc : TypeId × Value → H} {W : World} {spare : Nat → Bool} {held : Bool} {base b0 : Nat} {r : Reach} {v : Value} {d : DataW H} {p : List MemPlace}
    (hval : Value.okWide Try.prog W r b0 28 v) (hd : DataW.Trod enc Try.prog W base spare held 28 v d p) (hsz : Sz 28 d) :
    ∃ r : RulesS, v = r.v ∧ RulesAt W r := by
  obtain ⟨cs, rfl, hcz, hF⟩ := open_structZ Try.underlying28 (by kernel_rfl) (by kernel_rfl) hval hd hsz
  obtain ⟨u0, g0, y0, m0, t0, z0⟩ := hF 0 _ rfl
  obtain ⟨u1, g1, y1, m1, t1, z1⟩ := hF 1 _ rfl
  obtain ⟨u2, g2, y2, m2, t2, z2⟩ := hF 2 _ rfl
  obtain ⟨u3, g3, y3, m3, t3, z3⟩ := hF 3 _ rfl
  obtain ⟨u4, g4, y4, m4, t4, z4⟩ := hF 4 _ rfl
  have hcz' : cs.size = 5 := hcz
  obtain rfl : cs = #[u0, u1, u2, u3, u4] := by
    apply Array.ext_getElem?
    intro j
    match j with
    | 0 => exact g0
    | 1 => exact g1
    | 2 => exact g2
    | 3 => exact g3
    | 4 => exact g4
    | j + 5 => rw [Array.getElem?_eq_none (by omega), Array.getElem?_eq_none (by simp)]
  obtain ⟨a0, n0, c0, fl, rfl, p00, p01, p02, p03, p04, p05, p06⟩ := read_flows t0 z0
  obtain ⟨a1, n1, c1, br, rfl, p10, p11, p12, p13, p14, p15, p16⟩ := read_breaks t1 z1
  obtain ⟨a2, n2, c2, ho, rfl, p20, p21, p22, p23, p24, p25⟩ := read_hots t2 z2
  obtain ⟨a3, n3, c3, sy, rfl, p30, p31, p32, p33, p34⟩ := read_syss t3 z3
  obtain ⟨a4, n4, c4, au, rfl, p40, p41, p42, p43, p44, p45⟩ := read_auths t4 z4
  exact ⟨⟨a0, n0, c0, a1, n1, c1, a2, n2, c2, a3, n3, c3, a4, n4, c4, fl, br, ho, sy, au⟩, rfl, ⟨p00, p10, p20, p30, p40, p01, p11, p21, p31, p41, p03, p13, p23, p33, p43, p04, p14, p24, p34, p44, p05, p15, p25, p45, p06, p16⟩⟩
end Go.Proofs.Ytgkdpkpiejjfmaa
