import Derived.Laws.EntriesVeiled
import Derived.Test.YtemlafbkkaloiaaGreatGRuA
import Derived.Test.YtemlafbkkaloiaaGreatGFlowsIn
import Derived.Test.YtemlafbkkaloiaaGreatGZin
set_option linter.unusedVariables false
set_option linter.unusedSimpArgs false
namespace Go.Proofs.YtemlafbkkaloiaaGreat
open Go.RowKit
structure BreakS where
  res : ByteArray
  gr : Int
  cnt : Int
  slow : Int
  least : Int
  win : Int
  rec_ : Int
def BreakS.cells (r : BreakS) : Array Value := #[.string r.res, .int .u8 r.gr, .int .i64 r.cnt, .int .i64 r.slow, .int .i64 r.least, .int .i64 r.win, .int .i64 r.rec_]
def BreakS.v (r : BreakS) : Value := .agg r.cells
structure BreakBox (w : World) (b : Nat) (r : BreakS) : Prop where
  c0 : w.cell? ⟨b, 0, none⟩ = some (.string r.res)
  c1 : w.cell? ⟨b, 1, none⟩ = some (.int .u8 r.gr)
  c2 : w.cell? ⟨b, 2, none⟩ = some (.int .i64 r.cnt)
  c3 : w.cell? ⟨b, 3, none⟩ = some (.int .i64 r.slow)
  c4 : w.cell? ⟨b, 4, none⟩ = some (.int .i64 r.least)
  c5 : w.cell? ⟨b, 5, none⟩ = some (.int .i64 r.win)
  c6 : w.cell? ⟨b, 6, none⟩ = some (.int .i64 r.rec_)
theorem BreakBox.below {w w' : World} {b : Nat} {r : BreakS} (h : BreakBox w b r) (hb : Below w.heap.size w w') : BreakBox w' b r := by
  have hl := World.block_lt_of_cell? w _ h.c0
  have g : ∀ o v, w.cell? ⟨b, o, none⟩ = some v → w'.cell? ⟨b, o, none⟩ = some v := fun o v e => (hb.cell (p := ⟨b, o, none⟩) hl).trans e
  exact ⟨g _ _ h.c0, g _ _ h.c1, g _ _ h.c2, g _ _ h.c3, g _ _ h.c4, g _ _ h.c5, g _ _ h.c6⟩
def mostR (r : BreakS) : Int := if r.gr = 2 then 1099511627776 else 1000
theorem get_allocB (w : World) (o : Obj) (i : Nat) : (w.alloc o).heap[i]? = if i = w.heap.size then some o else w.heap[i]? := by
  show (Array.push w.heap o)[i]? = _
  rw [Array.getElem?_push]
structure BreakOk (r : BreakS) : Prop where
  gr : r.gr ≤ 2
  c0 : 0 ≤ r.cnt
  c1 : r.cnt ≤ mostR r
  s : r.gr = 0 → 1 ≤ r.slow ∧ r.slow ≤ 3600000000
  l0 : 1 ≤ r.least
  l1 : r.least ≤ 1099511627776
  w0 : 1000000 ≤ r.win
  w1 : r.win ≤ 120000000
  r0 : 1000000 ≤ r.rec_
  r1 : r.rec_ ≤ 3600000000
end Go.Proofs.YtemlafbkkaloiaaGreat
namespace Go.Proofs.YtemlafbkkaloiaaGreat
open Go.ChangeShapes Go.WideShapes Go.ChangeAt Go.RowKit Go.Deep
def RowsAt (w : World) (a : Option Addr) (n : Nat) (rs : List (List Value)) : Prop :=
  rs = [] ∨ ∃ b off, a = some ⟨b, off, none⟩ ∧ b < w.heap.size ∧ ∀ j r, rs[j]? = some r → ∀ k u, k < n → r[k]? = some u → w.cell? ⟨b, off + j * n + k, none⟩ = some u
theorem RowsAt.below {N : Nat} {w w' : World} {a : Option Addr} {n : Nat} {rs : List (List Value)} (h : RowsAt w a n rs) (hn : w.heap.size ≤ N) (hb : Below N w w') : RowsAt w' a n rs := by
  rcases h with h | ⟨b, off, rfl, hl, hc⟩
  · exact Or.inl h
  · exact Or.inr ⟨b, off, rfl, Nat.lt_of_lt_of_le hl hb.size, fun j r hj k u hk hu => (World.cell?_of_block (a := ⟨b, off + j * n + k, none⟩) (hb.block b (Nat.lt_of_lt_of_le hl hn))).trans (hc j r hj k u hk hu)⟩
theorem TextsAt.below2 {N : Nat} {w w' : World} {a : Option Addr} {ss : List ByteArray} (h : TextsAt w a ss) (hn : w.heap.size ≤ N) (hb : Below N w w') : TextsAt w' a ss := by
  rcases h with h | ⟨b, off, rfl, hl, hc⟩
  · exact Or.inl h
  · exact Or.inr ⟨b, off, rfl, Nat.lt_of_lt_of_le hl hb.size, fun j hj => (World.cell?_of_block (a := ⟨b, off + j, none⟩) (hb.block b (Nat.lt_of_lt_of_le hl hn))).trans (hc j hj)⟩
structure ItemS where
  val : ByteArray
  cnt : Int
structure HotS where
  res : ByteArray
  idx : Int
  cnt : Int
  secs : Int
  ia : Option Addr
  il : Nat
  ic : Nat
  items : List ItemS
structure SysR where
  q : Int
  t : Int
  r : Int
  l : Int
  c : Int
structure AuthS where
  res : ByteArray
  white : Bool
  oa : Option Addr
  ol : Nat
  oc : Nat
  orig : List ByteArray
def ItemS.cs (x : ItemS) : List Value := [.string x.val, .int .i64 x.cnt]
def HotS.cs (h : HotS) : List Value := [.string h.res, .int .i64 h.idx, .int .i64 h.cnt, .int .i64 h.secs, .slice h.ia h.il h.ic]
def SysR.cs (s : SysR) : List Value := [.int .i64 s.q, .int .i64 s.t, .int .i64 s.r, .int .i64 s.l, .int .i64 s.c]
def AuthS.cs (x : AuthS) : List Value := [.string x.res, .bool x.white, .slice x.oa x.ol x.oc]
def BreakS.cs (r : BreakS) : List Value := [.string r.res, .int .u8 r.gr, .int .i64 r.cnt, .int .i64 r.slow, .int .i64 r.least, .int .i64 r.win, .int .i64 r.rec_]
structure HotOk (w : World) (h : HotS) : Prop where
  z : h.res.size ≤ maxLen
  l : h.items.length = h.il
  lc : h.il ≤ h.ic
  b : h.il * 24 ≤ 140737488351232
  nil : h.ia = none → h.il = 0 ∧ h.ic = 0
  at_ : RowsAt w h.ia 2 (h.items.map ItemS.cs)
  iz : ∀ x ∈ h.items, x.val.size ≤ maxLen
structure AuthOk (w : World) (x : AuthS) : Prop where
  z : x.res.size ≤ maxLen
  l : x.orig.length = x.ol
  lc : x.ol ≤ x.oc
  b : x.ol * 16 ≤ 140737488351232
  nil : x.oa = none → x.ol = 0 ∧ x.oc = 0
  at_ : TextsAt w x.oa x.orig
  iz : ∀ s ∈ x.orig, s.size ≤ maxLen
theorem HotOk.below {N : Nat} {w w' : World} {h : HotS} (x : HotOk w h) (hn : w.heap.size ≤ N) (hb : Below N w w') : HotOk w' h := ⟨x.z, x.l, x.lc, x.b, x.nil, x.at_.below hn hb, x.iz⟩
theorem AuthOk.below {N : Nat} {w w' : World} {h : AuthS} (x : AuthOk w h) (hn : w.heap.size ≤ N) (hb : Below N w w') : AuthOk w' h := ⟨x.z, x.l, x.lc, x.b, x.nil, x.at_.below2 hn hb, x.iz⟩
structure RulesS where
  a0 : Option Addr
  n0 : Nat
  c0 : Nat
  a1 : Option Addr
  n1 : Nat
  c1 : Nat
  a2 : Option Addr
  n2 : Nat
  c2 : Nat
  a3 : Option Addr
  n3 : Nat
  c3 : Nat
  a4 : Option Addr
  n4 : Nat
  c4 : Nat
  fl : List FlowS
  br : List BreakS
  ho : List HotS
  sy : List SysR
  au : List AuthS
def RulesS.cs (r : RulesS) : Array Value := #[.slice r.a0 r.n0 r.c0, .slice r.a1 r.n1 r.c1, .slice r.a2 r.n2 r.c2, .slice r.a3 r.n3 r.c3, .slice r.a4 r.n4 r.c4]
def RulesS.v (r : RulesS) : Value := .agg r.cs
structure RulesAt (w : World) (r : RulesS) : Prop where
  l0 : r.fl.length = r.n0
  l1 : r.br.length = r.n1
  l2 : r.ho.length = r.n2
  l3 : r.sy.length = r.n3
  l4 : r.au.length = r.n4
  s0 : r.n0 * 120 ≤ 140737488351232
  s1 : r.n1 * 64 ≤ 140737488351232
  s2 : r.n2 * 64 ≤ 140737488351232
  s3 : r.n3 * 40 ≤ 140737488351232
  s4 : r.n4 * 48 ≤ 140737488351232
  i0 : r.a0 = none → r.n0 = 0 ∧ r.c0 = 0
  i1 : r.a1 = none → r.n1 = 0 ∧ r.c1 = 0
  i2 : r.a2 = none → r.n2 = 0 ∧ r.c2 = 0
  i3 : r.a3 = none → r.n3 = 0 ∧ r.c3 = 0
  i4 : r.a4 = none → r.n4 = 0 ∧ r.c4 = 0
  fl : FlowsAt w r.a0 r.fl
  br : RowsAt w r.a1 7 (r.br.map BreakS.cs)
  ho : RowsAt w r.a2 5 (r.ho.map HotS.cs)
  sy : RowsAt w r.a3 5 (r.sy.map SysR.cs)
  au : RowsAt w r.a4 3 (r.au.map AuthS.cs)
  zf : ∀ f ∈ r.fl, f.res.size ≤ maxLen ∧ f.org.size ≤ maxLen ∧ f.ref.size ≤ maxLen
  zb : ∀ b ∈ r.br, b.res.size ≤ maxLen
  zh : ∀ h ∈ r.ho, HotOk w h
  za : ∀ a ∈ r.au, AuthOk w a
  wf : ∀ f ∈ r.fl, 0 ≤ f.strat ∧ 0 ≤ f.shape
  wb : ∀ b ∈ r.br, 0 ≤ b.gr
theorem RulesAt.below {N : Nat} {w w' : World} {r : RulesS} (x : RulesAt w r) (hn : w.heap.size ≤ N) (hb : Below N w w') : RulesAt w' r :=
  ⟨x.l0, x.l1, x.l2, x.l3, x.l4, x.s0, x.s1, x.s2, x.s3, x.s4, x.i0, x.i1, x.i2, x.i3, x.i4, x.fl.below hn hb, x.br.below hn hb, x.ho.below hn hb, x.sy.below hn hb, x.au.below hn hb, x.zf, x.zb, fun h m => (x.zh h m).below hn hb, fun a m => (x.za a m).below hn hb, x.wf, x.wb⟩
/-! How they are opened. -/
theorem rows_of {α : Type} {w : World} {a : Option Addr} {n len : Nat} {V : Nat → Nat → Value} {mk : Nat → α} {cs : α → List Value} (h : RecsAt w a n len V) (hc : ∀ j, j < len → ∀ k u, k < n → (cs (mk j))[k]? = some u → V j k = u) :
    RowsAt w a n (((List.range len).map mk).map cs) := by
  rcases h with h | ⟨b, off, rfl, hlt, hcell⟩
  · subst h; exact Or.inl rfl
  · refine Or.inr ⟨b, off, rfl, hlt, fun j r hj k u hk hu => ?_⟩
    have hjl : j < len := by have := (List.getElem?_eq_some_iff.1 hj).1; simpa using this
    simp only [List.getElem?_map, List.getElem?_range hjl, Option.map_some, Option.some.injEq] at hj
    subst hj
    rw [show off + j * n + k = off + (j * n + k) by omega, hcell j hjl k hk, hc j hjl k u hk hu]
theorem read_items {H : Type} {enc : TypeId × Value → H} {W : World} {spare : Nat → Bool} {held : Bool} {base fuel : Nat} {v : Value} {x : DataW H × List MemPlace}
    (hf : DataW.trod enc Tryz.prog W base spare held fuel 22 [v] = some x) (hsz : Sz 22 x.1) :
    ∃ (a : Option Addr) (len cap : Nat) (xs : List ItemS), v = .slice a len cap ∧ xs.length = len ∧ len * 24 ≤ 140737488351232 ∧ len ≤ cap ∧ (a = none → len = 0 ∧ cap = 0) ∧ RowsAt W a 2 (xs.map ItemS.cs) ∧ (∀ s, s ∈ xs → s.val.size ≤ maxLen) := by
  obtain ⟨a, len, cap, V, hv, hr, hn, hlc, hB, hm, hF⟩ := read_recsZ Tryz.underlying22 Tryz.underlying52 (by kernel_rfl) (by kernel_rfl) (by decide) hf hsz (by rw [show Tryz.prog.bytesOf 52 = 24 from by kernel_rfl]; decide)
  rw [show Tryz.prog.bytesOf 52 = 24 from by kernel_rfl] at hB
  have f0 : ∀ j, j < len → V j 0 = .string (strOf (V j 0)) ∧ (strOf (V j 0)).size ≤ maxLen := fun j hj => by obtain ⟨y, m, hy, _⟩ := hF j hj 0 _ rfl; exact recs_strZ Tryz.underlying9 hy
  have f1 : ∀ j, j < len → V j 1 = .int .i64 (intOf (V j 1)) := fun j hj => by obtain ⟨y, m, hy, _⟩ := hF j hj 1 _ rfl; exact (recs_int Tryz.underlying3 hy).1
  refine ⟨a, len, cap, (List.range len).map fun j => ⟨strOf (V j 0), intOf (V j 1)⟩, hv, by simp, hB, hlc, hn, ?_, ?_⟩
  · refine rows_of hr fun j hj k u hk hu => ?_
    match k, hk with
    | 0, _ => rw [(f0 j hj).1]; exact Option.some.inj hu
    | 1, _ => rw [f1 j hj]; exact Option.some.inj hu
  · intro s hs
    obtain ⟨j, hj, rfl⟩ := List.mem_map.1 hs
    exact (f0 j (List.mem_range.1 hj)).2
end Go.Proofs.YtemlafbkkaloiaaGreat
