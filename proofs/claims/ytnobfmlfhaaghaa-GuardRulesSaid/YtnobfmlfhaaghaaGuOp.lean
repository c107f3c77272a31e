/- Openers of lists of systems, of what is so now. -/
import Derived.Test.YtnobfmlfhaaghaaHandSy
import Derived.Test.YtnobfmlfhaaghaaGuK
namespace Go.Proofs.Ytnobfmlfhaaghaa
open Go.RowKit
set_option linter.unusedVariables false
set_option linter.unusedSimpArgs false

set_option maxRecDepth 100000 in
theorem slice_one {H : Type} {enc : TypeId × Value → H} {W : World} {spare : Nat → Bool} {held : Bool} {base b0 : Nat} {t e : TypeId} {r : Reach} {v : Value} {d : DataW H} {p : List MemPlace} (ht : Try.prog.underlying t = some (.slice e))
    (hval : Value.okWide Try.prog W r b0 t v) (hd : DataW.Trod enc Try.prog W base spare held t v d p) : ∃ m, DataW.trod enc Try.prog W base spare held m t [v] = some (d, p) := by
  obtain ⟨a, l, c, rfl⟩ := Go.WideShapes.okWide_slice ht hval
  exact hd
structure SysL where
  a : Option Addr
  n : Nat
  c : Nat
  xs : List SysR
def SysL.v (r : SysL) : Value := .slice r.a r.n r.c
structure SysLAt (w : World) (r : SysL) : Prop where
  l : r.xs.length = r.n
  b : r.n * 40 ≤ 140737488351232
  m : r.n ≤ r.c
  row : RowsAt w r.a 5 (r.xs.map SysR.cs)
set_option maxRecDepth 100000 in
theorem open_syss {H : Type} {enc : TypeId × Value → H} {W : World} {spare : Nat → Bool} {held : Bool} {base b0 : Nat} {r : Reach} {v : Value} {d : DataW H} {p : List MemPlace}
    (hval : Value.okWide Try.prog W r b0 43 v) (hd : DataW.Trod enc Try.prog W base spare held 43 v d p) (hsz : Sz 43 d) :
    ∃ r : SysL, v = r.v ∧ SysLAt W r := by
  obtain ⟨m, hm⟩ := slice_one Try.underlying43 hval hd
  have hsz1 : Sz 43 (d, p).1 := hsz
  obtain ⟨a, len, cap, xs, hv, h1, h2, h3, h4, h5⟩ := read_syss hm hsz1
  exact ⟨⟨a, len, cap, xs⟩, hv, h1, h2, h3, h5⟩
structure NowL where
  a : Option Addr
  n : Nat
  c : Nat
  xs : List NowS
def NowL.v (r : NowL) : Value := .slice r.a r.n r.c
structure NowLAt (w : World) (r : NowL) : Prop where
  l : r.xs.length = r.n
  b : r.n * 56 ≤ 140737488351232
  m : r.n ≤ r.c
  row : RowsAt w r.a 7 (r.xs.map NowS.cs)
set_option maxRecDepth 100000 in
theorem open_nows {H : Type} {enc : TypeId × Value → H} {W : World} {spare : Nat → Bool} {held : Bool} {base b0 : Nat} {r : Reach} {v : Value} {d : DataW H} {p : List MemPlace}
    (hval : Value.okWide Try.prog W r b0 52 v) (hd : DataW.Trod enc Try.prog W base spare held 52 v d p) (hsz : Sz 52 d) :
    ∃ r : NowL, v = r.v ∧ NowLAt W r := by
  obtain ⟨m, hf⟩ := slice_one Try.underlying52 hval hd
  have hsz1 : Sz 52 (d, p).1 := hsz
  obtain ⟨a, len, cap, V, hv, hr, hn, hlc, hB, hm, hF⟩ := read_recsZ Try.underlying52 Try.underlying25 (by kernel_rfl) (by kernel_rfl) (by decide) hf hsz1 (by rw [show Try.prog.bytesOf 25 = 56 from by kernel_rfl]; decide)
  rw [show Try.prog.bytesOf 25 = 56 from by kernel_rfl] at hB
  have f0 : ∀ j, j < len → V j 0 = .int .i64 (intOf (V j 0)) := fun j hj => by obtain ⟨y, m, hy, _⟩ := hF j hj 0 _ rfl; exact (recs_int Try.underlying3 hy).1
  have f1 : ∀ j, j < len → V j 1 = .int .i64 (intOf (V j 1)) := fun j hj => by obtain ⟨y, m, hy, _⟩ := hF j hj 1 _ rfl; exact (recs_int Try.underlying3 hy).1
  have f2 : ∀ j, j < len → V j 2 = .int .i64 (intOf (V j 2)) := fun j hj => by obtain ⟨y, m, hy, _⟩ := hF j hj 2 _ rfl; exact (recs_int Try.underlying3 hy).1
  have f3 : ∀ j, j < len → V j 3 = .int .i64 (intOf (V j 3)) := fun j hj => by obtain ⟨y, m, hy, _⟩ := hF j hj 3 _ rfl; exact (recs_int Try.underlying3 hy).1
  have f4 : ∀ j, j < len → V j 4 = .int .i64 (intOf (V j 4)) := fun j hj => by obtain ⟨y, m, hy, _⟩ := hF j hj 4 _ rfl; exact (recs_int Try.underlying3 hy).1
  have f5 : ∀ j, j < len → V j 5 = .int .i64 (intOf (V j 5)) := fun j hj => by obtain ⟨y, m, hy, _⟩ := hF j hj 5 _ rfl; exact (recs_int Try.underlying3 hy).1
  have f6 : ∀ j, j < len → V j 6 = .int .i64 (intOf (V j 6)) := fun j hj => by obtain ⟨y, m, hy, _⟩ := hF j hj 6 _ rfl; exact (recs_int Try.underlying3 hy).1
  refine ⟨⟨a, len, cap, (List.range len).map fun j => ⟨intOf (V j 0), intOf (V j 1), intOf (V j 2), intOf (V j 3), intOf (V j 4), intOf (V j 5), intOf (V j 6)⟩⟩, hv, by simp, hB, hlc, ?_⟩
  refine rows_of hr fun j hj k u hk hu => ?_
  match k, hk with
  | 0, _ => rw [f0 j hj]; exact Option.some.inj hu
  | 1, _ => rw [f1 j hj]; exact Option.some.inj hu
  | 2, _ => rw [f2 j hj]; exact Option.some.inj hu
  | 3, _ => rw [f3 j hj]; exact Option.some.inj hu
  | 4, _ => rw [f4 j hj]; exact Option.some.inj hu
  | 5, _ => rw [f5 j hj]; exact Option.some.inj hu
  | 6, _ => rw [f6 j hj]; exact Option.some.inj hu

end Go.Proofs.Ytnobfmlfhaaghaa
