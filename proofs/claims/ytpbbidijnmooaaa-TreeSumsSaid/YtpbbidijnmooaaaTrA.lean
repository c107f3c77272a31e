/- tree: Keys. -/
import Derived.Test.YtpbbidijnmooaaaRuA
import Derived.Test.YtpbbidijnmooaaaRowsOf
import Derived.OwnWalk
namespace Go.Proofs.Ytpbbidijnmooaaa
open Go.RowKit
set_option linter.unusedVariables false
set_option linter.unusedSimpArgs false

structure KeyS where
  kind : Int
  ctx : ByteArray
  res : ByteArray
  org : ByteArray
deriving DecidableEq
structure CallS where
  at_ : Int
  res : ByteArray
  ctx : ByteArray
  org : ByteArray
  inb : Bool
  cnt : Int
  aa : Option Addr
  al : Nat
  ac : Nat
def KeyS.cs (k : KeyS) : List Value := [.int .u8 k.kind, .string k.ctx, .string k.res, .string k.org]
def CallS.c (c : CallS) : Array Value := #[.int .i64 c.at_, .string c.res, .string c.ctx, .string c.org, .bool c.inb, .int .i64 c.cnt, .slice c.aa c.al c.ac]
def noT : ByteArray := ⟨#[]⟩
def keysL (c : CallS) : List KeyS := (⟨3, c.ctx, c.res, noT⟩ : KeyS) :: ⟨4, noT, c.res, noT⟩ :: ((if c.org.toList == [] then [] else [⟨5, noT, c.res, c.org⟩]) ++ (⟨2, c.ctx, noT, noT⟩ :: if c.inb then [⟨1, noT, noT, noT⟩] else []))
def namesB (c : CallS) : Bool := nameB c.res && (nameB c.ctx && (c.org.toList == [] || nameB c.org))
theorem get_allocT (w : World) (o : Obj) (i : Nat) : (w.alloc o).heap[i]? = if i = w.heap.size then some o else w.heap[i]? := by
  show (w.heap.push o)[i]? = _
  rw [Array.getElem?_push]
theorem below_ownK {wr wx : World} {base size n : Nat} {e : TypeId} {v : Value} {xs : List Value} (h : wr.ownsRow base e size v n xs) (hb : Below wr.heap.size wr wx) : wx.ownsRow base e size v n xs :=
  h.kept (row := none) ⟨hb.os, hb.tape, hb.output, hb.size, fun k hk _ => hb.block k hk⟩ (by cases v.ownBlock <;> simp)

set_option maxHeartbeats 3200000 in
set_option maxRecDepth 100000 in
theorem keys_bad {w : World} (c : CallS) (z1 : c.res.size ≤ maxLen) (z2 : c.ctx.size ≤ maxLen) (z3 : c.org.size ≤ maxLen) (hbad : namesB c = false) :
    Calls Try.prog 34 #[.agg c.c] w fun e w' => e = .returned (.tuple #[.slice none 0 0, .int .i64 10]) ∧ Below w.heap.size w w' := by
  obtain ⟨at_, res, ctx, org, inb, cnt, aa, al, ac⟩ := c
  unfold namesB CallS.c at *
  dsimp only at *
  have HB := Lib.hid (show Below w.heap.size w (w.alloc (.cells #[.int .i64 at_, .string res, .string ctx, .string org, .bool inb, .int .i64 cnt, .slice aa al ac] 40)) from (Below.refl _ _).alloc (Nat.le_refl _) _)
  have HR := Lib.hid (fun w => isname_any res z1 w)
  have HC := Lib.hid (fun w => isname_any ctx z2 w)
  have HO := Lib.hid (fun w => isname_any org z3 w)
  generalize nameB res = R at *
  generalize nameB ctx = C at *
  generalize nameB org = O at *
  go_enter Try.func34, Try.ntmps34
  go_wp2_with (fail)
  refine (HR.out _).mono ?_
  rintro e w1 ⟨rfl, hq⟩
  subst hq
  cases R with
  | false =>
    go_wp2_with (fail)
    go_ret2
    exact ⟨rfl, HB.out⟩
  | true =>
    go_wp2_with (fail)
    refine (HC.out _).mono ?_
    rintro e w1 ⟨rfl, hq⟩
    subst hq
    cases C with
    | false =>
      go_wp2_with (fail)
      go_ret2
      exact ⟨rfl, HB.out⟩
    | true =>
      have horg : (org.toList == []) = false ∧ O = false := by simpa using hbad
      obtain ⟨h1, rfl⟩ := horg
      have h2 : ¬ org.toList = [] := by simpa using h1
      go_wp2_with (fail)
      refine (HO.out _).mono ?_
      rintro e w1 ⟨rfl, hq⟩
      subst hq
      go_wp2_with (fail)
      go_ret2
      exact ⟨rfl, HB.out⟩
end Go.Proofs.Ytpbbidijnmooaaa
