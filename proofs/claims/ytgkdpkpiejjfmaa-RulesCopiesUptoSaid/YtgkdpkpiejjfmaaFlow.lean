/- Flow rules in memory; whom they concern. -/
import Derived.Test.YtgkdpkpiejjfmaaProg
import Derived.WalkKit
import Derived.ProofKit
import Derived.Below
import Derived.Deep.RegionWith
import Derived.Deep.QuietTactic
import Derived.BigQuiet
import Derived.Lib.Hide
namespace Go.Proofs.Ytgkdpkpiejjfmaa
open Go.RowKit
set_option linter.unusedVariables false
set_option linter.unusedSimpArgs false

theorem below_drewF {n : Nat} {a w : World} (h : Below n a w) (q : Nat) : Below n a (w.drewN q) := ⟨h.os, h.tape, h.output, h.size, h.block⟩
structure FlowS where
  res : ByteArray
  org : ByteArray
  thr : Bool
  cnt : Int
  strat : Int
  ref : ByteArray
  shape : Int
  warm : Int
  queue : Int
  cl : Bool
  id : Int
  fb : Bool
def FlowS.cells (f : FlowS) : Array Value :=
  #[.string f.res, .string f.org, .bool f.thr, .int .i64 f.cnt, .int .u8 f.strat, .string f.ref, .int .u8 f.shape, .int .i64 f.warm, .int .i64 f.queue, .bool f.cl, .int .i64 f.id, .bool f.fb]
def FlowS.v (f : FlowS) : Value := .agg f.cells

/-- One rule at an address. -/
structure FlowAt (w : World) (b o : Nat) (f : FlowS) : Prop where
  c0 : w.cell? ⟨b, o, none⟩ = some (.string f.res)
  c1 : w.cell? ⟨b, o + 1, none⟩ = some (.string f.org)
  c2 : w.cell? ⟨b, o + 2, none⟩ = some (.bool f.thr)
  c3 : w.cell? ⟨b, o + 3, none⟩ = some (.int .i64 f.cnt)
  c4 : w.cell? ⟨b, o + 4, none⟩ = some (.int .u8 f.strat)
  c5 : w.cell? ⟨b, o + 5, none⟩ = some (.string f.ref)
  c6 : w.cell? ⟨b, o + 6, none⟩ = some (.int .u8 f.shape)
  c7 : w.cell? ⟨b, o + 7, none⟩ = some (.int .i64 f.warm)
  c8 : w.cell? ⟨b, o + 8, none⟩ = some (.int .i64 f.queue)
  c9 : w.cell? ⟨b, o + 9, none⟩ = some (.bool f.cl)
  c10 : w.cell? ⟨b, o + 10, none⟩ = some (.int .i64 f.id)
  c11 : w.cell? ⟨b, o + 11, none⟩ = some (.bool f.fb)
theorem FlowAt.of_block {w w' : World} {b o : Nat} {f : FlowS} (h : FlowAt w b o f) (hb : w'.heap[b]? = w.heap[b]?) : FlowAt w' b o f :=
  ⟨(World.cell?_of_block (a := ⟨b, o, none⟩) hb).trans h.c0, (World.cell?_of_block (a := ⟨b, o + 1, none⟩) hb).trans h.c1, (World.cell?_of_block (a := ⟨b, o + 2, none⟩) hb).trans h.c2, (World.cell?_of_block (a := ⟨b, o + 3, none⟩) hb).trans h.c3, (World.cell?_of_block (a := ⟨b, o + 4, none⟩) hb).trans h.c4, (World.cell?_of_block (a := ⟨b, o + 5, none⟩) hb).trans h.c5, (World.cell?_of_block (a := ⟨b, o + 6, none⟩) hb).trans h.c6, (World.cell?_of_block (a := ⟨b, o + 7, none⟩) hb).trans h.c7, (World.cell?_of_block (a := ⟨b, o + 8, none⟩) hb).trans h.c8, (World.cell?_of_block (a := ⟨b, o + 9, none⟩) hb).trans h.c9, (World.cell?_of_block (a := ⟨b, o + 10, none⟩) hb).trans h.c10, (World.cell?_of_block (a := ⟨b, o + 11, none⟩) hb).trans h.c11⟩
/-- Where a slice of rules reads as a list. -/
def FlowsAt (w : World) (a : Option Addr) (fs : List FlowS) : Prop :=
  fs = [] ∨ ∃ b off, a = some ⟨b, off, none⟩ ∧ b < w.heap.size ∧ ∀ j f, fs[j]? = some f → FlowAt w b (off + j * 12) f
theorem FlowsAt.below {n : Nat} {w w' : World} {a : Option Addr} {fs : List FlowS} (h : FlowsAt w a fs) (hn : w.heap.size ≤ n) (hb : Below n w w') : FlowsAt w' a fs := by
  rcases h with h | ⟨b, off, rfl, hlt, hc⟩
  · exact Or.inl h
  · exact Or.inr ⟨b, off, rfl, Nat.lt_of_lt_of_le hlt hb.size, fun j f hj => (hc j f hj).of_block (hb.block b (by omega))⟩

def defaultL : List UInt8 := [100, 101, 102, 97, 117, 108, 116]
def otherL : List UInt8 := [111, 116, 104, 101, 114]
/-- A rule of its own for that origin, of the same resource. -/
def ownB (g : FlowS) (res origin : ByteArray) : Bool := (g.res.toList == res.toList) && ((g.org.toList == origin.toList) && (!(origin.toList == defaultL) && !(origin.toList == otherL)))
def concF (fs : List FlowS) (f : FlowS) (origin : ByteArray) : Bool :=
  if f.org.toList == defaultL then true else if f.org.toList == origin.toList then true else if f.org.toList == otherL then !(fs.any fun g => ownB g f.res origin) else false
def concB (fs : List FlowS) (i : Nat) (origin : ByteArray) : Bool :=
  match fs[i]? with
  | none => false
  | some f => concF fs f origin
end Go.Proofs.Ytgkdpkpiejjfmaa
