/- reject.Where and the reference's. -/
import Derived.Test.YtalpilahemajoaaFlow
namespace Go.Proofs.Ytalpilahemajoaa
open Go.RowKit
set_option linter.unusedVariables false
set_option linter.unusedSimpArgs false

structure CallS where
  at_ : Int
  res : ByteArray
  ctx : ByteArray
  org : ByteArray
  inb : Bool
  cnt : Int
  args : Value
def CallS.v (c : CallS) : Value := .agg #[.int .i64 c.at_, .string c.res, .string c.ctx, .string c.org, .bool c.inb, .int .i64 c.cnt, c.args]
structure LookS where
  res : ByteArray
  ctx : ByteArray
  org : ByteArray
  skip : Bool
def LookS.v (l : LookS) : Value := .agg #[.string l.res, .string l.ctx, .string l.org, .bool l.skip]
def noT : ByteArray := ⟨#[]⟩
def whereL (f : FlowS) (c : CallS) : LookS :=
  if f.strat = 1 then ⟨f.ref, noT, noT, false⟩ else
  if f.strat = 2 then (if c.ctx.toList == f.ref.toList then ⟨c.res, c.ctx, noT, false⟩ else ⟨noT, noT, noT, true⟩) else
  if f.org.toList == defaultL then ⟨c.res, noT, noT, false⟩ else ⟨c.res, noT, c.org, false⟩

set_option maxHeartbeats 3200000 in
set_option maxRecDepth 100000 in
theorem where_any (f : FlowS) (c : CallS) (hargs : c.args.oneCell' = true) (w : World) :
    Calls Try.prog 15 #[f.v, c.v] w fun e w' => e = .returned (whereL f c).v ∧ Below w.heap.size w w' := by
  have B := Lib.hid (fun o1 o2 o3 => (((Below.refl w.heap.size w).alloc (Nat.le_refl _) o1).alloc (by simp) o2).alloc (by simp; omega) o3)
  obtain ⟨res, org, thr, cnt, strat, ref, shape, warm, queue, cl, id, fb⟩ := f
  obtain ⟨at_, cres, ctx, corg, inb, ccnt, args⟩ := c
  unfold FlowS.v FlowS.cells CallS.v whereL LookS.v noT
  rw [show defaultL = [100, 101, 102, 97, 117, 108, 116] from rfl]
  dsimp only at *
  by_cases h1 : strat = 1
  · subst h1
    go_enter Try.func15, Try.ntmps15
    go_wp2_with (fail)
    refine bodyPost_ret (v := .agg #[.string ref, .string ⟨#[]⟩, .string ⟨#[]⟩, .bool false]) (by simp [results, Try.f15, go_sem]) rfl ?_
    exact ⟨rfl, B.out _ _ _⟩
  · have h1b : (strat == 1) = false := beq_eq_false_iff_ne.2 h1
    rw [if_neg h1]
    by_cases h2 : strat = 2
    · subst h2
      cases h3 : (ctx.toList == ref.toList)
      · go_enter Try.func15, Try.ntmps15
        go_wp2_with (fail)
        refine bodyPost_ret (v := .agg #[.string ⟨#[]⟩, .string ⟨#[]⟩, .string ⟨#[]⟩, .bool true]) (by simp [results, Try.f15, go_sem]) rfl ?_
        exact ⟨rfl, B.out _ _ _⟩
      · go_enter Try.func15, Try.ntmps15
        go_wp2_with (fail)
        refine bodyPost_ret (v := .agg #[.string cres, .string ctx, .string ⟨#[]⟩, .bool false]) (by simp [results, Try.f15, go_sem]) rfl ?_
        exact ⟨rfl, B.out _ _ _⟩
    · have h2b : (strat == 2) = false := beq_eq_false_iff_ne.2 h2
      rw [if_neg h2]
      cases h3 : (org.toList == [100, 101, 102, 97, 117, 108, 116])
      · go_enter Try.func15, Try.ntmps15
        go_wp2_with (fail)
        refine bodyPost_ret (v := .agg #[.string cres, .string ⟨#[]⟩, .string corg, .bool false]) (by simp [results, Try.f15, go_sem]) rfl ?_
        exact ⟨rfl, B.out _ _ _⟩
      · go_enter Try.func15, Try.ntmps15
        go_wp2_with (fail)
        refine bodyPost_ret (v := .agg #[.string cres, .string ⟨#[]⟩, .string ⟨#[]⟩, .bool false]) (by simp [results, Try.f15, go_sem]) rfl ?_
        exact ⟨rfl, B.out _ _ _⟩

set_option maxHeartbeats 3200000 in
set_option maxRecDepth 100000 in
theorem rwhere_any (f : FlowS) (c : CallS) (hargs : c.args.oneCell' = true) (w : World) :
    Calls Try.prog 18 #[f.v, c.v] w fun e w' => e = .returned (whereL f c).v ∧ Below w.heap.size w w' := by
  have B := Lib.hid (fun o1 o2 o3 => (((Below.refl w.heap.size w).alloc (Nat.le_refl _) o1).alloc (by simp) o2).alloc (by simp; omega) o3)
  obtain ⟨res, org, thr, cnt, strat, ref, shape, warm, queue, cl, id, fb⟩ := f
  obtain ⟨at_, cres, ctx, corg, inb, ccnt, args⟩ := c
  unfold FlowS.v FlowS.cells CallS.v whereL LookS.v noT
  rw [show defaultL = [100, 101, 102, 97, 117, 108, 116] from rfl]
  dsimp only at *
  by_cases h1 : strat = 1
  · subst h1
    go_enter Try.func18, Try.ntmps18
    go_wp2_with (fail)
    refine bodyPost_ret (v := .agg #[.string ref, .string ⟨#[]⟩, .string ⟨#[]⟩, .bool false]) (by simp [results, Try.f18, go_sem]) rfl ?_
    exact ⟨rfl, B.out _ _ _⟩
  · have h1b : (strat == 1) = false := beq_eq_false_iff_ne.2 h1
    rw [if_neg h1]
    by_cases h2 : strat = 2
    · subst h2
      cases h3 : (ctx.toList == ref.toList)
      · go_enter Try.func18, Try.ntmps18
        go_wp2_with (fail)
        refine bodyPost_ret (v := .agg #[.string ⟨#[]⟩, .string ⟨#[]⟩, .string ⟨#[]⟩, .bool true]) (by simp [results, Try.f18, go_sem]) rfl ?_
        exact ⟨rfl, B.out _ _ _⟩
      · go_enter Try.func18, Try.ntmps18
        go_wp2_with (fail)
        refine bodyPost_ret (v := .agg #[.string cres, .string ctx, .string ⟨#[]⟩, .bool false]) (by simp [results, Try.f18, go_sem]) rfl ?_
        exact ⟨rfl, B.out _ _ _⟩
    · have h2b : (strat == 2) = false := beq_eq_false_iff_ne.2 h2
      rw [if_neg h2]
      cases h3 : (org.toList == [100, 101, 102, 97, 117, 108, 116])
      · go_enter Try.func18, Try.ntmps18
        go_wp2_with (fail)
        refine bodyPost_ret (v := .agg #[.string cres, .string ⟨#[]⟩, .string corg, .bool false]) (by simp [results, Try.f18, go_sem]) rfl ?_
        exact ⟨rfl, B.out _ _ _⟩
      · go_enter Try.func18, Try.ntmps18
        go_wp2_with (fail)
        refine bodyPost_ret (v := .agg #[.string cres, .string ⟨#[]⟩, .string ⟨#[]⟩, .bool false]) (by simp [results, Try.f18, go_sem]) rfl ?_
        exact ⟨rfl, B.out _ _ _⟩

end Go.Proofs.Ytalpilahemajoaa
