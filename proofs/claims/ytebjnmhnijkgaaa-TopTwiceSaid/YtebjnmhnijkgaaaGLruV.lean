/- Texts of one chain, one behind the other: LruV, LruW, LruX. -/
import Derived.LaidEqlPtr
import Derived.Test.YtebjnmhnijkgaaaGLruU

/- lru's answer by the document: Drop, Keys; pointers into two blocks are two. -/
namespace Go.Proofs.Ytebjnmhnijkgaaa
open Go.RowKit
set_option linter.unusedVariables false
set_option linter.unusedSimpArgs false

theorem dropA_nodup {A : List (ByteArray × Int)} (hn : (A.map (·.1)).Nodup) (ss : List ByteArray) : ((dropA A ss).1.map (·.1)).Nodup := by
  have key : ∀ (ss : List ByteArray) (q : List (ByteArray × Int) × Nat), (q.1.map (·.1)).Nodup → (((ss.foldl (fun q s => if hasA q.1 s then (delA q.1 s, q.2 + 1) else q) q).1).map (·.1)).Nodup := by
    intro ss
    induction ss with
    | nil => intro q h; exact h
    | cons s ss ih =>
      intro q h
      simp only [List.foldl_cons]
      refine ih _ ?_
      split
      · exact h.sublist (List.Sublist.map _ List.filter_sublist)
      · exact h
  exact key ss (A, 0) hn

theorem cells_of_cell {w : World} {a : Addr} {v : Value} (h : w.cell? a = some v) : ∃ c t f, w.heap[a.block]? = some (.cells c t f) := by
  unfold World.cell? at h
  split at h
  · rename_i c e f hb; exact ⟨c, e, f, hb⟩
  · simp at h
theorem run_sameAddr_far {P : Program} (w : World) {a b : Addr} {ca cb : Array Value} {ta tb : TypeId} {fa fb : Nat × Nat} (hne : a.block ≠ b.block) (ha : w.heap[a.block]? = some (.cells ca ta fa)) (hb : w.heap[b.block]? = some (.cells cb tb fb))
    (ga : ∀ o, w.frozen? ⟨a.block, o, none⟩ = false) (gb : ∀ o, w.frozen? ⟨b.block, o, none⟩ = false) : (sameAddr a b).run P w = .ok false w := by
  have e : ∀ (x : Addr), w.frozen? x = w.frozen? ⟨x.block, x.off, none⟩ := fun x => rfl
  have ea : w.frozen? a = false := (e a).trans (ga _)
  have eb : w.frozen? b = false := (e b).trans (gb _)
  have sa : w.shape? a.block = some (ta, ca.size) := by simp [World.shape?, ha]
  have sb : w.shape? b.block = some (tb, cb.size) := by simp [World.shape?, hb]
  simp [sameAddr, hne, ea, noView, viewAt, sa, sb, mayBeOne, stringish, eb, ga, gb]
theorem run_neq_ptr_far {P : Program} (w : World) {tp te : TypeId} {j : TypeInfo} {a b : Addr} {ca cb : Array Value} {ta tb : TypeId} {fa fb : Nat × Nat} (hp : P.underlying tp = some (.pointer te)) (hte : P.info? te = some j) (hsz : j.size ≠ 0)
    (hne : a.block ≠ b.block) (ha : w.heap[a.block]? = some (.cells ca ta fa)) (hb : w.heap[b.block]? = some (.cells cb tb fb)) (ga : ∀ o, w.frozen? ⟨a.block, o, none⟩ = false) (gb : ∀ o, w.frozen? ⟨b.block, o, none⟩ = false) :
    (binOp .neq tp (.pointer (some a)) (.pointer (some b))).run P w = .ok (.bool true) w := by
  have h : ∀ d : Nat, (Op.equalIn (d + 1) tp (.pointer (some a)) (.pointer (some b))).run P w = .ok false w := fun d => by
    simp [Op.equalIn, run_underlying hp, sizeOf, typeInfo, hte, hsz, run_sameAddr_far w hne ha hb ga gb]
  simp only [binOp]
  simp [Op.equal, Op.maxDepth, h 9999]
theorem run_neq_ptr_same {P : Program} (w : World) {tp te : TypeId} {j : TypeInfo} (a : Addr) (hp : P.underlying tp = some (.pointer te)) (hte : P.info? te = some j) :
    (binOp .neq tp (.pointer (some a)) (.pointer (some a))).run P w = .ok (.bool false) w := by
  have h : ∀ d : Nat, (Op.equalIn (d + 1) tp (.pointer (some a)) (.pointer (some a))).run P w = .ok true w := fun d => by
    simp [Op.equalIn, run_underlying hp, sizeOf, typeInfo, hte, run_sameAddr_same]
  simp only [binOp]
  simp [Op.equal, Op.maxDepth, h 9999]
end Go.Proofs.Ytebjnmhnijkgaaa

/- lru's answer by the document: Fork. -/
namespace Go.Proofs.Ytebjnmhnijkgaaa
open Go.RowKit
set_option linter.unusedVariables false
set_option linter.unusedSimpArgs false

theorem fork_mid {w w3 : World} {x v : Value} {t : TypeId} (hg : (w.alloc (.cells #[x, v] t)).grownBy w3 none) : w3.cell? ⟨w.heap.size, 1, none⟩ = some v ∧ w3.frozen? ⟨w.heap.size, 1, none⟩ = false := by
  have hz : (w.alloc (.cells #[x, v] t)).heap[w.heap.size]? = some (.cells #[x, v] t) := by
    show (Array.push w.heap _)[_]? = _
    rw [Array.getElem?_push, if_pos rfl]
  have hk := hg.block w.heap.size (by simp) (by simp)
  exact ⟨by simp only [World.cell?, hk, hz]; rfl, by simp only [World.frozen?, hk, hz]; simp⟩

end Go.Proofs.Ytebjnmhnijkgaaa

/- lru: pairs and Keys; sameTexts; nil ones. -/
namespace Go.Proofs.Ytebjnmhnijkgaaa
open Go.RowKit
set_option linter.unusedVariables false
set_option linter.unusedSimpArgs false

theorem pairs_far {wr w3 : World} {base size n b off : Nat} {e : TypeId} {v : Value} {xs : List Value} {o : Obj} (hrow : wr.ownsRow base e size v n xs) (hg : (wr.alloc o).grownBy w3 v.ownBlock) (hb : b < base) (hz : base ≤ wr.heap.size) : w3.cell? ⟨b, off, none⟩ = wr.cell? ⟨b, off, none⟩ := by
  have hk : w3.heap[b]? = wr.heap[b]? := (hg.block b (by simp; omega) (fun e => by have := (hrow.lt b e.symm).1; omega)).trans (Below.heap_alloc _ _ _ (by omega))
  exact World.cell?_of_block (w := wr) (a := ⟨b, off, none⟩) hk

def sliceLen : Value → Nat | .slice _ n _ => n | _ => 0
theorem info_pairL : (Try.prog.info? 79).map (fun i => (i.zero, i.size, i.bytes)) = some (some (.agg #[.string ⟨#[]⟩, .int .i64 0]), 2, 24) := by kernel_rfl
theorem info_link : ∃ j, Try.prog.info? 82 = some j ∧ j.size ≠ 0 := by
  have h : (Try.prog.info? 82).map (fun i => i.size) = some 4 := by kernel_rfl
  cases hi : Try.prog.info? 82 with
  | none => rw [hi] at h; simp at h
  | some j => rw [hi] at h; simp at h; exact ⟨j, rfl, by omega⟩

end Go.Proofs.Ytebjnmhnijkgaaa
