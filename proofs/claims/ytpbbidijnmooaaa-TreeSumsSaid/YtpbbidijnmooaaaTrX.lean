/- tree: rows of deeds and of keys of the call's own; sums of rows of keys. -/
import Derived.Test.YtpbbidijnmooaaaTrW
namespace Go.Proofs.Ytpbbidijnmooaaa
open Go.RowKit
set_option linter.unusedVariables false
set_option linter.unusedSimpArgs false

def flatD (l : List TDeed) : List Value := (l.map TDeed.cs).flatten
theorem cs_len10 (l : List TDeed) : ∀ r ∈ l.map TDeed.cs, r.length = 10 := by intro r hr; obtain ⟨x, _, rfl⟩ := List.mem_map.1 hr; rfl
theorem flatD_snoc (l : List TDeed) (d : TDeed) : flatD (l ++ [d]) = flatD l ++ d.cs := by simp [flatD]
theorem flatD_get {l : List TDeed} {j : Nat} {x : TDeed} (h : l[j]? = some x) (k : Nat) (hk : k < 10) : (flatD l)[j * 10 + k]? = x.cs[k]? := flatten_get (cs_len10 l) (by rw [List.getElem?_map, h]; rfl) k hk
theorem info_deedT : (Try.prog.info? 42).map (fun i => (i.zero, i.size, i.bytes)) = some (some (.agg #[.int .i64 0, .int .i64 0, .string ⟨#[]⟩, .string ⟨#[]⟩, .string ⟨#[]⟩, .bool false, .int .i64 0, .slice none 0 0, .int .i64 0, .bool false]), 10, 120) := by kernel_rfl
theorem cells_at {w : World} {l : List Value} {t : TypeId} : ∀ j u, l[j]? = some u → (w.alloc (.cells l.toArray t)).cell? ((⟨w.heap.size, 0, none⟩ : Addr).add j) = some u := by
  intro j u hu
  have hn := new_blockS w (.cells l.toArray t)
  rw [WideShapes.add_plain, Nat.zero_add]
  simp only [World.cell?, hn]
  simpa using hu
/-- One more deed behind a row of its own. -/
theorem run_append_deed {w wr : World} {v : Value} {j : Nat} {L : List TDeed} (hown : wr.ownsRow w.heap.size 42 10 v j (flatD L)) (hb : Below w.heap.size w wr) (hj : (j + 1) * 120 ≤ 140737488355328) (d : TDeed) (ty : TypeId) :
    ∃ v' w', (Builtin.append_ #[22, 22] ty #[v, .slice (some ⟨wr.heap.size, 0, none⟩) 1 1]).run Try.prog (wr.alloc (.cells d.cs.toArray 42)) = .ok v' w' ∧ w'.ownsRow w.heap.size 42 10 v' (j + 1) (flatD (L ++ [d])) ∧ Below w.heap.size w w' := by
  obtain ⟨i0, hi, hz0, hz1, hz2⟩ := info_partsT info_deedT
  obtain ⟨v', w', hr, h2, h3, h4⟩ := run_append_own (P := Try.prog) (wr.alloc (.cells d.cs.toArray 42)) w.heap.size 22 ty 42 i0 _ 10 120 Try.underlying22 hi hz0 hz1 hz2 rfl (by decide) v j (flatD L) (hown.alloc _) ⟨wr.heap.size, 0, none⟩ 1 1 d.cs rfl cells_at (by intro u hu; simp only [TDeed.cs, List.mem_cons, List.not_mem_nil, or_false] at hu; rcases hu with rfl | rfl | rfl | rfl | rfl | rfl | rfl | rfl | rfl | rfl <;> rfl) (by unfold maxLen; omega) (by omega) (by have := hb.size; simp; omega)
  refine ⟨v', w', hr, by rw [flatD_snoc]; exact h2, (hb.alloc hb.size _).grown h3 (by have := hb.size; simp; omega) (fun k e => ?_)⟩
  exact (hown.lt k e).1
theorem flatK_snoc (l : List KeyS) (d : KeyS) : flatK (l ++ [d]) = flatK l ++ d.cs := by simp [flatK]
theorem run_append_key {w wr : World} {v : Value} {j : Nat} {L : List KeyS} (hown : wr.ownsRow w.heap.size 30 4 v j (flatK L)) (hb : Below w.heap.size w wr) (hj : j ≤ 1048576) (d : KeyS) (ty : TypeId) :
    ∃ v' w', (Builtin.append_ #[26, 26] ty #[v, .slice (some ⟨wr.heap.size, 0, none⟩) 1 1]).run Try.prog (wr.alloc (.cells d.cs.toArray 30)) = .ok v' w' ∧ w'.ownsRow w.heap.size 30 4 v' (j + 1) (flatK (L ++ [d])) ∧ Below w.heap.size w w' := by
  obtain ⟨i0, hi, hz0, hz1, hz2⟩ := info_partsT info_keyT
  obtain ⟨v', w', hr, h2, h3, h4⟩ := run_append_own (P := Try.prog) (wr.alloc (.cells d.cs.toArray 30)) w.heap.size 26 ty 30 i0 _ 4 56 Try.underlying26 hi hz0 hz1 hz2 rfl (by decide) v j (flatK L) (hown.alloc _) ⟨wr.heap.size, 0, none⟩ 1 1 d.cs rfl cells_at (by intro u hu; simp only [KeyS.cs, List.mem_cons, List.not_mem_nil, or_false] at hu; rcases hu with rfl | rfl | rfl | rfl <;> rfl) (by unfold maxLen; omega) (by omega) (by have := hb.size; simp; omega)
  refine ⟨v', w', hr, by rw [flatK_snoc]; exact h2, (hb.alloc hb.size _).grown h3 (by have := hb.size; simp; omega) (fun k e => ?_)⟩
  exact (hown.lt k e).1
theorem deedRow_own {w : World} {base n cap : Nat} {a : Option Addr} {L : List TDeed} (h : w.ownsRow base 42 10 (.slice a n cap) n (flatD L)) (hn : L.length = n) : DeedRow w a L := by
  rcases h.2 with ⟨_, hz⟩ | ⟨g, cp, cur, hh, _, hgg, _⟩
  · exact Or.inl (List.length_eq_zero_iff.1 (hn.trans hz))
  · injection hh with h1 h2 h3
    subst h1
    rw [h3] at h
    refine Or.inr ⟨g, 0, rfl, (Array.getElem?_eq_some_iff.1 hgg).1, fun j d hj k u hu => ?_⟩
    have hjl := (List.getElem?_eq_some_iff.1 hj).1
    have hk : k < 10 := by have := (List.getElem?_eq_some_iff.1 hu).1; simpa [TDeed.cs] using this
    rw [Nat.zero_add, h.cellAt (j * 10 + k) (by omega), flatD_get hj k hk, hu]
def outD (d : TDeed) : TDeed := ⟨d.kind, ⟨d.c.at_, d.c.res, d.c.ctx, d.c.org, true, d.c.cnt, d.c.aa, d.c.al, d.c.ac⟩, d.rt, d.failed⟩
theorem tres_suml {w wx : World} {s : TreeS} {t : TreeV} (h : TRes w wx s t) {TB : Nat} (ht : t.tb = TB) (a : Option Addr) (len cap : Nat) (L : List KeyS) (hl : L.length = len) (hm : len ≤ 1048576) (hk : KeysAt wx a L) (hin : ∀ q, q ∈ L → q ∈ keysM s.1) :
    Calls Try.prog 10 #[.pointer (some ⟨TB, 0, none⟩), .int .i64 s.2, .slice a len cap] wx fun e wy => e = .returned (.tuple #[ctV (sumN s.2 (nodesOf s.1 L)), .int .i64 (flsOf (nodesOf s.1 L)), .int .i64 0]) ∧ Below wx.heap.size wx wy := by
  refine (tres_sum h ht s.2 a len cap L hl hm hk (fun x hx => tres_kok h _ (hin x hx))).mono (fun e wy hp => ⟨hp.yes ?_, hp.bel⟩)
  have l0 := h.at_.l0
  have l1 := h.at_.l1
  rw [h.last] at l0 l1
  unfold sumTE
  rw [show isT s.2 = true from by unfold isT; simp; omega, if_neg (by simp), if_neg (by omega), if_neg]
  intro hany
  obtain ⟨x, hx, hn⟩ := List.any_eq_true.1 hany
  have hs := isSome_mem.2 (hin x hx)
  cases hgm : getM s.1 x with
  | none => rw [hgm] at hs; cases hs
  | some n => rw [hgm] at hn; cases hn
theorem tres_of {w wx : World} {s : TreeS} {t : TreeV} (h : TRes w wx s t) {TB : Nat} (ht : t.tb = TB) (kind : Int) (res : ByteArray) (n : Nat) (hn : ((keysM s.1).filter (ofP kind res)).length = n) :
    Calls Try.prog 12 #[.pointer (some ⟨TB, 0, none⟩), .int .u8 kind, .string res] wx fun e wy => ∃ a c, e = .returned (.slice a n c) ∧ KeysAt wy a ((keysM s.1).filter (ofP kind res)) ∧ Below wx.heap.size wx wy := by
  subst ht
  refine (tof_any h.at_ kind res).mono (fun e wy hp => ?_)
  rw [h.m] at hp
  obtain ⟨a, m, c, he, hm, ho, hb⟩ := hp
  rw [hm, hn] at he ho
  exact ⟨a, c, he, keysAt_row ho hn, hb⟩
theorem tres_hasb {w wx : World} {s : TreeS} {t : TreeV} (h : TRes w wx s t) {TB : Nat} (ht : t.tb = TB) (q : KeyS) (hq : KeyOk q) : Calls Try.prog 13 #[.pointer (some ⟨TB, 0, none⟩), q.v] wx fun e w' => e = .returned (.bool (getM s.1 q).isSome) ∧ Below wx.heap.size wx w' := by
  subst ht
  have h1 := thas_any h.at_ q hq
  rw [h.m] at h1
  exact h1
theorem clus_sumN {s : TreeS} (h : TInv s) {k : KeyS} (hk : k ∈ keysM s.1) (h4 : k.kind = 4) (at_ : Int) : sumN at_ (nodesOf s.1 ((keysM s.1).filter (ofP 3 k.res))) = sumN at_ (nodesOf s.1 [k]) ∧ flsOf (nodesOf s.1 ((keysM s.1).filter (ofP 3 k.res))) = flsOf (nodesOf s.1 [k]) :=
  ⟨by unfold sumN; exact congrArg imgC (clus_sums h hk h4 _).symm, (clus_fls h hk h4).symm⟩
theorem whole_sumN {s : TreeS} (h : TInvO s) (hk : (⟨1, noT, noT, noT⟩ : KeyS) ∈ keysM s.1) (at_ : Int) : sumN at_ (nodesOf s.1 ((keysM s.1).filter allP)) = sumN at_ (nodesOf s.1 [⟨1, noT, noT, noT⟩]) ∧ flsOf (nodesOf s.1 ((keysM s.1).filter allP)) = flsOf (nodesOf s.1 [⟨1, noT, noT, noT⟩]) :=
  ⟨by unfold sumN; exact congrArg imgC (whole_sums h hk _).symm, (whole_fls h hk).symm⟩
theorem filter_take_snoc {α : Type} {P : α → Bool} {l : List α} {j : Nat} {x : α} (h : l[j]? = some x) : (l.take (j + 1)).filter P = (l.take j).filter P ++ if P x then [x] else [] := by
  rw [List.take_add_one, h, List.filter_append]
  cases hp : P x <;> simp [hp]
end Go.Proofs.Ytpbbidijnmooaaa
