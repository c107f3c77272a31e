/- rules.Of: the loops over the rules of a kind. -/
import Derived.Test.YtpgjaaekpaeajaaRuOf
namespace Go.Proofs.Ytpgjaaekpaeajaa
open Go.RowKit
set_option linter.unusedVariables false
set_option linter.unusedSimpArgs false

def eqS (o : Option ByteArray) (res : ByteArray) : Bool := match o with | some s => s.toList == res.toList | none => false
/-- Does rule i of a kind concern a resource? -/
def hitR (r : RulesS) (kind : Int) (res : ByteArray) (i : Nat) : Bool :=
  if kind = 1 then eqS (r.fl[i]?.map (·.res)) res else if kind = 2 then eqS (r.br[i]?.map (·.res)) res else if kind = 3 then eqS (r.ho[i]?.map (·.res)) res else if kind = 4 then true else eqS (r.au[i]?.map (·.res)) res
def cntR (r : RulesS) (kind : Int) : Nat := if kind = 1 then r.n0 else if kind = 2 then r.n1 else if kind = 3 then r.n2 else if kind = 4 then r.n3 else if kind = 5 then r.n4 else 0
def ofR (r : RulesS) (kind : Int) (res : ByteArray) : List Int := ofFrom (hitR r kind res) (cntR r kind)
theorem rowsAt_get {w : World} {a : Option Addr} {n : Nat} {rs : List (List Value)} (h : RowsAt w a n rs) {j : Nat} {x : List Value} (hj : rs[j]? = some x) : ∃ b off, a = some ⟨b, off, none⟩ ∧ b < w.heap.size ∧ ∀ k u, k < n → x[k]? = some u → w.cell? ⟨b, off + j * n + k, none⟩ = some u := by
  rcases h with h | ⟨b, off, rfl, hl, hc⟩
  · subst h; simp at hj
  · exact ⟨b, off, rfl, hl, hc j x hj⟩
theorem flowsAt_get {w : World} {a : Option Addr} {fs : List FlowS} (h : FlowsAt w a fs) {j : Nat} {x : FlowS} (hj : fs[j]? = some x) : ∃ b off, a = some ⟨b, off, none⟩ ∧ b < w.heap.size ∧ FlowAt w b (off + j * 12) x := by
  rcases h with h | ⟨b, off, rfl, hl, hc⟩
  · subst h; simp at hj
  · exact ⟨b, off, rfl, hl, hc j x hj⟩
theorem ofI_start (w : World) (res : ByteArray) (cs : Array Value) (t : TypeId) (W : World) (hW : ((w.alloc (.cells cs t)).alloc (.cells #[.string res] 9)).alloc (.cells #[.slice none 0 0] 48) = W) : OfI w (w.heap.size + 3) (w.heap.size + 2) (w.heap.size + 1) res [] W := by
  have h1 : W.heap[w.heap.size + 1]? = some (.cells #[.string res] 9) := by rw [← hW, get_allocB, if_neg (by simp), get_allocB, if_pos (by simp)]
  have h2 : W.heap[w.heap.size + 2]? = some (.cells #[.slice none 0 0] 48) := by rw [← hW, get_allocB, if_pos (by simp)]
  have h3 : W.heap.size = w.heap.size + 3 := by rw [← hW]; simp
  have hb : Below w.heap.size w W := by rw [← hW]; exact (((Below.refl _ _).alloc (Nat.le_refl _) _).alloc (by simp) _).alloc (by simp; omega) _
  exact ⟨hb, by omega, by omega, by omega, box_one h1, by omega, by omega, _, h2, World.ownsRow_nil _ _ _ _⟩

def OfPost (w : World) (xs : List Int) (e : Ending) (w' : World) : Prop := ∃ v, e = .returned v ∧ w'.ownsRow w.heap.size 3 1 v xs.length (xs.map (Value.int .i64)) ∧ Below w.heap.size w w'
theorem ownsRow_baseO {w : World} {b b' size n : Nat} {e : TypeId} {v : Value} {xs : List Value} (h : w.ownsRow b e size v n xs) (hb : b' ≤ b) : w.ownsRow b' e size v n xs := by
  refine ⟨h.1, ?_⟩
  rcases h.2 with h | ⟨g, cap, cur, e1, e2, e3⟩
  · exact Or.inl h
  · exact Or.inr ⟨g, cap, cur, e1, by omega, e3⟩
theorem OfI.post {w0 : World} {base bl br : Nat} {res : ByteArray} {ns : List Int} {w : World} {v : Value} (h : OfI w0 base bl br res ns w) (hc : w.heap[bl]? = some (.cells #[v] 48)) : OfPost w0 ns (.returned v) w := by
  obtain ⟨v', h1, h2⟩ := h.row
  obtain rfl : v' = v := by rw [hc] at h1; injection h1 with h1; injection h1 with h1; injection h1 with h1; injection h1 with h1; exact h1.symm
  exact ⟨v', rfl, ownsRow_baseO h2 (by have := h.b0; have := h.l0; omega), h.bel⟩

set_option maxHeartbeats 6400000 in
set_option maxRecDepth 100000 in
theorem of1_any {w : World} {r : RulesS} (h : RulesAt w r) (res : ByteArray) :
    Calls Try.prog 14 #[r.v, .int .u8 1, .string res] w (OfPost w (ofFrom (fun i => eqS (r.fl[i]?.map (·.res)) res) r.n0)) := by
  have HR := Lib.hid h
  have hs := h.s0
  have hlen := h.l0
  have HST := Lib.hid (fun W hW => ofI_start w res r.cs 28 W hW)
  have hv : r.v = .agg #[.slice r.a0 r.n0 r.c0, .slice r.a1 r.n1 r.c1, .slice r.a2 r.n2 r.c2, .slice r.a3 r.n3 r.c3, .slice r.a4 r.n4 r.c4] := rfl
  have hcs : r.cs = #[.slice r.a0 r.n0 r.c0, .slice r.a1 r.n1 r.c1, .slice r.a2 r.n2 r.c2, .slice r.a3 r.n3 r.c3, .slice r.a4 r.n4 r.c4] := rfl
  rw [hcs] at HST
  rw [hv]
  obtain ⟨fl, hfl⟩ : ∃ fl, r.fl = fl := ⟨_, rfl⟩
  obtain ⟨n, hn⟩ : ∃ n, r.n0 = n := ⟨_, rfl⟩
  obtain ⟨a, ha⟩ : ∃ a, r.a0 = a := ⟨_, rfl⟩
  have HFL := Lib.hid hfl
  have HA := Lib.hid ha
  rw [hfl] at hlen ⊢
  rw [hn] at hs hlen HST ⊢
  rw [ha] at HST ⊢
  have HL := Lib.hid hlen
  clear h hv hcs hfl hlen hn ha
  go_enter Try.func14, Try.ntmps14
  go_wp2_with (fail)
  have HI0 := Lib.hid (HST.out _ rfl)
  generalize ((w.alloc _).alloc _).alloc _ = W at *
  go_loopw [9, 10, 25] (fun _ _ i wr => ∃ k : Nat, k ≤ n ∧ i = .int .i64 k ∧ Hid (OfI w (w.heap.size + 3) (w.heap.size + 2) (w.heap.size + 1) res (ofFrom (fun i => eqS (fl[i]?.map (·.res)) res) k) wr)) (fun _ _ i _ => n - (intOf i).toNat)
  case atStart => exact ⟨0, Nat.zero_le _, rfl, HI0⟩
  case round =>
    obtain ⟨k, hk, rfl, HI⟩ := hrel
    by_cases hlt : k < n
    · obtain ⟨x, hx⟩ : ∃ x, fl[k]? = some x := ⟨_, List.getElem?_eq_getElem (by rw [HL.out]; exact hlt)⟩
      have hx' := hx
      rw [← HFL.out] at hx
      obtain ⟨b, off, hab, hbl, hfa⟩ := flowsAt_get HR.out.fl hx
      obtain ⟨d0, d1, d2, d3, d4, d5, d6, d7, d8, d9, d10, d11⟩ := hfa.of_block (HI.out.bel.block b hbl)
      rw [HA.out] at hab
      subst hab
      have HN := Lib.hid (note_any (HI.out.alloc (.cells #[.string x.res, .string x.org, .bool x.thr, .int .i64 x.cnt, .int .u8 x.strat, .string x.ref, .int .u8 x.shape, .int .i64 x.warm, .int .i64 x.queue, .bool x.cl, .int .i64 x.id, .bool x.fb] 41)) x.res k (by have := ofFrom_len (fun i => eqS (fl[i]?.map (·.res)) res) k; omega))
      have HS := Lib.hid (show ofFrom (fun i => eqS (fl[i]?.map (·.res)) res) (k + 1) = (if x.res.toList == res.toList then ofFrom (fun i => eqS (fl[i]?.map (·.res)) res) k ++ [(k : Int)] else ofFrom (fun i => eqS (fl[i]?.map (·.res)) res) k) by rw [ofFrom_step, hx']; rfl)
      have k0 : (0 : Int) ≤ k := by omega
      have k1 : (k : Int) < n := by omega
      clear hx hx'
      go_wp2_with (fail)
      refine HN.out.mono ?_
      rintro e w1 ⟨rfl, h1⟩
      rw [← HS.out] at h1
      have HI1 := Lib.hid h1
      clear h1
      go_wp2_with (fail)
      exact ⟨⟨k + 1, by omega, by go_num, HI1⟩, by first | (simp [intOf]; done) | (simp [intOf]; omega)⟩
    · have hkn : k = n := by omega
      subst hkn
      obtain ⟨v, hv1, hv2⟩ := HI.out.row
      have cv := box_one hv1
      have HB := Lib.hid hv1
      clear hv1 hv2
      obtain ⟨va, vc, rfl⟩ : ∃ va vc, v = .slice va (ofFrom (fun i => eqS (fl[i]?.map (·.res)) res) k).length vc := by
        obtain ⟨v', h1, h2⟩ := HI.out.row
        obtain rfl : v' = v := by rw [HB.out] at h1; injection h1 with h1; injection h1 with h1; injection h1 with h1; injection h1 with h1; exact h1.symm
        obtain ⟨va, vc, e⟩ := own_sliceO h2
        exact ⟨va, vc, e⟩
      go_wp2_with (fail)
      go_ret
      exact HI.out.post HB.out

set_option maxHeartbeats 6400000 in
set_option maxRecDepth 100000 in
theorem of2_any {w : World} {r : RulesS} (h : RulesAt w r) (res : ByteArray) :
    Calls Try.prog 14 #[r.v, .int .u8 2, .string res] w (OfPost w (ofFrom (fun i => eqS (r.br[i]?.map (·.res)) res) r.n1)) := by
  have HR := Lib.hid h
  have hs := h.s1
  have hlen := h.l1
  have HST := Lib.hid (fun W hW => ofI_start w res r.cs 28 W hW)
  have hv : r.v = .agg #[.slice r.a0 r.n0 r.c0, .slice r.a1 r.n1 r.c1, .slice r.a2 r.n2 r.c2, .slice r.a3 r.n3 r.c3, .slice r.a4 r.n4 r.c4] := rfl
  have hcs : r.cs = #[.slice r.a0 r.n0 r.c0, .slice r.a1 r.n1 r.c1, .slice r.a2 r.n2 r.c2, .slice r.a3 r.n3 r.c3, .slice r.a4 r.n4 r.c4] := rfl
  rw [hcs] at HST
  rw [hv]
  obtain ⟨fl, hfl⟩ : ∃ fl, r.br = fl := ⟨_, rfl⟩
  obtain ⟨n, hn⟩ : ∃ n, r.n1 = n := ⟨_, rfl⟩
  obtain ⟨a, ha⟩ : ∃ a, r.a1 = a := ⟨_, rfl⟩
  have HFL := Lib.hid hfl
  have HA := Lib.hid ha
  rw [hfl] at hlen ⊢
  rw [hn] at hs hlen HST ⊢
  rw [ha] at HST ⊢
  have HL := Lib.hid hlen
  clear h hv hcs hfl hlen hn ha
  go_enter Try.func14, Try.ntmps14
  go_wp2_with (fail)
  have HI0 := Lib.hid (HST.out _ rfl)
  generalize ((w.alloc _).alloc _).alloc _ = W at *
  go_loopw [11, 12, 41] (fun _ _ i wr => ∃ k : Nat, k ≤ n ∧ i = .int .i64 k ∧ Hid (OfI w (w.heap.size + 3) (w.heap.size + 2) (w.heap.size + 1) res (ofFrom (fun i => eqS (fl[i]?.map (·.res)) res) k) wr)) (fun _ _ i _ => n - (intOf i).toNat)
  case atStart => exact ⟨0, Nat.zero_le _, rfl, HI0⟩
  case round =>
    obtain ⟨k, hk, rfl, HI⟩ := hrel
    by_cases hlt : k < n
    · obtain ⟨x, hx⟩ : ∃ x, fl[k]? = some x := ⟨_, List.getElem?_eq_getElem (by rw [HL.out]; exact hlt)⟩
      have hx' := hx
      rw [← HFL.out] at hx
      obtain ⟨b, off, hab, hbl, hca⟩ := rowsAt_get HR.out.br (j := k) (x := x.cs) (by rw [List.getElem?_map, hx]; rfl)
      have d0 : wr.cell? ⟨b, off + k * 7, none⟩ = some (.string x.res) := (HI.out.cellOld (p := ⟨b, off + k * 7 + 0, none⟩) hbl).trans (hca 0 (.string x.res) (by decide) rfl)
      have d1 : wr.cell? ⟨b, off + k * 7 + 1, none⟩ = some (.int .u8 x.gr) := (HI.out.cellOld (p := ⟨b, off + k * 7 + 1, none⟩) hbl).trans (hca 1 (.int .u8 x.gr) (by decide) rfl)
      have d2 : wr.cell? ⟨b, off + k * 7 + 2, none⟩ = some (.int .i64 x.cnt) := (HI.out.cellOld (p := ⟨b, off + k * 7 + 2, none⟩) hbl).trans (hca 2 (.int .i64 x.cnt) (by decide) rfl)
      have d3 : wr.cell? ⟨b, off + k * 7 + 3, none⟩ = some (.int .i64 x.slow) := (HI.out.cellOld (p := ⟨b, off + k * 7 + 3, none⟩) hbl).trans (hca 3 (.int .i64 x.slow) (by decide) rfl)
      have d4 : wr.cell? ⟨b, off + k * 7 + 4, none⟩ = some (.int .i64 x.least) := (HI.out.cellOld (p := ⟨b, off + k * 7 + 4, none⟩) hbl).trans (hca 4 (.int .i64 x.least) (by decide) rfl)
      have d5 : wr.cell? ⟨b, off + k * 7 + 5, none⟩ = some (.int .i64 x.win) := (HI.out.cellOld (p := ⟨b, off + k * 7 + 5, none⟩) hbl).trans (hca 5 (.int .i64 x.win) (by decide) rfl)
      have d6 : wr.cell? ⟨b, off + k * 7 + 6, none⟩ = some (.int .i64 x.rec_) := (HI.out.cellOld (p := ⟨b, off + k * 7 + 6, none⟩) hbl).trans (hca 6 (.int .i64 x.rec_) (by decide) rfl)
      rw [HA.out] at hab
      subst hab
      have HN := Lib.hid (note_any (HI.out.alloc (.cells #[.string x.res, .int .u8 x.gr, .int .i64 x.cnt, .int .i64 x.slow, .int .i64 x.least, .int .i64 x.win, .int .i64 x.rec_] 66)) x.res k (by have := ofFrom_len (fun i => eqS (fl[i]?.map (·.res)) res) k; omega))
      have HS := Lib.hid (show ofFrom (fun i => eqS (fl[i]?.map (·.res)) res) (k + 1) = (if x.res.toList == res.toList then ofFrom (fun i => eqS (fl[i]?.map (·.res)) res) k ++ [(k : Int)] else ofFrom (fun i => eqS (fl[i]?.map (·.res)) res) k) by rw [ofFrom_step, hx']; rfl)
      have k0 : (0 : Int) ≤ k := by omega
      have k1 : (k : Int) < n := by omega
      clear hx hx'
      go_wp2_with (fail)
      refine HN.out.mono ?_
      rintro e w1 ⟨rfl, h1⟩
      rw [← HS.out] at h1
      have HI1 := Lib.hid h1
      clear h1
      go_wp2_with (fail)
      exact ⟨⟨k + 1, by omega, by go_num, HI1⟩, by first | (simp [intOf]; done) | (simp [intOf]; omega)⟩
    · have hkn : k = n := by omega
      subst hkn
      obtain ⟨v, hv1, hv2⟩ := HI.out.row
      have cv := box_one hv1
      have HB := Lib.hid hv1
      clear hv1 hv2
      obtain ⟨va, vc, rfl⟩ : ∃ va vc, v = .slice va (ofFrom (fun i => eqS (fl[i]?.map (·.res)) res) k).length vc := by
        obtain ⟨v', h1, h2⟩ := HI.out.row
        obtain rfl : v' = v := by rw [HB.out] at h1; injection h1 with h1; injection h1 with h1; injection h1 with h1; injection h1 with h1; exact h1.symm
        obtain ⟨va, vc, e⟩ := own_sliceO h2
        exact ⟨va, vc, e⟩
      go_wp2_with (fail)
      go_ret
      exact HI.out.post HB.out

set_option maxHeartbeats 6400000 in
set_option maxRecDepth 100000 in
theorem of3_any {w : World} {r : RulesS} (h : RulesAt w r) (res : ByteArray) :
    Calls Try.prog 14 #[r.v, .int .u8 3, .string res] w (OfPost w (ofFrom (fun i => eqS (r.ho[i]?.map (·.res)) res) r.n2)) := by
  have HR := Lib.hid h
  have hs := h.s2
  have hlen := h.l2
  have HST := Lib.hid (fun W hW => ofI_start w res r.cs 28 W hW)
  have hv : r.v = .agg #[.slice r.a0 r.n0 r.c0, .slice r.a1 r.n1 r.c1, .slice r.a2 r.n2 r.c2, .slice r.a3 r.n3 r.c3, .slice r.a4 r.n4 r.c4] := rfl
  have hcs : r.cs = #[.slice r.a0 r.n0 r.c0, .slice r.a1 r.n1 r.c1, .slice r.a2 r.n2 r.c2, .slice r.a3 r.n3 r.c3, .slice r.a4 r.n4 r.c4] := rfl
  rw [hcs] at HST
  rw [hv]
  obtain ⟨fl, hfl⟩ : ∃ fl, r.ho = fl := ⟨_, rfl⟩
  obtain ⟨n, hn⟩ : ∃ n, r.n2 = n := ⟨_, rfl⟩
  obtain ⟨a, ha⟩ : ∃ a, r.a2 = a := ⟨_, rfl⟩
  have HFL := Lib.hid hfl
  have HA := Lib.hid ha
  rw [hfl] at hlen ⊢
  rw [hn] at hs hlen HST ⊢
  rw [ha] at HST ⊢
  have HL := Lib.hid hlen
  clear h hv hcs hfl hlen hn ha
  go_enter Try.func14, Try.ntmps14
  go_wp2_with (fail)
  have HI0 := Lib.hid (HST.out _ rfl)
  generalize ((w.alloc _).alloc _).alloc _ = W at *
  go_loopw [13, 14, 57] (fun _ _ i wr => ∃ k : Nat, k ≤ n ∧ i = .int .i64 k ∧ Hid (OfI w (w.heap.size + 3) (w.heap.size + 2) (w.heap.size + 1) res (ofFrom (fun i => eqS (fl[i]?.map (·.res)) res) k) wr)) (fun _ _ i _ => n - (intOf i).toNat)
  case atStart => exact ⟨0, Nat.zero_le _, rfl, HI0⟩
  case round =>
    obtain ⟨k, hk, rfl, HI⟩ := hrel
    by_cases hlt : k < n
    · obtain ⟨x, hx⟩ : ∃ x, fl[k]? = some x := ⟨_, List.getElem?_eq_getElem (by rw [HL.out]; exact hlt)⟩
      have hx' := hx
      rw [← HFL.out] at hx
      obtain ⟨b, off, hab, hbl, hca⟩ := rowsAt_get HR.out.ho (j := k) (x := x.cs) (by rw [List.getElem?_map, hx]; rfl)
      have d0 : wr.cell? ⟨b, off + k * 5, none⟩ = some (.string x.res) := (HI.out.cellOld (p := ⟨b, off + k * 5 + 0, none⟩) hbl).trans (hca 0 (.string x.res) (by decide) rfl)
      have d1 : wr.cell? ⟨b, off + k * 5 + 1, none⟩ = some (.int .i64 x.idx) := (HI.out.cellOld (p := ⟨b, off + k * 5 + 1, none⟩) hbl).trans (hca 1 (.int .i64 x.idx) (by decide) rfl)
      have d2 : wr.cell? ⟨b, off + k * 5 + 2, none⟩ = some (.int .i64 x.cnt) := (HI.out.cellOld (p := ⟨b, off + k * 5 + 2, none⟩) hbl).trans (hca 2 (.int .i64 x.cnt) (by decide) rfl)
      have d3 : wr.cell? ⟨b, off + k * 5 + 3, none⟩ = some (.int .i64 x.secs) := (HI.out.cellOld (p := ⟨b, off + k * 5 + 3, none⟩) hbl).trans (hca 3 (.int .i64 x.secs) (by decide) rfl)
      have d4 : wr.cell? ⟨b, off + k * 5 + 4, none⟩ = some (.slice x.ia x.il x.ic) := (HI.out.cellOld (p := ⟨b, off + k * 5 + 4, none⟩) hbl).trans (hca 4 (.slice x.ia x.il x.ic) (by decide) rfl)
      rw [HA.out] at hab
      subst hab
      have HN := Lib.hid (note_any (HI.out.alloc (.cells #[.string x.res, .int .i64 x.idx, .int .i64 x.cnt, .int .i64 x.secs, .slice x.ia x.il x.ic] 59)) x.res k (by have := ofFrom_len (fun i => eqS (fl[i]?.map (·.res)) res) k; omega))
      have HS := Lib.hid (show ofFrom (fun i => eqS (fl[i]?.map (·.res)) res) (k + 1) = (if x.res.toList == res.toList then ofFrom (fun i => eqS (fl[i]?.map (·.res)) res) k ++ [(k : Int)] else ofFrom (fun i => eqS (fl[i]?.map (·.res)) res) k) by rw [ofFrom_step, hx']; rfl)
      have k0 : (0 : Int) ≤ k := by omega
      have k1 : (k : Int) < n := by omega
      clear hx hx'
      go_wp2_with (fail)
      refine HN.out.mono ?_
      rintro e w1 ⟨rfl, h1⟩
      rw [← HS.out] at h1
      have HI1 := Lib.hid h1
      clear h1
      go_wp2_with (fail)
      exact ⟨⟨k + 1, by omega, by go_num, HI1⟩, by first | (simp [intOf]; done) | (simp [intOf]; omega)⟩
    · have hkn : k = n := by omega
      subst hkn
      obtain ⟨v, hv1, hv2⟩ := HI.out.row
      have cv := box_one hv1
      have HB := Lib.hid hv1
      clear hv1 hv2
      obtain ⟨va, vc, rfl⟩ : ∃ va vc, v = .slice va (ofFrom (fun i => eqS (fl[i]?.map (·.res)) res) k).length vc := by
        obtain ⟨v', h1, h2⟩ := HI.out.row
        obtain rfl : v' = v := by rw [HB.out] at h1; injection h1 with h1; injection h1 with h1; injection h1 with h1; injection h1 with h1; exact h1.symm
        obtain ⟨va, vc, e⟩ := own_sliceO h2
        exact ⟨va, vc, e⟩
      go_wp2_with (fail)
      go_ret
      exact HI.out.post HB.out

set_option maxHeartbeats 6400000 in
set_option maxRecDepth 100000 in
theorem of5_any {w : World} {r : RulesS} (h : RulesAt w r) (res : ByteArray) :
    Calls Try.prog 14 #[r.v, .int .u8 5, .string res] w (OfPost w (ofFrom (fun i => eqS (r.au[i]?.map (·.res)) res) r.n4)) := by
  have HR := Lib.hid h
  have hs := h.s4
  have hlen := h.l4
  have HST := Lib.hid (fun W hW => ofI_start w res r.cs 28 W hW)
  have hv : r.v = .agg #[.slice r.a0 r.n0 r.c0, .slice r.a1 r.n1 r.c1, .slice r.a2 r.n2 r.c2, .slice r.a3 r.n3 r.c3, .slice r.a4 r.n4 r.c4] := rfl
  have hcs : r.cs = #[.slice r.a0 r.n0 r.c0, .slice r.a1 r.n1 r.c1, .slice r.a2 r.n2 r.c2, .slice r.a3 r.n3 r.c3, .slice r.a4 r.n4 r.c4] := rfl
  rw [hcs] at HST
  rw [hv]
  obtain ⟨fl, hfl⟩ : ∃ fl, r.au = fl := ⟨_, rfl⟩
  obtain ⟨n, hn⟩ : ∃ n, r.n4 = n := ⟨_, rfl⟩
  obtain ⟨a, ha⟩ : ∃ a, r.a4 = a := ⟨_, rfl⟩
  have HFL := Lib.hid hfl
  have HA := Lib.hid ha
  rw [hfl] at hlen ⊢
  rw [hn] at hs hlen HST ⊢
  rw [ha] at HST ⊢
  have HL := Lib.hid hlen
  clear h hv hcs hfl hlen hn ha
  go_enter Try.func14, Try.ntmps14
  go_wp2_with (fail)
  have HI0 := Lib.hid (HST.out _ rfl)
  generalize ((w.alloc _).alloc _).alloc _ = W at *
  go_loopw [16, 17, 86] (fun _ _ i wr => ∃ k : Nat, k ≤ n ∧ i = .int .i64 k ∧ Hid (OfI w (w.heap.size + 3) (w.heap.size + 2) (w.heap.size + 1) res (ofFrom (fun i => eqS (fl[i]?.map (·.res)) res) k) wr)) (fun _ _ i _ => n - (intOf i).toNat)
  case atStart => exact ⟨0, Nat.zero_le _, rfl, HI0⟩
  case round =>
    obtain ⟨k, hk, rfl, HI⟩ := hrel
    by_cases hlt : k < n
    · obtain ⟨x, hx⟩ : ∃ x, fl[k]? = some x := ⟨_, List.getElem?_eq_getElem (by rw [HL.out]; exact hlt)⟩
      have hx' := hx
      rw [← HFL.out] at hx
      obtain ⟨b, off, hab, hbl, hca⟩ := rowsAt_get HR.out.au (j := k) (x := x.cs) (by rw [List.getElem?_map, hx]; rfl)
      have d0 : wr.cell? ⟨b, off + k * 3, none⟩ = some (.string x.res) := (HI.out.cellOld (p := ⟨b, off + k * 3 + 0, none⟩) hbl).trans (hca 0 (.string x.res) (by decide) rfl)
      have d1 : wr.cell? ⟨b, off + k * 3 + 1, none⟩ = some (.bool x.white) := (HI.out.cellOld (p := ⟨b, off + k * 3 + 1, none⟩) hbl).trans (hca 1 (.bool x.white) (by decide) rfl)
      have d2 : wr.cell? ⟨b, off + k * 3 + 2, none⟩ = some (.slice x.oa x.ol x.oc) := (HI.out.cellOld (p := ⟨b, off + k * 3 + 2, none⟩) hbl).trans (hca 2 (.slice x.oa x.ol x.oc) (by decide) rfl)
      rw [HA.out] at hab
      subst hab
      have HN := Lib.hid (note_any (HI.out.alloc (.cells #[.string x.res, .bool x.white, .slice x.oa x.ol x.oc] 63)) x.res k (by have := ofFrom_len (fun i => eqS (fl[i]?.map (·.res)) res) k; omega))
      have HS := Lib.hid (show ofFrom (fun i => eqS (fl[i]?.map (·.res)) res) (k + 1) = (if x.res.toList == res.toList then ofFrom (fun i => eqS (fl[i]?.map (·.res)) res) k ++ [(k : Int)] else ofFrom (fun i => eqS (fl[i]?.map (·.res)) res) k) by rw [ofFrom_step, hx']; rfl)
      have k0 : (0 : Int) ≤ k := by omega
      have k1 : (k : Int) < n := by omega
      clear hx hx'
      go_wp2_with (fail)
      refine HN.out.mono ?_
      rintro e w1 ⟨rfl, h1⟩
      rw [← HS.out] at h1
      have HI1 := Lib.hid h1
      clear h1
      go_wp2_with (fail)
      exact ⟨⟨k + 1, by omega, by go_num, HI1⟩, by first | (simp [intOf]; done) | (simp [intOf]; omega)⟩
    · have hkn : k = n := by omega
      subst hkn
      obtain ⟨v, hv1, hv2⟩ := HI.out.row
      have cv := box_one hv1
      have HB := Lib.hid hv1
      clear hv1 hv2
      obtain ⟨va, vc, rfl⟩ : ∃ va vc, v = .slice va (ofFrom (fun i => eqS (fl[i]?.map (·.res)) res) k).length vc := by
        obtain ⟨v', h1, h2⟩ := HI.out.row
        obtain rfl : v' = v := by rw [HB.out] at h1; injection h1 with h1; injection h1 with h1; injection h1 with h1; injection h1 with h1; exact h1.symm
        obtain ⟨va, vc, e⟩ := own_sliceO h2
        exact ⟨va, vc, e⟩
      go_wp2_with (fail)
      go_ret
      exact HI.out.post HB.out

end Go.Proofs.Ytpgjaaekpaeajaa