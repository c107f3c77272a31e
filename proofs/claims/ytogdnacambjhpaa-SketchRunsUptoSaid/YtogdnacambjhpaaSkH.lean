/- sketch: adding to a bucket's map; what Add leaves. -/
import Derived.Test.YtogdnacambjhpaaSkG
import Derived.Test.YtogdnacambjhpaaOwn
import Derived.Test.YtogdnacambjhpaaInts
namespace Go.Proofs.Ytogdnacambjhpaa
open Go.RowKit
set_option linter.unusedVariables false
set_option linter.unusedSimpArgs false

theorem wp_append_at {P : Program} (w : World) {o : Oper} {a : Act} {K : Act → World → Prop} {Q : Exit → Act → World → Prop} (s x : Operand) (t : TypeId)
    (ho : o.op = .call { callee := .builtin .append, args := #[s, x], argTypes := #[t, t] })
    (base : Nat) (e : TypeId) (i : TypeInfo) (z : Value) (size bytes : Nat) (ht : P.underlying t = some (.slice e)) (hi : P.info? e = some i) (hz : i.zero = some z)
    (hsize : i.size = size) (hby : i.bytes = bytes) (hzs : z.cells.size = size) (hsz : 0 < size)
    (v : Value) (n : Nat) (xs : List Value) (hs : a.eval s = v) (hown : w.ownsRow base e size v n xs)
    (ad : Addr) (m c : Nat) (news : List Value) (hx : a.eval x = .slice (some ad) m c) (hl : news.length = m * size) (hnews : ∀ j u, news[j]? = some u → w.cell? (ad.add j) = some u) (h1 : ∀ u ∈ news, u.oneCell' = true)
    (h63 : n + m ≤ maxLen) (hbytes : (n + m) * bytes ≤ 140737488355328) (hbase : base ≤ w.heap.size) (hm : m ≠ 0)
    (h : ∀ v' w', w'.ownsRow base e size v' (n + m) (xs ++ news) → w.grownBy w' v.ownBlock → (v'.ownBlock = v.ownBlock ∨ v'.ownBlock = some w.heap.size) → K (a.put o.dst v') w') : o.wp P a w K Q := by
  obtain ⟨v', w', hr, h2, h3, h4⟩ := run_append_where (P := P) w base t o.type e i z size bytes ht hi hz hsize hby hzs hsz v n xs hown ad m c news hl hnews h1 h63 hbytes hbase hm
  unfold Oper.wp execOp
  simp only [ho, resolve, invoke, builtin, Sem.run_bind, Sem.run_pure, Result.andThen_ok, List.map_toArray, List.map_cons, List.map_nil, hs, hx, hr]
  exact h v' w' h2 h3 h4

def setC (cnt : Int → Int → Int) (r c v : Int) : Int → Int → Int := fun r' c' => if r' = r ∧ c' = c then v else cnt r' c'
theorem cellV_inj {r c r' c' : Int} (h : cellV r c = cellV r' c') : r = r' ∧ c = c' := by
  unfold cellV at h
  injection h with h
  simp at h
  exact h
theorem CntAt.update {w : World} {m : Nat} {cnt : Int → Int → Int} (h : CntAt w m cnt) {r c v : Int} (r0 : 0 ≤ r) (r1 : r < 8) (c0 : 0 ≤ c) (c1 : c < 4096) (v0 : 0 ≤ v) (v1 : v ≤ 4611686018427387904) :
    ∃ w', (Instr.mapUpdate 91 (.map (some m)) (.agg #[.int .i64 r, .int .i64 c]) (.int .i64 v)).run Try.prog w = .ok () w' ∧ CntAt w' m (setC cnt r c v) ∧ w.grownBy w' (some m) ∧ w'.heap.size = w.heap.size := by
  obtain ⟨f, n, h1, h2, h3, h4⟩ := h
  obtain ⟨kl, hkl⟩ := keyOf_cell (wf_small r0 (by omega)) (wf_small c0 (by omega))
  have hn : n ≤ ((List.range 8).flatMap (fun r : Nat => (List.range 4096).map (fun c : Nat => cellV (r : Int) (c : Int)))).length := h1.size_le cellKeyed _ (fun key kl hk hf => by
    obtain ⟨r, c, hr, hc, rfl⟩ := h3 key hf
    rw [List.mem_flatMap]
    exact ⟨r, List.mem_range.2 hr, List.mem_map.2 ⟨c, List.mem_range.2 hc, rfl⟩⟩)
  have hL : ((List.range 8).flatMap (fun r : Nat => (List.range 4096).map (fun c : Nat => cellV (r : Int) (c : Int)))).length = 32768 := by
    rw [List.length_flatMap]
    simp only [List.length_map, List.length_range]
    rfl
  obtain ⟨w', e1, e2, e3, e4⟩ := h1.update cellKeyed Try.underlying91 (by rw [hL] at hn; unfold maxLen; omega) hkl (.int .i64 v)
  refine ⟨w', e1, ⟨_, _, e2, ?_, ?_, ?_⟩, e3, e4⟩
  · intro r' c' a0 a1 a2 a3
    unfold setC
    by_cases e : r' = r ∧ c' = c
    · obtain ⟨rfl, rfl⟩ := e
      rw [if_pos ⟨rfl, rfl⟩, updV_same]; rfl
    · rw [if_neg e, updV_other _ _ (fun he => e (cellV_inj he))]
      exact h2 r' c' a0 a1 a2 a3
  · intro key hk
    by_cases e : key = cellV r c
    · exact ⟨r.toNat, c.toNat, by omega, by omega, by rw [e, Int.toNat_of_nonneg r0, Int.toNat_of_nonneg c0]⟩
    · rw [updV_other _ _ e] at hk
      exact h3 key hk
  · intro r' c'
    unfold setC
    split
    · exact ⟨v0, v1⟩
    · exact h4 r' c'

/-- Where the adding of the k-th number stands: rows below r have it. -/
def cntK (R : Int) (col : Int → ByteArray → Int) (key : ByteArray) (ns : List Int) (k : Nat) (r : Int) (cnt : Int → Int → Int) : Int → Int → Int :=
  fun r' c => if (0 ≤ r' ∧ r' < R) ∧ c = col r' key then (if r' < r then foldS (cnt r' c) (ns.take (k + 1)) else foldS (cnt r' c) (ns.take k)) else cnt r' c
theorem cntK_zero (R : Int) (col : Int → ByteArray → Int) (key : ByteArray) (ns : List Int) (k : Nat) (x : BkA) : cntK R col key ns k 0 x.cnt = (addBk R col key (ns.take k) x).cnt := by
  funext r c
  unfold cntK addBk
  dsimp only
  by_cases h : (0 ≤ r ∧ r < R) ∧ c = col r key
  · rw [if_pos h, if_pos h, if_neg (by omega)]
  · rw [if_neg h, if_neg h]
theorem cntK_all (R : Int) (col : Int → ByteArray → Int) (key : ByteArray) (ns : List Int) (k : Nat) (x : BkA) : cntK R col key ns k R x.cnt = (addBk R col key (ns.take (k + 1)) x).cnt := by
  funext r c
  unfold cntK addBk
  dsimp only
  by_cases h : (0 ≤ r ∧ r < R) ∧ c = col r key
  · rw [if_pos h, if_pos h, if_pos (by omega)]
  · rw [if_neg h, if_neg h]
theorem foldS_snoc (s : Int) (ns : List Int) {k : Nat} {y : Int} (hy : ns[k]? = some y) : foldS s (ns.take (k + 1)) = plusS (foldS s (ns.take k)) y := by
  obtain ⟨hk, rfl⟩ := List.getElem?_eq_some_iff.1 hy
  unfold foldS
  rw [List.take_succ_eq_append_getElem hk, List.foldl_append]
  rfl
theorem cntK_step (R : Int) (col : Int → ByteArray → Int) (key : ByteArray) (ns : List Int) (k : Nat) {r y : Int} (r0 : 0 ≤ r) (r1 : r < R) (hy : ns[k]? = some y) (cnt : Int → Int → Int) :
    setC (cntK R col key ns k r cnt) r (col r key) (plusS (cntK R col key ns k r cnt r (col r key)) y) = cntK R col key ns k (r + 1) cnt := by
  funext r' c
  unfold setC
  by_cases e : r' = r ∧ c = col r key
  · obtain ⟨rfl, rfl⟩ := e
    rw [if_pos ⟨rfl, rfl⟩]
    have e1 : cntK R col key ns k r' cnt r' (col r' key) = foldS (cnt r' (col r' key)) (ns.take k) := by
      unfold cntK
      rw [if_pos ⟨⟨r0, r1⟩, rfl⟩, if_neg (by omega)]
    have e2 : cntK R col key ns k (r' + 1) cnt r' (col r' key) = foldS (cnt r' (col r' key)) (ns.take (k + 1)) := by
      unfold cntK
      rw [if_pos ⟨⟨r0, r1⟩, rfl⟩, if_pos (by omega)]
    rw [e1, e2, foldS_snoc _ _ hy]
  · rw [if_neg e]
    unfold cntK
    by_cases h : (0 ≤ r' ∧ r' < R) ∧ c = col r' key
    · rw [if_pos h, if_pos h]
      have hne : r' ≠ r := fun e' => e ⟨e', by rw [← e']; exact h.2⟩
      by_cases hlt : r' < r
      · rw [if_pos hlt, if_pos (by omega)]
      · rw [if_neg hlt, if_neg (by omega)]
    · rw [if_neg h, if_neg h]

def badS (x : Int) : Bool := decide (x < 0) || decide (1099511627776 < x)
def addE (last at_ : Int) (ns : List Int) : Int := if lookS last at_ = 2 then 2 else if ns.any badS then 2 else lookS last at_
theorem lookS_cases (last at_ : Int) : lookS last at_ = 2 ∨ lookS last at_ = 7 ∨ lookS last at_ = 0 := by
  unfold lookS; split
  · exact Or.inl rfl
  · split
    · exact Or.inr (Or.inl rfl)
    · exact Or.inr (Or.inr rfl)

/-- What Add leaves. -/
structure AddPost (w : World) (s : Nat) (h : ShapeS) (last : Int) (v : Value) (bs : List BkS) (b at_ : Int) (key : ByteArray) (ns : List Int) (e : Ending) (w' : World) : Prop where
  ret : e = .returned (.int .i64 (addE last at_ ns))
  off : Off (SkOwn s v bs) w w'
  fine : addE last at_ ns = 0 → ∃ v' bs' pre x, SkAt w' s h at_ v' bs' ∧ withBk (beginS b at_) (keepBk (beginS b at_) h.W (bs.map BkS.a)) = pre ++ [x] ∧ bs'.map BkS.a = pre ++ [addBk h.R (colS h) key ns x] ∧ (∀ i, SkOwn s v' bs' i → SkOwn s v bs i ∨ w.heap.size ≤ i)
  not : addE last at_ ns ≠ 0 → Below w.heap.size w w'

theorem filter_keep (g W : Int) (bs : List BkS) : (bs.filter (fun x => !decide (x.at_ ≤ g - W))).map BkS.a = keepBk g W (bs.map BkS.a) := by
  unfold keepBk
  rw [List.filter_map]
  congr 1
  refine List.filter_congr (fun x _ => ?_)
  show (!decide (x.at_ ≤ g - W)) = decide (g - W < x.at_)
  by_cases h : x.at_ ≤ g - W
  · rw [decide_eq_true h, decide_eq_false (by omega)]; rfl
  · rw [decide_eq_false h, decide_eq_true (by omega)]; rfl

set_option maxHeartbeats 400000 in
theorem skadd1_any (a c g W : Int) (m q r s : Nat) (hg0 : 0 ≤ g) (hg1 : g ≤ 1152921504606846976) (hW0 : 0 ≤ W) (hW1 : W ≤ 1152921504606846976) (w : World) (hq : w.cell? ⟨q, 0, none⟩ = some (.int .i64 g)) (hr : w.cell? ⟨r, 0, none⟩ = some (.pointer (some ⟨s, 0, none⟩))) (hs : w.cell? ⟨s, 0, none⟩ = some (.int .i64 W)) :
    Calls Try.prog 39 #[.agg #[.int .i64 a, .int .i64 c, .map (some m)], .pointer (some ⟨q, 0, none⟩), .pointer (some ⟨r, 0, none⟩)] w fun e w' => e = .returned (.bool (decide (a ≤ g - W))) ∧ Below w.heap.size w w' := by
  have ql := World.block_lt_of_cell? w _ hq
  have rl := World.block_lt_of_cell? w _ hr
  have sl := World.block_lt_of_cell? w _ hs
  have e1 : IntKind.i64.wrap (g - W) = g - W := IntWalk.i64_in _ (by omega)
  go_enter Try.func39, Try.ntmps39
  go_wp2_with (fail)
  go_quiet (fail)
  go_wp2_with (fail)
  go_ret
  exact ⟨rfl, below_drewS ((Below.refl _ _).alloc (Nat.le_refl _) _) _⟩
theorem enA1 (a b : Int) (m q r : Nat) (wx : World) : (callFunc 39 #[.agg #[.int .i64 a, .int .i64 b, .map (some m)], .pointer (some ⟨q, 0, none⟩), .pointer (some ⟨r, 0, none⟩)]).run Try.prog wx = .ok (.enter 39 #[.agg #[.int .i64 a, .int .i64 b, .map (some m)], .pointer (some ⟨q, 0, none⟩), .pointer (some ⟨r, 0, none⟩)]) wx := by kernel_rfl
end Go.Proofs.Ytogdnacambjhpaa
