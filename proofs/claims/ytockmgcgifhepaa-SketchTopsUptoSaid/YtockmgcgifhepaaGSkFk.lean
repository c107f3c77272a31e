/- Texts of one chain, one behind the other: SkFk, RsF, SpD, SpE, SpF, SpG, SpH, SpI, SpJ, RsG. -/
import Derived.Deep.RegionHeld3
import Derived.Test.YtockmgcgifhepaaGRecs
import Derived.Test.YtockmgcgifhepaaGRsA
import Derived.Test.YtockmgcgifhepaaGSpA
import Derived.Test.YtockmgcgifhepaaOwn

/- sketch: Fork. -/
namespace Go.Proofs.Ytockmgcgifhepaa
open Go.RowKit
set_option linter.unusedVariables false
set_option linter.unusedSimpArgs false

/-- A bucket behind the others, with what it has. -/
theorem skAt_push2 {w wB wN : World} {s : Nat} {h : ShapeS} {last : Int} {v v' : Value} {bs : List BkS} (k : SkAt w s h last v bs) (hb : Below w.heap.size w wB) {m : Nat} {T : Int} {C : Int → Int → Int} (hm : CntAt wB m C) (hm0 : w.heap.size ≤ m) {G : Int} (g0 : 0 ≤ G) (g1 : G ≤ 1152921504606846976)
    (t0 : 0 ≤ T) (t1 : T ≤ 4611686018427387904)
    (hf : bs.length + 1 ≤ 9223372036854775807)
    (hr : wN.ownsRow 0 92 3 v' (bs.length + 1) (flatB bs ++ [.int .i64 G, .int .i64 T, .map (some m)])) (hg : wB.grownBy wN v.ownBlock) (hv : v'.ownBlock = v.ownBlock ∨ v'.ownBlock = some wB.heap.size) :
    SkAt (wN.setCell ⟨s, 5, none⟩ v') s h last v' (bs ++ [⟨G, T, m, C⟩]) ∧ Off (SkOwn s v bs) w (wN.setCell ⟨s, 5, none⟩ v') ∧ (∀ i, SkOwn s v' (bs ++ [⟨G, T, m, C⟩]) i → SkOwn s v bs i ∨ w.heap.size ≤ i) := by
  have hap := k.apart
  rw [List.nodup_cons, List.nodup_append] at hap
  obtain ⟨ap1, ap2, ap3, ap4⟩ := hap
  have kB := k.below hb
  have hvl : ∀ g, v.ownBlock = some g → g < w.heap.size := fun g e => k.lt (by simp [SkOwn, e])
  have hsl : s < w.heap.size := k.lt (by simp [SkOwn])
  have hz := hb.size
  have hml := hm.lt
  have hsv : ¬ v.ownBlock = some s := fun e => ap1 (by simp [e])
  have hsv' : ¬ v'.ownBlock = some s := fun e => by
    rcases hv with h1 | h1
    · exact hsv (h1.symm.trans e)
    · rw [h1] at e; injection e with e; omega
  have h2 : ∀ i, i ≠ s → (wN.setCell ⟨s, 5, none⟩ v').heap[i]? = wN.heap[i]? := fun i hi => heap_setCell_other wN _ i _ hi
  have hold : ∀ x, x ∈ bs → x.m < w.heap.size ∧ x.m ≠ s ∧ some x.m ≠ v.ownBlock := fun x hx => by
    have hxm : x.m ∈ bs.map (·.m) := List.mem_map.2 ⟨x, hx, rfl⟩
    exact ⟨(k.maps x hx).lt, fun e => ap1 (by rw [← e]; simp only [List.mem_append]; exact Or.inr hxm), fun e => ap4 x.m (by simp [← e]) x.m hxm rfl⟩
  have hms : m ≠ s := by omega
  have hmv : some m ≠ v.ownBlock := fun e => by have := hvl m e.symm; omega
  have hfl : flatB (bs ++ [⟨G, T, m, C⟩]) = flatB bs ++ [.int .i64 G, .int .i64 T, .map (some m)] := by simp [flatB, BkS.vals]
  refine ⟨⟨?_, ?_, ?_, ?_, ?_, ?_, k.l0, k.l1⟩, ?_, ?_⟩
  · exact heap_setCell_same wN s 5 _ _ _ ((hg.block s (by omega) (fun e => hsv e.symm)).trans kB.head)
  · have hr2 : RowB wN v' (bs ++ [⟨G, T, m, C⟩]) := by
      unfold RowB
      rw [hfl, show (bs ++ [(⟨G, T, m, C⟩ : BkS)]).length = bs.length + 1 by simp]
      exact hr
    exact hr2.kept (fun g hg => h2 g (fun e => hsv' (by rw [← e]; exact hg)))
  · intro x hx
    rcases List.mem_append.1 hx with hx | hx
    · obtain ⟨e1, e2, e3⟩ := hold x hx
      exact ((kB.maps x hx).kept (hg.block x.m (by omega) e3)).kept (h2 _ e2)
    · obtain rfl := List.mem_singleton.1 hx
      exact (hm.kept (hg.block m hml hmv)).kept (h2 _ hms)
  · rw [List.nodup_cons, List.nodup_append]
    refine ⟨?_, by cases v'.ownBlock <;> simp, ?_, ?_⟩
    · intro e
      simp only [List.mem_append, Option.mem_toList, List.map_append, List.map_cons, List.map_nil, List.mem_singleton] at e
      rcases e with e | e | e
      · exact hsv' e
      · obtain ⟨x, hx, e⟩ := List.mem_map.1 e
        exact (hold x hx).2.1 e
      · exact hms e.symm
    · rw [List.map_append, List.nodup_append]
      refine ⟨ap3, by simp, fun a ha b hb' e => ?_⟩
      obtain ⟨x, hx, rfl⟩ := List.mem_map.1 ha
      have hb2 : b = m := by simpa using hb'
      have := (hold x hx).1
      omega
    · intro a ha b hb' e
      subst e
      have ha2 : v'.ownBlock = some a := by simpa using ha
      simp only [List.map_append, List.mem_append, List.map_cons, List.map_nil, List.mem_singleton] at hb'
      rcases hv with h1 | h1
      · rcases hb' with e | e
        · obtain ⟨x, hx, rfl⟩ := List.mem_map.1 e
          exact (hold x hx).2.2 (by rw [← h1]; exact ha2.symm)
        · subst e; exact hmv (by rw [← h1]; exact ha2.symm)
      · rw [h1] at ha2
        injection ha2 with ha2
        rcases hb' with e | e
        · obtain ⟨x, hx, e⟩ := List.mem_map.1 e
          have := (hold x hx).1
          omega
        · omega
  · simpa using hf
  · intro x hx
    rcases List.mem_append.1 hx with hx | hx
    · exact k.tots x hx
    · obtain rfl := List.mem_singleton.1 hx
      exact ⟨g0, g1, t0, t1⟩
  · refine Off.setCell (p := ⟨s, 5, none⟩) ?_ (fun _ => by simp [SkOwn]) _
    refine (Off.ofBelow (S := SkOwn s v bs) hb).trans (S' := fun i => v.ownBlock = some i) ⟨hg.os, hg.tape, hg.output, hg.size, fun i hi hn => hg.block i hi (fun e => hn e.symm)⟩ (fun i _ e => by simp [SkOwn, e])
  · intro i hi
    unfold SkOwn at hi
    simp only [List.mem_cons, List.mem_append, Option.mem_toList, List.map_append, List.map_cons, List.map_nil, List.not_mem_nil, or_false] at hi
    rcases hi with hi | hi | hi | hi
    · exact Or.inl (by simp [SkOwn, hi])
    · rcases hv with h1 | h1
      · exact Or.inl (by rw [h1] at hi; simp [SkOwn, hi])
      · right; rw [h1] at hi; injection hi with hi; omega
    · exact Or.inl (by unfold SkOwn; simp only [List.mem_cons, List.mem_append]; exact Or.inr (Or.inr hi))
    · right; omega
theorem CntAt.congr {w : World} {m : Nat} {c d : Int → Int → Int} (h : CntAt w m c) (e : ∀ r k, 0 ≤ r → r < 8 → 0 ≤ k → k < 4096 → c r k = d r k) (hd : ∀ r k, 0 ≤ d r k ∧ d r k ≤ 4611686018427387904) : CntAt w m d := by
  obtain ⟨f, n, h1, h2, h3, _⟩ := h
  exact ⟨f, n, h1, fun r k a b x y => by rw [h2 r k a b x y, e r k a b x y], h3, hd⟩
/-- A range over a bucket's map under way, beside the map that is filled. -/
structure FkI (w3 wz : World) (m r m2 : Nat) (cnt : Int → Int → Int) (n : Nat) : Prop where
  src : ∃ f k todo, RangeV wz 97 m r f k todo n ∧ (∀ key v, f key = some v → ∃ a b : Nat, a < 8 ∧ b < 4096 ∧ key = cellV a b ∧ v = .int .i64 (cnt a b)) ∧
    ∃ c2, CntAt wz m2 c2 ∧ ∀ a b, 0 ≤ a → a < 8 → 0 ≤ b → b < 4096 → c2 a b = if todo (cellV a b) then 0 else cnt a b
  off : Off (fun i => i = r ∨ i = m2) w3 wz
theorem cnt_of {cnt : Int → Int → Int} {f : Value → Option Value} (h2 : ∀ r c, 0 ≤ r → r < 8 → 0 ≤ c → c < 4096 → (f (cellV r c)).getD (.int .i64 0) = .int .i64 (cnt r c)) (h3 : ∀ key, (f key).isSome = true → ∃ r c : Nat, r < 8 ∧ c < 4096 ∧ key = cellV r c) :
    ∀ key v, f key = some v → ∃ a b : Nat, a < 8 ∧ b < 4096 ∧ key = cellV a b ∧ v = .int .i64 (cnt a b) := fun key v hv => by
  obtain ⟨a, b, ha, hb, rfl⟩ := h3 key (by rw [hv]; rfl)
  refine ⟨a, b, ha, hb, rfl, ?_⟩
  have := h2 a b (by omega) (by omega) (by omega) (by omega)
  rw [hv] at this
  exact this
def skObjL (h : ShapeS) (last : Int) : Obj := .cells #[.int .i64 h.W, .int .i64 h.B, .int .i64 h.R, .int .i64 h.C, .int .u64 h.seed, .slice none 0 0, .int .i64 last] 86
theorem skAt_made2 (w : World) (h : ShapeS) {last : Int} (l0 : 0 ≤ last) (l1 : last ≤ 1152921504606846976) : SkAt (w.alloc (skObjL h last)) w.heap.size h last (.slice none 0 0) [] :=
  ⟨new_blockS w _, ⟨by simp [maxLen, flatB], Or.inl ⟨rfl, rfl⟩⟩, by simp, by simp [Value.ownBlock], by simp, by simp, l0, l1⟩
theorem boxed2q {wx : World} {bx : Nat} {x y : Value} {o : Obj} (h : wx.cell? ⟨bx, 0, none⟩ = some x ∧ wx.cell? ⟨bx, 1, none⟩ = some y) : (wx.alloc o).cell? ⟨bx, 0, none⟩ = some x ∧ (wx.alloc o).cell? ⟨bx, 1, none⟩ = some y :=
  ⟨(World.cell?_alloc_lt wx o _ (World.block_lt_of_cell? _ _ h.1)).trans h.1, (World.cell?_alloc_lt wx o _ (World.block_lt_of_cell? _ _ h.2)).trans h.2⟩
theorem boxed2s {wx : World} {bx s o : Nat} {x y u : Value} (h : wx.cell? ⟨bx, 0, none⟩ = some x ∧ wx.cell? ⟨bx, 1, none⟩ = some y) (hne : s ≠ bx) : (wx.setCell ⟨s, o, none⟩ u).cell? ⟨bx, 0, none⟩ = some x ∧ (wx.setCell ⟨s, o, none⟩ u).cell? ⟨bx, 1, none⟩ = some y :=
  ⟨cell_far h.1 (fun e => by injection e with e1 _; exact hne e1), cell_far h.2 (fun e => by injection e with e1 _; exact hne e1)⟩
theorem grown_alloc (w : World) (o : Obj) : w.grownBy (w.alloc o) none := by
  have hb : Below w.heap.size w (w.alloc o) := (Below.refl _ _).alloc (Nat.le_refl _) _
  exact ⟨hb.os, hb.tape, hb.output, hb.size, fun i hi _ => hb.block i hi⟩
/-- One more is filled in. -/
theorem FkI.step {w3 wz wn wd : World} {m r m2 : Nat} {cnt : Int → Int → Int} {f : Value → Option Value} {k n' : Nat} {todo : Value → Bool} {c2 : Int → Int → Int} {a b : Nat} {o : Obj} (hr : RangeV wn 97 m r f k (strikeV todo (cellV a b)) n') (hf : ∀ key v, f key = some v → ∃ a b : Nat, a < 8 ∧ b < 4096 ∧ key = cellV a b ∧ v = .int .i64 (cnt a b))
    (hc : CntAt wd m2 (setC c2 a b (cnt a b))) (h2 : ∀ a b, 0 ≤ a → a < 8 → 0 ≤ b → b < 4096 → c2 a b = if todo (cellV a b) then 0 else cnt a b)
    (ho : Off (fun i => i = r ∨ i = m2) w3 wz) (hg1 : wz.grownBy wn (some r)) (hg2 : (wn.alloc o).grownBy wd (some m2)) (hmm : m ≠ m2) (hrm : r ≠ m2) : FkI w3 wd m r m2 cnt n' := by
  refine ⟨⟨f, k, _, (hr.kept (grown_alloc wn o) (by simp) (by simp)).kept hg2 (by simpa using hmm) (by simpa using hrm), hf, _, hc, fun x y x0 x1 y0 y1 => ?_⟩, ((ho.grown hg1 (fun _ => Or.inl rfl)).alloc o).grown hg2 (fun _ => Or.inr rfl)⟩
  unfold setC
  by_cases e : x = a ∧ y = b
  · obtain ⟨rfl, rfl⟩ := e
    rw [if_pos ⟨rfl, rfl⟩, strikeV_same]; rfl
  · rw [if_neg e, strikeV_other _ (fun he => e (cellV_inj he)), h2 x y x0 x1 y0 y1]

end Go.Proofs.Ytockmgcgifhepaa

/- the reference's sketch: Add. -/
namespace Go.Proofs.Ytockmgcgifhepaa
open Go.RowKit
set_option linter.unusedVariables false
set_option linter.unusedSimpArgs false

def R6Own (q : Nat) (v : Value) (i : Nat) : Prop := i = q ∨ v.ownBlock = some i
structure R6Mid (w : World) (q : Nat) (h : ShapeS) (last at_ : Int) (v : Value) (ns : List NoteS) : Prop where
  head : w.heap[q]? = some (.cells #[.int .i64 h.W, .int .i64 h.B, .int .i64 h.R, .int .i64 h.C, .int .u64 h.seed, v, .int .i64 last] 68)
  row : w.ownsRow 0 72 3 v ns.length (flatR ns)
  apart : v.ownBlock ≠ some q
  fine : ∀ x, x ∈ ns → 0 ≤ x.at_ ∧ x.at_ ≤ at_ ∧ 0 ≤ x.n ∧ x.n ≤ 1099511627776 ∧ x.key.size ≤ maxLen
theorem r6_row {w w' : World} {base size n : Nat} {e : TypeId} {v : Value} {xs : List Value} (h : w.ownsRow base e size v n xs) (hk : ∀ g, v.ownBlock = some g → w'.heap[g]? = w.heap[g]?) : w'.ownsRow base e size v n xs := by
  obtain ⟨h1, h2⟩ := h
  refine ⟨h1, ?_⟩
  rcases h2 with h2 | ⟨g, cap, cur, rfl, hb, hg, hrest⟩
  · exact Or.inl h2
  · exact Or.inr ⟨g, cap, cur, rfl, hb, (hk g rfl).trans hg, hrest⟩
theorem R6Mid.slice {w : World} {q : Nat} {h : ShapeS} {last at_ : Int} {v : Value} {ns : List NoteS} (k : R6Mid w q h last at_ v ns) : ∃ a cap, v = .slice a ns.length cap := by
  rcases k.row.2 with ⟨hh, hz⟩ | ⟨g, cp, cur, hh, _⟩
  · exact ⟨none, 0, by rw [hz]; exact hh⟩
  · exact ⟨_, _, hh⟩
theorem R6At.lt {w : World} {q : Nat} {h : ShapeS} {last : Int} {v : Value} {ns : List NoteS} (k : R6At w q h last v ns) : q < w.heap.size := (Array.getElem?_eq_some_iff.1 k.head).1
theorem r6_boxed {wx : World} {p : Addr} {x : Value} {o : Obj} (h : wx.cell? p = some x) : (wx.alloc o).cell? p = some x :=
  (World.cell?_alloc_lt wx o _ (World.block_lt_of_cell? _ _ h)).trans h
theorem info_note6 : (Try.prog.info? 72).map (fun i => (i.zero, i.size, i.bytes)) = some (some (.agg #[.int .i64 0, .int .i64 0, .string ⟨#[]⟩]), 3, 32) := by kernel_rfl
theorem r6_push {w wz w3 : World} {q : Nat} {h : ShapeS} {last at_ n : Int} {key : ByteArray} {v v2 v3 : Value} {NS : List NoteS} {o : Obj} (k : R6Mid wz q h last at_ v2 NS) (ho : Off (R6Own q v) w wz) (how : ∀ i, R6Own q v2 i → R6Own q v i ∨ w.heap.size ≤ i)
    (hr : w3.ownsRow 0 72 3 v3 (NS.length + 1) (flatR NS ++ [.int .i64 at_, .int .i64 n, .string key])) (hg : (wz.alloc o).drew.grownBy w3 v2.ownBlock) (hv : v3.ownBlock = v2.ownBlock ∨ v3.ownBlock = some (wz.alloc o).drew.heap.size)
    (hx : 0 ≤ at_ ∧ 0 ≤ n ∧ n ≤ 1099511627776 ∧ key.size ≤ maxLen) (hql : q < w.heap.size) :
    R6Mid (w3.setCell ⟨q, 5, none⟩ v3) q h last at_ v3 (NS ++ [⟨at_, n, key⟩]) ∧ Off (R6Own q v) w (w3.setCell ⟨q, 5, none⟩ v3) ∧ ∀ i, R6Own q v3 i → R6Own q v i ∨ w.heap.size ≤ i := by
  have hal : Below wz.heap.size wz (wz.alloc o).drew := ((Below.refl _ _).alloc (Nat.le_refl _) _).drew
  have hz1 := hal.size
  have hz0 := ho.size
  have hk : ∀ i, i < wz.heap.size → v2.ownBlock ≠ some i → w3.heap[i]? = wz.heap[i]? := fun i h1 h2 => (hg.block i (by omega) (fun e => h2 e.symm)).trans (hal.block i h1)
  have hq3 := (hk q (by omega) k.apart).trans k.head
  have hap : v3.ownBlock ≠ some q := by
    rcases hv with h | h
    · rw [h]; exact k.apart
    · rw [h]; intro e; injection e with e; omega
  refine ⟨⟨heap_setCell_same _ _ 5 _ _ _ hq3, ?_, hap, fun x hxm => ?_⟩, ?_, fun i hi => ?_⟩
  · rw [List.length_append, List.length_singleton, show flatR (NS ++ [(⟨at_, n, key⟩ : NoteS)]) = flatR NS ++ [.int .i64 at_, .int .i64 n, .string key] by simp [flatR, NoteS.vals]]
    exact r6_row hr (fun g e => heap_setCell_other _ _ _ _ (fun e2 => hap (by rw [e, e2])))
  · rcases List.mem_append.1 hxm with h | h
    · exact k.fine x h
    · obtain rfl := List.mem_singleton.1 h
      exact ⟨hx.1, Int.le_refl _, hx.2.1, hx.2.2.1, hx.2.2.2⟩
  · refine ⟨(hg.os.trans hal.os).trans ho.os, (hg.tape.trans hal.tape).trans ho.tape, (hg.output.trans hal.output).trans ho.output, by simp [World.setCell]; have := hg.size; omega, fun i hi hn => ?_⟩
    rw [heap_setCell_other _ _ _ _ (show i ≠ q from fun e => hn (Or.inl e))]
    refine (hk i (by omega) (fun e => ?_)).trans (ho.block i hi hn)
    rcases how i (Or.inr e) with h | h
    · exact hn h
    · omega
  · rcases hi with h | h
    · exact Or.inl (Or.inl h)
    · rcases hv with h2 | h2
      · exact how i (Or.inr (h2.symm.trans h))
      · rw [h2] at h; injection h with h; right; omega
structure R6Add (w w' : World) (q : Nat) (h : ShapeS) (v : Value) (last at_ : Int) (ns : List NoteS) (e : Ending) (nn : List Int) (key : ByteArray) : Prop where
  err : e = .returned (.int .i64 (addE last at_ nn))
  no : addE last at_ nn ≠ 0 → ∃ m, w' = w.drewN m
  yes : addE last at_ nn = 0 → ∃ v', R6At w' q h at_ v' (ns ++ newNotes at_ key nn) ∧ Off (R6Own q v) w w' ∧ ∀ i, R6Own q v' i → R6Own q v i ∨ w.heap.size ≤ i

set_option maxHeartbeats 6400000 in
set_option maxRecDepth 100000 in
theorem r6add_any {w : World} {q : Nat} {h : ShapeS} {b last : Int} {v : Value} {ns : List NoteS} (k : R6At w q h last v ns) (hb : ShapeOk h b) (at_ : Int) (key : ByteArray) (hk : key.size ≤ maxLen)
    (a : Option Addr) (len cap : Nat) (nn : List Int) (hl : nn.length = len) (hm : len ≤ 9223372036854775807) (hn : IntsAt w a nn) (hap : nn ≠ [] → ∀ g off, a = some ⟨g, off, none⟩ → ¬ R6Own q v g) (hroom : ns.length + len ≤ 1099511627776) :
    Calls Try.prog 7 #[.pointer (some ⟨q, 0, none⟩), .int .i64 at_, .string key, .slice a len cap] w fun e w' => R6Add w w' q h v last at_ ns e nn key := by
  obtain ⟨c0, c1, c2, c3, c4, c5, c6⟩ := k.cells
  have HWR := Lib.hid (fun (wx : World) (hx : wx.cell? ⟨q, 6, none⟩ = some (.int .i64 last)) => r6wrong_any q last at_ wx hx)
  have K := Lib.hid k
  have HN := Lib.hid hn
  have HL := Lib.hid hl
  have HAP := Lib.hid hap
  have HROOM := Lib.hid hroom
  have HC := Lib.hid (And.intro c5 c6)
  clear k hb hn hl hap hroom c0 c1 c2 c3 c4 c5 c6
  go_enter Try.func7, Try.ntmps7
  go_wp2_with (fail)
  go_loopw [9] (fun x9 wr => ∃ (i : Nat), i ≤ len ∧ x9 = .int .i64 i ∧ Hid (∀ j, j < i → badS (nn.getD j 0) = false) ∧ Hid (∃ m, wr = w.drewN m)) (fun x9 _ => len - (intOf x9).toNat)
  case atStart => exact ⟨0, Nat.zero_le _, rfl, Lib.hid (by intro j hj; omega), Lib.hid ⟨0, rfl⟩⟩
  case round =>
    rename World => wr
    obtain ⟨i, hi, rfl, HB, HM⟩ := hrel
    by_cases hlt : i < len
    · have i0 : (0 : Int) ≤ i := by omega
      have i1 : (i : Int) < len := by omega
      have hne : nn ≠ [] := by intro e; have := HL.out; rw [e] at this; simp at this; omega
      obtain ⟨gb, off, rfl, hgl, hcell⟩ : ∃ gb off, a = some ⟨gb, off, none⟩ ∧ gb < w.heap.size ∧ ∀ j, j < nn.length → w.cell? ⟨gb, off + j, none⟩ = some (.int .i64 (nn.getD j 0)) := by
        rcases HN.out with h | h
        · exact absurd h hne
        · exact h
      have e0 : wr.cell? ⟨gb, off + i, none⟩ = some (.int .i64 (nn.getD i 0)) := by obtain ⟨m, rfl⟩ := HM.out; exact hcell i (by rw [HL.out]; exact hlt)
      have hmem : nn.getD i 0 ∈ nn := by
        rw [List.getD_eq_getElem?_getD, List.getElem?_eq_getElem (by rw [HL.out]; exact hlt)]
        exact List.getElem_mem _
      have HBAD := Lib.hid (show badS (nn.getD i 0) = true → addE last at_ nn = 2 from fun hb => by
        unfold addE
        rw [show nn.any badS = true from List.any_eq_true.2 ⟨_, hmem, hb⟩]
        split <;> simp)
      have HGD := Lib.hid (show badS (nn.getD i 0) = false → ∀ j, j < i + 1 → badS (nn.getD j 0) = false from fun hb j hj => by
        by_cases e : j = i
        · subst e; exact hb
        · exact HB.out j (by omega))
      have HBE := Lib.hid (show badS (nn.getD i 0) = (decide (nn.getD i 0 < 0) || decide (1099511627776 < nn.getD i 0)) from rfl)
      clear hne hcell hmem hlt
      generalize nn.getD i 0 = n at *
      by_cases hb0 : n < 0
      · have hE2 := HBAD.out (by rw [HBE.out, decide_eq_true hb0]; rfl)
        have HE2 := Lib.hid hE2
        clear hE2
        go_wp2_with (fail)
        go_ret
        exact ⟨by rw [HE2.out]; rfl, fun _ => HM.out, fun h => absurd (HE2.out.symm.trans h) (by decide)⟩
      · by_cases hb1 : 1099511627776 < n
        · have hE2 := HBAD.out (by rw [HBE.out, decide_eq_true hb1, Bool.or_true])
          have HE2 := Lib.hid hE2
          clear hE2
          go_wp2_with (fail)
          go_ret
          exact ⟨by rw [HE2.out]; rfl, fun _ => HM.out, fun h => absurd (HE2.out.symm.trans h) (by decide)⟩
        · have HG2 := Lib.hid (HGD.out (by rw [HBE.out, decide_eq_false hb0, decide_eq_false hb1]; rfl))
          clear HGD HBAD HBE
          go_wp2_with (fail)
          exact ⟨⟨i + 1, by omega, by go_num, HG2, HM⟩, by first | (simp [intOf]; done) | (simp [intOf]; omega)⟩
    · have i1 : ¬ (i : Int) < len := by omega
      have HANY := Lib.hid (show addE last at_ nn = lookS last at_ by
        have h1 : nn.any badS = false := by
          rw [List.any_eq_false]
          intro x hx
          obtain ⟨j, hj, rfl⟩ := List.getElem_of_mem hx
          have := HB.out j (by rw [HL.out] at hj; omega)
          rw [List.getD_eq_getElem?_getD, List.getElem?_eq_getElem hj] at this
          simpa using this
        unfold addE
        rw [h1]
        split
        · rename_i h; exact h.symm
        · simp)
      have d6 : wr.cell? ⟨q, 6, none⟩ = some (.int .i64 last) := by obtain ⟨m, rfl⟩ := HM.out; exact HC.out.2
      have HW := Lib.hid (HWR.out wr d6)
      clear d6
      by_cases hE : lookS last at_ = 0
      · have HE := Lib.hid hE
        rw [hE] at HW HANY
        clear hE
        go_wp2_with (fail)
        refine HW.out.mono ?_
        rintro e w2 ⟨rfl, hq⟩
        have hq := hq.symm
        subst hq
        go_wp2_with (fail)
        have HMID := Lib.hid (show R6Mid wr q h last at_ v (ns ++ newNotes at_ key (nn.take 0)) from by
          obtain ⟨m, rfl⟩ := HM.out
          have k := K.out.kept (w' := w.drewN m) (fun i _ => rfl)
          simp only [List.take_zero, newNotes, List.map_nil, List.append_nil]
          exact ⟨k.head, k.row, k.apart, fun x hx => by obtain ⟨x1, x2, x3⟩ := k.fine x hx; obtain ⟨_, _, h3⟩ := lookS_ok HE.out; exact ⟨x1, by omega, x3⟩⟩)
        have HOF := Lib.hid (show Off (R6Own q v) w wr from by obtain ⟨m, rfl⟩ := HM.out; exact Off.ofBelow (below_drewS (Below.refl _ _) m))
        go_wp2_with (fail)
        go_loopw [11] (fun x11 wz => ∃ (j : Nat) (v2 : Value), j ≤ len ∧ x11 = .int .i64 j ∧ Hid (R6Mid wz q h last at_ v2 (ns ++ newNotes at_ key (nn.take j))) ∧ Hid (Off (R6Own q v) w wz) ∧ Hid (∀ i, R6Own q v2 i → R6Own q v i ∨ w.heap.size ≤ i)) (fun x11 _ => len - (intOf x11).toNat)
        case atStart => exact ⟨0, v, Nat.zero_le _, rfl, HMID, HOF, Lib.hid (fun i hi => Or.inl hi)⟩
        case round =>
          rename World => wz
          clear HMID HOF
          obtain ⟨j, v2, hj, rfl, HMID, HOF, HOW⟩ := hrel
          by_cases hlj : j < len
          · have j0 : (0 : Int) ≤ j := by omega
            have j1 : (j : Int) < len := by omega
            have hne : nn ≠ [] := by intro e; have := HL.out; rw [e] at this; simp at this; omega
            obtain ⟨gb, off, rfl, hgl, hcell⟩ : ∃ gb off, a = some ⟨gb, off, none⟩ ∧ gb < w.heap.size ∧ ∀ j, j < nn.length → w.cell? ⟨gb, off + j, none⟩ = some (.int .i64 (nn.getD j 0)) := by
              rcases HN.out with h | h
              · exact absurd h hne
              · exact h
            have hnq : ¬ R6Own q v gb := HAP.out hne gb off rfl
            have e0 : wz.cell? ⟨gb, off + j, none⟩ = some (.int .i64 (nn.getD j 0)) := HOF.out.cell (hcell j (by rw [HL.out]; exact hlj)) hnq
            have hbad := HB.out j (by omega)
            have htk : nn.take (j + 1) = nn.take j ++ [nn.getD j 0] := by
              rw [List.take_add_one, List.getElem?_eq_getElem (by rw [HL.out]; exact hlj), List.getD_eq_getElem?_getD, List.getElem?_eq_getElem (by rw [HL.out]; exact hlj)]; rfl
            have HTK := Lib.hid (show ns ++ newNotes at_ key (nn.take (j + 1)) = (ns ++ newNotes at_ key (nn.take j)) ++ [⟨at_, nn.getD j 0, key⟩] by rw [htk]; simp [newNotes])
            generalize nn.getD j 0 = n at *
            obtain ⟨NS, hNS⟩ : ∃ NS, ns ++ newNotes at_ key (nn.take j) = NS := ⟨_, rfl⟩
            have hnl : NS.length ≤ ns.length + len := by
              rw [← hNS]; simp only [newNotes, List.length_append, List.length_map, List.length_take]; have := HL.out; omega
            rw [hNS] at HMID HTK
            obtain ⟨l1, l2, l3⟩ := lookS_ok HE.out
            have HX := Lib.hid (show 0 ≤ at_ ∧ 0 ≤ n ∧ n ≤ 1099511627776 ∧ key.size ≤ maxLen from by
              unfold badS at hbad
              simp only [Bool.or_eq_false_iff, decide_eq_false_iff_not] at hbad
              exact ⟨by omega, by omega, by omega, hk⟩)
            have hroom := HROOM.out
            obtain ⟨aD, capD, hvD⟩ := HMID.out.slice
            obtain ⟨n2, hn2⟩ : ∃ n2, NS.length = n2 := ⟨_, rfl⟩
            rw [hn2] at hvD hnl
            subst hvD
            have HN2 := Lib.hid hn2
            have hql : q < w.heap.size := K.out.lt
            have hqz : q < wz.heap.size := Nat.lt_of_lt_of_le hql HOF.out.size
            have HQL := Lib.hid hql
            have hala : Below wz.heap.size wz (wz.alloc (.cells #[.int .i64 at_, .int .i64 n, .string key] 72)).drew := ((Below.refl _ _).alloc (Nat.le_refl _) _).drew
            have HQW := Lib.hid (show q < (wz.alloc (.cells #[.int .i64 at_, .int .i64 n, .string key] 72)).drew.heap.size from by have := hala.size; omega)
            have HHW := Lib.hid ((hala.block q hqz).trans HMID.out.head)
            have HROW := Lib.hid (show (wz.alloc (.cells #[.int .i64 at_, .int .i64 n, .string key] 72)).drew.ownsRow 0 72 3 (.slice aD n2 capD) n2 (flatR NS) by
              have h1 := HMID.out.row
              rw [hn2] at h1
              exact r6_row h1 (fun g e => hala.block g (h1.lt g e).2))
            have HTC := Lib.hid (show ∀ j u, ([.int .i64 at_, .int .i64 n, .string key] : List Value)[j]? = some u → (wz.alloc (.cells #[.int .i64 at_, .int .i64 n, .string key] 72)).drew.cell? ((⟨wz.heap.size, 0, none⟩ : Addr).add j) = some u from fun j u hu => three_cells wz (.int .i64 at_) (.int .i64 n) (.string key) 72 j u hu)
            have HGB := Lib.hid (show gb < (wz.alloc (.cells #[.int .i64 at_, .int .i64 n, .string key] 72)).drew.heap.size ∧ ¬ (Value.slice aD n2 capD).ownBlock = some gb from ⟨by have := hala.size; have := HOF.out.size; omega, fun e => by
              rcases HOW.out gb (Or.inr e) with h | h
              · exact hnq h
              · omega⟩)
            have HGC := Lib.hid (show ∀ o : Obj, (wz.alloc o).drew.cell? ⟨gb, off + j, none⟩ = some (.int .i64 n) from fun o => (World.cell?_alloc_lt wz o _ (World.block_lt_of_cell? _ _ e0)).trans e0)
            have HNE := Lib.hid (show (⟨q, 5, none⟩ : Addr) ≠ ⟨gb, off + j, none⟩ from fun e => by injection e with e1 _; exact hnq (Or.inl e1.symm))
            have c5 : wz.cell? ⟨q, 5, none⟩ = some (.slice aD n2 capD) := by have := HMID.out.head; simp only [World.cell?, this]; rfl
            have c5B : ∀ o, (wz.alloc o).cell? ⟨q, 5, none⟩ = some (.slice aD n2 capD) := fun o => (World.cell?_alloc_lt wz o _ (World.block_lt_of_cell? _ _ c5)).trans c5
            obtain ⟨i0, hi, hz0, hz1, hz2⟩ := info_parts info_note6
            clear hne hcell hnq hbad htk hNS hn2 hala hql hqz l1 l2 l3 hlj
            go_wp2_with (fail)
            refine wp_region_noPanic ?_
            refine wp_region_held_drew (S := (fun wx => wx.cell? ⟨gb, off + j, none⟩ = some (.int .i64 n))) (by kernel_rfl) ?_ (fun hHeld => ?_)
            · exact e0
            refine wpAnyH_take (i := 0) (v := ?_) rfl (by kernel_rfl) (by kernel_rfl) (by kernel_rfl) (fun _ _ _ h => h) (Or.inl ⟨by rfl, ?hy⟩) (by assumption) ?_
            case hy => intro w hSw; (try dsimp only at hSw); go_simp; try with_reducible rfl
            try simp only [Act.put, List.getElem_toArray, List.getElem_cons_succ, List.getElem_cons_zero, List.setIfInBounds_toArray, List.set_cons_zero, List.set_cons_succ]
            refine wpAnyH_take (i := 1) (v := ?_) rfl (by kernel_rfl) (by kernel_rfl) (by kernel_rfl) (fun _ _ _ h => h) (Or.inl ⟨by rfl, ?hy⟩) (by assumption) ?_
            case hy => intro w hSw; (try dsimp only at hSw); go_simp; try with_reducible rfl
            try simp only [Act.put, List.getElem_toArray, List.getElem_cons_succ, List.getElem_cons_zero, List.setIfInBounds_toArray, List.set_cons_zero, List.set_cons_succ]
            refine wpAnyH_take (i := 2) (v := ?_) rfl (by kernel_rfl) (by kernel_rfl) (by kernel_rfl) (fun _ _ _ h => h) (Or.inl ⟨by rfl, ?hy⟩) (by assumption) ?_
            case hy => intro w hSw; (try dsimp only at hSw); go_simp; try with_reducible rfl
            try simp only [Act.put, List.getElem_toArray, List.getElem_cons_succ, List.getElem_cons_zero, List.setIfInBounds_toArray, List.set_cons_zero, List.set_cons_succ]
            refine wpAnyH_take (i := 3) (v := ?_) rfl (by kernel_rfl) (by kernel_rfl) (by kernel_rfl) (fun _ _ _ h => h) (Or.inl ⟨by rfl, ?hy⟩) (by assumption) ?_
            case hy => intro w hSw; (try dsimp only at hSw); go_simp; try with_reducible rfl
            try simp only [Act.put, List.getElem_toArray, List.getElem_cons_succ, List.getElem_cons_zero, List.setIfInBounds_toArray, List.set_cons_zero, List.set_cons_succ]
            refine wpAnyH_take (i := 5) (v := ?_) rfl (by kernel_rfl) (by kernel_rfl) (by kernel_rfl) (fun _ _ _ h => h) (Or.inl ⟨by rfl, ?hy⟩) (by assumption) ?_
            case hy => intro w hSw; (try dsimp only at hSw); go_simp; try with_reducible rfl
            try simp only [Act.put, List.getElem_toArray, List.getElem_cons_succ, List.getElem_cons_zero, List.setIfInBounds_toArray, List.set_cons_zero, List.set_cons_succ]
            refine wpAnyH_take (i := 6) (v := ?_) rfl (by kernel_rfl) (by kernel_rfl) (by kernel_rfl) (fun _ _ _ h => h) (Or.inl ⟨by rfl, ?hy⟩) (by assumption) ?_
            case hy => intro w hSw; (try dsimp only at hSw); go_simp; try with_reducible rfl
            try simp only [Act.put, List.getElem_toArray, List.getElem_cons_succ, List.getElem_cons_zero, List.setIfInBounds_toArray, List.set_cons_zero, List.set_cons_succ]
            refine wpAnyH_take (i := 7) (v := ?_) rfl (by kernel_rfl) (by kernel_rfl) (by kernel_rfl) (fun _ _ _ h => h) (Or.inl ⟨by rfl, ?hy⟩) (by assumption) ?_
            case hy => intro w hSw; (try dsimp only at hSw); go_simp; try with_reducible rfl
            try simp only [Act.put, List.getElem_toArray, List.getElem_cons_succ, List.getElem_cons_zero, List.setIfInBounds_toArray, List.set_cons_zero, List.set_cons_succ]
            refine wpAnyH_take (i := 8) (v := ?_) rfl (by kernel_rfl) (by kernel_rfl) (by kernel_rfl) (fun _ _ _ h => h) (Or.inl ⟨by rfl, ?hy⟩) (by assumption) ?_
            case hy => intro w hSw; (try dsimp only at hSw); go_simp; try with_reducible rfl
            try simp only [Act.put, List.getElem_toArray, List.getElem_cons_succ, List.getElem_cons_zero, List.setIfInBounds_toArray, List.set_cons_zero, List.set_cons_succ]
            refine wpAnyH_take (i := 9) (v := ?_) rfl (by kernel_rfl) (by kernel_rfl) (by kernel_rfl) (fun _ _ _ h => h) (Or.inl ⟨by rfl, ?hy⟩) (by assumption) ?_
            case hy => intro w hSw; (try dsimp only at hSw); go_simp; try with_reducible rfl
            try simp only [Act.put, List.getElem_toArray, List.getElem_cons_succ, List.getElem_cons_zero, List.setIfInBounds_toArray, List.set_cons_zero, List.set_cons_succ]
            refine wpAnyH_take (i := 10) (v := ?_) rfl (by kernel_rfl) (by kernel_rfl) (by kernel_rfl) (fun _ _ _ h => h) (Or.inl ⟨by rfl, ?hy⟩) (by assumption) ?_
            case hy => intro w hSw; (try dsimp only at hSw); go_simp; try with_reducible rfl
            try simp only [Act.put, List.getElem_toArray, List.getElem_cons_succ, List.getElem_cons_zero, List.setIfInBounds_toArray, List.set_cons_zero, List.set_cons_succ]
            refine wpAnyH_take (i := 11) (v := ?_) rfl (by kernel_rfl) (by kernel_rfl) (by kernel_rfl) (fun _ _ _ h => h) (Or.inl ⟨by rfl, ?hy⟩) (by assumption) ?_
            case hy => intro w hSw; (try dsimp only at hSw); go_simp; try with_reducible rfl
            try simp only [Act.put, List.getElem_toArray, List.getElem_cons_succ, List.getElem_cons_zero, List.setIfInBounds_toArray, List.set_cons_zero, List.set_cons_succ]
            refine wpAnyH_ready (rs := [4, 12]) (by kernel_rfl) (by simp) (AllReadyH.cons rfl (fun K hK => ?_) (AllReadyH.cons rfl (fun K hK => ?_) AllReadyH.nil))
            · go_simp
              try (go_wp2_with fail)
              refine hK.out _ _ ?_ (fun hHeld => ?_)
              · exact hHeld
              clear hK K
              try simp only [Act.put, List.getElem_toArray, List.getElem_cons_succ, List.getElem_cons_zero, List.setIfInBounds_toArray, List.set_cons_zero, List.set_cons_succ]
              refine wpAnyH_ready (rs := [12]) (by kernel_rfl) (by simp) (AllReadyH.cons rfl (fun K hK => ?_) AllReadyH.nil)
              go_simp
              skip
              try (go_wp2_with fail)
              refine hK.out _ _ ?_ (fun hHeld => ?_)
              · exact r6_boxed hHeld
              clear hK K
              try simp only [Act.put, List.getElem_toArray, List.getElem_cons_succ, List.getElem_cons_zero, List.setIfInBounds_toArray, List.set_cons_zero, List.set_cons_succ]
              refine wpAnyH_ready (rs := [13]) (by kernel_rfl) (by simp) (AllReadyH.cons rfl (fun K hK => ?_) AllReadyH.nil)
              rw [if_pos (by rfl)]
              refine wp_append_at _ (.tmp 48) (.tmp 56) 66 rfl 0 72 i0 (.agg #[.int .i64 0, .int .i64 0, .string ⟨#[]⟩]) 3 32 Try.underlying66 hi hz0 hz1 hz2 rfl (by decide) (.slice aD n2 capD) n2 (flatR NS) rfl HROW.out ⟨wz.heap.size, 0, none⟩ 1 1 [.int .i64 at_, .int .i64 n, .string key] rfl rfl HTC.out (by intro u hu; simp at hu; rcases hu with rfl | rfl | rfl <;> rfl) (by unfold maxLen; omega) (by omega) (Nat.zero_le _) (by decide) ?_
              intro v3 w3 hown3 hg3 hk3
              obtain ⟨g3, cap3, rfl⟩ : ∃ g c, v3 = .slice (some ⟨g, 0, none⟩) (n2 + 1) c := by
                rcases hown3.2 with ⟨_, hz⟩ | ⟨g, c, cur, hz, _⟩
                · omega
                · exact ⟨g, c, hz⟩
              have HPUSH := Lib.hid (r6_push HMID.out HOF.out HOW.out (by rw [HN2.out]; exact hown3) hg3 hk3 HX.out HQL.out)
              have hs3 := (hg3.block q HQW.out (fun e => HMID.out.apart e.symm)).trans (show (wz.alloc (.cells #[.int .i64 at_, .int .i64 n, .string key] 72)).drew.heap[q]? = _ from HHW.out)
              have c3s : w3.cell? ⟨q, 5, none⟩ = some (.slice aD n2 capD) := by simp only [World.cell?, hs3]; rfl
              have f3s : w3.frozen? ⟨q, 5, none⟩ = false := by simp only [World.frozen?, hs3]; simp
              have HHB := Lib.hid (show w3.cell? ⟨gb, off + j, none⟩ = some (.int .i64 n) from (World.cell?_of_block (a := ⟨gb, off + j, none⟩) (hg3.block gb HGB.out.1 (fun e => HGB.out.2 e.symm))).trans (HGC.out _))
              clear hown3 hg3 hk3 hs3
              refine hK.out _ _ HHB.out (fun hHeld => ?_)
              clear hK K
              try simp only [Act.put, List.getElem_toArray, List.getElem_cons_succ, List.getElem_cons_zero, List.setIfInBounds_toArray, List.set_cons_zero, List.set_cons_succ]
              refine wpAnyH_take (i := 14) (v := ?_) rfl (by kernel_rfl) (by kernel_rfl) (by kernel_rfl) (fun _ _ _ h => h) (Or.inl ⟨by rfl, ?hy⟩) (by assumption) ?_
              case hy => intro w hSw; (try dsimp only at hSw); go_simp; try with_reducible rfl
              try simp only [Act.put, List.getElem_toArray, List.getElem_cons_succ, List.getElem_cons_zero, List.setIfInBounds_toArray, List.set_cons_zero, List.set_cons_succ]
              refine wpAnyH_take (i := 15) (v := ?_) rfl (by kernel_rfl) (by kernel_rfl) (by kernel_rfl) (fun _ _ _ h => h) (Or.inl ⟨by rfl, ?hy⟩) (by assumption) ?_
              case hy => intro w hSw; (try dsimp only at hSw); go_simp; try with_reducible rfl
              try simp only [Act.put, List.getElem_toArray, List.getElem_cons_succ, List.getElem_cons_zero, List.setIfInBounds_toArray, List.set_cons_zero, List.set_cons_succ]
              refine wpAnyH_ready (rs := [16]) (by kernel_rfl) (by simp) (AllReadyH.cons rfl (fun K hK => ?_) AllReadyH.nil)
              go_simp
              skip
              try (go_wp2_with fail)
              refine hK.out _ _ ?_ (fun hHeld => ?_)
              · exact cell_far hHeld HNE.out
              clear hK K
              try simp only [Act.put, List.getElem_toArray, List.getElem_cons_succ, List.getElem_cons_zero, List.setIfInBounds_toArray, List.set_cons_zero, List.set_cons_succ]
              refine wpAnyH_done (by kernel_rfl) ?_ _
              refine NoPanic.normal ?_
              go_wp2_with (fail)
              exact ⟨⟨j + 1, _, by omega, by go_num, by rw [HTK.out]; exact Lib.hid HPUSH.out.1, Lib.hid HPUSH.out.2.1, Lib.hid HPUSH.out.2.2⟩, by first | (simp [intOf]; done) | (simp [intOf]; omega)⟩
            · go_simp
              try (go_wp2_with fail)
              refine hK.out _ _ ?_ (fun hHeld => ?_)
              · exact r6_boxed hHeld
              clear hK K
              try simp only [Act.put, List.getElem_toArray, List.getElem_cons_succ, List.getElem_cons_zero, List.setIfInBounds_toArray, List.set_cons_zero, List.set_cons_succ]
              refine wpAnyH_ready (rs := [4]) (by kernel_rfl) (by simp) (AllReadyH.cons rfl (fun K hK => ?_) AllReadyH.nil)
              go_simp
              skip
              try (go_wp2_with fail)
              refine hK.out _ _ ?_ (fun hHeld => ?_)
              · exact hHeld
              clear hK K
              try simp only [Act.put, List.getElem_toArray, List.getElem_cons_succ, List.getElem_cons_zero, List.setIfInBounds_toArray, List.set_cons_zero, List.set_cons_succ]
              refine wpAnyH_ready (rs := [13]) (by kernel_rfl) (by simp) (AllReadyH.cons rfl (fun K hK => ?_) AllReadyH.nil)
              rw [if_pos (by rfl)]
              refine wp_append_at _ (.tmp 48) (.tmp 56) 66 rfl 0 72 i0 (.agg #[.int .i64 0, .int .i64 0, .string ⟨#[]⟩]) 3 32 Try.underlying66 hi hz0 hz1 hz2 rfl (by decide) (.slice aD n2 capD) n2 (flatR NS) rfl HROW.out ⟨wz.heap.size, 0, none⟩ 1 1 [.int .i64 at_, .int .i64 n, .string key] rfl rfl HTC.out (by intro u hu; simp at hu; rcases hu with rfl | rfl | rfl <;> rfl) (by unfold maxLen; omega) (by omega) (Nat.zero_le _) (by decide) ?_
              intro v3 w3 hown3 hg3 hk3
              obtain ⟨g3, cap3, rfl⟩ : ∃ g c, v3 = .slice (some ⟨g, 0, none⟩) (n2 + 1) c := by
                rcases hown3.2 with ⟨_, hz⟩ | ⟨g, c, cur, hz, _⟩
                · omega
                · exact ⟨g, c, hz⟩
              have HPUSH := Lib.hid (r6_push HMID.out HOF.out HOW.out (by rw [HN2.out]; exact hown3) hg3 hk3 HX.out HQL.out)
              have hs3 := (hg3.block q HQW.out (fun e => HMID.out.apart e.symm)).trans (show (wz.alloc (.cells #[.int .i64 at_, .int .i64 n, .string key] 72)).drew.heap[q]? = _ from HHW.out)
              have c3s : w3.cell? ⟨q, 5, none⟩ = some (.slice aD n2 capD) := by simp only [World.cell?, hs3]; rfl
              have f3s : w3.frozen? ⟨q, 5, none⟩ = false := by simp only [World.frozen?, hs3]; simp
              have HHB := Lib.hid (show w3.cell? ⟨gb, off + j, none⟩ = some (.int .i64 n) from (World.cell?_of_block (a := ⟨gb, off + j, none⟩) (hg3.block gb HGB.out.1 (fun e => HGB.out.2 e.symm))).trans (HGC.out _))
              clear hown3 hg3 hk3 hs3
              refine hK.out _ _ HHB.out (fun hHeld => ?_)
              clear hK K
              try simp only [Act.put, List.getElem_toArray, List.getElem_cons_succ, List.getElem_cons_zero, List.setIfInBounds_toArray, List.set_cons_zero, List.set_cons_succ]
              refine wpAnyH_take (i := 14) (v := ?_) rfl (by kernel_rfl) (by kernel_rfl) (by kernel_rfl) (fun _ _ _ h => h) (Or.inl ⟨by rfl, ?hy⟩) (by assumption) ?_
              case hy => intro w hSw; (try dsimp only at hSw); go_simp; try with_reducible rfl
              try simp only [Act.put, List.getElem_toArray, List.getElem_cons_succ, List.getElem_cons_zero, List.setIfInBounds_toArray, List.set_cons_zero, List.set_cons_succ]
              refine wpAnyH_take (i := 15) (v := ?_) rfl (by kernel_rfl) (by kernel_rfl) (by kernel_rfl) (fun _ _ _ h => h) (Or.inl ⟨by rfl, ?hy⟩) (by assumption) ?_
              case hy => intro w hSw; (try dsimp only at hSw); go_simp; try with_reducible rfl
              try simp only [Act.put, List.getElem_toArray, List.getElem_cons_succ, List.getElem_cons_zero, List.setIfInBounds_toArray, List.set_cons_zero, List.set_cons_succ]
              refine wpAnyH_ready (rs := [16]) (by kernel_rfl) (by simp) (AllReadyH.cons rfl (fun K hK => ?_) AllReadyH.nil)
              go_simp
              skip
              try (go_wp2_with fail)
              refine hK.out _ _ ?_ (fun hHeld => ?_)
              · exact cell_far hHeld HNE.out
              clear hK K
              try simp only [Act.put, List.getElem_toArray, List.getElem_cons_succ, List.getElem_cons_zero, List.setIfInBounds_toArray, List.set_cons_zero, List.set_cons_succ]
              refine wpAnyH_done (by kernel_rfl) ?_ _
              refine NoPanic.normal ?_
              go_wp2_with (fail)
              exact ⟨⟨j + 1, _, by omega, by go_num, by rw [HTK.out]; exact Lib.hid HPUSH.out.1, Lib.hid HPUSH.out.2.1, Lib.hid HPUSH.out.2.2⟩, by first | (simp [intOf]; done) | (simp [intOf]; omega)⟩
          · have j1 : ¬ (j : Int) < len := by omega
            have e5 : wz.cell? ⟨q, 6, none⟩ = some (.int .i64 last) := by have := HMID.out.head; simp only [World.cell?, this]; rfl
            have f5 : wz.frozen? ⟨q, 6, none⟩ = false := by have := HMID.out.head; simp only [World.frozen?, this]; simp
            have htk : nn.take j = nn := List.take_of_length_le (by rw [HL.out]; omega)
            rw [htk] at HMID
            have hm := HMID.out
            obtain ⟨l1, l2, l3⟩ := lookS_ok HE.out
            have HFIN := Lib.hid (show R6At (wz.setCell ⟨q, 6, none⟩ (.int .i64 at_)) q h at_ v2 (ns ++ newNotes at_ key nn) from
              ⟨heap_setCell_same _ _ 6 _ _ _ hm.head, r6_row hm.row (fun g e => heap_setCell_other _ _ _ _ (fun e2 => hm.apart (by rw [e, e2]))), hm.apart, hm.fine, l1, l2, by
                simp only [newNotes, List.length_append, List.length_map]; have := HROOM.out; have := HL.out; omega⟩)
            have HOF2 := Lib.hid (HOF.out.setCell (p := ⟨q, 6, none⟩) (fun _ => Or.inl rfl) (.int .i64 at_))
            clear htk hm
            go_wp2_with (fail)
            go_ret
            exact ⟨by rw [HANY.out]; rfl, fun h => absurd HANY.out h, fun _ => ⟨v2, HFIN.out, HOF2.out, HOW.out⟩⟩
      · generalize lookS last at_ = E at *
        have hne : (E != 0) = true := by simpa using hE
        have HE := Lib.hid hE
        clear hE
        go_wp2_with (fail)
        refine HW.out.mono ?_
        rintro e w2 ⟨rfl, hq⟩
        have hq := hq.symm
        subst hq
        go_wp2_with (fail)
        go_ret
        exact ⟨by rw [HANY.out]; rfl, fun _ => HM.out, fun h => absurd (HANY.out.symm.trans h) HE.out⟩
end Go.Proofs.Ytockmgcgifhepaa

/- the reference's sketch: Top. -/
namespace Go.Proofs.Ytockmgcgifhepaa
open Go.RowKit Go.ChangeMaps Go.MapKept
set_option linter.unusedVariables false
set_option linter.unusedSimpArgs false

theorem wp_append_none {P : Program} {w : World} {o : Oper} {a : Act} {K : Act → World → Prop} {Q : Exit → Act → World → Prop} (s x : Operand) (t : TypeId)
    (ho : o.op = .call { callee := .builtin .append, args := #[s, x], argTypes := #[t, t] })
    (base : Nat) (e : TypeId) (i : TypeInfo) (size : Nat) (ht : P.underlying t = some (.slice e)) (hi : P.info? e = some i)
    (v : Value) (n : Nat) (xs : List Value) (hs : a.eval s = v) (hown : w.ownsRow base e size v n xs) (hx : a.eval x = .slice none 0 0)
    (h : K (a.put o.dst v) w) : o.wp P a w K Q := by
  have hrun := run_append_owned_none (P := P) (w := w) base t o.type e i size ht hi v n xs hown
  unfold Oper.wp
  simp [execOp, ho, resolve, invoke, builtin, hs, hx, hrun, Result.andThen]
  exact h

theorem wp_append_fl {P : Program} (w : World) {o : Oper} {a : Act} {K : Act → World → Prop} {Q : Exit → Act → World → Prop} (s x : Operand) (t : TypeId)
    (ho : o.op = .call { callee := .builtin .append, args := #[s, x], argTypes := #[t, t] })
    (base : Nat) (e : TypeId) (i : TypeInfo) (z : Value) (size bytes : Nat) (ht : P.underlying t = some (.slice e)) (hi : P.info? e = some i) (hz : i.zero = some z)
    (hsize : i.size = size) (hby : i.bytes = bytes) (hzs : z.cells.size = size) (hsz : 0 < size)
    (v : Value) (n : Nat) (xs : List Value) (hs : a.eval s = v) (hown : w.ownsRow base e size v n xs)
    (ad : Option Addr) (m c : Nat) (news : List Value) (hx : a.eval x = .slice ad m c) (hnil : ad = none → m = 0 ∧ c = 0) (hl : news.length = m * size) (hnews : ∀ b, ad = some b → ∀ j u, news[j]? = some u → w.cell? (b.add j) = some u) (h1 : ∀ u ∈ news, u.oneCell' = true)
    (h63 : n + m ≤ maxLen) (hbytes : (n + m) * bytes ≤ 140737488355328) (hbase : base ≤ w.heap.size)
    (h : ∀ v' w', w'.ownsRow base e size v' (n + m) (xs ++ news) → w.grownBy w' v.ownBlock → K (a.put o.dst v') w') : o.wp P a w K Q := by
  rcases ad with _ | b
  · obtain ⟨rfl, rfl⟩ := hnil rfl
    obtain rfl : news = [] := List.length_eq_zero_iff.1 (by omega)
    refine wp_append_none s x t ho base e i size ht hi v n xs hs hown hx (h _ _ (by rw [List.append_nil]; exact hown) ⟨rfl, rfl, rfl, Nat.le_refl _, fun _ _ _ => rfl⟩)
  · exact wp_append_own w s x t ho base e i z size bytes ht hi hz hsize hby hzs hsz v n xs hs hown b m c news hx hl (hnews b rfl) h1 h63 hbytes hbase (fun v' w' p q _ => h v' w' p q)
theorem wpList_append_fl {P : Program} (w : World) {ops : Array Oper} {rest : List Oper} {o : Oper} {a : Act} {Q : Exit → Act → World → Prop} (hgd : o.guard = none) (s x : Operand) (t : TypeId)
    (ho : o.op = .call { callee := .builtin .append, args := #[s, x], argTypes := #[t, t] })
    (base : Nat) (e : TypeId) (i : TypeInfo) (z : Value) (size bytes : Nat) (ht : P.underlying t = some (.slice e)) (hi : P.info? e = some i) (hz : i.zero = some z)
    (hsize : i.size = size) (hby : i.bytes = bytes) (hzs : z.cells.size = size) (hsz : 0 < size)
    (v : Value) (n : Nat) (xs : List Value) (hs : a.eval s = v) (hown : w.ownsRow base e size v n xs)
    (ad : Option Addr) (m c : Nat) (news : List Value) (hx : a.eval x = .slice ad m c) (hnil : ad = none → m = 0 ∧ c = 0) (hl : news.length = m * size) (hnews : ∀ b, ad = some b → ∀ j u, news[j]? = some u → w.cell? (b.add j) = some u) (h1 : ∀ u ∈ news, u.oneCell' = true)
    (h63 : n + m ≤ maxLen) (hbytes : (n + m) * bytes ≤ 140737488355328) (hbase : base ≤ w.heap.size)
    (h : ∀ v' w', w'.ownsRow base e size v' (n + m) (xs ++ news) → w.grownBy w' v.ownBlock → wpList P ops Q rest (a.put o.dst v') w') : wpList P ops Q (o :: rest) a w :=
  wpList_plain hgd fun _ hK => wp_append_fl w s x t ho base e i z size bytes ht hi hz hsize hby hzs hsz v n xs hs hown ad m c news hx hnil hl hnews h1 h63 hbytes hbase fun v' w' p q => hK _ _ (h v' w' p q)


theorem mem_insT {L : List ItT} {b z : ItT} : z ∈ insT L b ↔ z = b ∨ z ∈ L := by
  constructor
  · exact mem_ins
  · induction L with
    | nil =>
      intro h
      rcases h with h | h
      · exact List.mem_singleton.2 h
      · cases h
    | cons y R ih =>
      intro h
      show z ∈ (if ltT b y then b :: y :: R else y :: insT R b)
      split
      · rcases h with h | h
        · exact List.mem_cons.2 (Or.inl h)
        · exact List.mem_cons_of_mem _ h
      · rcases h with h | h
        · exact List.mem_cons_of_mem _ (ih (Or.inl h))
        · rcases List.mem_cons.1 h with h | h
          · exact List.mem_cons.2 (Or.inl h)
          · exact List.mem_cons_of_mem _ (ih (Or.inr h))
theorem mem_isort {L : List ItT} {z : ItT} : z ∈ isort L ↔ z ∈ L := by
  have key : ∀ (B A : List ItT), z ∈ B.foldl insT A ↔ z ∈ A ∨ z ∈ B := by
    intro B
    induction B with
    | nil => intro A; simp
    | cons x B ih =>
      intro A
      rw [List.foldl_cons, ih, mem_insT, List.mem_cons]
      constructor
      · rintro ((h | h) | h)
        · exact Or.inr (Or.inl h)
        · exact Or.inl h
        · exact Or.inr (Or.inr h)
      · rintro (h | h | h)
        · exact Or.inl (Or.inr h)
        · exact Or.inl (Or.inl h)
        · exact Or.inr h
  have := key L []
  simpa [isort] using this
/-- Does a key stand in a row? -/
def hasT (L : List ItT) (key : ByteArray) : Bool := Lib.containsS (L.map (·.val)) key
theorem uns_has (E : ByteArray → Int) (key : ByteArray) (hp : 0 < E key) (P : List ByteArray) : hasT (isort (uns E P)) key = Lib.containsS P key := by
  have h1 : ∀ n (P : List ByteArray), P.length = n → ((∃ x ∈ uns E P, x.val = key) ↔ key ∈ P) := by
    intro n
    induction n with
    | zero =>
      intro P hP
      obtain rfl := List.length_eq_zero_iff.1 hP
      simp [uns_nil]
    | succ n ih =>
      intro P hP
      have hne : P ≠ [] := fun e => by rw [e] at hP; cases hP
      obtain ⟨P', k, rfl⟩ : ∃ B' b, P = B' ++ [b] := ⟨P.dropLast, P.getLast hne, (List.dropLast_concat_getLast hne).symm⟩
      have ih' := ih P' (by simpa using hP)
      rw [uns_snoc, List.mem_append, List.mem_singleton]
      by_cases hc : 0 < E k ∧ Lib.containsS P' k = false
      · rw [if_pos hc]
        constructor
        · rintro ⟨x, hx, hv⟩
          rcases List.mem_append.1 hx with hx | hx
          · exact Or.inl (ih'.1 ⟨x, hx, hv⟩)
          · rw [List.mem_singleton.1 hx] at hv; exact Or.inr hv.symm
        · rintro (h | h)
          · obtain ⟨x, hx, hv⟩ := ih'.2 h
            exact ⟨x, List.mem_append_left _ hx, hv⟩
          · exact ⟨_, List.mem_append_right _ (List.mem_singleton.2 rfl), h.symm⟩
      · rw [if_neg hc]
        constructor
        · exact fun h => Or.inl (ih'.1 h)
        · rintro (h | h)
          · exact ih'.2 h
          · subst h
            have : key ∈ P' := by
              cases hcs : Lib.containsS P' key
              · exact absurd ⟨hp, hcs⟩ hc
              · exact (Lib.containsS_iff _ _).1 hcs
            exact ih'.2 this
  unfold hasT
  rw [Bool.eq_iff_iff, Lib.containsS_iff, Lib.containsS_iff, List.mem_map, ← h1 _ P rfl]
  constructor
  · rintro ⟨x, hx, hv⟩; exact ⟨x, mem_isort.1 hx, hv⟩
  · rintro ⟨x, hx, hv⟩; exact ⟨x, mem_isort.2 hx, hv⟩
theorem toList_decT (a b : ByteArray) : (a.toList == b.toList) = decide (a = b) := by
  rw [ByteArray.toList_eq, ByteArray.toList_eq]
  by_cases h : a = b
  · subst h; simp
  · rw [decide_eq_false h, beq_eq_false_iff_ne]
    intro e
    apply h
    rcases a with ⟨⟨a⟩⟩; rcases b with ⟨⟨b⟩⟩
    simpa using e
theorem has_take {L : List ItT} {k : Nat} {x : ItT} (hx : L[k]? = some x) {key : ByteArray} (h : hasT (L.take k) key = false) : hasT (L.take (k + 1)) key = (x.val.toList == key.toList) := by
  rw [List.take_add_one, hx]
  unfold hasT at h ⊢
  rw [List.map_append, toList_decT]
  have hno : ¬ key ∈ (L.take k).map (·.val) := fun e => by rw [(Lib.containsS_iff _ _).2 e] at h; cases h
  rw [Bool.eq_iff_iff, Lib.containsS_iff, decide_eq_true_eq, List.mem_append]
  constructor
  · intro e
    rcases e with e | e
    · exact absurd e hno
    · simp at e; exact e.symm
  · intro e; right; simp [e]

set_option maxHeartbeats 3200000 in
theorem r6has_any {w : World} (a : Option Addr) (n c : Nat) (L : List ItT) (hl : L.length = n) (hm : n ≤ 9223372036854775806) (hs : ItsAt w a L) (x : ByteArray) :
    Calls Try.prog 31 #[.slice a n c, .string x] w fun e w' => e = .returned (.bool (hasT L x)) ∧ w' = w := by
  have HS := Lib.hid hs
  have HL := Lib.hid hl
  clear hs hl
  go_enter Try.func31, Try.ntmps31
  go_wp2_with (fail)
  go_loopw [5] (fun s5 wr => ∃ k : Nat, k ≤ n ∧ s5 = .int .i64 k ∧ wr = w ∧ Hid (hasT (L.take k) x = false)) (fun s5 _ => n - (intOf s5).toNat)
  case atStart => exact ⟨0, Nat.zero_le _, rfl, rfl, Lib.hid (by unfold hasT; rw [List.take_zero]; cases hc : Lib.containsS (([] : List ItT).map (·.val)) x; (· rfl); (· rw [Lib.containsS_iff] at hc; cases hc))⟩
  case round =>
    obtain ⟨k, hk, rfl, hq, HC⟩ := hrel
    subst hq
    rename World => wr
    by_cases hlt : k < n
    · have k0 : (0 : Int) ≤ k := by omega
      have k1 : (k : Int) < n := by omega
      have hkl : k < L.length := by rw [HL.out]; exact hlt
      obtain ⟨y, hy⟩ : ∃ y, L[k]? = some y := ⟨_, List.getElem?_eq_getElem hkl⟩
      obtain ⟨b, off, rfl, hbl, hcell⟩ : ∃ b off, a = some ⟨b, off, none⟩ ∧ b < wr.heap.size ∧ ∀ j x, L[j]? = some x → wr.cell? ⟨b, off + j * 2, none⟩ = some (.string x.val) ∧ wr.cell? ⟨b, off + j * 2 + 1, none⟩ = some (.int .i64 x.cnt) := by
        rcases HS.out with h | h
        · rw [h] at hkl; cases hkl
        · exact h
      have d0 := (hcell k y hy).1
      have HT := Lib.hid (has_take hy HC.out)
      obtain ⟨t, ht⟩ : ∃ t, y.val = t := ⟨_, rfl⟩
      rw [ht] at d0 HT
      have HY := Lib.hid hy
      clear hcell hy ht hbl hkl
      cases he : (t.toList == x.toList)
      · go_wp2_with (fail)
        exact ⟨⟨k + 1, by omega, by go_num, by first | trivial | rfl, Lib.hid (by rw [HT.out, he])⟩, by first | (simp [intOf]; done) | (simp [intOf]; omega)⟩
      · have HT2 := Lib.hid (show hasT L x = true by
          have h1 := HT.out
          rw [he] at h1
          unfold hasT at h1 ⊢
          rw [Lib.containsS_iff] at h1
          obtain ⟨z, hz, hv⟩ := List.mem_map.1 h1
          exact (Lib.containsS_iff _ _).2 (List.mem_map.2 ⟨z, List.mem_of_mem_take hz, hv⟩))
        go_wp2_with (fail)
        go_ret
        exact ⟨by rw [HT2.out]; rfl, rfl⟩
    · have hkn : k = n := by omega
      have HT2 := Lib.hid (show hasT L x = false by
        have h1 := HC.out
        rwa [hkn, List.take_of_length_le (by rw [HL.out]; exact Nat.le_refl _)] at h1)
      go_wp2_with (fail)
      go_ret
      exact ⟨by rw [HT2.out]; rfl, rfl⟩

theorem flatT_one (xs : List ItT) : ∀ u ∈ flatT xs, u.oneCell' = true := by
  intro u hu
  unfold flatT at hu
  obtain ⟨r, hr, hu⟩ := List.mem_flatten.1 hu
  obtain ⟨x, _, rfl⟩ := List.mem_map.1 hr
  simp only [List.mem_cons, List.not_mem_nil, or_false] at hu
  rcases hu with rfl | rfl <;> rfl
/-- A row of items of the call's own. -/
structure OwnT (w0 : World) (base : Nat) (v : Value) (xs : List ItT) (w : World) : Prop where
  bel : Below w0.heap.size w0 w
  b0 : w0.heap.size ≤ base
  bs : base ≤ w.heap.size
  row : w.ownsRow base 77 2 v xs.length (flatT xs)
structure InnT (wr : World) (L : List ItT) (n : Int) (X : Nat) (v : Value) (wz : World) : Prop where
  bel : Below wr.heap.size wr wz
  row : wz.ownsRow wr.heap.size 77 2 v X (flatT (L.take X))
theorem InnT.push {wr wz wx : World} {L : List ItT} {n : Int} {X : Nat} {v : Value} {o : Obj} (h : InnT wr L n X v wz) (hg : (wz.alloc o).grownBy wx v.ownBlock) : Below wr.heap.size wr wx :=
  (h.bel.alloc h.bel.size _).grown hg (by have := h.bel.size; simp; omega) (fun k e => h.row.lt k e |>.1)
theorem OwnT.below {w0 w w' : World} {base : Nat} {v : Value} {xs : List ItT} (h : OwnT w0 base v xs w) (hb : Below w.heap.size w w') : OwnT w0 base v xs w' := ⟨h.bel.trans (hb.mono h.bel.size), h.b0, Nat.le_trans h.bs hb.size, below_ownT h.row hb⟩
/-- What the reference's top gives. -/
def R6Top (w : World) (L : List ItT) (E : Int) (e : Ending) (w' : World) : Prop := ∃ a n c, e = .returned (.tuple #[.slice a n c, .int .i64 E]) ∧ L.length = n ∧ ItsAt w' a L ∧ Below w.heap.size w w'
theorem drop_lt {L : List ItT} {X : Nat} {y : ItT} {n : Int} (hs : srt L) (hy : L[X]? = some y) (hn : y.cnt < n) : ∀ z ∈ L.drop X, z.cnt < n := by
  intro z hz
  obtain ⟨j, hj⟩ := List.getElem?_of_mem hz
  rw [List.getElem?_drop] at hj
  by_cases e : j = 0
  · subst e
    rw [Nat.add_zero, hy] at hj
    obtain rfl := Option.some.inj hj
    exact hn
  · have h1 := List.pairwise_iff_getElem.1 hs X (X + j) (List.getElem?_eq_some_iff.1 hy).1 (List.getElem?_eq_some_iff.1 hj).1 (by omega)
    rw [(List.getElem?_eq_some_iff.1 hy).2, (List.getElem?_eq_some_iff.1 hj).2] at h1
    simp only [ltT, decide_eq_false_iff_not] at h1
    omega
theorem tail_cells {w : World} {base X u c g2 off2 : Nat} {L : List ItT} (h : w.ownsRow base 77 2 (.slice (some ⟨g2, off2, none⟩) u c) u (flatT L)) : ∀ b, some (⟨g2, off2 + X * 2, none⟩ : Addr) = some b → ∀ j x, (flatT (L.drop X))[j]? = some x → w.cell? (b.add j) = some x := by
  intro b hb j x hj
  injection hb with hb
  subst hb
  rw [Go.WideShapes.add_plain]
  have hjl : j < (L.drop X).length * 2 := by have := (List.getElem?_eq_some_iff.1 hj).1; rw [flatT_len] at this; exact this
  rcases (own_its h).2.2 with h1 | ⟨b, off, h1, _, h2⟩
  · rw [h1, List.drop_nil] at hjl; simp at hjl
  · injection h1 with h1
    injection h1 with e1 e2 _
    subst e1 e2
    obtain ⟨q, hq⟩ : ∃ q, j / 2 = q := ⟨_, rfl⟩
    have hx : (L.drop X)[q]? = some ((L.drop X)[q]'(by omega)) := List.getElem?_eq_getElem (by omega)
    have h4 := flatT_get hx
    rw [List.getElem?_drop] at hx
    have h5 := h2 (X + q) _ hx
    by_cases e : j % 2 = 0
    · have e2 : j = q * 2 := by omega
      subst e2
      rw [h4.1] at hj
      rw [← hj, ← h5.1]
      congr 2
      omega
    · have e2 : j = q * 2 + 1 := by omega
      subst e2
      rw [h4.2] at hj
      rw [← hj, ← h5.2]
      congr 2
      omega
theorem OwnT.fin {w0 wr w6 w7 : World} {base X M : Nat} {v v6 v7 : Value} {L : List ItT} {n : Int} {key : ByteArray} {ys NEWS : List Value} (h : OwnT w0 base v L wr) (hb6 : Below wr.heap.size wr w6) (ho6 : w6.ownsRow wr.heap.size 77 2 v6 (X + 1) ys)
    (hown7 : w7.ownsRow wr.heap.size 77 2 v7 (X + 1 + M) ((flatT (L.take X) ++ [.string key, .int .i64 n]) ++ NEWS)) (hg7 : w6.grownBy w7 v6.ownBlock) (hN : NEWS = flatT (L.drop X)) (hM : M = L.length - X) (hX : X ≤ L.length) (hT : ∀ y ∈ L.take X, n ≤ y.cnt) (hD : ∀ z ∈ L.drop X, z.cnt < n) :
    OwnT w0 base v7 (insT L ⟨key, n⟩) w7 := by
  have hb7 : Below wr.heap.size wr w7 := hb6.grown hg7 hb6.size (fun k e => (ho6.lt k e).1)
  have hins : insT L ⟨key, n⟩ = L.take X ++ ⟨key, n⟩ :: L.drop X := by
    have h1 := insT_at (L.take X) (L.drop X) ⟨key, n⟩ (fun y hy => by have := hT y hy; simp only [ltT, decide_eq_false_iff_not]; omega) (fun y hy => by have := hD y hy; simp only [ltT, decide_eq_true_eq]; omega)
    rwa [List.take_append_drop] at h1
  refine ⟨h.bel.trans (hb7.mono h.bel.size), h.b0, Nat.le_trans h.bs hb7.size, ?_⟩
  rw [hins]
  have e1 : (L.take X ++ (⟨key, n⟩ : ItT) :: L.drop X).length = X + 1 + M := by
    rw [List.length_append, List.length_cons, List.length_take, List.length_drop]; omega
  have e2 : flatT (L.take X ++ (⟨key, n⟩ : ItT) :: L.drop X) = (flatT (L.take X) ++ [.string key, .int .i64 n]) ++ NEWS := by
    rw [flatT_app, hN, List.append_assoc]; rfl
  rw [e1, e2]
  exact ownsRow_baseT hown7 h.bs

set_option maxHeartbeats 12800000 in
set_option maxRecDepth 100000 in
theorem r6top_ok {w : World} {q : Nat} {h : ShapeS} {b last : Int} {v : Value} {notes : List NoteS} (k : R6At w q h last v notes) (hb : ShapeOk h b) (at_ kk : Int) (keys : List ByteArray) (a : Option Addr) (len cap : Nat) (hl : keys.length = len) (hlen : len ≤ 1048576) (hta : TextsAt w a keys) (hz : ∀ s ∈ keys, s.size ≤ maxLen)
    (hE : lookS last at_ = 0) (hk : 0 ≤ kk) (hk2 : kk ≤ 9223372036854775807) (hpos : ∀ key, 0 ≤ estN h b at_ key notes) :
    Calls Try.prog 10 #[.pointer (some ⟨q, 0, none⟩), .int .i64 at_, .int .i64 kk, .slice a len cap] w (R6Top w (topN (fun key => estN h b at_ key notes) keys kk.toNat) 0) := by
  obtain ⟨ii, i0, i1, i2, i3⟩ := info_partsO info_itT
  have HL := Lib.hid (r6wrong_any q last at_ w k.cells.2.2.2.2.2.2)
  rw [hE] at HL
  obtain ⟨E, hEE⟩ : ∃ E : ByteArray → Int, (fun key => estN h b at_ key notes) = E := ⟨_, rfl⟩
  rw [hEE]
  have HES : Hid (∀ wx, Below w.heap.size w wx → ∀ key : ByteArray, key.size ≤ maxLen → Calls Try.prog 30 #[.pointer (some ⟨q, 0, none⟩), .int .i64 at_, .string key] wx fun e w' => e = .returned (.tuple #[.int .i64 (E key), .int .i64 0]) ∧ Below wx.heap.size wx w') := fun wx hx key hkk => by
    refine (r6est_any (k.kept (fun i hi => hx.block i (by
      rcases hi with rfl | e
      · exact k.lt
      · exact (k.row.lt i e).2))) hb at_ key hkk).mono ?_
    rintro e w' ⟨rfl, m, rfl⟩
    rw [if_pos hE, hE, ← hEE]
    exact ⟨rfl, ⟨rfl, rfl, rfl, Nat.le_refl _, fun _ _ => rfl⟩⟩
  have HPOS : Hid (∀ key, 0 ≤ E key) := fun key => by rw [← hEE]; exact hpos key
  have HTA := Lib.hid hta
  have HZ := Lib.hid hz
  have HKL := Lib.hid hl
  have HST : Hid (OwnT w w.heap.size (.slice none 0 0) (isort (uns E (keys.take 0))) w) := by
    refine ⟨Below.refl _ _, Nat.le_refl _, Nat.le_refl _, ?_⟩
    rw [List.take_zero]
    exact World.ownsRow_nil _ _ _ _
  clear k hb hl hta hz hE hEE hpos
  go_enter Try.func10, Try.ntmps10
  have kk0 : ¬ kk < 0 := by omega
  go_wp2_with (fail)
  refine HL.out.mono ?_
  rintro e w2 ⟨rfl, hq⟩
  subst hq
  rename World => w
  go_wp2_with (fail)
  go_loopw [11, 12, 13, 14, 15, 16] (fun s11 s12 _ _ _ _ wr => ∃ i : Nat, i ≤ len ∧ s12 = .int .i64 i ∧ Hid (OwnT w w.heap.size s11 (isort (uns E (keys.take i))) wr)) (fun _ s12 _ _ _ _ _ => len - (intOf s12).toNat)
  case atStart => exact ⟨0, Nat.zero_le _, rfl, HST⟩
  case round =>
    rename World => wr
    obtain ⟨i, hi, rfl, HOL⟩ := hrel
    obtain ⟨va, vc, rfl⟩ := own_sliceT HOL.out.row
    by_cases hlt : i < len
    · have i0' : (0 : Int) ≤ i := by omega
      have i1' : (i : Int) < len := by omega
      have hkl : i < keys.length := by rw [HKL.out]; exact hlt
      have hne : keys ≠ [] := fun e => by rw [e] at hkl; simp at hkl
      obtain ⟨g, off, rfl, hgl, hcell⟩ : ∃ b off, a = some ⟨b, off, none⟩ ∧ b < w.heap.size ∧ ∀ j, j < keys.length → w.cell? ⟨b, off + j, none⟩ = some (.string (keys.getD j ⟨#[]⟩)) := by
        rcases HTA.out with h | h
        · exact absurd h hne
        · exact h
      have hdk := hcell i hkl
      have htk : keys.take (i + 1) = keys.take i ++ [keys.getD i ⟨#[]⟩] := by rw [List.take_succ_eq_append_getElem hkl]; simp [List.getD, hkl]
      have hsz := HZ.out (keys.getD i ⟨#[]⟩) (by simp [List.getD, hkl])
      have hPl : (keys.take i).length ≤ i := List.length_take_le _ _
      have hul := uns_len E (keys.take i)
      obtain ⟨key, hkey⟩ : ∃ key, keys.getD i ⟨#[]⟩ = key := ⟨_, rfl⟩
      rw [hkey] at hdk htk hsz
      have HDK := Lib.hid hdk
      have HTK := Lib.hid htk
      have HSZ := Lib.hid hsz
      have HKE := Lib.hid (HES.out wr HOL.out.bel key hsz)
      generalize keys.take i = P at HOL HTK hPl hul
      have d0 := (HOL.out.bel.cell (p := ⟨g, off + i, none⟩) hgl).trans hdk
      obtain ⟨n, hn⟩ : ∃ n, E key = n := ⟨_, rfl⟩
      have hn0 := HPOS.out key
      rw [hn] at HKE hn0
      have HN := Lib.hid hn
      obtain ⟨L, hL⟩ : ∃ L, isort (uns E P) = L := ⟨_, rfl⟩
      have hLl : L.length ≤ i := by rw [← hL, isort_len]; omega
      have HLL := Lib.hid hL
      have HSR := Lib.hid (show srt L by rw [← hL]; exact srt_isort _)
      rw [hL] at HOL ⊢
      obtain ⟨u, hu⟩ : ∃ u, L.length = u := ⟨_, rfl⟩
      have HU := Lib.hid hu
      rw [hu] at hLl HOL ⊢
      have HGL := Lib.hid hgl
      clear hcell htk hsz hkey hne hkl hn hu hL hdk hul
      by_cases hp : n = 0
      · have HC := Lib.hid (show ¬ (0 < E key ∧ Lib.containsS P key = false) from fun h => by have := h.1; rw [HN.out] at this; omega)
        subst hp
        go_wp2_with (fail)
        refine HKE.out.mono ?_
        rintro e w3 ⟨rfl, hb3⟩
        have HI3 := Lib.hid (HOL.out.below hb3)
        clear hb3 hgl
        go_wp2_with (fail)
        refine ⟨⟨i + 1, by omega, by go_num, Lib.hid ?_⟩, by first | (simp [intOf]; done) | (simp [intOf]; omega)⟩
        rw [HTK.out, uns_snoc, if_neg HC.out, HLL.out]
        exact HI3.out
      · have hp2 : (n == 0) = false := beq_eq_false_iff_ne.2 hp
        have hpp : 0 < E key := by rw [HN.out]; omega
        have hhas := uns_has E key hpp P
        rw [HLL.out] at hhas
        go_wp2_with (fail)
        refine HKE.out.mono ?_
        rintro e w3 ⟨rfl, hb3⟩
        have HI3 := Lib.hid (HOL.out.below hb3)
        have d0' := (HI3.out.bel.cell (p := ⟨g, off + i, none⟩) hgl).trans HDK.out
        have hits := own_its (show w3.ownsRow _ 77 2 (.slice va u vc) u (flatT L) from by have h := HI3.out.row; rw [HU.out] at h; exact h)
        have HHS := Lib.hid (r6has_any va u vc L hits.1 (by omega) hits.2.2 key)
        rw [hhas] at HHS
        have hvc := hits.2.1
        clear hb3 hhas hits
        cases hsn : Lib.containsS P key
        · rw [hsn] at HHS
          have HC := Lib.hid (show 0 < E key ∧ Lib.containsS P key = false from ⟨hpp, hsn⟩)
          go_wp2_with (fail)
          refine HHS.out.mono ?_
          rintro e w4 ⟨rfl, hq⟩
          subst hq
          rename World => wr
          clear HOL HKE HHS d0
          have HOL := HI3
          clear HI3
          go_wp2_with (fail)
          go_loopw [15, 16] (fun s15 s16 wz => ∃ X : Nat, X ≤ u ∧ s16 = .int .i64 X ∧ Hid (InnT wr L n X s15 wz) ∧ Hid (∀ y ∈ L.take X, n ≤ y.cnt)) (fun _ s16 _ => u - (intOf s16).toNat)
          case atStart => exact ⟨0, Nat.zero_le _, rfl, Lib.hid ⟨Below.refl _ _, by rw [List.take_zero]; exact World.ownsRow_nil _ _ _ _⟩, Lib.hid (fun y hy => by rw [List.take_zero] at hy; cases hy)⟩
          case round =>
            rename World => wz
            obtain ⟨X, hX, rfl, HNI, HT⟩ := hrel
            obtain ⟨na, nc, rfl⟩ := own_sliceT HNI.out.row
            have HXU := Lib.hid hX
            have x0 : (0 : Int) ≤ X := by omega
            by_cases hXu : X < u
            · have x1 : (X : Int) < u := by omega
              have hXl : X < L.length := by rw [HU.out]; exact hXu
              obtain ⟨y, hy⟩ : ∃ y, L[X]? = some y := ⟨_, List.getElem?_eq_getElem hXl⟩
              obtain ⟨g2, off2, rfl, hg2, hc2⟩ : ∃ b off, va = some ⟨b, off, none⟩ ∧ b < wz.heap.size ∧ ∀ j x, L[j]? = some x → wz.cell? ⟨b, off + j * 2, none⟩ = some (.string x.val) ∧ wz.cell? ⟨b, off + j * 2 + 1, none⟩ = some (.int .i64 x.cnt) := by
                rcases (own_its (show wz.ownsRow _ 77 2 (.slice va u vc) u (flatT L) from by have h := below_ownT HOL.out.row HNI.out.bel; rw [HU.out] at h; exact h)).2.2 with h | h
                · rw [h] at hXl; cases hXl
                · exact h
              obtain ⟨f0, f1⟩ := hc2 X y hy
              have HYL := Lib.hid hy
              clear hc2 hg2 hXl hy
              by_cases hge : n ≤ y.cnt
              · go_wp2_with (at_builtin; refine wpList_append_own _ rfl (.tmp 66) (.tmp 71) 42 rfl wr.heap.size 77 ii _ 2 24 Try.underlying42 i0 i1 i2 i3 rfl (by decide) (.slice na X nc) X (flatT (L.take X)) rfl (HNI.out.row.alloc _) ⟨wz.heap.size, 0, none⟩ 1 1 [.string y.val, .int .i64 y.cnt] rfl rfl (two_cellsT _ _ _ _) (by simp [Value.oneCell']) (by unfold maxLen; omega) (by omega) (Nat.le_trans HNI.out.bel.size (by simp)) ?_; intro v5 w5 hown5 hg5 _; obtain ⟨va5, vc5, rfl⟩ := own_sliceT hown5; have HB5 := Lib.hid (HNI.out.push hg5); have HO5 := Lib.hid hown5; clear hown5 hg5)
                go_wp2_with (fail)
                have htk1 : L.take (X + 1) = L.take X ++ [y] := by rw [List.take_add_one, HYL.out]; rfl
                refine ⟨⟨X + 1, by omega, by go_num, Lib.hid ⟨HB5.out, ?_⟩, Lib.hid (fun z hz => ?_)⟩, by first | (simp [intOf]; done) | (simp [intOf]; omega)⟩
                · rw [htk1, flatT_app]; exact HO5.out
                · rw [htk1] at hz
                  rcases List.mem_append.1 hz with h | h
                  · exact HT.out z h
                  · rw [List.mem_singleton.1 h]; exact hge
              · have hge2 : y.cnt < n := by omega
                have hdrop : ∀ z ∈ L.drop X, z.cnt < n := drop_lt HSR.out HYL.out hge2
                clear f0 hge2 HYL
                have HD := Lib.hid hdrop
                have dk2 := (((HOL.out.bel.trans (HNI.out.bel.mono HOL.out.bel.size)).cell (p := ⟨g, off + i, none⟩) HGL.out)).trans HDK.out
                have HLR := Lib.hid HOL.out.row
                clear hdrop
                go_wp2_with (first | (at_builtin; refine wpList_append_own _ rfl (.tmp 75) (.tmp 82) 42 rfl wr.heap.size 77 ii _ 2 24 Try.underlying42 i0 i1 i2 i3 rfl (by decide) (.slice na X nc) X (flatT (L.take X)) rfl (HNI.out.row.alloc _) ⟨wz.heap.size, 0, none⟩ 1 1 [.string key, .int .i64 n] rfl rfl (two_cellsT _ _ _ _) (by simp [Value.oneCell']) (by unfold maxLen; omega) (by omega) (Nat.le_trans HNI.out.bel.size (by simp)) ?_; intro v6 w6 hown6 hg6 _; obtain ⟨va6, vc6, rfl⟩ := own_sliceT hown6; have HB6 := Lib.hid (HNI.out.push hg6); have HO6 := Lib.hid hown6; have HL6 := Lib.hid (below_ownT HLR.out HB6.out); clear hown6 hg6) | (at_builtin; refine wpList_append_fl _ rfl (.tmp 84) (.tmp 87) 42 rfl wr.heap.size 77 ii _ 2 24 Try.underlying42 i0 i1 i2 i3 rfl (by decide) (.slice va6 (X + 1) vc6) (X + 1) _ rfl HO6.out (some ⟨g2, off2 + X * 2, none⟩) (u - X) (vc - X) (flatT (L.drop X)) rfl (fun e => by cases e) (by rw [flatT_len, List.length_drop, HU.out]) (tail_cells (by rw [HU.out] at HL6; exact HL6.out)) (flatT_one _) (by unfold maxLen; omega) (by omega) HB6.out.size ?_; intro v7 w7 hown7 hg7; obtain ⟨va7, vc7, rfl⟩ := own_sliceT hown7; have HW7 := Lib.hid (HOL.out.fin HB6.out HO6.out hown7 hg7 rfl (by rw [HU.out]) (by rw [HU.out]; exact HXU.out) HT.out HD.out); clear hown7 hg7))
                go_wp2_with (fail)
                refine ⟨⟨i + 1, by omega, by go_num, Lib.hid ?_⟩, by first | (simp [intOf]; done) | (simp [intOf]; omega)⟩
                rw [HTK.out, uns_snoc, if_pos HC.out, isort_snoc, HLL.out, HN.out]
                exact HW7.out
            · have hdrop : ∀ z ∈ L.drop X, z.cnt < n := fun z hz => by rw [List.drop_eq_nil_of_le (by rw [HU.out]; omega)] at hz; cases hz
              have hXe : X = u := by omega
              have hva : (va = none ∧ u = 0 ∧ vc = 0) ∨ ∃ g, va = some ⟨g, 0, none⟩ := by
                rcases HOL.out.row.2 with ⟨h1, h2⟩ | ⟨g, cap, cur, h1, _⟩
                · injection h1 with e1 e2 e3
                  exact Or.inl ⟨e1, e2, e3⟩
                · injection h1 with e1 e2 e3
                  exact Or.inr ⟨g, e1⟩
              subst hXe
              rcases hva with ⟨rfl, hu0, hc0⟩ | ⟨g2, rfl⟩
              · have hcx : X = vc := by omega
                subst hcx
                clear hu0 hc0
                have HD := Lib.hid hdrop
                have dk2 := (((HOL.out.bel.trans (HNI.out.bel.mono HOL.out.bel.size)).cell (p := ⟨g, off + i, none⟩) HGL.out)).trans HDK.out
                have HLR := Lib.hid HOL.out.row
                clear hdrop
                go_wp2_with (first | (at_builtin; refine wpList_append_own _ rfl (.tmp 75) (.tmp 82) 42 rfl wr.heap.size 77 ii _ 2 24 Try.underlying42 i0 i1 i2 i3 rfl (by decide) (.slice na X nc) X (flatT (L.take X)) rfl (HNI.out.row.alloc _) ⟨wz.heap.size, 0, none⟩ 1 1 [.string key, .int .i64 n] rfl rfl (two_cellsT _ _ _ _) (by simp [Value.oneCell']) (by unfold maxLen; omega) (by omega) (Nat.le_trans HNI.out.bel.size (by simp)) ?_; intro v6 w6 hown6 hg6 _; obtain ⟨va6, vc6, rfl⟩ := own_sliceT hown6; have HB6 := Lib.hid (HNI.out.push hg6); have HO6 := Lib.hid hown6; have HL6 := Lib.hid (below_ownT HLR.out HB6.out); clear hown6 hg6) | (at_builtin; refine wpList_append_fl _ rfl (.tmp 84) (.tmp 87) 42 rfl wr.heap.size 77 ii _ 2 24 Try.underlying42 i0 i1 i2 i3 rfl (by decide) (.slice va6 (X + 1) vc6) (X + 1) _ rfl HO6.out none 0 0 [] rfl (fun _ => ⟨rfl, rfl⟩) rfl (fun _ _ j u hj => by cases hj) (fun u hu => by cases hu) (by unfold maxLen; omega) (by omega) HB6.out.size ?_; intro v7 w7 hown7 hg7; obtain ⟨va7, vc7, rfl⟩ := own_sliceT hown7; have HW7 := Lib.hid (HOL.out.fin HB6.out HO6.out hown7 hg7 (by rw [List.drop_eq_nil_of_le (by rw [HU.out]; omega)]; rfl) (by rw [HU.out]; omega) (by rw [HU.out]; exact HXU.out) HT.out HD.out); clear hown7 hg7))
                go_wp2_with (fail)
                refine ⟨⟨i + 1, by omega, by go_num, Lib.hid ?_⟩, by first | (simp [intOf]; done) | (simp [intOf]; omega)⟩
                rw [HTK.out, uns_snoc, if_pos HC.out, isort_snoc, HLL.out, HN.out]
                exact HW7.out
              · by_cases hcx : X = vc
                · subst hcx
                  have HD := Lib.hid hdrop
                  have dk2 := (((HOL.out.bel.trans (HNI.out.bel.mono HOL.out.bel.size)).cell (p := ⟨g, off + i, none⟩) HGL.out)).trans HDK.out
                  have HLR := Lib.hid HOL.out.row
                  clear hdrop
                  go_wp2_with (first | (at_builtin; refine wpList_append_own _ rfl (.tmp 75) (.tmp 82) 42 rfl wr.heap.size 77 ii _ 2 24 Try.underlying42 i0 i1 i2 i3 rfl (by decide) (.slice na X nc) X (flatT (L.take X)) rfl (HNI.out.row.alloc _) ⟨wz.heap.size, 0, none⟩ 1 1 [.string key, .int .i64 n] rfl rfl (two_cellsT _ _ _ _) (by simp [Value.oneCell']) (by unfold maxLen; omega) (by omega) (Nat.le_trans HNI.out.bel.size (by simp)) ?_; intro v6 w6 hown6 hg6 _; obtain ⟨va6, vc6, rfl⟩ := own_sliceT hown6; have HB6 := Lib.hid (HNI.out.push hg6); have HO6 := Lib.hid hown6; have HL6 := Lib.hid (below_ownT HLR.out HB6.out); clear hown6 hg6) | (at_builtin; refine wpList_append_fl _ rfl (.tmp 84) (.tmp 87) 42 rfl wr.heap.size 77 ii _ 2 24 Try.underlying42 i0 i1 i2 i3 rfl (by decide) (.slice va6 (X + 1) vc6) (X + 1) _ rfl HO6.out (some ⟨g2, 0, none⟩) 0 0 [] rfl (fun e => by cases e) rfl (fun _ _ j u hj => by cases hj) (fun u hu => by cases hu) (by unfold maxLen; omega) (by omega) HB6.out.size ?_; intro v7 w7 hown7 hg7; obtain ⟨va7, vc7, rfl⟩ := own_sliceT hown7; have HW7 := Lib.hid (HOL.out.fin HB6.out HO6.out hown7 hg7 (by rw [List.drop_eq_nil_of_le (by rw [HU.out]; omega)]; rfl) (by rw [HU.out]; omega) (by rw [HU.out]; exact HXU.out) HT.out HD.out); clear hown7 hg7))
                  go_wp2_with (fail)
                  refine ⟨⟨i + 1, by omega, by go_num, Lib.hid ?_⟩, by first | (simp [intOf]; done) | (simp [intOf]; omega)⟩
                  rw [HTK.out, uns_snoc, if_pos HC.out, isort_snoc, HLL.out, HN.out]
                  exact HW7.out
                · skip
                  have HD := Lib.hid hdrop
                  have dk2 := (((HOL.out.bel.trans (HNI.out.bel.mono HOL.out.bel.size)).cell (p := ⟨g, off + i, none⟩) HGL.out)).trans HDK.out
                  have HLR := Lib.hid HOL.out.row
                  clear hdrop
                  go_wp2_with (first | (at_builtin; refine wpList_append_own _ rfl (.tmp 75) (.tmp 82) 42 rfl wr.heap.size 77 ii _ 2 24 Try.underlying42 i0 i1 i2 i3 rfl (by decide) (.slice na X nc) X (flatT (L.take X)) rfl (HNI.out.row.alloc _) ⟨wz.heap.size, 0, none⟩ 1 1 [.string key, .int .i64 n] rfl rfl (two_cellsT _ _ _ _) (by simp [Value.oneCell']) (by unfold maxLen; omega) (by omega) (Nat.le_trans HNI.out.bel.size (by simp)) ?_; intro v6 w6 hown6 hg6 _; obtain ⟨va6, vc6, rfl⟩ := own_sliceT hown6; have HB6 := Lib.hid (HNI.out.push hg6); have HO6 := Lib.hid hown6; have HL6 := Lib.hid (below_ownT HLR.out HB6.out); clear hown6 hg6) | (at_builtin; refine wpList_append_fl _ rfl (.tmp 84) (.tmp 87) 42 rfl wr.heap.size 77 ii _ 2 24 Try.underlying42 i0 i1 i2 i3 rfl (by decide) (.slice va6 (X + 1) vc6) (X + 1) _ rfl HO6.out (some ⟨g2, X * 2, none⟩) 0 (vc - X) [] rfl (fun e => by cases e) rfl (fun _ _ j u hj => by cases hj) (fun u hu => by cases hu) (by unfold maxLen; omega) (by omega) HB6.out.size ?_; intro v7 w7 hown7 hg7; obtain ⟨va7, vc7, rfl⟩ := own_sliceT hown7; have HW7 := Lib.hid (HOL.out.fin HB6.out HO6.out hown7 hg7 (by rw [List.drop_eq_nil_of_le (by rw [HU.out]; omega)]; rfl) (by rw [HU.out]; omega) (by rw [HU.out]; exact HXU.out) HT.out HD.out); clear hown7 hg7))
                  go_wp2_with (fail)
                  refine ⟨⟨i + 1, by omega, by go_num, Lib.hid ?_⟩, by first | (simp [intOf]; done) | (simp [intOf]; omega)⟩
                  rw [HTK.out, uns_snoc, if_pos HC.out, isort_snoc, HLL.out, HN.out]
                  exact HW7.out
        · rw [hsn] at HHS
          have HC := Lib.hid (show ¬ (0 < E key ∧ Lib.containsS P key = false) from fun h => by rw [hsn] at h; exact absurd h.2 (by decide))
          go_wp2_with (fail)
          refine HHS.out.mono ?_
          rintro e w4 ⟨rfl, hq⟩
          subst hq
          go_wp2_with (fail)
          refine ⟨⟨i + 1, by omega, by go_num, Lib.hid ?_⟩, by first | (simp [intOf]; done) | (simp [intOf]; omega)⟩
          rw [HTK.out, uns_snoc, if_neg HC.out, HLL.out]
          exact HI3.out
    · have hil : i = len := by omega
      have htl : keys.take i = keys := by rw [hil, ← HKL.out, List.take_length]
      rw [htl] at HOL ⊢
      have hul := uns_len E keys
      rw [HKL.out] at hul
      obtain ⟨L, hL⟩ : ∃ L, isort (uns E keys) = L := ⟨_, rfl⟩
      have hLl : L.length ≤ len := by rw [← hL, isort_len]; omega
      have HTN : Hid (topN E keys kk.toNat = L.take kk.toNat) := Lib.hid (by unfold topN; rw [hL])
      rw [hL] at HOL ⊢
      obtain ⟨u, hu⟩ : ∃ u, L.length = u := ⟨_, rfl⟩
      have HU := Lib.hid hu
      rw [hu] at hLl HOL ⊢
      have hits := own_its (show wr.ownsRow _ 77 2 (.slice va u vc) u (flatT L) from by have h := HOL.out.row; rw [hu] at h; exact h)
      have hvc := hits.2.1
      have HIT := Lib.hid hits.2.2
      have hva : (va = none ∧ u = 0 ∧ vc = 0) ∨ ∃ g, va = some ⟨g, 0, none⟩ := by
        rcases HOL.out.row.2 with ⟨h1, h2⟩ | ⟨g, cap, cur, h1, _⟩
        · injection h1 with e1 e2 e3
          exact Or.inl ⟨e1, e2, e3⟩
        · injection h1 with e1 e2 e3
          exact Or.inr ⟨g, e1⟩
      obtain ⟨m, rfl⟩ := Int.eq_ofNat_of_zero_le hk
      rw [Int.toNat_natCast] at HTN ⊢
      have HBW := Lib.hid HOL.out.bel
      clear htl hul hL hu hits hil
      by_cases hgt : m < u
      · have g1 : (m : Int) < u := by omega
        have g2 : (0 : Int) ≤ m := by omega
        have g3 : (m : Int) ≤ vc := by omega
        rcases hva with ⟨-, h0, -⟩ | ⟨g, rfl⟩
        · omega
        · go_wp2_with (fail)
          go_ret2
          exact ⟨_, m, _, rfl, by (try rw [Int.toNat_natCast]); rw [HTN.out, List.length_take, HU.out]; omega, by (try rw [Int.toNat_natCast]); rw [HTN.out]; exact HIT.out.take m, HBW.out⟩
      · have g1 : ¬ (m : Int) < u := by omega
        go_wp2_with (fail)
        go_ret2
        exact ⟨_, u, _, rfl, by (try rw [Int.toNat_natCast]); rw [HTN.out, List.take_of_length_le (by rw [HU.out]; omega)]; exact HU.out, by (try rw [Int.toNat_natCast]); rw [HTN.out, List.take_of_length_le (by rw [HU.out]; omega)]; exact HIT.out, HBW.out⟩

set_option maxHeartbeats 6400000 in
set_option maxRecDepth 100000 in
theorem r6top_err {w : World} {q : Nat} {h : ShapeS} {last : Int} {v : Value} {notes : List NoteS} (k : R6At w q h last v notes) (at_ kk : Int) (a : Option Addr) (len cap : Nat) (hE : topE last at_ kk ≠ 0) :
    Calls Try.prog 10 #[.pointer (some ⟨q, 0, none⟩), .int .i64 at_, .int .i64 kk, .slice a len cap] w (R6Top w [] (topE last at_ kk)) := by
  have HL := Lib.hid (r6wrong_any q last at_ w k.cells.2.2.2.2.2.2)
  obtain ⟨L, hLL⟩ : ∃ L, lookS last at_ = L := ⟨_, rfl⟩
  unfold topE at hE ⊢
  rw [hLL] at hE HL ⊢
  have hL3 : L = 2 ∨ L = 7 ∨ L = 0 := by rw [← hLL]; unfold lookS; split; (· exact Or.inl rfl); (· split; (· exact Or.inr (Or.inl rfl)); (· exact Or.inr (Or.inr rfl)))
  clear k hLL
  by_cases hk : kk < 0
  · rw [if_pos (Or.inr hk)]
    go_enter Try.func10, Try.ntmps10
    go_wp2_with (fail)
    go_ret2
    exact ⟨none, 0, 0, rfl, rfl, Or.inl rfl, Below.refl _ _⟩
  · have hk2 : ¬ kk < 0 := hk
    rcases hL3 with rfl | rfl | rfl
    · rw [if_pos (Or.inl rfl)]
      clear hE
      go_enter Try.func10, Try.ntmps10
      go_wp2_with (fail)
      refine HL.out.mono ?_
      rintro e w2 ⟨rfl, hq⟩
      subst hq
      go_wp2_with (fail)
      go_ret2
      exact ⟨none, 0, 0, rfl, rfl, Or.inl rfl, Below.refl _ _⟩
    · rw [if_neg (by omega)]
      clear hE
      go_enter Try.func10, Try.ntmps10
      go_wp2_with (fail)
      refine HL.out.mono ?_
      rintro e w2 ⟨rfl, hq⟩
      subst hq
      go_wp2_with (fail)
      go_ret2
      exact ⟨none, 0, 0, rfl, rfl, Or.inl rfl, Below.refl _ _⟩
    · exfalso; apply hE; rw [if_neg (by omega)]
theorem r6top_any {w : World} {q : Nat} {h : ShapeS} {b last : Int} {v : Value} {notes : List NoteS} (k : R6At w q h last v notes) (hb : ShapeOk h b) (at_ kk : Int) (keys : List ByteArray) (a : Option Addr) (len cap : Nat) (hl : keys.length = len) (hlen : len ≤ 1048576) (hta : TextsAt w a keys) (hz : ∀ s ∈ keys, s.size ≤ maxLen)
    (hk2 : kk ≤ 9223372036854775807) (hpos : ∀ key, 0 ≤ estN h b at_ key notes) :
    Calls Try.prog 10 #[.pointer (some ⟨q, 0, none⟩), .int .i64 at_, .int .i64 kk, .slice a len cap] w (R6Top w (topL (fun key => estN h b at_ key notes) last at_ kk keys) (topE last at_ kk)) := by
  unfold topL
  by_cases hE : topE last at_ kk = 0
  · rw [if_pos hE, hE]
    exact r6top_ok k hb at_ kk keys a len cap hl hlen hta hz (topE_zero hE).1 (topE_zero hE).2 hk2 hpos
  · rw [if_neg hE]
    exact r6top_err k at_ kk a len cap hE
theorem r6top_nil (at_ kk : Int) (a : Option Addr) (len cap : Nat) (w : World) :
    Calls Try.prog 10 #[.pointer none, .int .i64 at_, .int .i64 kk, .slice a len cap] w (R6Top w [] 1) := by
  go_enter Try.func10, Try.ntmps10
  go_wp2_with (fail)
  go_ret2
  exact ⟨none, 0, 0, rfl, rfl, Or.inl rfl, Below.refl _ _⟩
end Go.Proofs.Ytockmgcgifhepaa

/- SameItems; Column of both. -/
namespace Go.Proofs.Ytockmgcgifhepaa
open Go.RowKit
set_option linter.unusedVariables false
set_option linter.unusedSimpArgs false

set_option maxHeartbeats 3200000 in
theorem sameits_any {w : World} (a b : Option Addr) (n m c d : Nat) (L : List ItT) (hl : L.length = n) (hl2 : L.length = m) (hm : n ≤ 9223372036854775806) (hs : ItsAt w a L) (hs2 : ItsAt w b L) :
    Calls Try.prog 11 #[.slice a n c, .slice b m d] w fun e w' => e = .returned (.bool true) ∧ Below w.heap.size w w' := by
  obtain rfl : n = m := hl.symm.trans hl2
  have HS := Lib.hid hs
  have HS2 := Lib.hid hs2
  have HL := Lib.hid hl
  clear hs hl hl2 hs2
  go_enter Try.func11, Try.ntmps11
  go_wp2_with (fail)
  go_loopw [5] (fun s5 wr => ∃ k : Nat, k ≤ n ∧ s5 = .int .i64 k ∧ Hid (Below w.heap.size w wr)) (fun s5 _ => n - (intOf s5).toNat)
  case atStart => exact ⟨0, Nat.zero_le _, rfl, Lib.hid (Below.refl _ _)⟩
  case round =>
    rename World => wr
    obtain ⟨k, hk, rfl, HB⟩ := hrel
    by_cases hlt : k < n
    · have k0 : (0 : Int) ≤ k := by omega
      have k1 : (k : Int) < n := by omega
      have hkl : k < L.length := by rw [HL.out]; exact hlt
      obtain ⟨y, hy⟩ : ∃ y, L[k]? = some y := ⟨_, List.getElem?_eq_getElem hkl⟩
      obtain ⟨g, off, rfl, hgl, hcell⟩ : ∃ b off, a = some ⟨b, off, none⟩ ∧ b < wr.heap.size ∧ ∀ j x, L[j]? = some x → wr.cell? ⟨b, off + j * 2, none⟩ = some (.string x.val) ∧ wr.cell? ⟨b, off + j * 2 + 1, none⟩ = some (.int .i64 x.cnt) := by
        rcases HS.out.below (Nat.le_refl _) HB.out with h | h
        · rw [h] at hkl; cases hkl
        · exact h
      obtain ⟨g2, off2, rfl, hgl2, hcell2⟩ : ∃ b' off, b = some ⟨b', off, none⟩ ∧ b' < wr.heap.size ∧ ∀ j x, L[j]? = some x → wr.cell? ⟨b', off + j * 2, none⟩ = some (.string x.val) ∧ wr.cell? ⟨b', off + j * 2 + 1, none⟩ = some (.int .i64 x.cnt) := by
        rcases HS2.out.below (Nat.le_refl _) HB.out with h | h
        · rw [h] at hkl; cases hkl
        · exact h
      obtain ⟨d0, d1⟩ := hcell k y hy
      obtain ⟨d2, d3⟩ := hcell2 k y hy
      clear hcell hcell2 hgl hgl2 hy hkl
      go_wp2_with (fail)
      go_region
      go_wp2_with (fail)
      exact ⟨⟨k + 1, by omega, by go_num, Lib.hid (show Below w.heap.size w wr.drew from ⟨HB.out.os, HB.out.tape, HB.out.output, HB.out.size, HB.out.block⟩)⟩, by first | (simp [intOf]; done) | (simp [intOf]; omega)⟩
    · have hkn : k = n := by omega
      go_wp2_with (fail)
      go_ret
      exact ⟨rfl, HB.out⟩
def colR (h : ShapeS) (row : Int) (key : ByteArray) : Int := if row < 0 ∨ h.R ≤ row then 0 else colS h row key
def colE (h : ShapeS) (row : Int) : Int := if row < 0 ∨ h.R ≤ row then 2 else 0
set_option maxHeartbeats 3200000 in
theorem skcol_any {w : World} {s : Nat} {h : ShapeS} {last : Int} {v : Value} {bs : List BkS} (hs : SkAt w s h last v bs) {b : Int} (hb : ShapeOk h b) (row : Int) (key : ByteArray) (hk : key.size ≤ maxLen) :
    Calls Try.prog 13 #[.pointer (some ⟨s, 0, none⟩), .int .i64 row, .string key] w fun e w' => e = .returned (.tuple #[.int .i64 (colR h row key), .int .i64 (colE h row)]) ∧ Below w.heap.size w w' := by
  obtain ⟨c0, c1, c2, c3, c4, c5, c6⟩ := hs.headCells
  have HR2 := hb.R2
  unfold colR colE
  by_cases h0 : row < 0
  · rw [if_pos (Or.inl h0), if_pos (Or.inl h0)]
    go_enter Try.func13, Try.ntmps13
    go_wp2_with (fail)
    go_ret2
    exact ⟨rfl, Below.refl _ _⟩
  · by_cases h1 : h.R ≤ row
    · rw [if_pos (Or.inr h1), if_pos (Or.inr h1)]
      go_enter Try.func13, Try.ntmps13
      go_wp2_with (fail)
      go_ret2
      exact ⟨rfl, Below.refl _ _⟩
    · rw [if_neg (by omega), if_neg (by omega)]
      have HC := Lib.hid (skcolumn_any h b row hb (by omega) (by omega) key hk w)
      unfold ShapeS.c at HC
      have h2 : row < h.R := by omega
      have h3 : 0 ≤ row := by omega
      clear hb hs
      go_enter Try.func13, Try.ntmps13
      go_wp2_with (fail)
      refine HC.out.mono ?_
      rintro e w2 ⟨rfl, hq⟩
      have HQ := Lib.hid hq
      clear hq
      go_wp2_with (fail)
      go_ret2
      exact ⟨rfl, HQ.out⟩
theorem skcol_nil (row : Int) (key : ByteArray) (w : World) : Calls Try.prog 13 #[.pointer none, .int .i64 row, .string key] w fun e w' => e = .returned (.tuple #[.int .i64 0, .int .i64 1]) ∧ Below w.heap.size w w' := by
  go_enter Try.func13, Try.ntmps13
  go_wp2_with (fail)
  go_ret2
  exact ⟨rfl, Below.refl _ _⟩
set_option maxHeartbeats 3200000 in
theorem r6col_any {w : World} {q : Nat} {h : ShapeS} {b last : Int} {v : Value} {ns : List NoteS} (k : R6At w q h last v ns) (hb : ShapeOk h b) (row : Int) (key : ByteArray) (hk : key.size ≤ maxLen) :
    Calls Try.prog 14 #[.pointer (some ⟨q, 0, none⟩), .int .i64 row, .string key] w fun e w' => e = .returned (.tuple #[.int .i64 (colR h row key), .int .i64 (colE h row)]) ∧ Below w.heap.size w w' := by
  obtain ⟨c0, c1, c2, c3, c4, c5, c6⟩ := k.cells
  have HR2 := hb.R2
  unfold colR colE
  by_cases h0 : row < 0
  · rw [if_pos (Or.inl h0), if_pos (Or.inl h0)]
    go_enter Try.func14, Try.ntmps14
    go_wp2_with (fail)
    go_ret2
    exact ⟨rfl, Below.refl _ _⟩
  · by_cases h1 : h.R ≤ row
    · rw [if_pos (Or.inr h1), if_pos (Or.inr h1)]
      go_enter Try.func14, Try.ntmps14
      go_wp2_with (fail)
      go_ret2
      exact ⟨rfl, Below.refl _ _⟩
    · rw [if_neg (by omega), if_neg (by omega)]
      have HC := Lib.hid (r6column_any h b row hb (by omega) (by omega) key hk q w c3 c4)
      have h2 : row < h.R := by omega
      have h3 : 0 ≤ row := by omega
      clear hb k
      go_enter Try.func14, Try.ntmps14
      go_wp2_with (fail)
      refine HC.out.mono ?_
      rintro e w2 ⟨rfl, hq⟩
      have HQ := Lib.hid (show Below w.heap.size w w2 by obtain ⟨m, rfl⟩ := hq; exact ⟨rfl, rfl, rfl, Nat.le_refl _, fun _ _ => rfl⟩)
      clear hq
      go_wp2_with (fail)
      go_ret2
      exact ⟨rfl, HQ.out⟩
theorem r6col_nil (row : Int) (key : ByteArray) (w : World) : Calls Try.prog 14 #[.pointer none, .int .i64 row, .string key] w fun e w' => e = .returned (.tuple #[.int .i64 0, .int .i64 1]) ∧ Below w.heap.size w w' := by
  go_enter Try.func14, Try.ntmps14
  go_wp2_with (fail)
  go_ret2
  exact ⟨rfl, Below.refl _ _⟩
end Go.Proofs.Ytockmgcgifhepaa

/- spillwaymem.Book: lists that hold nothing; an append that keeps the old row. -/
namespace Go.Proofs.Ytockmgcgifhepaa
open Go.RowKit
set_option linter.unusedVariables false
set_option linter.unusedSimpArgs false

theorem run_append_keep {P : Program} {w : World} (base : Nat) (t ty e : TypeId) (i : TypeInfo) (z : Value) (size bytes : Nat) (ht : P.underlying t = some (.slice e)) (hi : P.info? e = some i) (hz : i.zero = some z)
    (hsize : i.size = size) (hby : i.bytes = bytes) (hzs : z.cells.size = size) (hsz : 0 < size)
    (v : Value) (n : Nat) (xs : List Value) (hown : w.ownsRow base e size v n xs)
    (a : Addr) (m c : Nat) (news : List Value) (hl : news.length = m * size) (hnews : ∀ j u, news[j]? = some u → w.cell? (a.add j) = some u) (h1 : ∀ u ∈ news, u.oneCell' = true)
    (h63 : n + m ≤ maxLen) (hbytes : (n + m) * bytes ≤ 140737488355328) (hbase : base ≤ w.heap.size) (hm : m ≠ 0) :
    ∃ v' w', (Builtin.append_ #[t, t] ty #[v, .slice (some a) m c]).run P w = .ok v' w' ∧ w'.ownsRow base e size v' (n + m) (xs ++ news) ∧ w.grownBy w' v.ownBlock ∧
      (v'.ownBlock = v.ownBlock ∨ v'.ownBlock = some w.heap.size) ∧ w'.ownsRow base e size v n xs := by
  obtain ⟨v', w', hr, h2, h3, h4⟩ := run_append_where (P := P) w base t ty e i z size bytes ht hi hz hsize hby hzs hsz v n xs hown a m c news hl hnews h1 h63 hbytes hbase hm
  refine ⟨v', w', hr, h2, h3, h4, ?_⟩
  subst hsize
  subst hby
  have hsmall : n + m ≤ 9223372036854775807 := by simp only [maxLen] at h63; omega
  rcases hown.2 with ⟨rfl, rfl⟩ | ⟨g, cap, cur, rfl, hbg, hg, hnc, hcm, hcs, htake⟩
  · exact ⟨hown.1, Or.inl ⟨rfl, rfl⟩⟩
  · by_cases hroom : n + m ≤ cap
    · have hfit : n * i.size + news.length ≤ cur.size := by rw [hl, hcs, ← Nat.add_mul]; exact Nat.mul_le_mul_right _ hroom
      have hr' := run_append_room (P := P) w t ty e i ht hi g n cap cur hg a m c news hl hnews h1 hroom hfit
      rw [hr] at hr'
      injection hr' with e1 e2
      subst e1
      rcases h2.2 with ⟨h5, _⟩ | ⟨g2, cap2, cur2, h5, h6, h7, h8, h9, h10, h11⟩
      · cases h5
      · injection h5 with q1 q2 q3
        injection q1 with q1
        injection q1 with q1 _ _
        subst q1 q3
        refine ⟨hown.1, Or.inr ⟨g, cap, cur2, rfl, hbg, h7, hnc, hcm, h10, ?_⟩⟩
        have h12 : (cur2.toList.take ((n + m) * i.size)).take (n * i.size) = (xs ++ news).take (n * i.size) := by rw [h11]
        rw [List.take_take, Nat.min_eq_left (Nat.mul_le_mul_right _ (by omega)), ← hown.1, List.take_left' rfl] at h12
        rw [← hown.1]
        exact h12
    · have holds : ∀ j u, xs[j]? = some u → w.cell? ((⟨g, 0, none⟩ : Addr).add j) = some u := hown.cells (g := g) rfl
      have hr' := run_append_grow (P := P) w t ty e i z ht hi hz ⟨g, 0, none⟩ n cap xs hown.1 holds a m c news hl hnews (by omega) (by omega) (growslice_fits (by omega) hbytes)
      rw [hr] at hr'
      injection hr' with e1 e2
      have hgl := (Array.getElem?_eq_some_iff.1 hg).1
      have hk : w'.heap[g]? = w.heap[g]? := by rw [e2, get_allocS]; exact if_neg (show ¬ g = w.drew.heap.size from (by show ¬ g = w.heap.size; omega))
      exact ⟨hown.1, Or.inr ⟨g, cap, cur, rfl, hbg, hk.trans hg, hnc, hcm, hcs, htake⟩⟩
theorem wpList_append_keep {P : Program} (w : World) {ops : Array Oper} {rest : List Oper} {o : Oper} {a : Act} {Q : Exit → Act → World → Prop} (hgd : o.guard = none) (s x : Operand) (t : TypeId)
    (ho : o.op = .call { callee := .builtin .append, args := #[s, x], argTypes := #[t, t] })
    (base : Nat) (e : TypeId) (i : TypeInfo) (z : Value) (size bytes : Nat) (ht : P.underlying t = some (.slice e)) (hi : P.info? e = some i) (hz : i.zero = some z)
    (hsize : i.size = size) (hby : i.bytes = bytes) (hzs : z.cells.size = size) (hsz : 0 < size)
    (v : Value) (n : Nat) (xs : List Value) (hs : a.eval s = v) (hown : w.ownsRow base e size v n xs)
    (ad : Addr) (m c : Nat) (news : List Value) (hx : a.eval x = .slice (some ad) m c) (hl : news.length = m * size) (hnews : ∀ j u, news[j]? = some u → w.cell? (ad.add j) = some u) (h1 : ∀ u ∈ news, u.oneCell' = true)
    (h63 : n + m ≤ maxLen) (hbytes : (n + m) * bytes ≤ 140737488355328) (hbase : base ≤ w.heap.size) (hm : m ≠ 0)
    (h : ∀ v' w', w'.ownsRow base e size v' (n + m) (xs ++ news) → w.grownBy w' v.ownBlock → (v'.ownBlock = v.ownBlock ∨ v'.ownBlock = some w.heap.size) → w'.ownsRow base e size v n xs → wpList P ops Q rest (a.put o.dst v') w') : wpList P ops Q (o :: rest) a w :=
  wpList_plain hgd fun _ hK => by
    obtain ⟨v', w', hr, h2, h3, h4, h5⟩ := run_append_keep (P := P) base t o.type e i z size bytes ht hi hz hsize hby hzs hsz v n xs hown ad m c news hl hnews h1 h63 hbytes hbase hm
    unfold Oper.wp execOp
    simp only [ho, resolve, invoke, builtin, Sem.run_bind, Sem.run_pure, Result.andThen_ok, List.map_toArray, List.map_cons, List.map_nil, hs, hx, hr]
    exact hK _ _ (h v' w' h2 h3 h4 h5)

set_option maxHeartbeats 3200000 in
set_option maxRecDepth 100000 in
theorem alBytes_any {w : World} {B : Nat} (hc : w.cell? ⟨B, 0, none⟩ = some (.slice none 0 0)) : Calls Try.prog 35 #[.pointer (some ⟨B, 0, none⟩)] w fun e w' => e = .returned (.bool true) ∧ w' = w := by
  go_enter Try.func35, Try.ntmps35
  go_wp2_with (fail)
  go_loopw [3, 4] (fun s _ wr => s = .int .i64 0 ∧ wr = w) (fun _ _ _ => 0)
  case atStart => exact ⟨rfl, rfl⟩
  case round =>
    obtain ⟨rfl, hq⟩ := hrel
    subst hq
    rename World => w
    go_wp2_with (fail)
    go_loopw [5, 6, 7, 8] (fun s5 s6 _ _ wr => s5 = .slice none 0 0 ∧ s6 = .int .i64 0 ∧ wr = w) (fun _ _ _ _ _ => 0)
    case atStart => exact ⟨rfl, rfl, rfl⟩
    case round =>
      obtain ⟨rfl, rfl, hq⟩ := hrel
      subst hq
      rename World => w
      go_wp2_with (fail)
      go_loopw [9, 10, 11] (fun s9 _ _ wr => s9 = .int .i64 0 ∧ wr = w) (fun _ _ _ _ => 0)
      case atStart => exact ⟨rfl, rfl⟩
      case round =>
        obtain ⟨rfl, hq⟩ := hrel
        subst hq
        rename World => w
        go_wp2_with (fail)
        go_ret
        exact ⟨rfl, rfl⟩

set_option maxHeartbeats 3200000 in
set_option maxRecDepth 100000 in
theorem alTexts_any {w : World} {B : Nat} (hc : w.cell? ⟨B, 1, none⟩ = some (.slice none 0 0)) : Calls Try.prog 36 #[.pointer (some ⟨B, 0, none⟩)] w fun e w' => e = .returned (.bool true) ∧ w' = w := by
  go_enter Try.func36, Try.ntmps36
  go_wp2_with (fail)
  go_loopw [3, 4] (fun s _ wr => s = .int .i64 0 ∧ wr = w) (fun _ _ _ => 0)
  case atStart => exact ⟨rfl, rfl⟩
  case round =>
    obtain ⟨rfl, hq⟩ := hrel
    subst hq
    rename World => w
    go_wp2_with (fail)
    go_loopw [5, 6, 7, 8] (fun s5 s6 _ _ wr => s5 = .slice none 0 0 ∧ s6 = .int .i64 0 ∧ wr = w) (fun _ _ _ _ _ => 0)
    case atStart => exact ⟨rfl, rfl, rfl⟩
    case round =>
      obtain ⟨rfl, rfl, hq⟩ := hrel
      subst hq
      rename World => w
      go_wp2_with (fail)
      go_loopw [9, 10, 11] (fun s9 _ _ wr => s9 = .int .i64 0 ∧ wr = w) (fun _ _ _ _ => 0)
      case atStart => exact ⟨rfl, rfl⟩
      case round =>
        obtain ⟨rfl, hq⟩ := hrel
        subst hq
        rename World => w
        go_wp2_with (fail)
        go_ret
        exact ⟨rfl, rfl⟩

set_option maxHeartbeats 3200000 in
set_option maxRecDepth 100000 in
theorem alInts_any {w : World} {B : Nat} (hc : w.cell? ⟨B, 2, none⟩ = some (.slice none 0 0)) : Calls Try.prog 37 #[.pointer (some ⟨B, 0, none⟩)] w fun e w' => e = .returned (.bool true) ∧ w' = w := by
  go_enter Try.func37, Try.ntmps37
  go_wp2_with (fail)
  go_loopw [3, 4] (fun s _ wr => s = .int .i64 0 ∧ wr = w) (fun _ _ _ => 0)
  case atStart => exact ⟨rfl, rfl⟩
  case round =>
    obtain ⟨rfl, hq⟩ := hrel
    subst hq
    rename World => w
    go_wp2_with (fail)
    go_loopw [5, 6, 7, 8] (fun s5 s6 _ _ wr => s5 = .slice none 0 0 ∧ s6 = .int .i64 0 ∧ wr = w) (fun _ _ _ _ _ => 0)
    case atStart => exact ⟨rfl, rfl, rfl⟩
    case round =>
      obtain ⟨rfl, rfl, hq⟩ := hrel
      subst hq
      rename World => w
      go_wp2_with (fail)
      go_loopw [9, 10, 11] (fun s9 _ _ wr => s9 = .int .i64 0 ∧ wr = w) (fun _ _ _ _ => 0)
      case atStart => exact ⟨rfl, rfl⟩
      case round =>
        obtain ⟨rfl, hq⟩ := hrel
        subst hq
        rename World => w
        go_wp2_with (fail)
        go_ret
        exact ⟨rfl, rfl⟩

set_option maxHeartbeats 3200000 in
set_option maxRecDepth 100000 in
theorem alCounts_any {w : World} {B : Nat} (hc : w.cell? ⟨B, 3, none⟩ = some (.slice none 0 0)) : Calls Try.prog 38 #[.pointer (some ⟨B, 0, none⟩)] w fun e w' => e = .returned (.bool true) ∧ w' = w := by
  go_enter Try.func38, Try.ntmps38
  go_wp2_with (fail)
  go_loopw [3, 4] (fun s _ wr => s = .int .i64 0 ∧ wr = w) (fun _ _ _ => 0)
  case atStart => exact ⟨rfl, rfl⟩
  case round =>
    obtain ⟨rfl, hq⟩ := hrel
    subst hq
    rename World => w
    go_wp2_with (fail)
    go_loopw [5, 6, 7, 8] (fun s5 s6 _ _ wr => s5 = .slice none 0 0 ∧ s6 = .int .i64 0 ∧ wr = w) (fun _ _ _ _ _ => 0)
    case atStart => exact ⟨rfl, rfl, rfl⟩
    case round =>
      obtain ⟨rfl, rfl, hq⟩ := hrel
      subst hq
      rename World => w
      go_wp2_with (fail)
      go_loopw [9, 10, 11] (fun s9 _ _ wr => s9 = .int .i64 0 ∧ wr = w) (fun _ _ _ _ => 0)
      case atStart => exact ⟨rfl, rfl⟩
      case round =>
        obtain ⟨rfl, hq⟩ := hrel
        subst hq
        rename World => w
        go_wp2_with (fail)
        go_ret
        exact ⟨rfl, rfl⟩

set_option maxHeartbeats 3200000 in
set_option maxRecDepth 100000 in
theorem alFlows_any {w : World} {B : Nat} (hc : w.cell? ⟨B, 5, none⟩ = some (.slice none 0 0)) : Calls Try.prog 40 #[.pointer (some ⟨B, 0, none⟩)] w fun e w' => e = .returned (.bool true) ∧ w' = w := by
  go_enter Try.func40, Try.ntmps40
  go_wp2_with (fail)
  go_loopw [3, 4] (fun s _ wr => s = .int .i64 0 ∧ wr = w) (fun _ _ _ => 0)
  case atStart => exact ⟨rfl, rfl⟩
  case round =>
    obtain ⟨rfl, hq⟩ := hrel
    subst hq
    rename World => w
    go_wp2_with (fail)
    go_loopw [5, 6, 7, 8] (fun s5 s6 _ _ wr => s5 = .slice none 0 0 ∧ s6 = .int .i64 0 ∧ wr = w) (fun _ _ _ _ _ => 0)
    case atStart => exact ⟨rfl, rfl, rfl⟩
    case round =>
      obtain ⟨rfl, rfl, hq⟩ := hrel
      subst hq
      rename World => w
      go_wp2_with (fail)
      go_loopw [9, 10, 11] (fun s9 _ _ wr => s9 = .int .i64 0 ∧ wr = w) (fun _ _ _ _ => 0)
      case atStart => exact ⟨rfl, rfl⟩
      case round =>
        obtain ⟨rfl, hq⟩ := hrel
        subst hq
        rename World => w
        go_wp2_with (fail)
        go_ret
        exact ⟨rfl, rfl⟩

set_option maxHeartbeats 3200000 in
set_option maxRecDepth 100000 in
theorem alBreaks_any {w : World} {B : Nat} (hc : w.cell? ⟨B, 6, none⟩ = some (.slice none 0 0)) : Calls Try.prog 41 #[.pointer (some ⟨B, 0, none⟩)] w fun e w' => e = .returned (.bool true) ∧ w' = w := by
  go_enter Try.func41, Try.ntmps41
  go_wp2_with (fail)
  go_loopw [3, 4] (fun s _ wr => s = .int .i64 0 ∧ wr = w) (fun _ _ _ => 0)
  case atStart => exact ⟨rfl, rfl⟩
  case round =>
    obtain ⟨rfl, hq⟩ := hrel
    subst hq
    rename World => w
    go_wp2_with (fail)
    go_loopw [5, 6, 7, 8] (fun s5 s6 _ _ wr => s5 = .slice none 0 0 ∧ s6 = .int .i64 0 ∧ wr = w) (fun _ _ _ _ _ => 0)
    case atStart => exact ⟨rfl, rfl, rfl⟩
    case round =>
      obtain ⟨rfl, rfl, hq⟩ := hrel
      subst hq
      rename World => w
      go_wp2_with (fail)
      go_loopw [9, 10, 11] (fun s9 _ _ wr => s9 = .int .i64 0 ∧ wr = w) (fun _ _ _ _ => 0)
      case atStart => exact ⟨rfl, rfl⟩
      case round =>
        obtain ⟨rfl, hq⟩ := hrel
        subst hq
        rename World => w
        go_wp2_with (fail)
        go_ret
        exact ⟨rfl, rfl⟩

set_option maxHeartbeats 3200000 in
set_option maxRecDepth 100000 in
theorem alSystems_any {w : World} {B : Nat} (hc : w.cell? ⟨B, 7, none⟩ = some (.slice none 0 0)) : Calls Try.prog 42 #[.pointer (some ⟨B, 0, none⟩)] w fun e w' => e = .returned (.bool true) ∧ w' = w := by
  go_enter Try.func42, Try.ntmps42
  go_wp2_with (fail)
  go_loopw [3, 4] (fun s _ wr => s = .int .i64 0 ∧ wr = w) (fun _ _ _ => 0)
  case atStart => exact ⟨rfl, rfl⟩
  case round =>
    obtain ⟨rfl, hq⟩ := hrel
    subst hq
    rename World => w
    go_wp2_with (fail)
    go_loopw [5, 6, 7, 8] (fun s5 s6 _ _ wr => s5 = .slice none 0 0 ∧ s6 = .int .i64 0 ∧ wr = w) (fun _ _ _ _ _ => 0)
    case atStart => exact ⟨rfl, rfl, rfl⟩
    case round =>
      obtain ⟨rfl, rfl, hq⟩ := hrel
      subst hq
      rename World => w
      go_wp2_with (fail)
      go_loopw [9, 10, 11] (fun s9 _ _ wr => s9 = .int .i64 0 ∧ wr = w) (fun _ _ _ _ => 0)
      case atStart => exact ⟨rfl, rfl⟩
      case round =>
        obtain ⟨rfl, hq⟩ := hrel
        subst hq
        rename World => w
        go_wp2_with (fail)
        go_ret
        exact ⟨rfl, rfl⟩
end Go.Proofs.Ytockmgcgifhepaa

/- spillwaymem.Book: TakeItems; what aloneItems keeps. -/
namespace Go.Proofs.Ytockmgcgifhepaa
open Go.RowKit
set_option linter.unusedVariables false
set_option linter.unusedSimpArgs false

def bookC (it : Value) : Array Value := #[.slice none 0 0, .slice none 0 0, .slice none 0 0, .slice none 0 0, it, .slice none 0 0, .slice none 0 0, .slice none 0 0]
theorem info_slT : (Try.prog.info? 42).map (fun i => (i.zero, i.size, i.bytes)) = some (some (.slice none 0 0), 1, 24) := by kernel_rfl
theorem one_cellT (w : World) (u : Value) (t : TypeId) : ∀ j x, ([u] : List Value)[j]? = some x → (w.alloc (.cells #[u] t)).cell? ((⟨w.heap.size, 0, none⟩ : Addr).add j) = some x := by
  intro j x hj
  have hn := new_blockS w (.cells #[u] t)
  rw [Go.WideShapes.add_plain]
  simp only [World.cell?, hn]
  match j, hj with
  | 0, hj => simp at hj; subst hj; rfl
  | j + 1, hj => simp at hj
set_option maxHeartbeats 3200000 in
set_option maxRecDepth 100000 in
theorem take_any {w : World} {B T n : Nat} {it : Value} {xs : List Value} (hB : w.heap[B]? = some (.cells (bookC it) 61)) (hBT : B < T) (hT : T ≤ w.heap.size) (hr : w.ownsRow T 42 1 it n xs) (a : Option Addr) (l c : Nat) (hn : n ≤ 8) :
    Calls Try.prog 17 #[.pointer (some ⟨B, 0, none⟩), .slice a l c] w fun e w' => e = .returned (.tuple #[]) ∧ ∃ it', w'.heap[B]? = some (.cells (bookC it') 61) ∧ w'.ownsRow T 42 1 it' (n + 1) (xs ++ [.slice a l c]) ∧ Off (fun k => k = B ∨ it.ownBlock = some k) w w' := by
  obtain ⟨ii, i0, i1, i2, i3⟩ := info_partsO info_slT
  have HB := Lib.hid hB
  have HR := Lib.hid hr
  have hBl := (Array.getElem?_eq_some_iff.1 hB).1
  unfold bookC at hB
  have c4 : w.cell? ⟨B, 4, none⟩ = some it := by simp only [World.cell?, hB]; rfl
  obtain ⟨ia, ic, rfl⟩ := own_sliceT hr
  clear hB hr
  go_enter Try.func17, Try.ntmps17
  go_wp2_with (at_builtin; refine wpList_append_own _ rfl (.tmp 8) (.tmp 10) 56 rfl T 42 ii _ 1 24 Try.underlying56 i0 i1 i2 i3 rfl (by decide) (.slice ia n ic) n xs rfl (HR.out.alloc _) ⟨w.heap.size, 0, none⟩ 1 1 [.slice a l c] rfl rfl (one_cellT _ _ _) (by simp [Value.oneCell']) (by unfold maxLen; omega) (by omega) (Nat.le_trans hT (by simp)) ?_; intro v3 w3 hown hg _; obtain ⟨va3, vc3, rfl⟩ := own_sliceT hown; have hb3 : w3.heap[B]? = some (.cells (bookC (.slice ia n ic)) 61) := (hg.block B (by simp; omega) (fun e => by have := HR.out.lt B e.symm; omega)).trans ((Below.heap_alloc _ _ _ hBl).trans HB.out); have HB3 := Lib.hid hb3; unfold bookC at hb3; have c3 : w3.cell? ⟨B, 4, none⟩ = some (.slice ia n ic) := (by simp only [World.cell?, hb3]; rfl); have f3 : w3.frozen? ⟨B, 4, none⟩ = false := (by simp [World.frozen?, hb3]); have HO3 := Lib.hid hown; have HG3 := Lib.hid hg; clear hown hg hb3)
  go_wp2_with (fail)
  go_end0
  refine ⟨rfl, .slice va3 (n + 1) vc3, ?_, ?_, ?_⟩
  · have := heap_setCell_same w3 B 4 _ _ (.slice va3 (n + 1) vc3) HB3.out
    exact this
  · refine HO3.out.kept (row := some B) ⟨rfl, rfl, rfl, by simp [World.setCell], fun k hk hne => heap_setCell_other _ _ _ _ (fun e => hne (by rw [e]))⟩ ?_
    right
    intro e
    have := (HO3.out.lt B e).1
    omega
  · have hg := HG3.out
    refine ⟨hg.os, hg.tape, hg.output, by have h1 := hg.size; simp [World.setCell] at h1 ⊢; omega, fun k hk hne => ?_⟩
    refine (heap_setCell_other _ _ _ _ (fun e => hne (Or.inl e))).trans ((hg.block k (by simp; omega) (fun e => hne (Or.inr e.symm))).trans (Below.heap_alloc _ _ _ hk))
end Go.Proofs.Ytockmgcgifhepaa

/- spillwaymem.Book: aloneItems. -/
namespace Go.Proofs.Ytockmgcgifhepaa
open Go.RowKit
set_option linter.unusedVariables false
set_option linter.unusedSimpArgs false

def mkI (c : Int) : ItT := ⟨⟨#[]⟩, c⟩
theorem rep_snoc (n : Nat) (m : ItT) : flatT (List.replicate (n + 1) m) = flatT (List.replicate n m) ++ [.string m.val, .int .i64 m.cnt] := by
  rw [List.replicate_succ', flatT_app]; rfl
theorem rep_take {n1 n2 : Nat} (h : n1 ≤ n2) (m : ItT) : (flatT (List.replicate n2 m)).take (n1 * 2) = flatT (List.replicate n1 m) := by
  obtain ⟨k, rfl⟩ := Nat.exists_eq_add_of_le h
  rw [← List.replicate_append_replicate, flatT_app, List.take_left' (by rw [flatT_len, List.length_replicate])]
theorem rep_len (n : Nat) (m : ItT) : (List.replicate n m).length = n := List.length_replicate
theorem rep_get {n k : Nat} (h : k < n) (m : ItT) : (List.replicate n m)[k]? = some m := by rw [List.getElem?_replicate, if_pos h]
theorem own_cell2 {w : World} {base n c g k : Nat} {xs : List ItT} {x : ItT} (h : w.ownsRow base 77 2 (.slice (some ⟨g, 0, none⟩) n c) n (flatT xs)) (hx : xs[k]? = some x) : w.cell? ⟨g, k * 2, none⟩ = some (.string x.val) ∧ w.cell? ⟨g, k * 2 + 1, none⟩ = some (.int .i64 x.cnt) := by
  have hl : xs.length = n := (own_its h).1
  have hkl := (List.getElem?_eq_some_iff.1 hx).1
  rw [h.cellAt (k * 2) (by omega), h.cellAt (k * 2 + 1) (by omega)]
  exact flatT_get hx
theorem own_fz {w : World} {base n c g size : Nat} {e : TypeId} {xs : List Value} (h : w.ownsRow base e size (.slice (some ⟨g, 0, none⟩) n c) n xs) (k : Nat) : w.frozen? ⟨g, k, none⟩ = false := by
  rcases h.2 with ⟨h1, _⟩ | ⟨g', cap, cur, h1, _, hg, _⟩
  · cases h1
  · injection h1 with q1 _ _
    injection q1 with q1
    injection q1 with q1 _ _
    subst q1
    simp [World.frozen?, hg]
/-- A slice of something is at a block of its own. -/
theorem own_some {w : World} {base n c size : Nat} {e : TypeId} {a : Option Addr} {xs : List Value} (h : w.ownsRow base e size (.slice a n c) n xs) (hn : 0 < n) : ∃ g, a = some ⟨g, 0, none⟩ := by
  rcases h.2 with ⟨_, h1⟩ | ⟨g', cap, cur, h1, _⟩
  · omega
  · injection h1 with q1 _ _
    exact ⟨g', q1⟩
theorem typeT {w : World} {base n size k : Nat} {e : TypeId} {v : Value} {xs : List Value} (h : w.ownsRow base e size v n xs) (hk : v.ownBlock = some k) : ∃ cur, w.heap[k]? = some (.cells cur e) ∧ base ≤ k ∧ k < w.heap.size := by
  rcases h.2 with ⟨rfl, _⟩ | ⟨g, cap, cur, rfl, hb, hg, _⟩
  · cases hk
  · obtain rfl : g = k := by simpa [Value.ownBlock] using hk
    exact ⟨cur, hg, hb, (Array.getElem?_eq_some_iff.1 hg).1⟩
/-- The shorter row at the same block. -/
theorem own_sub {w : World} {b1 b2 n1 n2 c1 c2 g : Nat} {e : TypeId} {xs ys : List Value} {w0 : World} (h1 : w0.ownsRow b1 e 2 (.slice (some ⟨g, 0, none⟩) n1 c1) n1 xs) (h0 : w0.ownsRow b2 e 2 (.slice (some ⟨g, 0, none⟩) n2 c2) n2 ys) (h2 : w.ownsRow b2 e 2 (.slice (some ⟨g, 0, none⟩) n2 c2) n2 ys) (hn : n1 ≤ n2) (hx : ys.take (n1 * 2) = xs) :
    w.ownsRow b1 e 2 (.slice (some ⟨g, 0, none⟩) n1 c1) n1 xs := by
  refine ⟨h1.1, ?_⟩
  rcases h1.2 with ⟨q, _⟩ | ⟨g1, p1, cur1, q1, r1, s1, t1, u1, v1, x1⟩
  · cases q
  rcases h0.2 with ⟨q, _⟩ | ⟨g0, p0, cur0, q0, r0, s0, t0, u0, v0, x0⟩
  · cases q
  rcases h2.2 with ⟨q, _⟩ | ⟨g2, p2, cur2, q2, r2, s2, t2, u2, v2, x2⟩
  · cases q
  injection q1 with q1 _ q1c; injection q1 with q1; injection q1 with q1 _ _
  injection q0 with q0 _ q0c; injection q0 with q0; injection q0 with q0 _ _
  injection q2 with q2 _ q2c; injection q2 with q2; injection q2 with q2 _ _
  subst q1 q0 q2 q1c q0c q2c
  rw [s1] at s0
  injection s0 with s0
  injection s0 with s0 _
  subst s0
  have hc : c1 = c2 := by omega
  subst hc
  refine Or.inr ⟨g, c1, cur2, rfl, r1, s2, t1, u1, v2, ?_⟩
  rw [← hx, ← x2, List.take_take, Nat.min_eq_left (Nat.mul_le_mul_right _ hn)]
/-- What lies in memory. -/
structure AlS (w : World) (bu V0 B I : Nat) (u v : Value) (n0 n1 : Nat) (X Y : List ItT) (wr : World) : Prop where
  bel : Below bu w wr
  bk : wr.heap[B]? = w.heap[B]?
  ik : wr.heap[I]? = w.heap[I]?
  ru : wr.ownsRow bu 77 2 u n0 (flatT X)
  rv : wr.ownsRow V0 77 2 v n1 (flatT Y)
  hu : ∀ k, u.ownBlock = some k → k < V0
  hv : ∀ k, v.ownBlock = some k → k < B
  o1 : bu ≤ V0
  o2 : V0 ≤ B
  o3 : B < I
  o4 : I < w.heap.size
variable {w wr : World} {bu V0 B I : Nat} {u v : Value} {n0 n1 : Nat} {X Y : List ItT}
/-- A store into the first row. -/
theorem AlS.setU {g c k : Nat} {x : ItT} (h : AlS w bu V0 B I (.slice (some ⟨g, 0, none⟩) n0 c) v n0 n1 X Y wr) (hk : k < n0) :
    AlS w bu V0 B I (.slice (some ⟨g, 0, none⟩) n0 c) v n0 n1 (X.set k x) Y ((wr.setCell ⟨g, k * 2, none⟩ (.string x.val)).setCell ⟨g, k * 2 + 1, none⟩ (.int .i64 x.cnt)) := by
  have hL : ∀ r ∈ X.map fun x => [Value.string x.val, .int .i64 x.cnt], r.length = 2 := by intro r hr; obtain ⟨x, _, rfl⟩ := List.mem_map.1 hr; rfl
  have hl : X.length = n0 := (own_its h.ru).1
  obtain ⟨p1, p2⟩ := rows_put hL h.ru (i := k) (by rw [List.length_map]; omega) (r := [Value.string x.val, .int .i64 x.cnt]) rfl
  have hgV := h.hu g rfl
  have hg0 := (h.ru.lt g rfl).1
  have hO2 := h.o2
  have hO3 := h.o3
  refine ⟨h.bel.grown p2 (by have := h.bel.size; have := h.o1; have := h.o4; omega) (fun k e => by injection e with e; omega), (p2.block B (Nat.lt_of_lt_of_le (Nat.lt_trans hO3 h.o4) h.bel.size) (fun e => by injection e with e; omega)).trans h.bk, (p2.block I (Nat.lt_of_lt_of_le h.o4 h.bel.size) (fun e => by injection e with e; omega)).trans h.ik, ?_, ?_, h.hu, h.hv, h.o1, h.o2, h.o3, h.o4⟩
  · unfold flatT
    rw [List.map_set]
    exact p1
  · refine h.rv.kept p2 ?_
    cases hv : v.ownBlock with
    | none => exact Or.inl rfl
    | some j => right; intro e; injection e with e; have := (h.rv.lt j hv).1; omega
theorem AlS.setV {g c k : Nat} {x : ItT} (h : AlS w bu V0 B I u (.slice (some ⟨g, 0, none⟩) n1 c) n0 n1 X Y wr) (hk : k < n1) :
    AlS w bu V0 B I u (.slice (some ⟨g, 0, none⟩) n1 c) n0 n1 X (Y.set k x) ((wr.setCell ⟨g, k * 2, none⟩ (.string x.val)).setCell ⟨g, k * 2 + 1, none⟩ (.int .i64 x.cnt)) := by
  have hL : ∀ r ∈ Y.map fun x => [Value.string x.val, .int .i64 x.cnt], r.length = 2 := by intro r hr; obtain ⟨x, _, rfl⟩ := List.mem_map.1 hr; rfl
  have hl : Y.length = n1 := (own_its h.rv).1
  obtain ⟨p1, p2⟩ := rows_put hL h.rv (i := k) (by rw [List.length_map]; omega) (r := [Value.string x.val, .int .i64 x.cnt]) rfl
  have hgV := h.hv g rfl
  have hg0 := (h.rv.lt g rfl).1
  have hO1 := h.o1
  have hO2 := h.o2
  have hO3 := h.o3
  refine ⟨h.bel.grown p2 (by have := h.bel.size; have := h.o4; omega) (fun k e => by injection e with e; omega), (p2.block B (Nat.lt_of_lt_of_le (Nat.lt_trans hO3 h.o4) h.bel.size) (fun e => by injection e with e; omega)).trans h.bk, (p2.block I (Nat.lt_of_lt_of_le h.o4 h.bel.size) (fun e => by injection e with e; omega)).trans h.ik, ?_, ?_, h.hu, h.hv, h.o1, h.o2, h.o3, h.o4⟩
  · refine h.ru.kept p2 ?_
    cases hu : u.ownBlock with
    | none => exact Or.inl rfl
    | some j => right; intro e; injection e with e; have := h.hu j hu; omega
  · unfold flatT
    rw [List.map_set]
    exact p1
/-- What is marked up to k. -/
def mkd (m : ItT) (X : List ItT) (k : Nat) : List ItT := List.replicate k m ++ X.drop k
theorem mkd_next (m : ItT) {X : List ItT} {k : Nat} (h : k < X.length) : (mkd m X k).set k m = mkd m X (k + 1) := by
  unfold mkd
  rw [List.set_append_right _ _ (by rw [List.length_replicate]; exact Nat.le_refl _), List.length_replicate, Nat.sub_self, List.drop_eq_getElem_cons h, List.set_cons_zero, List.replicate_succ', List.append_assoc]
  rfl
theorem mkd_zero (m : ItT) (X : List ItT) : mkd m X 0 = X := by simp [mkd]
theorem mkd_all (m : ItT) (X : List ItT) : mkd m X X.length = List.replicate X.length m := by simp [mkd]

def m0 : ItT := mkI (-9000)
def m1 : ItT := mkI (-9001)
theorem own_slice_of {a : Option Addr} {n c k : Nat} (h : Value.ownBlock (.slice a n c) = some k) : ∃ p, a = some p ∧ p.block = k := by
  cases a with
  | none => cases h
  | some p => exact ⟨p, rfl, by simpa [Value.ownBlock] using h⟩
/-- The first list grows. -/
structure Ap0 (w : World) (bu V0 B I : Nat) (u v : Value) (n0 n1 : Nat) (j : Nat) (g : Value) (wr : World) : Prop where
  al : AlS w bu V0 B I u v n0 n1 (List.replicate n0 m0) (List.replicate n1 m1) wr
  rg : wr.ownsRow bu 77 2 g (n0 + j) (flatT (List.replicate (n0 + j) m0))
  hg : g.ownBlock = u.ownBlock ∨ ∀ k, g.ownBlock = some k → w.heap.size ≤ k
theorem row_at {w : World} {base n size k : Nat} {e : TypeId} {v : Value} {xs : List Value} (h : w.ownsRow base e size v n xs) (hk : v.ownBlock = some k) : ∃ c, v = .slice (some ⟨k, 0, none⟩) n c := by
  rcases h.2 with ⟨rfl, _⟩ | ⟨g, cap, cur, rfl, _⟩
  · cases hk
  · obtain rfl : g = k := by simpa [Value.ownBlock] using hk
    exact ⟨cap, rfl⟩
theorem Ap0.push {j : Nat} {g g' : Value} {w' : World} {o : Obj} (h : Ap0 w bu V0 B I u v n0 n1 j g wr) (hown : w'.ownsRow bu 77 2 g' (n0 + j + 1) (flatT (List.replicate (n0 + j) m0) ++ [.string m0.val, .int .i64 m0.cnt])) (hg : (wr.alloc o).grownBy w' g.ownBlock) (hw : g'.ownBlock = g.ownBlock ∨ g'.ownBlock = some (wr.alloc o).heap.size)
    (hkeep : w'.ownsRow bu 77 2 g (n0 + j) (flatT (List.replicate (n0 + j) m0))) : Ap0 w bu V0 B I u v n0 n1 (j + 1) g' w' := by
  have hO1 := h.al.o1
  have hO2 := h.al.o2
  have hO3 := h.al.o3
  have hO4 := h.al.o4
  have hsz := h.al.bel.size
  have hz2 : (wr.alloc o).heap.size = wr.heap.size + 1 := by simp
  have hgb : ∀ k, g.ownBlock = some k → k < V0 ∨ w.heap.size ≤ k := fun k e => by
    rcases h.hg with h1 | h1
    · exact Or.inl (h.al.hu k (h1.symm.trans e))
    · exact Or.inr (h1 k e)
  have bo : ∀ k, k < wr.heap.size → some k ≠ g.ownBlock → w'.heap[k]? = wr.heap[k]? := fun k hk hne => (hg.block k (by omega) hne).trans (Below.heap_alloc _ _ _ hk)
  refine ⟨⟨(h.al.bel.alloc (by omega) _).grown hg (by omega) (fun k e => (h.rg.lt k e).1), (bo B (by omega) (fun e => by have := hgb B e.symm; omega)).trans h.al.bk, (bo I (by omega) (fun e => by have := hgb I e.symm; omega)).trans h.al.ik, ?_, ?_, h.al.hu, h.al.hv, hO1, hO2, hO3, hO4⟩, ?_, ?_⟩
  · by_cases e : g.ownBlock = u.ownBlock
    · cases hub : u.ownBlock with
      | none => exact (h.al.ru.alloc o).kept hg (Or.inl hub)
      | some k =>
        obtain ⟨c1, rfl⟩ := row_at h.al.ru hub
        obtain ⟨c2, rfl⟩ := row_at h.rg (e.trans hub)
        exact own_sub h.al.ru h.rg hkeep (Nat.le_add_right _ _) (rep_take (Nat.le_add_right _ _) m0)
    · exact (h.al.ru.alloc o).kept hg (Or.inr (fun e2 => e e2.symm))
  · refine (h.al.rv.alloc o).kept hg ?_
    cases hvb : v.ownBlock with
    | none => exact Or.inl rfl
    | some k =>
      right
      intro e
      have h1 := hgb k e.symm
      have h2 := (h.al.rv.lt k hvb).1
      have h3 := h.al.hv k hvb
      omega
  · rw [show n0 + (j + 1) = n0 + j + 1 by omega, rep_snoc]; exact hown
  · rcases hw with e | e
    · rcases h.hg with h1 | h1
      · exact Or.inl (e.trans h1)
      · exact Or.inr (fun k hk => h1 k (e.symm.trans hk))
    · exact Or.inr (fun k hk => by rw [e] at hk; injection hk with hk; omega)
/-- The second list grows: the first and the list of them are as they were. -/
structure Ap1 (w : World) (bu V0 B I : Nat) (u v : Value) (n0 n1 T1 : Nat) (g0 av : Value) (j : Nat) (g : Value) (wr : World) : Prop where
  al : AlS w bu V0 B I u v n0 n1 (List.replicate n0 m0) (List.replicate n1 m1) wr
  rg : wr.ownsRow bu 77 2 g (n1 + j) (flatT (List.replicate (n1 + j) m1))
  hg : g.ownBlock = v.ownBlock ∨ ∀ k, g.ownBlock = some k → T1 ≤ k
  r0 : wr.ownsRow bu 77 2 g0 (n0 + 20) (flatT (List.replicate (n0 + 20) m0))
  h0 : g0.ownBlock = u.ownBlock ∨ ∀ k, g0.ownBlock = some k → w.heap.size ≤ k
  h01 : ∀ k, g0.ownBlock = some k → k < T1
  ra : wr.ownsRow w.heap.size 42 1 av 1 [g0]
  ha1 : ∀ k, av.ownBlock = some k → k < T1
  t1 : w.heap.size ≤ T1
  t2 : T1 ≤ wr.heap.size
theorem Ap1.push {T1 j : Nat} {g0 av g g' : Value} {w' : World} {o : Obj} (h : Ap1 w bu V0 B I u v n0 n1 T1 g0 av j g wr) (hown : w'.ownsRow bu 77 2 g' (n1 + j + 1) (flatT (List.replicate (n1 + j) m1) ++ [.string m1.val, .int .i64 m1.cnt])) (hg : (wr.alloc o).grownBy w' g.ownBlock) (hw : g'.ownBlock = g.ownBlock ∨ g'.ownBlock = some (wr.alloc o).heap.size)
    (hkeep : w'.ownsRow bu 77 2 g (n1 + j) (flatT (List.replicate (n1 + j) m1))) : Ap1 w bu V0 B I u v n0 n1 T1 g0 av (j + 1) g' w' := by
  have hO1 := h.al.o1
  have hO2 := h.al.o2
  have hO3 := h.al.o3
  have hO4 := h.al.o4
  have hsz := h.al.bel.size
  have hT1 := h.t1
  have hT2 := h.t2
  have hz2 : (wr.alloc o).heap.size = wr.heap.size + 1 := by simp
  have hgb : ∀ k, g.ownBlock = some k → (V0 ≤ k ∧ k < B) ∨ T1 ≤ k := fun k e => by
    rcases h.hg with h1 | h1
    · exact Or.inl ⟨(h.al.rv.lt k (h1.symm.trans e)).1, h.al.hv k (h1.symm.trans e)⟩
    · exact Or.inr (h1 k e)
  have bo : ∀ k, k < wr.heap.size → some k ≠ g.ownBlock → w'.heap[k]? = wr.heap[k]? := fun k hk hne => (hg.block k (by omega) hne).trans (Below.heap_alloc _ _ _ hk)
  refine ⟨⟨(h.al.bel.alloc (by omega) _).grown hg (by omega) (fun k e => (h.rg.lt k e).1), (bo B (by omega) (fun e => by have := hgb B e.symm; omega)).trans h.al.bk, (bo I (by omega) (fun e => by have := hgb I e.symm; omega)).trans h.al.ik, ?_, ?_, h.al.hu, h.al.hv, hO1, hO2, hO3, hO4⟩, ?_, ?_, ?_, h.h0, h.h01, ?_, h.ha1, hT1, by have := hg.size; omega⟩
  · refine (h.al.ru.alloc o).kept hg ?_
    cases hub : u.ownBlock with
    | none => exact Or.inl rfl
    | some k =>
      right
      intro e
      have h1 := hgb k e.symm
      have h3 := h.al.hu k hub
      omega
  · by_cases e : g.ownBlock = v.ownBlock
    · cases hvb : v.ownBlock with
      | none => exact (h.al.rv.alloc o).kept hg (Or.inl hvb)
      | some k =>
        obtain ⟨c1, rfl⟩ := row_at h.al.rv hvb
        obtain ⟨c2, rfl⟩ := row_at h.rg (e.trans hvb)
        exact own_sub h.al.rv h.rg hkeep (Nat.le_add_right _ _) (rep_take (Nat.le_add_right _ _) m1)
    · exact (h.al.rv.alloc o).kept hg (Or.inr (fun e2 => e e2.symm))
  · rw [show n1 + (j + 1) = n1 + j + 1 by omega, rep_snoc]; exact hown
  · rcases hw with e | e
    · rcases h.hg with h1 | h1
      · exact Or.inl (e.trans h1)
      · exact Or.inr (fun k hk => h1 k (e.symm.trans hk))
    · exact Or.inr (fun k hk => by rw [e] at hk; injection hk with hk; omega)
  · refine (h.r0.alloc o).kept hg ?_
    cases hub : g0.ownBlock with
    | none => exact Or.inl rfl
    | some k =>
      right
      intro e
      have h1 := hgb k e.symm
      have h3 := h.h01 k hub
      rcases h.h0 with h4 | h4
      · have := h.al.hu k (h4.symm.trans hub); omega
      · have := h4 k hub; omega
  · refine (h.ra.alloc o).kept hg ?_
    cases hub : av.ownBlock with
    | none => exact Or.inl rfl
    | some k =>
      right
      intro e
      have h1 := hgb k e.symm
      have h3 := h.ha1 k hub
      have h5 := (h.ra.lt k hub).1
      omega
end Go.Proofs.Ytockmgcgifhepaa

/- spillwaymem.Book: aloneItems: the walk; Alone. -/
namespace Go.Proofs.Ytockmgcgifhepaa
open Go.RowKit
set_option linter.unusedVariables false
set_option linter.unusedSimpArgs false

theorem AlS.below {w wr wx : World} {bu V0 B I : Nat} {u v : Value} {n0 n1 : Nat} {X Y : List ItT} (h : AlS w bu V0 B I u v n0 n1 X Y wr) (hb : Below wr.heap.size wr wx) : AlS w bu V0 B I u v n0 n1 X Y wx := by
  have hO2 := h.o2
  have hO3 := h.o3
  have hO4 := h.o4
  have hsz := h.bel.size
  exact ⟨h.bel.trans (hb.mono (by have := h.o1; omega)), (hb.block B (by omega)).trans h.bk, (hb.block I (by omega)).trans h.ik, below_ownT h.ru hb, below_ownT h.rv hb, h.hu, h.hv, h.o1, hO2, hO3, hO4⟩
/-- Both have grown. -/
structure Fin2 (w : World) (bu V0 B I : Nat) (u v : Value) (n0 n1 : Nat) (g0 g1 av : Value) (wr : World) : Prop where
  al : AlS w bu V0 B I u v n0 n1 (List.replicate n0 m0) (List.replicate n1 m1) wr
  r0 : wr.ownsRow bu 77 2 g0 (n0 + 20) (flatT (List.replicate (n0 + 20) m0))
  r1 : wr.ownsRow bu 77 2 g1 (n1 + 20) (flatT (List.replicate (n1 + 20) m1))
  ra : wr.ownsRow w.heap.size 42 1 av 2 [g0, g1]
theorem Ap0.all {w wr w' : World} {bu V0 B I : Nat} {u v : Value} {n0 n1 : Nat} {g v5 : Value} {o : Obj} (h : Ap0 w bu V0 B I u v n0 n1 20 g wr) (hown : w'.ownsRow w.heap.size 42 1 v5 (0 + 1) ([] ++ [g])) (hg : (wr.alloc o).grownBy w' none) :
    Ap1 w bu V0 B I u v n0 n1 w'.heap.size g v5 0 v w' := by
  have hb : Below wr.heap.size wr w' := ((Below.refl _ _).alloc (Nat.le_refl _) o).grown hg (by simp) (fun k e => by cases e)
  have hal := h.al.below hb
  have hr0 := below_ownT h.rg hb
  refine ⟨hal, ownsRow_baseT hal.rv hal.o1, Or.inl rfl, hr0, h.hg, fun k e => (hr0.lt k e).2, hown, fun k e => (hown.lt k e).2, hal.bel.size, Nat.le_refl _⟩
theorem Ap1.all {w wr w' : World} {bu V0 B I T1 : Nat} {u v : Value} {n0 n1 : Nat} {g0 g av v5 : Value} {o : Obj} (h : Ap1 w bu V0 B I u v n0 n1 T1 g0 av 20 g wr) (hown : w'.ownsRow w.heap.size 42 1 v5 (1 + 1) ([g0] ++ [g])) (hg : (wr.alloc o).grownBy w' av.ownBlock) :
    Fin2 w bu V0 B I u v n0 n1 g0 g v5 w' := by
  have hO1 := h.al.o1
  have hO2 := h.al.o2
  have hO3 := h.al.o3
  have hO4 := h.al.o4
  have hsz := h.al.bel.size
  have hz2 : (wr.alloc o).heap.size = wr.heap.size + 1 := by simp
  have ne : ∀ {base n : Nat} {x : Value} {xs : List Value}, wr.ownsRow base 77 2 x n xs → x.ownBlock = none ∨ x.ownBlock ≠ av.ownBlock := fun {base n x xs} hx => by
    cases hb : x.ownBlock with
    | none => exact Or.inl rfl
    | some k =>
      right
      intro e
      obtain ⟨c1, h1, _⟩ := typeT hx hb
      obtain ⟨c2, h2, _⟩ := typeT h.ra e.symm
      rw [h1] at h2
      injection h2 with h2
      injection h2 with _ h2
      exact absurd h2 (by decide)
  have bo : ∀ k, k < w.heap.size → w'.heap[k]? = wr.heap[k]? := fun k hk => (hg.block k (by omega) (fun e => by have := (h.ra.lt k e.symm).1; omega)).trans (Below.heap_alloc _ _ _ (by omega))
  have hbel : Below bu w w' := (h.al.bel.alloc (by omega) _).grown hg (by omega) (fun k e => by have := (h.ra.lt k e).1; omega)
  exact ⟨⟨hbel, (bo B (by omega)).trans h.al.bk, (bo I (by omega)).trans h.al.ik, (h.al.ru.alloc o).kept hg (ne h.al.ru), (h.al.rv.alloc o).kept hg (ne h.al.rv), h.al.hu, h.al.hv, hO1, hO2, hO3, hO4⟩, (h.r0.alloc o).kept hg (ne h.r0), (h.rg.alloc o).kept hg (ne h.rg), hown⟩

set_option maxHeartbeats 12800000 in
set_option maxRecDepth 100000 in
theorem alItems_any {w : World} {bu V0 B I : Nat} {u v : Value} {n0 n1 : Nat} {X Y : List ItT} {ic : Nat} (h : AlS w bu V0 B I u v n0 n1 X Y w) (hb : w.heap[B]? = some (.cells (bookC (.slice (some ⟨I, 0, none⟩) 2 ic)) 61)) (hi : w.cell? ⟨I, 0, none⟩ = some u ∧ w.cell? ⟨I, 1, none⟩ = some v) (l0 : n0 ≤ 1048576) (l1 : n1 ≤ 1048576) :
    Calls Try.prog 39 #[.pointer (some ⟨B, 0, none⟩)] w fun e w' => e = .returned (.bool true) ∧ Below bu w w' ∧ w'.heap[B]? = w.heap[B]? := by
  obtain ⟨ii, i0, i1, i2, i3⟩ := info_partsO info_itT
  obtain ⟨ji, j0, j1, j2, j3⟩ := info_partsO info_slT
  obtain ⟨ua, uc, rfl⟩ := own_sliceT h.ru
  obtain ⟨va, vc, rfl⟩ := own_sliceT h.rv
  have HC : Hid (∀ wr X Y, AlS w bu V0 B I (.slice ua n0 uc) (.slice va n1 vc) n0 n1 X Y wr → wr.cell? ⟨B, 4, none⟩ = some (.slice (some ⟨I, 0, none⟩) 2 ic) ∧ wr.cell? ⟨I, 0, none⟩ = some (.slice ua n0 uc) ∧ wr.cell? ⟨I, 1, none⟩ = some (.slice va n1 vc)) := fun wr X Y k => by
    refine ⟨?_, (World.cell?_of_block (a := ⟨I, 0, none⟩) k.ik).trans hi.1, (World.cell?_of_block (a := ⟨I, 1, none⟩) k.ik).trans hi.2⟩
    refine (World.cell?_of_block (a := ⟨B, 4, none⟩) k.bk).trans ?_
    simp only [World.cell?, hb]
    rfl
  have HH := Lib.hid h
  clear hb hi h
  go_enter Try.func39, Try.ntmps39
  go_wp2_with (fail)
  go_loopw [3, 4] (fun s3 _ wr => (s3 = .int .i64 0 ∧ Hid (AlS w bu V0 B I (.slice ua n0 uc) (.slice va n1 vc) n0 n1 X Y wr)) ∨ (s3 = .int .i64 1 ∧ Hid (AlS w bu V0 B I (.slice ua n0 uc) (.slice va n1 vc) n0 n1 (List.replicate n0 m0) Y wr)) ∨ (s3 = .int .i64 2 ∧ Hid (AlS w bu V0 B I (.slice ua n0 uc) (.slice va n1 vc) n0 n1 (List.replicate n0 m0) (List.replicate n1 m1) wr))) (fun s3 _ _ => 2 - (intOf s3).toNat)
  case atStart => exact Or.inl ⟨rfl, HH⟩
  case round =>
    rename World => wr
    rcases hrel with ⟨rfl, HA⟩ | ⟨rfl, HA⟩ | ⟨rfl, HA⟩
    · skip
      obtain ⟨cB, cI0, cI1⟩ := HC.out wr _ _ HA.out
      have hlX : X.length = n0 := (own_its HA.out.ru).1
      have HLX := Lib.hid hlX
      clear hlX
      go_wp2_with (fail)
      go_loopw [4] (fun s4 wr => ∃ k : Nat, k ≤ n0 ∧ s4 = .int .i64 k ∧ Hid (AlS w bu V0 B I (.slice ua n0 uc) (.slice va n1 vc) n0 n1 (mkd m0 X k) Y wr)) (fun s4 _ => n0 - (intOf s4).toNat)
      case atStart => exact ⟨0, Nat.zero_le _, rfl, Lib.hid (by rw [mkd_zero]; exact HA.out)⟩
      case round =>
        rename World => wz
        clear cB cI0 cI1
        obtain ⟨k, hk, rfl, HK⟩ := hrel
        obtain ⟨cB, cI0, cI1⟩ := HC.out wz _ _ HK.out
        by_cases hlt : k < n0
        · have k0 : (0 : Int) ≤ k := by omega
          have k1 : (k : Int) < n0 := by omega
          obtain ⟨g, rfl⟩ := own_some HK.out.ru (by omega)
          have hkl : k < (mkd m0 X k).length := by rw [(own_its HK.out.ru).1]; exact hlt
          obtain ⟨p1, p2⟩ := own_cell2 HK.out.ru (List.getElem?_eq_getElem hkl)
          have z1 := own_fz HK.out.ru (k * 2)
          have z2 := own_fz HK.out.ru (k * 2 + 1)
          have hs := HK.out.setU (x := m0) hlt
          rw [mkd_next m0 (by rw [HLX.out]; exact hlt)] at hs
          have HS := Lib.hid hs
          generalize (mkd m0 X k)[k].val = y1 at p1
          generalize (mkd m0 X k)[k].cnt = y2 at p2
          clear hs hkl
          go_wp2_with (fail)
          exact ⟨⟨k + 1, by omega, by go_num, HS⟩, by first | (simp [intOf]; done) | (simp [intOf]; omega)⟩
        · have hkn : k = n0 := by omega
          have hm : mkd m0 X k = List.replicate n0 m0 := by rw [hkn, ← HLX.out, mkd_all]
          rw [hm] at HK
          go_wp2_with (fail)
          exact ⟨Or.inr (Or.inl ⟨rfl, HK⟩), by simp [intOf]⟩
    · skip
      obtain ⟨cB, cI0, cI1⟩ := HC.out wr _ _ HA.out
      have hlX : Y.length = n1 := (own_its HA.out.rv).1
      have HLX := Lib.hid hlX
      clear hlX
      go_wp2_with (fail)
      go_loopw [4] (fun s4 wr => ∃ k : Nat, k ≤ n1 ∧ s4 = .int .i64 k ∧ Hid (AlS w bu V0 B I (.slice ua n0 uc) (.slice va n1 vc) n0 n1 (List.replicate n0 m0) (mkd m1 Y k) wr)) (fun s4 _ => n1 - (intOf s4).toNat)
      case atStart => exact ⟨0, Nat.zero_le _, rfl, Lib.hid (by rw [mkd_zero]; exact HA.out)⟩
      case round =>
        rename World => wz
        clear cB cI0 cI1
        obtain ⟨k, hk, rfl, HK⟩ := hrel
        obtain ⟨cB, cI0, cI1⟩ := HC.out wz _ _ HK.out
        by_cases hlt : k < n1
        · have k0 : (0 : Int) ≤ k := by omega
          have k1 : (k : Int) < n1 := by omega
          obtain ⟨g, rfl⟩ := own_some HK.out.rv (by omega)
          have hkl : k < (mkd m1 Y k).length := by rw [(own_its HK.out.rv).1]; exact hlt
          obtain ⟨p1, p2⟩ := own_cell2 HK.out.rv (List.getElem?_eq_getElem hkl)
          have z1 := own_fz HK.out.rv (k * 2)
          have z2 := own_fz HK.out.rv (k * 2 + 1)
          have hs := HK.out.setV (x := m1) hlt
          rw [mkd_next m1 (by rw [HLX.out]; exact hlt)] at hs
          have HS := Lib.hid hs
          generalize (mkd m1 Y k)[k].val = y1 at p1
          generalize (mkd m1 Y k)[k].cnt = y2 at p2
          clear hs hkl
          go_wp2_with (fail)
          exact ⟨⟨k + 1, by omega, by go_num, HS⟩, by first | (simp [intOf]; done) | (simp [intOf]; omega)⟩
        · have hkn : k = n1 := by omega
          have hm : mkd m1 Y k = List.replicate n1 m1 := by rw [hkn, ← HLX.out, mkd_all]
          rw [hm] at HK
          go_wp2_with (fail)
          exact ⟨Or.inr (Or.inr ⟨rfl, HK⟩), by simp [intOf]⟩
    · obtain ⟨cB, cI0, cI1⟩ := HC.out wr _ _ HA.out
      go_wp2_with (fail)
      clear cB cI0 cI1
      go_loopw [5, 6, 7, 8] (fun s5 s6 _ _ wr => (s6 = .int .i64 0 ∧ s5 = .slice none 0 0 ∧ Hid (AlS w bu V0 B I (.slice ua n0 uc) (.slice va n1 vc) n0 n1 (List.replicate n0 m0) (List.replicate n1 m1) wr)) ∨ (s6 = .int .i64 1 ∧ ∃ g0 a5 c5 T1, s5 = .slice a5 1 c5 ∧ Hid (Ap1 w bu V0 B I (.slice ua n0 uc) (.slice va n1 vc) n0 n1 T1 g0 (.slice a5 1 c5) 0 (.slice va n1 vc) wr)) ∨ (s6 = .int .i64 2 ∧ ∃ g0 g1 a5 c5, s5 = .slice a5 2 c5 ∧ Hid (Fin2 w bu V0 B I (.slice ua n0 uc) (.slice va n1 vc) n0 n1 g0 g1 (.slice a5 2 c5) wr))) (fun _ s6 _ _ _ => 2 - (intOf s6).toNat)
      case atStart => exact Or.inl ⟨rfl, rfl, HA⟩
      case round =>
        rename World => wr
        clear HA
        rcases hrel with ⟨rfl, rfl, HA⟩ | ⟨rfl, g0, a5, c5, T1, rfl, HP⟩ | ⟨rfl, g0, g1, a5, c5, rfl, HF⟩
        · skip
          obtain ⟨cB, cI0, cI1⟩ := HC.out wr _ _ HA.out
          go_wp2_with (fail)
          go_loopw [7, 8] (fun s7 s8 wz => ∃ j : Nat, j ≤ 20 ∧ s8 = .int .i64 j ∧ Hid (Ap0 w bu V0 B I (.slice ua n0 uc) (.slice va n1 vc) n0 n1 j s7 wz)) (fun _ s8 _ => 20 - (intOf s8).toNat)
          case atStart => exact ⟨0, Nat.zero_le _, rfl, Lib.hid ⟨HA.out, HA.out.ru, Or.inl rfl⟩⟩
          case round =>
            rename World => wz
            clear cB cI0 cI1
            obtain ⟨j, hj, rfl, HJ⟩ := hrel
            obtain ⟨ga, gc, rfl⟩ := own_sliceT HJ.out.rg
            by_cases hlt : j < 20
            · have k1 : (j : Int) < 20 := by omega
              obtain ⟨nj, hnj⟩ : ∃ nj, n0 + j = nj := ⟨_, rfl⟩
              have HNJ := Lib.hid hnj
              have hnl : nj ≤ 1048600 := by omega
              have hrg := HJ.out.rg
              rw [hnj] at hrg ⊢
              have HRG := Lib.hid hrg
              have hsz := HJ.out.al.bel.size
              have ho1 := HJ.out.al.o1
              have ho2 := HJ.out.al.o2
              have ho3 := HJ.out.al.o3
              have ho4 := HJ.out.al.o4
              have hbz : bu ≤ wz.heap.size := by omega
              clear hnj hrg hsz ho1 ho2 ho3 ho4
              go_wp2_with (at_builtin; refine wpList_append_keep _ rfl (.tmp 65) (.tmp 69) 42 rfl bu 77 ii _ 2 24 Try.underlying42 i0 i1 i2 i3 rfl (by decide) (.slice ga nj gc) nj (flatT (List.replicate nj m0)) rfl (HRG.out.alloc _) ⟨wz.heap.size, 0, none⟩ 1 1 [.string ⟨#[]⟩, .int .i64 (-9000)] rfl rfl (two_cellsT _ _ _ _) (by simp [Value.oneCell']) (by unfold maxLen; omega) (by omega) (Nat.le_trans hbz (by simp)) (by decide) ?_; intro v6 w6 hown hg hwh hkp; obtain ⟨va6, vc6, rfl⟩ := own_sliceT hown; have HN := Lib.hid (HJ.out.push (by rw [HNJ.out]; exact hown) (by rw [HNJ.out]; exact hg) (by rw [HNJ.out]; exact hwh) (by rw [HNJ.out]; exact hkp)); clear hown hg hwh hkp)
              go_wp2_with (fail)
              exact ⟨⟨j + 1, by omega, by go_num, HN⟩, by first | (simp [intOf]; done) | (simp [intOf]; omega)⟩
            · obtain rfl : j = 20 := by omega
              have hsz := HJ.out.al.bel.size
              clear hlt hj
              go_wp2_with (at_builtin; refine wpList_append_own _ rfl (.tmp 71) (.tmp 73) 56 rfl w.heap.size 42 ji _ 1 24 Try.underlying56 j0 j1 j2 j3 rfl (by decide) (.slice none 0 0) 0 [] rfl (World.ownsRow_nil _ _ _ _) ⟨wz.heap.size, 0, none⟩ 1 1 [.slice ga (n0 + 20) gc] rfl rfl (one_cellT _ _ _) (by simp [Value.oneCell']) (by unfold maxLen; omega) (by omega) (Nat.le_trans hsz (by simp)) ?_; intro v6 w6 hown hg _; obtain ⟨va6, vc6, rfl⟩ := own_sliceT hown; have HN := Lib.hid (HJ.out.all hown hg); clear hown hg)
              go_wp2_with (fail)
              exact ⟨Or.inr (Or.inl ⟨rfl, _, va6, vc6, _, rfl, HN⟩), by simp [intOf]⟩
        · skip
          obtain ⟨cB, cI0, cI1⟩ := HC.out wr _ _ HP.out.al
          go_wp2_with (fail)
          go_loopw [7, 8] (fun s7 s8 wz => ∃ j : Nat, j ≤ 20 ∧ s8 = .int .i64 j ∧ Hid (Ap1 w bu V0 B I (.slice ua n0 uc) (.slice va n1 vc) n0 n1 T1 g0 (.slice a5 1 c5) j s7 wz)) (fun _ s8 _ => 20 - (intOf s8).toNat)
          case atStart => exact ⟨0, Nat.zero_le _, rfl, Lib.hid HP.out⟩
          case round =>
            rename World => wz
            clear cB cI0 cI1
            obtain ⟨j, hj, rfl, HJ⟩ := hrel
            obtain ⟨ga, gc, rfl⟩ := own_sliceT HJ.out.rg
            by_cases hlt : j < 20
            · have k1 : (j : Int) < 20 := by omega
              obtain ⟨nj, hnj⟩ : ∃ nj, n1 + j = nj := ⟨_, rfl⟩
              have HNJ := Lib.hid hnj
              have hnl : nj ≤ 1048600 := by omega
              have hrg := HJ.out.rg
              rw [hnj] at hrg ⊢
              have HRG := Lib.hid hrg
              have hsz := HJ.out.al.bel.size
              have ho1 := HJ.out.al.o1
              have ho2 := HJ.out.al.o2
              have ho3 := HJ.out.al.o3
              have ho4 := HJ.out.al.o4
              have hbz : bu ≤ wz.heap.size := by omega
              clear hnj hrg hsz ho1 ho2 ho3 ho4
              go_wp2_with (at_builtin; refine wpList_append_keep _ rfl (.tmp 65) (.tmp 69) 42 rfl bu 77 ii _ 2 24 Try.underlying42 i0 i1 i2 i3 rfl (by decide) (.slice ga nj gc) nj (flatT (List.replicate nj m1)) rfl (HRG.out.alloc _) ⟨wz.heap.size, 0, none⟩ 1 1 [.string ⟨#[]⟩, .int .i64 (-9001)] rfl rfl (two_cellsT _ _ _ _) (by simp [Value.oneCell']) (by unfold maxLen; omega) (by omega) (Nat.le_trans hbz (by simp)) (by decide) ?_; intro v6 w6 hown hg hwh hkp; obtain ⟨va6, vc6, rfl⟩ := own_sliceT hown; have HN := Lib.hid (HJ.out.push (by rw [HNJ.out]; exact hown) (by rw [HNJ.out]; exact hg) (by rw [HNJ.out]; exact hwh) (by rw [HNJ.out]; exact hkp)); clear hown hg hwh hkp)
              go_wp2_with (fail)
              exact ⟨⟨j + 1, by omega, by go_num, HN⟩, by first | (simp [intOf]; done) | (simp [intOf]; omega)⟩
            · obtain rfl : j = 20 := by omega
              have hsz := HJ.out.al.bel.size
              clear hlt hj
              go_wp2_with (at_builtin; refine wpList_append_own _ rfl (.tmp 71) (.tmp 73) 56 rfl w.heap.size 42 ji _ 1 24 Try.underlying56 j0 j1 j2 j3 rfl (by decide) (.slice a5 1 c5) 1 [g0] rfl (HJ.out.ra.alloc _) ⟨wz.heap.size, 0, none⟩ 1 1 [.slice ga (n1 + 20) gc] rfl rfl (one_cellT _ _ _) (by simp [Value.oneCell']) (by unfold maxLen; omega) (by omega) (Nat.le_trans hsz (by simp)) ?_; intro v6 w6 hown hg _; obtain ⟨va6, vc6, rfl⟩ := own_sliceT hown; have HN := Lib.hid (HJ.out.all hown hg); clear hown hg)
              go_wp2_with (fail)
              exact ⟨Or.inr (Or.inr ⟨rfl, _, _, va6, vc6, rfl, HN⟩), by simp [intOf]⟩
        · obtain ⟨cB, cI0, cI1⟩ := HC.out wr _ _ HF.out.al
          obtain ⟨pa0, pc0, rfl⟩ := own_sliceT HF.out.r0
          obtain ⟨pa1, pc1, rfl⟩ := own_sliceT HF.out.r1
          obtain ⟨q0, rfl⟩ := own_some HF.out.r0 (by omega)
          obtain ⟨q1, rfl⟩ := own_some HF.out.r1 (by omega)
          obtain ⟨qa, rfl⟩ := own_some HF.out.ra (by omega)
          have ca0 : wr.cell? ⟨qa, 0, none⟩ = some (.slice (some ⟨q0, 0, none⟩) (n0 + 20) pc0) := HF.out.ra.cellAt 0 (by decide)
          have ca1 : wr.cell? ⟨qa, 1, none⟩ = some (.slice (some ⟨q1, 0, none⟩) (n1 + 20) pc1) := HF.out.ra.cellAt 1 (by decide)
          go_wp2_with (fail)
          rename World => wr
          go_loopw [9, 10, 11] (fun s9 _ _ wz => ∃ i : Nat, i ≤ 2 ∧ s9 = .int .i64 i ∧ wz = wr) (fun s9 _ _ _ => 2 - (intOf s9).toNat)
          case atStart => exact ⟨0, by decide, rfl, rfl⟩
          case round =>
            obtain ⟨i, hi, rfl, hq⟩ := hrel
            subst hq
            rename World => wr
            have hi3 : i = 0 ∨ i = 1 ∨ i = 2 := by omega
            rcases hi3 with rfl | rfl | rfl
            · skip
              go_wp2_with (fail)
              go_loopw [10] (fun s10 wz => ∃ k : Nat, k ≤ n0 + 20 ∧ s10 = .int .i64 k ∧ wz = wr) (fun s10 _ => n0 + 20 - (intOf s10).toNat)
              case atStart => exact ⟨0, Nat.zero_le _, rfl, rfl⟩
              case round =>
                obtain ⟨k, hk, rfl, hq⟩ := hrel
                subst hq
                rename World => wr
                by_cases hlt : k < n0 + 20
                · have k0 : (0 : Int) ≤ k := by omega
                  have k1 : (k : Int) < (n0 : Int) + 20 := by omega
                  obtain ⟨p1, p2⟩ := own_cell2 HF.out.r0 (rep_get hlt m0)
                  have p3 : wr.cell? ⟨q0, k * 2, none⟩ = some (.string ⟨#[]⟩) := p1
                  have p4 : wr.cell? ⟨q0, k * 2 + 1, none⟩ = some (.int .i64 (-9000)) := p2
                  clear p1 p2
                  go_wp2_with (fail)
                  exact ⟨⟨k + 1, by omega, by go_num, by first | trivial | rfl⟩, by first | (simp [intOf]; done) | (simp [intOf]; omega)⟩
                · have k1 : ¬ (k : Int) < (n0 : Int) + 20 := by omega
                  go_wp2_with (fail)
                  go_loopw [11] (fun s11 wz => ∃ k : Nat, k ≤ n0 ∧ s11 = .int .i64 k ∧ wz = wr) (fun s11 _ => n0 - (intOf s11).toNat)
                  case atStart => exact ⟨0, Nat.zero_le _, rfl, rfl⟩
                  case round =>
                    clear hk hlt k1
                    obtain ⟨k, hk, rfl, hq⟩ := hrel
                    subst hq
                    rename World => wr
                    by_cases hlt : k < n0
                    · have k0 : (0 : Int) ≤ k := by omega
                      have k1 : (k : Int) < n0 := by omega
                      obtain ⟨g, rfl⟩ := own_some HF.out.al.ru (by omega)
                      obtain ⟨p1, p2⟩ := own_cell2 HF.out.al.ru (rep_get hlt m0)
                      have p3 : wr.cell? ⟨g, k * 2, none⟩ = some (.string ⟨#[]⟩) := p1
                      have p4 : wr.cell? ⟨g, k * 2 + 1, none⟩ = some (.int .i64 (-9000)) := p2
                      clear p1 p2
                      go_wp2_with (fail)
                      exact ⟨⟨k + 1, by omega, by go_num, by first | trivial | rfl⟩, by first | (simp [intOf]; done) | (simp [intOf]; omega)⟩
                    · have k1 : ¬ (k : Int) < n0 := by omega
                      go_wp2_with (fail)
                      exact ⟨⟨1, by decide, rfl, by first | trivial | rfl⟩, by simp [intOf]⟩
            · skip
              go_wp2_with (fail)
              go_loopw [10] (fun s10 wz => ∃ k : Nat, k ≤ n1 + 20 ∧ s10 = .int .i64 k ∧ wz = wr) (fun s10 _ => n1 + 20 - (intOf s10).toNat)
              case atStart => exact ⟨0, Nat.zero_le _, rfl, rfl⟩
              case round =>
                obtain ⟨k, hk, rfl, hq⟩ := hrel
                subst hq
                rename World => wr
                by_cases hlt : k < n1 + 20
                · have k0 : (0 : Int) ≤ k := by omega
                  have k1 : (k : Int) < (n1 : Int) + 20 := by omega
                  obtain ⟨p1, p2⟩ := own_cell2 HF.out.r1 (rep_get hlt m1)
                  have p3 : wr.cell? ⟨q1, k * 2, none⟩ = some (.string ⟨#[]⟩) := p1
                  have p4 : wr.cell? ⟨q1, k * 2 + 1, none⟩ = some (.int .i64 (-9001)) := p2
                  clear p1 p2
                  go_wp2_with (fail)
                  exact ⟨⟨k + 1, by omega, by go_num, by first | trivial | rfl⟩, by first | (simp [intOf]; done) | (simp [intOf]; omega)⟩
                · have k1 : ¬ (k : Int) < (n1 : Int) + 20 := by omega
                  go_wp2_with (fail)
                  go_loopw [11] (fun s11 wz => ∃ k : Nat, k ≤ n1 ∧ s11 = .int .i64 k ∧ wz = wr) (fun s11 _ => n1 - (intOf s11).toNat)
                  case atStart => exact ⟨0, Nat.zero_le _, rfl, rfl⟩
                  case round =>
                    clear hk hlt k1
                    obtain ⟨k, hk, rfl, hq⟩ := hrel
                    subst hq
                    rename World => wr
                    by_cases hlt : k < n1
                    · have k0 : (0 : Int) ≤ k := by omega
                      have k1 : (k : Int) < n1 := by omega
                      obtain ⟨g, rfl⟩ := own_some HF.out.al.rv (by omega)
                      obtain ⟨p1, p2⟩ := own_cell2 HF.out.al.rv (rep_get hlt m1)
                      have p3 : wr.cell? ⟨g, k * 2, none⟩ = some (.string ⟨#[]⟩) := p1
                      have p4 : wr.cell? ⟨g, k * 2 + 1, none⟩ = some (.int .i64 (-9001)) := p2
                      clear p1 p2
                      go_wp2_with (fail)
                      exact ⟨⟨k + 1, by omega, by go_num, by first | trivial | rfl⟩, by first | (simp [intOf]; done) | (simp [intOf]; omega)⟩
                    · have k1 : ¬ (k : Int) < n1 := by omega
                      go_wp2_with (fail)
                      exact ⟨⟨2, by decide, rfl, by first | trivial | rfl⟩, by simp [intOf]⟩
            · go_wp2_with (fail)
              go_ret
              exact ⟨rfl, HF.out.al.bel, HF.out.al.bk⟩
end Go.Proofs.Ytockmgcgifhepaa

/- spillwaymem.Book: Alone. -/
namespace Go.Proofs.Ytockmgcgifhepaa
open Go.RowKit
set_option linter.unusedVariables false
set_option linter.unusedSimpArgs false

theorem book_cells {w : World} {B : Nat} {it : Value} (hb : w.heap[B]? = some (.cells (bookC it) 61)) : w.cell? ⟨B, 0, none⟩ = some (.slice none 0 0) ∧ w.cell? ⟨B, 1, none⟩ = some (.slice none 0 0) ∧ w.cell? ⟨B, 2, none⟩ = some (.slice none 0 0) ∧ w.cell? ⟨B, 3, none⟩ = some (.slice none 0 0) ∧ w.cell? ⟨B, 4, none⟩ = some it ∧ w.cell? ⟨B, 5, none⟩ = some (.slice none 0 0) ∧ w.cell? ⟨B, 6, none⟩ = some (.slice none 0 0) ∧ w.cell? ⟨B, 7, none⟩ = some (.slice none 0 0) := by
  simp only [World.cell?, hb]
  exact ⟨rfl, rfl, rfl, rfl, rfl, rfl, rfl, rfl⟩
set_option maxHeartbeats 6400000 in
set_option maxRecDepth 100000 in
theorem alone_any {w : World} {bu V0 B I : Nat} {u v : Value} {n0 n1 : Nat} {X Y : List ItT} {ic : Nat} (h : AlS w bu V0 B I u v n0 n1 X Y w) (hb : w.heap[B]? = some (.cells (bookC (.slice (some ⟨I, 0, none⟩) 2 ic)) 61)) (hi : w.cell? ⟨I, 0, none⟩ = some u ∧ w.cell? ⟨I, 1, none⟩ = some v) (l0 : n0 ≤ 1048576) (l1 : n1 ≤ 1048576) :
    Calls Try.prog 18 #[.pointer (some ⟨B, 0, none⟩)] w fun e w' => e = .returned (.bool true) ∧ Below bu w w' := by
  have HI := Lib.hid (alItems_any h hb hi l0 l1)
  obtain ⟨b0, b1, b2, b3, b4, b5, b6, b7⟩ := book_cells hb
  have HBB := Lib.hid hb
  have HBV := Lib.hid (show bu ≤ B by have := h.o1; have := h.o2; omega)
  have H0 := Lib.hid (alBytes_any b0)
  have H1 := Lib.hid (alTexts_any b1)
  have H2 := Lib.hid (alInts_any b2)
  have H3 := Lib.hid (alCounts_any b3)
  clear h hb hi b0 b1 b2 b3 b4 b5 b6 b7
  go_enter Try.func18, Try.ntmps18
  go_wp2_with (fail)
  refine H0.out.mono ?_
  rintro e w1 ⟨rfl, hq⟩
  subst hq
  rename World => w
  go_wp2_with (fail)
  refine H1.out.mono ?_
  rintro e w1 ⟨rfl, hq⟩
  subst hq
  rename World => w
  go_wp2_with (fail)
  refine H2.out.mono ?_
  rintro e w1 ⟨rfl, hq⟩
  subst hq
  rename World => w
  go_wp2_with (fail)
  refine H3.out.mono ?_
  rintro e w1 ⟨rfl, hq⟩
  subst hq
  rename World => w
  go_wp2_with (fail)
  refine HI.out.mono ?_
  rintro e w5 ⟨rfl, hbel, hbk⟩
  have hb5 := hbk.trans HBB.out
  obtain ⟨b0, b1, b2, b3, b4, b5, b6, b7⟩ := book_cells hb5
  have H5 := Lib.hid (alFlows_any b5)
  have H6 := Lib.hid (alBreaks_any b6)
  have H7 := Lib.hid (alSystems_any b7)
  have HBL := Lib.hid hbel
  have HB5 := Lib.hid hb5
  clear hbel hbk hb5 b0 b1 b2 b3 b4 b5 b6 b7 HI H0 H1 H2 H3 HBB
  go_wp2_with (fail)
  refine H5.out.mono ?_
  rintro e w1 ⟨rfl, hq⟩
  subst hq
  go_wp2_with (fail)
  refine H6.out.mono ?_
  rintro e w1 ⟨rfl, hq⟩
  subst hq
  go_wp2_with (fail)
  refine H7.out.mono ?_
  rintro e w1 ⟨rfl, hq⟩
  subst hq
  rename World => w5
  obtain ⟨b0, b1, b2, b3, b4, b5, b6, b7⟩ := book_cells HB5.out
  have fz : ∀ k, w5.frozen? ⟨B, k, none⟩ = false := fun k => by have h := HB5.out; simp [World.frozen?, h]
  have z0 := fz 0
  have z1 := fz 1
  have z2 := fz 2
  have z3 := fz 3
  have z4 := fz 4
  have z5 := fz 5
  have z6 := fz 6
  have z7 := fz 7
  have hS : ∀ (wx : World) (k : Nat) (x : Value), Below bu w wx → Below bu w (wx.setCell ⟨B, k, none⟩ x) := fun wx k x hx => hx.setCell (p := ⟨B, k, none⟩) HBV.out x
  have HS := Lib.hid hS
  clear fz hS
  go_wp2_with (fail)
  go_ret
  refine ⟨rfl, ?_⟩
  exact HS.out _ _ _ (HS.out _ _ _ (HS.out _ _ _ (HS.out _ _ _ (HS.out _ _ _ (HS.out _ _ _ (HS.out _ _ _ (HS.out _ _ _ (HBL.out))))))))
end Go.Proofs.Ytockmgcgifhepaa

/- the reference's sketch: Fork. -/
namespace Go.Proofs.Ytockmgcgifhepaa
open Go.RowKit
set_option linter.unusedVariables false
set_option linter.unusedSimpArgs false

theorem flatR_one (ns : List NoteS) : ∀ u ∈ flatR ns, u.oneCell' = true := by
  intro u hu
  obtain ⟨x, _, hx⟩ := List.mem_flatMap.1 hu
  simp only [NoteS.vals, List.mem_cons, List.not_mem_nil, or_false] at hx
  rcases hx with rfl | rfl | rfl <;> rfl
theorem r6_forkNil {w : World} {q : Nat} {h : ShapeS} {last : Int} {v : Value} (k : R6At w q h last v []) :
    R6At ((w.alloc (.cells #[.int .i64 h.W, .int .i64 h.B, .int .i64 h.R, .int .i64 h.C, .int .u64 h.seed, .slice (some ⟨w.heap.size + 1, 0, none⟩) 0 0, .int .i64 last] 68)).alloc (.cells #[] 72)) w.heap.size h last (.slice (some ⟨w.heap.size + 1, 0, none⟩) 0 0) [] ∧
    Below w.heap.size w ((w.alloc (.cells #[.int .i64 h.W, .int .i64 h.B, .int .i64 h.R, .int .i64 h.C, .int .u64 h.seed, .slice (some ⟨w.heap.size + 1, 0, none⟩) 0 0, .int .i64 last] 68)).alloc (.cells #[] 72)) ∧ ∀ i, R6Own w.heap.size (.slice (some ⟨w.heap.size + 1, 0, none⟩) 0 0) i → w.heap.size ≤ i := by
  have hz : (w.alloc (.cells #[.int .i64 h.W, .int .i64 h.B, .int .i64 h.R, .int .i64 h.C, .int .u64 h.seed, .slice (some ⟨w.heap.size + 1, 0, none⟩) 0 0, .int .i64 last] 68)).heap.size = w.heap.size + 1 := by simp
  have hal : Below w.heap.size w (w.alloc (.cells #[.int .i64 h.W, .int .i64 h.B, .int .i64 h.R, .int .i64 h.C, .int .u64 h.seed, .slice (some ⟨w.heap.size + 1, 0, none⟩) 0 0, .int .i64 last] 68)) := (Below.refl _ _).alloc (Nat.le_refl _) _
  refine ⟨⟨(Below.heap_alloc _ _ w.heap.size (by rw [hz]; omega)).trans (new_blockS w _), ?_, by simp [Value.ownBlock], by simp, k.l0, k.l1, by simp⟩, hal.alloc hal.size _, fun i hi => ?_⟩
  · have := World.ownsRow_lit (base := 0) (e := 72) (size := 3) (w.alloc (.cells #[.int .i64 h.W, .int .i64 h.B, .int .i64 h.R, .int .i64 h.C, .int .u64 h.seed, .slice (some ⟨w.heap.size + 1, 0, none⟩) 0 0, .int .i64 last] 68)) #[] 0 (Nat.zero_le _) (by unfold maxLen; omega) rfl
    rw [hz] at this
    exact this
  · rcases hi with h | h
    · omega
    · simp [Value.ownBlock] at h; omega
theorem r6_forkEnd {w w3 : World} {q : Nat} {h : ShapeS} {last : Int} {v v' : Value} {ns : List NoteS} (k : R6At w q h last v ns) (hd : w3.heap[w.heap.size]? = some (.cells #[.int .i64 h.W, .int .i64 h.B, .int .i64 h.R, .int .i64 h.C, .int .u64 h.seed, v, .int .i64 last] 68))
    (hr : w3.ownsRow (w.heap.size + 1) 72 3 v' ns.length (flatR ns)) (hb : Below w.heap.size w w3) :
    R6At (w3.setCell ⟨w.heap.size, 5, none⟩ v') w.heap.size h last v' ns ∧ Below w.heap.size w (w3.setCell ⟨w.heap.size, 5, none⟩ v') ∧ ∀ i, R6Own w.heap.size v' i → w.heap.size ≤ i := by
  have hap : v'.ownBlock ≠ some w.heap.size := fun e => by have := (hr.lt _ e).1; omega
  refine ⟨⟨heap_setCell_same _ _ 5 _ _ _ hd, ?_, hap, k.fine, k.l0, k.l1, k.few⟩, hb.setCell (Nat.le_refl _) _, fun i hi => ?_⟩
  · have h1 := r6_row hr (w' := w3.setCell ⟨w.heap.size, 5, none⟩ v') (fun g e => heap_setCell_other _ _ _ _ (fun e2 => hap (by rw [e, e2])))
    obtain ⟨a, b⟩ := h1
    refine ⟨a, ?_⟩
    rcases b with b | ⟨g, cap, cur, e, hbb, rest⟩
    · exact Or.inl b
    · exact Or.inr ⟨g, cap, cur, e, Nat.zero_le _, rest⟩
  · rcases hi with h | h
    · omega
    · have := (hr.lt i h).1; omega
end Go.Proofs.Ytockmgcgifhepaa
