/- the reference's sketch: Add. -/
import Derived.Test.YtogdnacambjhpaaRsE
import Derived.Test.YtogdnacambjhpaaSkFk
import Derived.Deep.RegionHeld3
namespace Go.Proofs.Ytogdnacambjhpaa
open Go.RowKit
set_option linter.unusedVariables false
set_option linter.unusedSimpArgs false

def R6Own (q : Nat) (v : Value) (i : Nat) : Prop := i = q ∨ v.ownBlock = some i
structure R6Mid (w : World) (q : Nat) (h : ShapeS) (last at_ : Int) (v : Value) (ns : List NoteS) : Prop where
  head : w.heap[q]? = some (.cells #[.int .i64 h.W, .int .i64 h.B, .int .i64 h.R, .int .i64 h.C, .int .u64 h.seed, v, .int .i64 last] 57)
  row : w.ownsRow 0 102 3 v ns.length (flatR ns)
  apart : v.ownBlock ≠ some q
  fine : ∀ x, x ∈ ns → 0 ≤ x.at_ ∧ x.at_ ≤ at_ ∧ 0 ≤ x.n ∧ x.n ≤ 1099511627776 ∧ x.key.size ≤ maxLen
theorem r6_row {w w' : World} {base size n : Nat} {e : TypeId} {v : Value} {xs : List Value} (h : w.ownsRow base e size v n xs) (hk : ∀ g, v.ownBlock = some g → w'.heap[g]? = w.heap[g]?) : w'.ownsRow base e size v n xs := by
  obtain ⟨h1, h2⟩ := h
  refine ⟨h1, ?_⟩
  rcases h2 with h2 | ⟨g, cap, cur, rfl, hb, hg, hrest⟩
  · exact Or.inl h2
  · exact Or.inr ⟨g, cap, cur, rfl, hb, (hk g rfl).trans hg, hrest⟩
theorem R6Mid.slice {w : World} {q : Nat} {h : ShapeS} {last at_ : Int} {v : Value} {ns : List NoteS} (k : R6Mid w q h last at_ v ns) : ∃ a cap, v = .slice a ns.length cap := by
  rcases k.row.2 with ⟨hh, hz⟩ | ⟨g, cp, cur, hh, _⟩
  · exact ⟨none, 0, by rw [hz]; exact hh⟩
  · exact ⟨_, _, hh⟩
theorem R6At.lt {w : World} {q : Nat} {h : ShapeS} {last : Int} {v : Value} {ns : List NoteS} (k : R6At w q h last v ns) : q < w.heap.size := (Array.getElem?_eq_some_iff.1 k.head).1
theorem r6_boxed {wx : World} {p : Addr} {x : Value} {o : Obj} (h : wx.cell? p = some x) : (wx.alloc o).cell? p = some x :=
  (World.cell?_alloc_lt wx o _ (World.block_lt_of_cell? _ _ h)).trans h
theorem info_note6 : (Try.prog.info? 102).map (fun i => (i.zero, i.size, i.bytes)) = some (some (.agg #[.int .i64 0, .int .i64 0, .string ⟨#[]⟩]), 3, 32) := by kernel_rfl
theorem r6_push {w wz w3 : World} {q : Nat} {h : ShapeS} {last at_ n : Int} {key : ByteArray} {v v2 v3 : Value} {NS : List NoteS} {o : Obj} (k : R6Mid wz q h last at_ v2 NS) (ho : Off (R6Own q v) w wz) (how : ∀ i, R6Own q v2 i → R6Own q v i ∨ w.heap.size ≤ i)
    (hr : w3.ownsRow 0 102 3 v3 (NS.length + 1) (flatR NS ++ [.int .i64 at_, .int .i64 n, .string key])) (hg : (wz.alloc o).drew.grownBy w3 v2.ownBlock) (hv : v3.ownBlock = v2.ownBlock ∨ v3.ownBlock = some (wz.alloc o).drew.heap.size)
    (hx : 0 ≤ at_ ∧ 0 ≤ n ∧ n ≤ 1099511627776 ∧ key.size ≤ maxLen) (hql : q < w.heap.size) :
    R6Mid (w3.setCell ⟨q, 5, none⟩ v3) q h last at_ v3 (NS ++ [⟨at_, n, key⟩]) ∧ Off (R6Own q v) w (w3.setCell ⟨q, 5, none⟩ v3) ∧ ∀ i, R6Own q v3 i → R6Own q v i ∨ w.heap.size ≤ i := by
  have hal : Below wz.heap.size wz (wz.alloc o).drew := ((Below.refl _ _).alloc (Nat.le_refl _) _).drew
  have hz1 := hal.size
  have hz0 := ho.size
  have hk : ∀ i, i < wz.heap.size → v2.ownBlock ≠ some i → w3.heap[i]? = wz.heap[i]? := fun i h1 h2 => (hg.block i (by omega) (fun e => h2 e.symm)).trans (hal.block i h1)
  have hq3 := (hk q (by omega) k.apart).trans k.head
  have hap : v3.ownBlock ≠ some q := by
    rcases hv with h | h
    · rw [h]; exact k.apart
    · rw [h]; intro e; injection e with e; omega
  refine ⟨⟨heap_setCell_same _ _ 5 _ _ _ hq3, ?_, hap, fun x hxm => ?_⟩, ?_, fun i hi => ?_⟩
  · rw [List.length_append, List.length_singleton, show flatR (NS ++ [(⟨at_, n, key⟩ : NoteS)]) = flatR NS ++ [.int .i64 at_, .int .i64 n, .string key] by simp [flatR, NoteS.vals]]
    exact r6_row hr (fun g e => heap_setCell_other _ _ _ _ (fun e2 => hap (by rw [e, e2])))
  · rcases List.mem_append.1 hxm with h | h
    · exact k.fine x h
    · obtain rfl := List.mem_singleton.1 h
      exact ⟨hx.1, Int.le_refl _, hx.2.1, hx.2.2.1, hx.2.2.2⟩
  · refine ⟨(hg.os.trans hal.os).trans ho.os, (hg.tape.trans hal.tape).trans ho.tape, (hg.output.trans hal.output).trans ho.output, by simp [World.setCell]; have := hg.size; omega, fun i hi hn => ?_⟩
    rw [heap_setCell_other _ _ _ _ (show i ≠ q from fun e => hn (Or.inl e))]
    refine (hk i (by omega) (fun e => ?_)).trans (ho.block i hi hn)
    rcases how i (Or.inr e) with h | h
    · exact hn h
    · omega
  · rcases hi with h | h
    · exact Or.inl (Or.inl h)
    · rcases hv with h2 | h2
      · exact how i (Or.inr (h2.symm.trans h))
      · rw [h2] at h; injection h with h; right; omega
structure R6Add (w w' : World) (q : Nat) (h : ShapeS) (v : Value) (last at_ : Int) (ns : List NoteS) (e : Ending) (nn : List Int) (key : ByteArray) : Prop where
  err : e = .returned (.int .i64 (addE last at_ nn))
  no : addE last at_ nn ≠ 0 → ∃ m, w' = w.drewN m
  yes : addE last at_ nn = 0 → ∃ v', R6At w' q h at_ v' (ns ++ newNotes at_ key nn) ∧ Off (R6Own q v) w w' ∧ ∀ i, R6Own q v' i → R6Own q v i ∨ w.heap.size ≤ i

set_option maxHeartbeats 6400000 in
set_option maxRecDepth 100000 in
theorem r6add_any {w : World} {q : Nat} {h : ShapeS} {b last : Int} {v : Value} {ns : List NoteS} (k : R6At w q h last v ns) (hb : ShapeOk h b) (at_ : Int) (key : ByteArray) (hk : key.size ≤ maxLen)
    (a : Option Addr) (len cap : Nat) (nn : List Int) (hl : nn.length = len) (hm : len ≤ 9223372036854775807) (hn : IntsAt w a nn) (hap : nn ≠ [] → ∀ g off, a = some ⟨g, off, none⟩ → ¬ R6Own q v g) (hroom : ns.length + len ≤ 1099511627776) :
    Calls Try.prog 21 #[.pointer (some ⟨q, 0, none⟩), .int .i64 at_, .string key, .slice a len cap] w fun e w' => R6Add w w' q h v last at_ ns e nn key := by
  obtain ⟨c0, c1, c2, c3, c4, c5, c6⟩ := k.cells
  have HWR := Lib.hid (fun (wx : World) (hx : wx.cell? ⟨q, 6, none⟩ = some (.int .i64 last)) => r6wrong_any q last at_ wx hx)
  have K := Lib.hid k
  have HN := Lib.hid hn
  have HL := Lib.hid hl
  have HAP := Lib.hid hap
  have HROOM := Lib.hid hroom
  have HC := Lib.hid (And.intro c5 c6)
  clear k hb hn hl hap hroom c0 c1 c2 c3 c4 c5 c6
  go_enter Try.func21, Try.ntmps21
  go_wp2_with (fail)
  go_loopw [9] (fun x9 wr => ∃ (i : Nat), i ≤ len ∧ x9 = .int .i64 i ∧ Hid (∀ j, j < i → badS (nn.getD j 0) = false) ∧ Hid (∃ m, wr = w.drewN m)) (fun x9 _ => len - (intOf x9).toNat)
  case atStart => exact ⟨0, Nat.zero_le _, rfl, Lib.hid (by intro j hj; omega), Lib.hid ⟨0, rfl⟩⟩
  case round =>
    rename World => wr
    obtain ⟨i, hi, rfl, HB, HM⟩ := hrel
    by_cases hlt : i < len
    · have i0 : (0 : Int) ≤ i := by omega
      have i1 : (i : Int) < len := by omega
      have hne : nn ≠ [] := by intro e; have := HL.out; rw [e] at this; simp at this; omega
      obtain ⟨gb, off, rfl, hgl, hcell⟩ : ∃ gb off, a = some ⟨gb, off, none⟩ ∧ gb < w.heap.size ∧ ∀ j, j < nn.length → w.cell? ⟨gb, off + j, none⟩ = some (.int .i64 (nn.getD j 0)) := by
        rcases HN.out with h | h
        · exact absurd h hne
        · exact h
      have e0 : wr.cell? ⟨gb, off + i, none⟩ = some (.int .i64 (nn.getD i 0)) := by obtain ⟨m, rfl⟩ := HM.out; exact hcell i (by rw [HL.out]; exact hlt)
      have hmem : nn.getD i 0 ∈ nn := by
        rw [List.getD_eq_getElem?_getD, List.getElem?_eq_getElem (by rw [HL.out]; exact hlt)]
        exact List.getElem_mem _
      have HBAD := Lib.hid (show badS (nn.getD i 0) = true → addE last at_ nn = 2 from fun hb => by
        unfold addE
        rw [show nn.any badS = true from List.any_eq_true.2 ⟨_, hmem, hb⟩]
        split <;> simp)
      have HGD := Lib.hid (show badS (nn.getD i 0) = false → ∀ j, j < i + 1 → badS (nn.getD j 0) = false from fun hb j hj => by
        by_cases e : j = i
        · subst e; exact hb
        · exact HB.out j (by omega))
      have HBE := Lib.hid (show badS (nn.getD i 0) = (decide (nn.getD i 0 < 0) || decide (1099511627776 < nn.getD i 0)) from rfl)
      clear hne hcell hmem hlt
      generalize nn.getD i 0 = n at *
      by_cases hb0 : n < 0
      · have hE2 := HBAD.out (by rw [HBE.out, decide_eq_true hb0]; rfl)
        have HE2 := Lib.hid hE2
        clear hE2
        go_wp2_with (fail)
        go_ret
        exact ⟨by rw [HE2.out]; rfl, fun _ => HM.out, fun h => absurd (HE2.out.symm.trans h) (by decide)⟩
      · by_cases hb1 : 1099511627776 < n
        · have hE2 := HBAD.out (by rw [HBE.out, decide_eq_true hb1, Bool.or_true])
          have HE2 := Lib.hid hE2
          clear hE2
          go_wp2_with (fail)
          go_ret
          exact ⟨by rw [HE2.out]; rfl, fun _ => HM.out, fun h => absurd (HE2.out.symm.trans h) (by decide)⟩
        · have HG2 := Lib.hid (HGD.out (by rw [HBE.out, decide_eq_false hb0, decide_eq_false hb1]; rfl))
          clear HGD HBAD HBE
          go_wp2_with (fail)
          exact ⟨⟨i + 1, by omega, by go_num, HG2, HM⟩, by first | (simp [intOf]; done) | (simp [intOf]; omega)⟩
    · have i1 : ¬ (i : Int) < len := by omega
      have HANY := Lib.hid (show addE last at_ nn = lookS last at_ by
        have h1 : nn.any badS = false := by
          rw [List.any_eq_false]
          intro x hx
          obtain ⟨j, hj, rfl⟩ := List.getElem_of_mem hx
          have := HB.out j (by rw [HL.out] at hj; omega)
          rw [List.getD_eq_getElem?_getD, List.getElem?_eq_getElem hj] at this
          simpa using this
        unfold addE
        rw [h1]
        split
        · rename_i h; exact h.symm
        · simp)
      have d6 : wr.cell? ⟨q, 6, none⟩ = some (.int .i64 last) := by obtain ⟨m, rfl⟩ := HM.out; exact HC.out.2
      have HW := Lib.hid (HWR.out wr d6)
      clear d6
      by_cases hE : lookS last at_ = 0
      · have HE := Lib.hid hE
        rw [hE] at HW HANY
        clear hE
        go_wp2_with (fail)
        refine HW.out.mono ?_
        rintro e w2 ⟨rfl, hq⟩
        have hq := hq.symm
        subst hq
        go_wp2_with (fail)
        have HMID := Lib.hid (show R6Mid wr q h last at_ v (ns ++ newNotes at_ key (nn.take 0)) from by
          obtain ⟨m, rfl⟩ := HM.out
          have k := K.out.kept (w' := w.drewN m) (fun i _ => rfl)
          simp only [List.take_zero, newNotes, List.map_nil, List.append_nil]
          exact ⟨k.head, k.row, k.apart, fun x hx => by obtain ⟨x1, x2, x3⟩ := k.fine x hx; obtain ⟨_, _, h3⟩ := lookS_ok HE.out; exact ⟨x1, by omega, x3⟩⟩)
        have HOF := Lib.hid (show Off (R6Own q v) w wr from by obtain ⟨m, rfl⟩ := HM.out; exact Off.ofBelow (below_drewS (Below.refl _ _) m))
        go_wp2_with (fail)
        go_loopw [11] (fun x11 wz => ∃ (j : Nat) (v2 : Value), j ≤ len ∧ x11 = .int .i64 j ∧ Hid (R6Mid wz q h last at_ v2 (ns ++ newNotes at_ key (nn.take j))) ∧ Hid (Off (R6Own q v) w wz) ∧ Hid (∀ i, R6Own q v2 i → R6Own q v i ∨ w.heap.size ≤ i)) (fun x11 _ => len - (intOf x11).toNat)
        case atStart => exact ⟨0, v, Nat.zero_le _, rfl, HMID, HOF, Lib.hid (fun i hi => Or.inl hi)⟩
        case round =>
          rename World => wz
          clear HMID HOF
          obtain ⟨j, v2, hj, rfl, HMID, HOF, HOW⟩ := hrel
          by_cases hlj : j < len
          · have j0 : (0 : Int) ≤ j := by omega
            have j1 : (j : Int) < len := by omega
            have hne : nn ≠ [] := by intro e; have := HL.out; rw [e] at this; simp at this; omega
            obtain ⟨gb, off, rfl, hgl, hcell⟩ : ∃ gb off, a = some ⟨gb, off, none⟩ ∧ gb < w.heap.size ∧ ∀ j, j < nn.length → w.cell? ⟨gb, off + j, none⟩ = some (.int .i64 (nn.getD j 0)) := by
              rcases HN.out with h | h
              · exact absurd h hne
              · exact h
            have hnq : ¬ R6Own q v gb := HAP.out hne gb off rfl
            have e0 : wz.cell? ⟨gb, off + j, none⟩ = some (.int .i64 (nn.getD j 0)) := HOF.out.cell (hcell j (by rw [HL.out]; exact hlj)) hnq
            have hbad := HB.out j (by omega)
            have htk : nn.take (j + 1) = nn.take j ++ [nn.getD j 0] := by
              rw [List.take_add_one, List.getElem?_eq_getElem (by rw [HL.out]; exact hlj), List.getD_eq_getElem?_getD, List.getElem?_eq_getElem (by rw [HL.out]; exact hlj)]; rfl
            have HTK := Lib.hid (show ns ++ newNotes at_ key (nn.take (j + 1)) = (ns ++ newNotes at_ key (nn.take j)) ++ [⟨at_, nn.getD j 0, key⟩] by rw [htk]; simp [newNotes])
            generalize nn.getD j 0 = n at *
            obtain ⟨NS, hNS⟩ : ∃ NS, ns ++ newNotes at_ key (nn.take j) = NS := ⟨_, rfl⟩
            have hnl : NS.length ≤ ns.length + len := by
              rw [← hNS]; simp only [newNotes, List.length_append, List.length_map, List.length_take]; have := HL.out; omega
            rw [hNS] at HMID HTK
            obtain ⟨l1, l2, l3⟩ := lookS_ok HE.out
            have HX := Lib.hid (show 0 ≤ at_ ∧ 0 ≤ n ∧ n ≤ 1099511627776 ∧ key.size ≤ maxLen from by
              unfold badS at hbad
              simp only [Bool.or_eq_false_iff, decide_eq_false_iff_not] at hbad
              exact ⟨by omega, by omega, by omega, hk⟩)
            have hroom := HROOM.out
            obtain ⟨aD, capD, hvD⟩ := HMID.out.slice
            obtain ⟨n2, hn2⟩ : ∃ n2, NS.length = n2 := ⟨_, rfl⟩
            rw [hn2] at hvD hnl
            subst hvD
            have HN2 := Lib.hid hn2
            have hql : q < w.heap.size := K.out.lt
            have hqz : q < wz.heap.size := Nat.lt_of_lt_of_le hql HOF.out.size
            have HQL := Lib.hid hql
            have hala : Below wz.heap.size wz (wz.alloc (.cells #[.int .i64 at_, .int .i64 n, .string key] 102)).drew := ((Below.refl _ _).alloc (Nat.le_refl _) _).drew
            have HQW := Lib.hid (show q < (wz.alloc (.cells #[.int .i64 at_, .int .i64 n, .string key] 102)).drew.heap.size from by have := hala.size; omega)
            have HHW := Lib.hid ((hala.block q hqz).trans HMID.out.head)
            have HROW := Lib.hid (show (wz.alloc (.cells #[.int .i64 at_, .int .i64 n, .string key] 102)).drew.ownsRow 0 102 3 (.slice aD n2 capD) n2 (flatR NS) by
              have h1 := HMID.out.row
              rw [hn2] at h1
              exact r6_row h1 (fun g e => hala.block g (h1.lt g e).2))
            have HTC := Lib.hid (show ∀ j u, ([.int .i64 at_, .int .i64 n, .string key] : List Value)[j]? = some u → (wz.alloc (.cells #[.int .i64 at_, .int .i64 n, .string key] 102)).drew.cell? ((⟨wz.heap.size, 0, none⟩ : Addr).add j) = some u from fun j u hu => three_cells wz (.int .i64 at_) (.int .i64 n) (.string key) 102 j u hu)
            have HGB := Lib.hid (show gb < (wz.alloc (.cells #[.int .i64 at_, .int .i64 n, .string key] 102)).drew.heap.size ∧ ¬ (Value.slice aD n2 capD).ownBlock = some gb from ⟨by have := hala.size; have := HOF.out.size; omega, fun e => by
              rcases HOW.out gb (Or.inr e) with h | h
              · exact hnq h
              · omega⟩)
            have HGC := Lib.hid (show ∀ o : Obj, (wz.alloc o).drew.cell? ⟨gb, off + j, none⟩ = some (.int .i64 n) from fun o => (World.cell?_alloc_lt wz o _ (World.block_lt_of_cell? _ _ e0)).trans e0)
            have HNE := Lib.hid (show (⟨q, 5, none⟩ : Addr) ≠ ⟨gb, off + j, none⟩ from fun e => by injection e with e1 _; exact hnq (Or.inl e1.symm))
            have c5 : wz.cell? ⟨q, 5, none⟩ = some (.slice aD n2 capD) := by have := HMID.out.head; simp only [World.cell?, this]; rfl
            have c5B : ∀ o, (wz.alloc o).cell? ⟨q, 5, none⟩ = some (.slice aD n2 capD) := fun o => (World.cell?_alloc_lt wz o _ (World.block_lt_of_cell? _ _ c5)).trans c5
            obtain ⟨i0, hi, hz0, hz1, hz2⟩ := info_parts info_note6
            clear hne hcell hnq hbad htk hNS hn2 hala hql hqz l1 l2 l3 hlj
            go_wp2_with (fail)
            refine wp_region_noPanic ?_
            refine wp_region_held_drew (S := (fun wx => wx.cell? ⟨gb, off + j, none⟩ = some (.int .i64 n))) (by kernel_rfl) ?_ (fun hHeld => ?_)
            · exact e0
            refine wpAnyH_take (i := 0) (v := ?_) rfl (by kernel_rfl) (by kernel_rfl) (by kernel_rfl) (fun _ _ _ h => h) (Or.inl ⟨by rfl, ?hy⟩) (by assumption) ?_
            case hy => intro w hSw; (try dsimp only at hSw); go_simp; try with_reducible rfl
            try simp only [Act.put, List.getElem_toArray, List.getElem_cons_succ, List.getElem_cons_zero, List.setIfInBounds_toArray, List.set_cons_zero, List.set_cons_succ]
            refine wpAnyH_take (i := 1) (v := ?_) rfl (by kernel_rfl) (by kernel_rfl) (by kernel_rfl) (fun _ _ _ h => h) (Or.inl ⟨by rfl, ?hy⟩) (by assumption) ?_
            case hy => intro w hSw; (try dsimp only at hSw); go_simp; try with_reducible rfl
            try simp only [Act.put, List.getElem_toArray, List.getElem_cons_succ, List.getElem_cons_zero, List.setIfInBounds_toArray, List.set_cons_zero, List.set_cons_succ]
            refine wpAnyH_take (i := 2) (v := ?_) rfl (by kernel_rfl) (by kernel_rfl) (by kernel_rfl) (fun _ _ _ h => h) (Or.inl ⟨by rfl, ?hy⟩) (by assumption) ?_
            case hy => intro w hSw; (try dsimp only at hSw); go_simp; try with_reducible rfl
            try simp only [Act.put, List.getElem_toArray, List.getElem_cons_succ, List.getElem_cons_zero, List.setIfInBounds_toArray, List.set_cons_zero, List.set_cons_succ]
            refine wpAnyH_take (i := 3) (v := ?_) rfl (by kernel_rfl) (by kernel_rfl) (by kernel_rfl) (fun _ _ _ h => h) (Or.inl ⟨by rfl, ?hy⟩) (by assumption) ?_
            case hy => intro w hSw; (try dsimp only at hSw); go_simp; try with_reducible rfl
            try simp only [Act.put, List.getElem_toArray, List.getElem_cons_succ, List.getElem_cons_zero, List.setIfInBounds_toArray, List.set_cons_zero, List.set_cons_succ]
            refine wpAnyH_take (i := 5) (v := ?_) rfl (by kernel_rfl) (by kernel_rfl) (by kernel_rfl) (fun _ _ _ h => h) (Or.inl ⟨by rfl, ?hy⟩) (by assumption) ?_
            case hy => intro w hSw; (try dsimp only at hSw); go_simp; try with_reducible rfl
            try simp only [Act.put, List.getElem_toArray, List.getElem_cons_succ, List.getElem_cons_zero, List.setIfInBounds_toArray, List.set_cons_zero, List.set_cons_succ]
            refine wpAnyH_take (i := 6) (v := ?_) rfl (by kernel_rfl) (by kernel_rfl) (by kernel_rfl) (fun _ _ _ h => h) (Or.inl ⟨by rfl, ?hy⟩) (by assumption) ?_
            case hy => intro w hSw; (try dsimp only at hSw); go_simp; try with_reducible rfl
            try simp only [Act.put, List.getElem_toArray, List.getElem_cons_succ, List.getElem_cons_zero, List.setIfInBounds_toArray, List.set_cons_zero, List.set_cons_succ]
            refine wpAnyH_take (i := 7) (v := ?_) rfl (by kernel_rfl) (by kernel_rfl) (by kernel_rfl) (fun _ _ _ h => h) (Or.inl ⟨by rfl, ?hy⟩) (by assumption) ?_
            case hy => intro w hSw; (try dsimp only at hSw); go_simp; try with_reducible rfl
            try simp only [Act.put, List.getElem_toArray, List.getElem_cons_succ, List.getElem_cons_zero, List.setIfInBounds_toArray, List.set_cons_zero, List.set_cons_succ]
            refine wpAnyH_take (i := 8) (v := ?_) rfl (by kernel_rfl) (by kernel_rfl) (by kernel_rfl) (fun _ _ _ h => h) (Or.inl ⟨by rfl, ?hy⟩) (by assumption) ?_
            case hy => intro w hSw; (try dsimp only at hSw); go_simp; try with_reducible rfl
            try simp only [Act.put, List.getElem_toArray, List.getElem_cons_succ, List.getElem_cons_zero, List.setIfInBounds_toArray, List.set_cons_zero, List.set_cons_succ]
            refine wpAnyH_take (i := 9) (v := ?_) rfl (by kernel_rfl) (by kernel_rfl) (by kernel_rfl) (fun _ _ _ h => h) (Or.inl ⟨by rfl, ?hy⟩) (by assumption) ?_
            case hy => intro w hSw; (try dsimp only at hSw); go_simp; try with_reducible rfl
            try simp only [Act.put, List.getElem_toArray, List.getElem_cons_succ, List.getElem_cons_zero, List.setIfInBounds_toArray, List.set_cons_zero, List.set_cons_succ]
            refine wpAnyH_take (i := 10) (v := ?_) rfl (by kernel_rfl) (by kernel_rfl) (by kernel_rfl) (fun _ _ _ h => h) (Or.inl ⟨by rfl, ?hy⟩) (by assumption) ?_
            case hy => intro w hSw; (try dsimp only at hSw); go_simp; try with_reducible rfl
            try simp only [Act.put, List.getElem_toArray, List.getElem_cons_succ, List.getElem_cons_zero, List.setIfInBounds_toArray, List.set_cons_zero, List.set_cons_succ]
            refine wpAnyH_take (i := 11) (v := ?_) rfl (by kernel_rfl) (by kernel_rfl) (by kernel_rfl) (fun _ _ _ h => h) (Or.inl ⟨by rfl, ?hy⟩) (by assumption) ?_
            case hy => intro w hSw; (try dsimp only at hSw); go_simp; try with_reducible rfl
            try simp only [Act.put, List.getElem_toArray, List.getElem_cons_succ, List.getElem_cons_zero, List.setIfInBounds_toArray, List.set_cons_zero, List.set_cons_succ]
            refine wpAnyH_ready (rs := [4, 12]) (by kernel_rfl) (by simp) (AllReadyH.cons rfl (fun K hK => ?_) (AllReadyH.cons rfl (fun K hK => ?_) AllReadyH.nil))
            · go_simp
              try (go_wp2_with fail)
              refine hK.out _ _ ?_ (fun hHeld => ?_)
              · exact hHeld
              clear hK K
              try simp only [Act.put, List.getElem_toArray, List.getElem_cons_succ, List.getElem_cons_zero, List.setIfInBounds_toArray, List.set_cons_zero, List.set_cons_succ]
              refine wpAnyH_ready (rs := [12]) (by kernel_rfl) (by simp) (AllReadyH.cons rfl (fun K hK => ?_) AllReadyH.nil)
              go_simp
              skip
              try (go_wp2_with fail)
              refine hK.out _ _ ?_ (fun hHeld => ?_)
              · exact r6_boxed hHeld
              clear hK K
              try simp only [Act.put, List.getElem_toArray, List.getElem_cons_succ, List.getElem_cons_zero, List.setIfInBounds_toArray, List.set_cons_zero, List.set_cons_succ]
              refine wpAnyH_ready (rs := [13]) (by kernel_rfl) (by simp) (AllReadyH.cons rfl (fun K hK => ?_) AllReadyH.nil)
              rw [if_pos (by rfl)]
              refine wp_append_at _ (.tmp 48) (.tmp 56) 55 rfl 0 102 i0 (.agg #[.int .i64 0, .int .i64 0, .string ⟨#[]⟩]) 3 32 Try.underlying55 hi hz0 hz1 hz2 rfl (by decide) (.slice aD n2 capD) n2 (flatR NS) rfl HROW.out ⟨wz.heap.size, 0, none⟩ 1 1 [.int .i64 at_, .int .i64 n, .string key] rfl rfl HTC.out (by intro u hu; simp at hu; rcases hu with rfl | rfl | rfl <;> rfl) (by unfold maxLen; omega) (by omega) (Nat.zero_le _) (by decide) ?_
              intro v3 w3 hown3 hg3 hk3
              obtain ⟨g3, cap3, rfl⟩ : ∃ g c, v3 = .slice (some ⟨g, 0, none⟩) (n2 + 1) c := by
                rcases hown3.2 with ⟨_, hz⟩ | ⟨g, c, cur, hz, _⟩
                · omega
                · exact ⟨g, c, hz⟩
              have HPUSH := Lib.hid (r6_push HMID.out HOF.out HOW.out (by rw [HN2.out]; exact hown3) hg3 hk3 HX.out HQL.out)
              have hs3 := (hg3.block q HQW.out (fun e => HMID.out.apart e.symm)).trans (show (wz.alloc (.cells #[.int .i64 at_, .int .i64 n, .string key] 102)).drew.heap[q]? = _ from HHW.out)
              have c3s : w3.cell? ⟨q, 5, none⟩ = some (.slice aD n2 capD) := by simp only [World.cell?, hs3]; rfl
              have f3s : w3.frozen? ⟨q, 5, none⟩ = false := by simp only [World.frozen?, hs3]; simp
              have HHB := Lib.hid (show w3.cell? ⟨gb, off + j, none⟩ = some (.int .i64 n) from (World.cell?_of_block (a := ⟨gb, off + j, none⟩) (hg3.block gb HGB.out.1 (fun e => HGB.out.2 e.symm))).trans (HGC.out _))
              clear hown3 hg3 hk3 hs3
              refine hK.out _ _ HHB.out (fun hHeld => ?_)
              clear hK K
              try simp only [Act.put, List.getElem_toArray, List.getElem_cons_succ, List.getElem_cons_zero, List.setIfInBounds_toArray, List.set_cons_zero, List.set_cons_succ]
              refine wpAnyH_take (i := 14) (v := ?_) rfl (by kernel_rfl) (by kernel_rfl) (by kernel_rfl) (fun _ _ _ h => h) (Or.inl ⟨by rfl, ?hy⟩) (by assumption) ?_
              case hy => intro w hSw; (try dsimp only at hSw); go_simp; try with_reducible rfl
              try simp only [Act.put, List.getElem_toArray, List.getElem_cons_succ, List.getElem_cons_zero, List.setIfInBounds_toArray, List.set_cons_zero, List.set_cons_succ]
              refine wpAnyH_take (i := 15) (v := ?_) rfl (by kernel_rfl) (by kernel_rfl) (by kernel_rfl) (fun _ _ _ h => h) (Or.inl ⟨by rfl, ?hy⟩) (by assumption) ?_
              case hy => intro w hSw; (try dsimp only at hSw); go_simp; try with_reducible rfl
              try simp only [Act.put, List.getElem_toArray, List.getElem_cons_succ, List.getElem_cons_zero, List.setIfInBounds_toArray, List.set_cons_zero, List.set_cons_succ]
              refine wpAnyH_ready (rs := [16]) (by kernel_rfl) (by simp) (AllReadyH.cons rfl (fun K hK => ?_) AllReadyH.nil)
              go_simp
              skip
              try (go_wp2_with fail)
              refine hK.out _ _ ?_ (fun hHeld => ?_)
              · exact cell_far hHeld HNE.out
              clear hK K
              try simp only [Act.put, List.getElem_toArray, List.getElem_cons_succ, List.getElem_cons_zero, List.setIfInBounds_toArray, List.set_cons_zero, List.set_cons_succ]
              refine wpAnyH_done (by kernel_rfl) ?_ _
              refine NoPanic.normal ?_
              go_wp2_with (fail)
              exact ⟨⟨j + 1, _, by omega, by go_num, by rw [HTK.out]; exact Lib.hid HPUSH.out.1, Lib.hid HPUSH.out.2.1, Lib.hid HPUSH.out.2.2⟩, by first | (simp [intOf]; done) | (simp [intOf]; omega)⟩
            · go_simp
              try (go_wp2_with fail)
              refine hK.out _ _ ?_ (fun hHeld => ?_)
              · exact r6_boxed hHeld
              clear hK K
              try simp only [Act.put, List.getElem_toArray, List.getElem_cons_succ, List.getElem_cons_zero, List.setIfInBounds_toArray, List.set_cons_zero, List.set_cons_succ]
              refine wpAnyH_ready (rs := [4]) (by kernel_rfl) (by simp) (AllReadyH.cons rfl (fun K hK => ?_) AllReadyH.nil)
              go_simp
              skip
              try (go_wp2_with fail)
              refine hK.out _ _ ?_ (fun hHeld => ?_)
              · exact hHeld
              clear hK K
              try simp only [Act.put, List.getElem_toArray, List.getElem_cons_succ, List.getElem_cons_zero, List.setIfInBounds_toArray, List.set_cons_zero, List.set_cons_succ]
              refine wpAnyH_ready (rs := [13]) (by kernel_rfl) (by simp) (AllReadyH.cons rfl (fun K hK => ?_) AllReadyH.nil)
              rw [if_pos (by rfl)]
              refine wp_append_at _ (.tmp 48) (.tmp 56) 55 rfl 0 102 i0 (.agg #[.int .i64 0, .int .i64 0, .string ⟨#[]⟩]) 3 32 Try.underlying55 hi hz0 hz1 hz2 rfl (by decide) (.slice aD n2 capD) n2 (flatR NS) rfl HROW.out ⟨wz.heap.size, 0, none⟩ 1 1 [.int .i64 at_, .int .i64 n, .string key] rfl rfl HTC.out (by intro u hu; simp at hu; rcases hu with rfl | rfl | rfl <;> rfl) (by unfold maxLen; omega) (by omega) (Nat.zero_le _) (by decide) ?_
              intro v3 w3 hown3 hg3 hk3
              obtain ⟨g3, cap3, rfl⟩ : ∃ g c, v3 = .slice (some ⟨g, 0, none⟩) (n2 + 1) c := by
                rcases hown3.2 with ⟨_, hz⟩ | ⟨g, c, cur, hz, _⟩
                · omega
                · exact ⟨g, c, hz⟩
              have HPUSH := Lib.hid (r6_push HMID.out HOF.out HOW.out (by rw [HN2.out]; exact hown3) hg3 hk3 HX.out HQL.out)
              have hs3 := (hg3.block q HQW.out (fun e => HMID.out.apart e.symm)).trans (show (wz.alloc (.cells #[.int .i64 at_, .int .i64 n, .string key] 102)).drew.heap[q]? = _ from HHW.out)
              have c3s : w3.cell? ⟨q, 5, none⟩ = some (.slice aD n2 capD) := by simp only [World.cell?, hs3]; rfl
              have f3s : w3.frozen? ⟨q, 5, none⟩ = false := by simp only [World.frozen?, hs3]; simp
              have HHB := Lib.hid (show w3.cell? ⟨gb, off + j, none⟩ = some (.int .i64 n) from (World.cell?_of_block (a := ⟨gb, off + j, none⟩) (hg3.block gb HGB.out.1 (fun e => HGB.out.2 e.symm))).trans (HGC.out _))
              clear hown3 hg3 hk3 hs3
              refine hK.out _ _ HHB.out (fun hHeld => ?_)
              clear hK K
              try simp only [Act.put, List.getElem_toArray, List.getElem_cons_succ, List.getElem_cons_zero, List.setIfInBounds_toArray, List.set_cons_zero, List.set_cons_succ]
              refine wpAnyH_take (i := 14) (v := ?_) rfl (by kernel_rfl) (by kernel_rfl) (by kernel_rfl) (fun _ _ _ h => h) (Or.inl ⟨by rfl, ?hy⟩) (by assumption) ?_
              case hy => intro w hSw; (try dsimp only at hSw); go_simp; try with_reducible rfl
              try simp only [Act.put, List.getElem_toArray, List.getElem_cons_succ, List.getElem_cons_zero, List.setIfInBounds_toArray, List.set_cons_zero, List.set_cons_succ]
              refine wpAnyH_take (i := 15) (v := ?_) rfl (by kernel_rfl) (by kernel_rfl) (by kernel_rfl) (fun _ _ _ h => h) (Or.inl ⟨by rfl, ?hy⟩) (by assumption) ?_
              case hy => intro w hSw; (try dsimp only at hSw); go_simp; try with_reducible rfl
              try simp only [Act.put, List.getElem_toArray, List.getElem_cons_succ, List.getElem_cons_zero, List.setIfInBounds_toArray, List.set_cons_zero, List.set_cons_succ]
              refine wpAnyH_ready (rs := [16]) (by kernel_rfl) (by simp) (AllReadyH.cons rfl (fun K hK => ?_) AllReadyH.nil)
              go_simp
              skip
              try (go_wp2_with fail)
              refine hK.out _ _ ?_ (fun hHeld => ?_)
              · exact cell_far hHeld HNE.out
              clear hK K
              try simp only [Act.put, List.getElem_toArray, List.getElem_cons_succ, List.getElem_cons_zero, List.setIfInBounds_toArray, List.set_cons_zero, List.set_cons_succ]
              refine wpAnyH_done (by kernel_rfl) ?_ _
              refine NoPanic.normal ?_
              go_wp2_with (fail)
              exact ⟨⟨j + 1, _, by omega, by go_num, by rw [HTK.out]; exact Lib.hid HPUSH.out.1, Lib.hid HPUSH.out.2.1, Lib.hid HPUSH.out.2.2⟩, by first | (simp [intOf]; done) | (simp [intOf]; omega)⟩
          · have j1 : ¬ (j : Int) < len := by omega
            have e5 : wz.cell? ⟨q, 6, none⟩ = some (.int .i64 last) := by have := HMID.out.head; simp only [World.cell?, this]; rfl
            have f5 : wz.frozen? ⟨q, 6, none⟩ = false := by have := HMID.out.head; simp only [World.frozen?, this]; simp
            have htk : nn.take j = nn := List.take_of_length_le (by rw [HL.out]; omega)
            rw [htk] at HMID
            have hm := HMID.out
            obtain ⟨l1, l2, l3⟩ := lookS_ok HE.out
            have HFIN := Lib.hid (show R6At (wz.setCell ⟨q, 6, none⟩ (.int .i64 at_)) q h at_ v2 (ns ++ newNotes at_ key nn) from
              ⟨heap_setCell_same _ _ 6 _ _ _ hm.head, r6_row hm.row (fun g e => heap_setCell_other _ _ _ _ (fun e2 => hm.apart (by rw [e, e2]))), hm.apart, hm.fine, l1, l2, by
                simp only [newNotes, List.length_append, List.length_map]; have := HROOM.out; have := HL.out; omega⟩)
            have HOF2 := Lib.hid (HOF.out.setCell (p := ⟨q, 6, none⟩) (fun _ => Or.inl rfl) (.int .i64 at_))
            clear htk hm
            go_wp2_with (fail)
            go_ret
            exact ⟨by rw [HANY.out]; rfl, fun h => absurd HANY.out h, fun _ => ⟨v2, HFIN.out, HOF2.out, HOW.out⟩⟩
      · generalize lookS last at_ = E at *
        have hne : (E != 0) = true := by simpa using hE
        have HE := Lib.hid hE
        clear hE
        go_wp2_with (fail)
        refine HW.out.mono ?_
        rintro e w2 ⟨rfl, hq⟩
        have hq := hq.symm
        subst hq
        go_wp2_with (fail)
        go_ret
        exact ⟨by rw [HANY.out]; rfl, fun _ => HM.out, fun h => absurd (HANY.out.symm.trans h) HE.out⟩
end Go.Proofs.Ytogdnacambjhpaa
