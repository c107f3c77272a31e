/- lru: Drop. -/
import Derived.Test.YtglielpiojnnhaaLruP
namespace Go.Proofs.Ytglielpiojnnhaa
open Go.RowKit
set_option linter.unusedVariables false
set_option linter.unusedSimpArgs false

/-- Where a slice of texts reads. -/
def StrsAt (w : World) (a : Option Addr) (ss : List ByteArray) : Prop :=
  ss = [] ∨ ∃ b off, a = some ⟨b, off, none⟩ ∧ b < w.heap.size ∧ ∀ j, j < ss.length → w.cell? ⟨b, off + j, none⟩ = some (.string (ss.getD j ⟨#[]⟩))

theorem split_at {α : Type} : ∀ {L : List α} {x : α}, x ∈ L → ∃ A C, L = A ++ x :: C
  | y :: L, x, h => by
    rcases List.mem_cons.1 h with rfl | h
    · exact ⟨[], L, rfl⟩
    · obtain ⟨A, C, rfl⟩ := split_at h
      exact ⟨y :: A, C, rfl⟩

theorem own_sub {m mp : Nat} {A C : List LNode} {x : LNode} {b : Nat} (h : Lown m mp (A ++ C) b) : Lown m mp (A ++ x :: C) b := by
  rcases h with h | h | h
  · exact Or.inl h
  · exact Or.inr (Or.inl h)
  · refine Or.inr (Or.inr ?_)
    simp only [List.map_append, List.map_cons, List.mem_append, List.mem_cons] at h ⊢
    rcases h with h | h
    · exact Or.inl h
    · exact Or.inr (Or.inr h)

theorem LBody.apart {w : World} {m mp most : Nat} {L : List LNode} (h : LBody w m mp most L) {b : Nat} (hb : b ∈ m :: L.map (·.b)) : b ≠ mp ∧ b < w.heap.size := by
  obtain ⟨f, h1, _⟩ := h.map
  rcases List.mem_cons.1 hb with rfl | hb
  · exact ⟨map_not_cells h1 h.c0, World.block_lt_of_cell? w _ h.c0⟩
  · obtain ⟨x, hx, rfl⟩ := List.mem_map.1 hb
    exact ⟨map_not_cells h1 (h.key x hx), World.block_lt_of_cell? w _ (h.key x hx)⟩

set_option maxHeartbeats 6400000 in
set_option maxRecDepth 100000 in
theorem ldrop_any {w : World} {m mp most : Nat} {L : List LNode} (h : Lru w m mp most L) (a : Option Addr) (len cap : Nat) (ss : List ByteArray) (hl : ss.length = len) (hm : len ≤ 9223372036854775807) (hs : StrsAt w a ss)
    (hsep : ∀ b off, a = some ⟨b, off, none⟩ → ss ≠ [] → ¬ Lown m mp L b) (hsz : ∀ s, s ∈ ss → s.size ≤ maxLen) :
    Calls Try.prog 16 #[.pointer (some ⟨m, 0, none⟩), .slice a len cap] w fun e w' => ∃ L', e = .returned (.int .i64 (dropA (pr L) ss).2) ∧ Lru w' m mp most L' ∧ pr L' = (dropA (pr L) ss).1 ∧ Off (Lown m mp L) w w' ∧ (∀ b, Lown m mp L' b → Lown m mp L b) := by
  have HL := Lib.hid h
  have Hs := Lib.hid hs
  have Hsep := Lib.hid hsep
  have Hsz := Lib.hid hsz
  have Hl := Lib.hid hl
  clear h hs hsep hsz hl
  go_enter Try.func16, Try.ntmps16
  go_wp2_with (fail)
  go_loopw [5, 12] (fun n i wr => ∃ (k : Nat) (L' : List LNode), k ≤ len ∧ i = .int .i64 k ∧ n = .int .i64 (dropA (pr L) (ss.take k)).2 ∧ Hid (Lru wr m mp most L') ∧ Hid (pr L' = (dropA (pr L) (ss.take k)).1) ∧ Off (Lown m mp L) w wr ∧ Hid (∀ b, Lown m mp L' b → Lown m mp L b)) (fun _ i _ => len - (intOf i).toNat)
  case atStart => exact ⟨0, L, Nat.zero_le _, rfl, rfl, HL, by rfl, Off.refl _ _, fun _ h => h⟩
  case round =>
    obtain ⟨k, L', hk, rfl, rfl, HL', Hp, hoff, Hsub⟩ := hrel
    have hdle := dropA_le (pr L) (ss.take k)
    have htl : (ss.take k).length ≤ k := by simp; omega
    by_cases hlt : k < len
    · rcases Hs.out with h | ⟨b, off, rfl, hbl, hcell⟩
      · exfalso; have := Hl.out; subst h; simp at this; omega
      · have d1w := hcell k (by rw [Hl.out]; exact hlt)
        have hkl : k < ss.length := by rw [Hl.out]; exact hlt
        have hs1 := Hsz.out (ss.getD k ⟨#[]⟩) (by simp [List.getD, hkl])
        have htake : ss.take (k + 1) = ss.take k ++ [ss.getD k ⟨#[]⟩] := by
          rw [List.take_add_one]; simp [List.getD, hkl]
        have HT := Lib.hid htake
        have hb := Hsep.out b off rfl (by intro e; rw [e] at hkl; simp at hkl)
        generalize ss.getD k ⟨#[]⟩ = s at *
        have d1 := hoff.cell d1w hb
        clear hcell d1w hb htake
        have k0 : (0 : Int) ≤ k := by omega
        have k1 : (k : Int) < len := by omega
        have HS1 := Lib.hid hs1
        have Hdle := Lib.hid hdle
        have Htl := Lib.hid htl
        clear hs1 hdle htl
        cases hhas : lhas L' s
        · go_wp2_with (fail)
          refine (peek_any HL'.out.body HS1.out).mono ?_
          rintro e w1 ⟨rfl, rfl⟩
          rw [hhas]
          go_wp2_with (fail)
          have hno : hasA (dropA (pr L) (ss.take k)).1 s = false := by rw [← Hp.out, ← has_pr]; exact hhas
          have hd : dropA (pr L) (ss.take (k + 1)) = dropA (pr L) (ss.take k) := by rw [HT.out, dropA_snoc, hno]; rfl
          exact ⟨⟨k + 1, L', by omega, by go_num, by rw [hd], HL', by rw [hd]; exact Hp.out, hoff, Hsub⟩, by simp [intOf]; omega⟩
        · go_wp2_with (fail)
          refine (peek_any HL'.out.body HS1.out).mono ?_
          rintro e w1 ⟨rfl, rfl⟩
          rw [hhas]
          obtain ⟨x, hlk⟩ : ∃ x, look L' s = some x := by
            unfold lhas at hhas
            exact Option.isSome_iff_exists.1 hhas
          obtain ⟨hx, rfl⟩ := look_in hlk
          have hlook := HL'.out.body.lookup HS1.out
          rw [hlk] at hlook
          simp only [Option.map_some, ptrV] at hlook
          have c1 := HL'.out.body.c1
          obtain ⟨A, C, rfl⟩ := split_at hx
          have hyes : hasA (dropA (pr L) (ss.take k)).1 x.k = true := by rw [← Hp.out, ← has_pr]; exact hhas
          have hd : dropA (pr L) (ss.take (k + 1)) = (delA (dropA (pr L) (ss.take k)).1 x.k, (dropA (pr L) (ss.take k)).2 + 1) := by rw [HT.out, dropA_snoc, hyes]; rfl
          have HD := Lib.hid hd
          clear hx hlk hhas hyes hd
          go_wp2_with (fail)
          refine (lout_any _ m mp most A C (A ++ x :: C) x HL'.out.ring HL'.out.body).mono ?_
          rintro e w2 ⟨rfl, hr2, hb2, ho2, _, _, _⟩
          have c2 := hb2.c1
          obtain ⟨w3, hrun3, hb3, hg3⟩ := hb2.del
          have HR2 := Lib.hid hr2
          have HB2 := Lib.hid hb2
          have HB3 := Lib.hid hb3
          have HG3 := Lib.hid hg3
          have HO2 := Lib.hid ho2
          clear hr2 hb2 hb3 hg3 ho2 hlook c1
          go_wp2_with (fail)
          have hdle := Hdle.out
          have htl := Htl.out
          have hoff3 : Off (Lown m mp L) w w3 := by
            refine (hoff.trans HO2.out ?_).grown HG3.out (fun _ => Or.inr (Or.inl rfl))
            intro i _ hi
            exact Hsub.out i (by rcases hi with h | h; exact Or.inl h; exact Or.inr (Or.inr h))
          have hlru : Lru w3 m mp most (A ++ C) := by
            refine ⟨HR2.out.kept (fun b hb => ?_), HB3.out, ?_, HL'.out.big⟩
            · have hb' : b ∈ m :: (A ++ x :: C).map (·.b) := by
                simp only [List.map_append, List.map_cons, List.mem_append, List.mem_cons] at hb ⊢
                rcases hb with h | h | h
                · exact Or.inl h
                · exact Or.inr (Or.inl h)
                · exact Or.inr (Or.inr (Or.inr h))
              obtain ⟨h1, h2⟩ := HB2.out.apart hb'
              exact HG3.out.block b h2 (fun e => h1 (by injection e))
            · have := HL'.out.cap
              simp at this ⊢
              omega
          refine ⟨⟨k + 1, A ++ C, by omega, by go_num, ?_, hlru, ?_, hoff3, fun b hb => Hsub.out b (own_sub hb)⟩, by simp [intOf]; omega⟩
          · rw [HD.out]
            have q0 : (0 : Int) ≤ ((dropA (pr L) (ss.take k)).2 : Nat) := by omega
            have q1 : (((dropA (pr L) (ss.take k)).2 : Nat) : Int) < len := by omega
            dsimp only
            generalize (dropA (pr L) (ss.take k)).2 = N at q0 q1 ⊢
            rw [IntWalk.wrap64_in _ (by omega)]
            go_num
          · have e : pr (A ++ C) = (dropA (pr L) (ss.take (k + 1))).1 := by rw [HD.out, del_pr HL'.out.body.keys, Hp.out]
            exact e
    · go_wp2_with (fail)
      go_ret
      have hkk : ss.take k = ss := by rw [List.take_of_length_le]; rw [Hl.out]; omega
      rw [hkk] at Hp
      exact ⟨L', by rw [hkk]; rfl, HL'.out, Hp.out, hoff, Hsub.out⟩
end Go.Proofs.Ytglielpiojnnhaa
