/- lru: what a nil map answers, side by side. -/
import Derived.Test.YtidcbjgiohkidaaLruDo
namespace Go.Proofs.Ytidcbjgiohkidaa
open Go.RowKit
set_option linter.unusedVariables false
set_option linter.unusedSimpArgs false

set_option maxHeartbeats 3200000 in
theorem ldrop_nil (w : World) (a : Option Addr) (len cap : Nat) (ss : List ByteArray) (hl : ss.length = len) (hm : len ≤ 9223372036854775807) (hs : StrsAt w a ss) :
    Calls Try.prog 22 #[.pointer none, .slice a len cap] w fun e w' => e = .returned (.int .i64 0) ∧ w' = w := by
  have Hs := Lib.hid hs
  have Hl := Lib.hid hl
  clear hs hl
  go_enter Try.func22, Try.ntmps22
  go_wp2_with (fail)
  go_loop [5, 12] (fun n i => n = .int .i64 0 ∧ ∃ k : Nat, k ≤ len ∧ i = .int .i64 k) (fun _ i => len - (intOf i).toNat)
  case atStart => exact ⟨rfl, 0, Nat.zero_le _, rfl⟩
  case round =>
    obtain ⟨rfl, k, hk, rfl⟩ := hrel
    by_cases hlt : k < len
    · rcases Hs.out with h | ⟨b, off, rfl, hbl, hcell⟩
      · exfalso; have := Hl.out; subst h; simp at this; omega
      · have d1 := hcell k (by rw [Hl.out]; exact hlt)
        generalize ss.getD k ⟨#[]⟩ = s at d1
        have HP := Lib.hid (peek_nil s w)
        have k0 : (0 : Int) ≤ k := by omega
        have k1 : (k : Int) < len := by omega
        clear hcell
        go_wp2_with (fail)
        refine HP.out.mono ?_
        rintro e w1 ⟨rfl, rfl⟩
        go_wp2_with (fail)
        exact ⟨⟨rfl, k + 1, by omega, by go_num⟩, by first | (simp [intOf]; done) | (simp [intOf]; omega)⟩
    · go_wp2_with (fail)
      go_ret
      exact ⟨rfl, rfl⟩

set_option maxHeartbeats 1600000 in
theorem rplace_nil (s : ByteArray) (w : World) : Calls Try.prog 30 #[.pointer none, .string s] w fun e w' => e = .returned (.int .i64 (-1)) ∧ w' = w := by
  go_enter Try.func30, Try.ntmps30
  go_wp2_with (fail)
  go_loop [5] (fun i => i = .int .i64 0) (fun _ => 0)
  case atStart => rfl
  case round =>
    subst hrel
    go_wp2_with (fail)
    go_ret
    exact ⟨rfl, rfl⟩
set_option maxHeartbeats 1600000 in
theorem rput_nil (s : ByteArray) (v : Int) (w : World) : Calls Try.prog 26 #[.pointer none, .string s, .int .i64 v] w fun e w' => e = .returned (.tuple #[.string ⟨#[]⟩, .bool false, .int .i64 1]) ∧ w' = w := by
  go_enter Try.func26, Try.ntmps26
  go_wp2_with (fail)
  go_ret3
  exact ⟨rfl, rfl⟩
set_option maxHeartbeats 1600000 in
theorem rget_nil (s : ByteArray) (w : World) : Calls Try.prog 27 #[.pointer none, .string s] w fun e w' => e = .returned (.tuple #[.int .i64 0, .bool false]) ∧ w' = w := by
  have HP := Lib.hid (rplace_nil s w)
  go_enter Try.func27, Try.ntmps27
  go_wp2_with (fail)
  refine HP.out.mono ?_
  rintro e w1 ⟨rfl, rfl⟩
  go_wp2_with (fail)
  go_ret2
  exact ⟨rfl, rfl⟩
set_option maxHeartbeats 1600000 in
theorem rpeek_nil (s : ByteArray) (w : World) : Calls Try.prog 28 #[.pointer none, .string s] w fun e w' => e = .returned (.tuple #[.int .i64 0, .bool false]) ∧ w' = w := by
  have HP := Lib.hid (rplace_nil s w)
  go_enter Try.func28, Try.ntmps28
  go_wp2_with (fail)
  refine HP.out.mono ?_
  rintro e w1 ⟨rfl, rfl⟩
  go_wp2_with (fail)
  go_ret2
  exact ⟨rfl, rfl⟩
set_option maxHeartbeats 1600000 in
theorem rkeys_nil (w : World) : Calls Try.prog 17 #[.pointer none] w fun e w' => e = .returned (.slice none 0 0) ∧ w' = w := by
  go_enter Try.func17, Try.ntmps17
  go_wp2_with (fail)
  go_loop [3, 4] (fun l i => l = .slice none 0 0 ∧ i = .int .i64 0) (fun _ _ => 0)
  case atStart => exact ⟨rfl, rfl⟩
  case round =>
    obtain ⟨rfl, rfl⟩ := hrel
    go_wp2_with (fail)
    go_ret
    exact ⟨rfl, rfl⟩
set_option maxHeartbeats 1600000 in
theorem rlen_nil (w : World) : Calls Try.prog 18 #[.pointer none] w fun e w' => e = .returned (.int .i64 0) ∧ w' = w := by
  go_enter Try.func18, Try.ntmps18
  go_wp2_with (fail)
  go_ret
  exact ⟨rfl, rfl⟩
set_option maxHeartbeats 1600000 in
theorem rmost_nil (w : World) : Calls Try.prog 20 #[.pointer none] w fun e w' => e = .returned (.int .i64 0) ∧ w' = w := by
  go_enter Try.func20, Try.ntmps20
  go_wp2_with (fail)
  go_ret
  exact ⟨rfl, rfl⟩
set_option maxHeartbeats 3200000 in
theorem rdrop_nil (w : World) (a : Option Addr) (len cap : Nat) (ss : List ByteArray) (hl : ss.length = len) (hm : len ≤ 9223372036854775807) (hs : StrsAt w a ss) :
    Calls Try.prog 29 #[.pointer none, .slice a len cap] w fun e w' => e = .returned (.int .i64 0) ∧ w' = w := by
  have Hs := Lib.hid hs
  have Hl := Lib.hid hl
  clear hs hl
  go_enter Try.func29, Try.ntmps29
  go_wp2_with (fail)
  go_loop [5, 6] (fun n i => n = .int .i64 0 ∧ ∃ k : Nat, k ≤ len ∧ i = .int .i64 k) (fun _ i => len - (intOf i).toNat)
  case atStart => exact ⟨rfl, 0, Nat.zero_le _, rfl⟩
  case round =>
    obtain ⟨rfl, k, hk, rfl⟩ := hrel
    by_cases hlt : k < len
    · rcases Hs.out with h | ⟨b, off, rfl, hbl, hcell⟩
      · exfalso; have := Hl.out; subst h; simp at this; omega
      · have d1 := hcell k (by rw [Hl.out]; exact hlt)
        generalize ss.getD k ⟨#[]⟩ = s at d1
        have HP := Lib.hid (rplace_nil s w)
        have k0 : (0 : Int) ≤ k := by omega
        have k1 : (k : Int) < len := by omega
        clear hcell
        go_wp2_with (fail)
        refine HP.out.mono ?_
        rintro e w1 ⟨rfl, rfl⟩
        go_wp2_with (fail)
        exact ⟨⟨rfl, k + 1, by omega, by go_num⟩, by first | (simp [intOf]; done) | (simp [intOf]; omega)⟩
    · go_wp2_with (fail)
      go_ret
      exact ⟨rfl, rfl⟩
-- DO
theorem deed_new (w : World) (kind : Int) (key : ByteArray) (val : Int) (a : Option Addr) (len cap : Nat) (ss : List ByteArray) (hs : StrsAt w a ss) : StrsAt (w.alloc (.cells #[.int .i64 kind, .string key, .int .i64 val, .slice a len cap] 42)) a ss := by
  rcases hs with e | ⟨b, off, e, hb, hc⟩
  · exact Or.inl e
  · exact Or.inr ⟨b, off, e, by simp; omega, fun j hj => (World.cell?_alloc_lt w _ ⟨b, off + j, none⟩ hb).trans (hc j hj)⟩

set_option maxHeartbeats 6400000 in
set_option maxRecDepth 100000 in
theorem do_nil (w : World) (kind : Int) (key : ByteArray) (val : Int) (a : Option Addr) (len cap : Nat) (ss : List ByteArray) (hl : ss.length = len) (hm : len ≤ 9223372036854775807) (hs : StrsAt w a ss) :
    Calls Try.prog 14 #[.pointer none, .pointer none, deedV kind key val a len cap] w fun e w' => e = .returned (.bool true) ∧ Below w.heap.size w w' := by
  unfold deedV
  have hb : Below w.heap.size w (w.alloc (.cells #[.int .i64 kind, .string key, .int .i64 val, .slice a len cap] 42)) := (Below.refl _ _).alloc (Nat.le_refl _) _
  by_cases k0 : kind = 0
  · subst k0
    go_enter Try.func14, Try.ntmps14
    go_wp2_with (fail)
    refine (lput_nil key val _).mono ?_
    rintro e w2 ⟨rfl, rfl⟩
    go_wp2_with (fail)
    refine (rput_nil key val _).mono ?_
    rintro e w3 ⟨rfl, rfl⟩
    go_wp2_with (fail)
    go_ret
    exact ⟨rfl, hb⟩
  by_cases k1 : kind = 1
  · subst k1
    clear k0
    go_enter Try.func14, Try.ntmps14
    go_wp2_with (fail)
    refine (lget_nil key _).mono ?_
    rintro e w2 ⟨rfl, rfl⟩
    go_wp2_with (fail)
    refine (rget_nil key _).mono ?_
    rintro e w3 ⟨rfl, rfl⟩
    go_wp2_with (fail)
    go_ret
    exact ⟨rfl, hb⟩
  by_cases k2 : kind = 2
  · subst k2
    clear k0 k1
    go_enter Try.func14, Try.ntmps14
    go_wp2_with (fail)
    refine (peek_nil key _).mono ?_
    rintro e w2 ⟨rfl, rfl⟩
    go_wp2_with (fail)
    refine (rpeek_nil key _).mono ?_
    rintro e w3 ⟨rfl, rfl⟩
    go_wp2_with (fail)
    go_ret
    exact ⟨rfl, hb⟩
  · have HS0 : Hid ((w.alloc (.cells #[.int .i64 kind, .string key, .int .i64 val, .slice a len cap] 42)).drew.cell? ⟨w.heap.size, 3, none⟩ = some (.slice a len cap) ∧ Below w.heap.size w (w.alloc (.cells #[.int .i64 kind, .string key, .int .i64 val, .slice a len cap] 42)).drew ∧ StrsAt (w.alloc (.cells #[.int .i64 kind, .string key, .int .i64 val, .slice a len cap] 42)).drew a ss) := by
      refine ⟨?_, hb.drew, deed_new w kind key val a len cap ss hs⟩
      have hz : (w.alloc (.cells #[.int .i64 kind, .string key, .int .i64 val, .slice a len cap] 42)).heap[w.heap.size]? = some (.cells #[.int .i64 kind, .string key, .int .i64 val, .slice a len cap] 42) := by
        show (Array.push w.heap _)[_]? = _
        rw [Array.getElem?_push, if_pos rfl]
      show World.cell? (w.alloc _) _ = _
      simp only [World.cell?, hz]; rfl
    clear hb hs
    go_enter Try.func14, Try.ntmps14
    go_wp2_with (fail)
    refine wp_region_held_drew (S := fun wx => wx.cell? ⟨w.heap.size, 3, none⟩ = some (.slice a len cap) ∧ Below w.heap.size w wx ∧ StrsAt wx a ss) (by kernel_rfl) ?_ (fun hHeld => ?_)
    · exact HS0.out
    refine wpAnyH_take (i := 0) (v := ?_) rfl (by kernel_rfl) (by kernel_rfl) (by kernel_rfl) (fun _ _ _ h => h) (Or.inl ⟨by rfl, ?hy⟩) (by assumption) ?_
    case hy => intro w hSw; (try dsimp only at hSw); go_simp; try with_reducible rfl
    try simp only [Act.put, List.getElem_toArray, List.getElem_cons_succ, List.getElem_cons_zero, List.setIfInBounds_toArray, List.set_cons_zero, List.set_cons_succ]
    refine wpAnyH_take (i := 1) (v := ?_) rfl (by kernel_rfl) (by kernel_rfl) (by kernel_rfl) (fun _ _ _ h => h) (Or.inl ⟨by rfl, ?hy⟩) (by assumption) ?_
    case hy => intro w hSw; (try dsimp only at hSw); go_simp; try with_reducible rfl
    try simp only [Act.put, List.getElem_toArray, List.getElem_cons_succ, List.getElem_cons_zero, List.setIfInBounds_toArray, List.set_cons_zero, List.set_cons_succ]
    refine wpAnyH_take (i := 2) (v := ?_) rfl (by kernel_rfl) (by kernel_rfl) (by kernel_rfl) (fun _ _ _ h => h) (Or.inl ⟨by rfl, ?hy⟩) (by assumption) ?_
    case hy => intro w hSw; (try dsimp only at hSw); go_simp; try with_reducible rfl
    try simp only [Act.put, List.getElem_toArray, List.getElem_cons_succ, List.getElem_cons_zero, List.setIfInBounds_toArray, List.set_cons_zero, List.set_cons_succ]
    refine wpAnyH_take (i := 4) (v := ?_) rfl (by kernel_rfl) (by kernel_rfl) (by kernel_rfl) (fun _ _ _ h => h) (Or.inl ⟨by rfl, ?hy⟩) (by assumption) ?_
    case hy => intro w hSw; (try dsimp only at hSw); go_simp; try with_reducible rfl
    try simp only [Act.put, List.getElem_toArray, List.getElem_cons_succ, List.getElem_cons_zero, List.setIfInBounds_toArray, List.set_cons_zero, List.set_cons_succ]
    refine wpAnyH_take (i := 5) (v := ?_) rfl (by kernel_rfl) (by kernel_rfl) (by kernel_rfl) (fun _ _ _ h => h) (Or.inl ⟨by rfl, ?hy⟩) (by assumption) ?_
    case hy => intro w hSw; (try dsimp only at hSw); go_simp; try with_reducible rfl
    try simp only [Act.put, List.getElem_toArray, List.getElem_cons_succ, List.getElem_cons_zero, List.setIfInBounds_toArray, List.set_cons_zero, List.set_cons_succ]
    refine wpAnyH_take (i := 6) (v := ?_) rfl (by kernel_rfl) (by kernel_rfl) (by kernel_rfl) (fun _ _ _ h => h) (Or.inl ⟨by rfl, ?hy⟩) (by assumption) ?_
    case hy => intro w hSw; (try dsimp only at hSw); go_simp; try with_reducible rfl
    try simp only [Act.put, List.getElem_toArray, List.getElem_cons_succ, List.getElem_cons_zero, List.setIfInBounds_toArray, List.set_cons_zero, List.set_cons_succ]
    refine wpAnyH_ready (rs := [3]) (by kernel_rfl) (by simp) (AllReadyH.cons rfl (fun K hK => ?_) AllReadyH.nil)
    go_simp
    refine (ldrop_nil _ a len cap ss hl hm hHeld.2.2).mono ?_; rintro e w2 ⟨rfl, rfl⟩
    try (go_wp2_with fail)
    refine hK.out _ _ ?_ (fun hHeld => ?_)
    · exact hHeld
    clear hK K
    try simp only [Act.put, List.getElem_toArray, List.getElem_cons_succ, List.getElem_cons_zero, List.setIfInBounds_toArray, List.set_cons_zero, List.set_cons_succ]
    refine wpAnyH_ready (rs := [7]) (by kernel_rfl) (by simp) (AllReadyH.cons rfl (fun K hK => ?_) AllReadyH.nil)
    go_simp
    refine (rdrop_nil _ a len cap ss hl hm hHeld.2.2).mono ?_; rintro e w3 ⟨rfl, rfl⟩
    try (go_wp2_with fail)
    refine hK.out _ _ ?_ (fun hHeld => ?_)
    · exact hHeld
    clear hK K
    try simp only [Act.put, List.getElem_toArray, List.getElem_cons_succ, List.getElem_cons_zero, List.setIfInBounds_toArray, List.set_cons_zero, List.set_cons_succ]
    refine wpAnyH_take (i := 8) (v := ?_) rfl (by kernel_rfl) (by kernel_rfl) (by kernel_rfl) (fun _ _ _ h => h) (Or.inl ⟨by rfl, ?hy⟩) (by assumption) ?_
    case hy => intro w hSw; (try dsimp only at hSw); go_simp; try with_reducible rfl
    try simp only [Act.put, List.getElem_toArray, List.getElem_cons_succ, List.getElem_cons_zero, List.setIfInBounds_toArray, List.set_cons_zero, List.set_cons_succ]
    refine wpAnyH_take (i := 9) (v := ?_) rfl (by kernel_rfl) (by kernel_rfl) (by kernel_rfl) (fun _ _ _ h => h) (Or.inl ⟨by rfl, ?hy⟩) (by assumption) ?_
    case hy => intro w hSw; (try dsimp only at hSw); go_simp; try with_reducible rfl
    try simp only [Act.put, List.getElem_toArray, List.getElem_cons_succ, List.getElem_cons_zero, List.setIfInBounds_toArray, List.set_cons_zero, List.set_cons_succ]
    refine wpAnyH_done (by kernel_rfl) ?_ _
    go_wp2_with (fail)
    go_ret
    exact ⟨rfl, hHeld.2.1⟩
end Go.Proofs.Ytidcbjgiohkidaa
