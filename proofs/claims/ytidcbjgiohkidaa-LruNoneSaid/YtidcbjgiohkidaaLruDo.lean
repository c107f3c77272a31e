/- lru: the map and the document's answer side by side; do. -/
import Derived.Test.YtidcbjgiohkidaaLruFk
namespace Go.Proofs.Ytidcbjgiohkidaa
open Go.RowKit
set_option linter.unusedVariables false
set_option linter.unusedSimpArgs false

theorem rput_any {w : World} {r most : Nat} {v : Value} {A : List (ByteArray × Int)} (h : RefM w r most v A) (hn : (A.map (·.1)).Nodup) (hle : A.length ≤ most) (s : ByteArray) (val : Int) :
    Calls Try.prog 26 #[.pointer (some ⟨r, 0, none⟩), .string s, .int .i64 val] w fun e w' => e = .returned (.tuple #[.string (goneA most A s), .bool (wentA most A s), .int .i64 0]) ∧ ∃ v', RefM w' r most v' (putA most A s val) ∧ Off (Rown r v) w w' ∧ (∀ b, Rown r v' b → Rown r v b ∨ w.heap.size ≤ b) := by
  cases hh : hasA A s
  · by_cases hf : A.length = most
    · cases A with
      | nil => have := h.big; simp at hf; omega
      | cons y C =>
        have e1 : goneA most (y :: C) s = y.1 := by rw [goneA, hh, if_neg (by simp), if_pos hf]; rfl
        have e2 : wentA most (y :: C) s = true := by rw [wentA, hh]; simpa using hf
        have e3 : putA most (y :: C) s val = C ++ [(s, val)] := by rw [putA, hh, if_neg (by simp), if_pos hf]; rfl
        rw [e1, e2, e3]
        exact rput_full h s val hh hf
    · have e1 : goneA most A s = ⟨#[]⟩ := by rw [goneA, hh, if_neg (by simp), if_neg hf]
      have e2 : wentA most A s = false := by rw [wentA, hh]; simpa using hf
      have e3 : putA most A s val = A ++ [(s, val)] := by rw [putA, hh, if_neg (by simp), if_neg hf]
      rw [e1, e2, e3]
      exact rput_new h s val hh hf hle
  · have e1 : goneA most A s = ⟨#[]⟩ := by rw [goneA, hh, if_pos rfl]
    have e2 : wentA most A s = false := by rw [wentA, hh]; rfl
    obtain ⟨X, y, C, rfl, rfl, hpl, hdel, _⟩ := plA_yes hn hh
    have e3 : putA most (X ++ y :: C) y.1 val = X ++ C ++ [(y.1, val)] := by rw [putA, hh, if_pos rfl, hdel]
    rw [e1, e2, e3]
    exact rput_old h val hpl

/-- The map and the document's answer, apart in memory, of the same pairs; S: their blocks. -/
def Both (w : World) (m r most : Nat) (A : List (ByteArray × Int)) (S : Nat → Prop) : Prop :=
  ∃ mp L v, Lru w m mp most L ∧ RefM w r most v A ∧ pr L = A ∧ (∀ b, Lown m mp L b → ¬ Rown r v b) ∧ (∀ b, S b ↔ Lown m mp L b ∨ Rown r v b)

theorem Both.off {w w' : World} {m r most : Nat} {A : List (ByteArray × Int)} {S S' : Nat → Prop} (h : Both w m r most A S) (ho : Off S' w w') (hS : ∀ b, S b → ¬ S' b) : Both w' m r most A S := by
  obtain ⟨mp, L, v, h1, h2, h3, h4, h5⟩ := h
  exact ⟨mp, L, v, h1.off ho (fun b hb => hS b ((h5 b).2 (Or.inl hb))), h2.off ho (fun b hb => hS b ((h5 b).2 (Or.inr hb))), h3, h4, h5⟩
theorem Both.below {w w' : World} {m r most : Nat} {A : List (ByteArray × Int)} {S : Nat → Prop} (h : Both w m r most A S) (hb : Below w.heap.size w w') : Both w' m r most A S := by
  obtain ⟨mp, L, v, h1, h2, h3, h4, h5⟩ := h
  exact ⟨mp, L, v, h1.below hb, h2.below hb, h3, h4, h5⟩
theorem Both.lt {w : World} {m r most : Nat} {A : List (ByteArray × Int)} {S : Nat → Prop} (h : Both w m r most A S) {b : Nat} (hb : S b) : b < w.heap.size := by
  obtain ⟨mp, L, v, h1, h2, h3, h4, h5⟩ := h
  rcases (h5 b).1 hb with h | h
  · exact h1.lt h
  · exact (h2.lt h).1

theorem pr_nodup {w : World} {m mp most : Nat} {L : List LNode} (h : LBody w m mp most L) : ((pr L).map (·.1)).Nodup := by
  have := h.keys; simpa [pr, List.map_map, Function.comp_def] using this

theorem both_step {w wa w2 w3 : World} {m r mp most : Nat} {L L2 : List LNode} {v v3 : Value} {A A3 : List (ByteArray × Int)} {S : Nat → Prop} (h1 : Lru w m mp most L) (h2 : RefM w r most v A) (h4 : ∀ b, Lown m mp L b → ¬ Rown r v b) (h5 : ∀ b, S b ↔ Lown m mp L b ∨ Rown r v b)
    (ha : Below w.heap.size w wa) (k1 : Lru w2 m mp most L2) (k2 : Off (Lown m mp L) wa w2) (k3 : ∀ b, Lown m mp L2 b → Lown m mp L b ∨ wa.heap.size ≤ b)
    (q1 : RefM w3 r most v3 A3) (q2 : Off (Rown r v) w2 w3) (q3 : ∀ b, Rown r v3 b → Rown r v b ∨ w2.heap.size ≤ b) (hp : pr L2 = A3) :
    ∃ S', Both w3 m r most A3 S' ∧ Off S w w3 ∧ (∀ b, S' b → S b ∨ w.heap.size ≤ b) := by
  have za := ha.size
  have z2 := k2.size
  have hl : ∀ b, Lown m mp L2 b → ¬ Rown r v b := fun b hb hr => by
    rcases k3 b hb with e | e
    · exact h4 b e hr
    · have := (h2.lt hr).1; omega
  refine ⟨fun b => Lown m mp L2 b ∨ Rown r v3 b, ⟨mp, L2, v3, k1.off q2 hl, q1, hp, fun b hb hr => ?_, fun b => Iff.rfl⟩, ?_, fun b hb => ?_⟩
  · rcases q3 b hr with e | e
    · exact hl b hb e
    · have := k1.lt hb; omega
  · exact ((Off.ofBelow (S := S) ha).trans k2 (fun i _ e => (h5 i).2 (Or.inl e))).trans q2 (fun i _ e => (h5 i).2 (Or.inr e))
  · rcases hb with hb | hb
    · rcases k3 b hb with e | e
      · exact Or.inl ((h5 b).2 (Or.inl e))
      · right; omega
    · rcases q3 b hb with e | e
      · exact Or.inl ((h5 b).2 (Or.inr e))
      · right; omega

theorem strs_off {S : Nat → Prop} {w w' : World} {a : Option Addr} {ss : List ByteArray} (h : StrsAt w a ss) (ho : Off S w w') (hs : ∀ b off, a = some ⟨b, off, none⟩ → ss ≠ [] → ¬ S b) : StrsAt w' a ss := by
  by_cases h0 : ss = []
  · exact Or.inl h0
  · rcases h with e | ⟨b, off, rfl, hb, hc⟩
    · exact Or.inl e
    · exact Or.inr ⟨b, off, rfl, Nat.lt_of_lt_of_le hb ho.size, fun j hj => ho.cell (hc j hj) (hs b off rfl h0)⟩

def deedV (kind : Int) (key : ByteArray) (val : Int) (a : Option Addr) (len cap : Nat) : Value := .agg #[.int .i64 kind, .string key, .int .i64 val, .slice a len cap]
/-- What a deed makes of the pairs. -/
def deedA (most : Nat) (A : List (ByteArray × Int)) (kind : Int) (key : ByteArray) (val : Int) (ss : List ByteArray) : List (ByteArray × Int) :=
  if kind = 0 then putA most A key val else if kind = 1 then getA A key else if kind = 2 then A else (dropA A ss).1

set_option maxHeartbeats 12800000 in
set_option maxRecDepth 100000 in
theorem do_any {w : World} {m r most : Nat} {A : List (ByteArray × Int)} {S : Nat → Prop} (h : Both w m r most A S) (kind : Int) (key : ByteArray) (val : Int) (a : Option Addr) (len cap : Nat) (ss : List ByteArray) (hk : key.size ≤ maxLen) (hl : ss.length = len) (hm : len ≤ 9223372036854775807) (hs : StrsAt w a ss)
    (hsep : ∀ b off, a = some ⟨b, off, none⟩ → ss ≠ [] → ¬ S b) (hsz : ∀ s, s ∈ ss → s.size ≤ maxLen) :
    Calls Try.prog 14 #[.pointer (some ⟨m, 0, none⟩), .pointer (some ⟨r, 0, none⟩), deedV kind key val a len cap] w fun e w' => e = .returned (.bool true) ∧ ∃ S', Both w' m r most (deedA most A kind key val ss) S' ∧ Off S w w' ∧ (∀ b, S' b → S b ∨ w.heap.size ≤ b) := by
  obtain ⟨mp, L, v, h1, h2, h3, h4, h5⟩ := h
  subst h3
  have hnd := pr_nodup h1.body
  have hle : (pr L).length ≤ most := by rw [pr_len]; exact h1.cap
  unfold deedV
  have hba : ∀ t, Below w.heap.size w (w.alloc (.cells #[.int .i64 kind, .string key, .int .i64 val, .slice a len cap] t)) := fun t => (Below.refl _ _).alloc (Nat.le_refl _) _
  have hz : (w.alloc (.cells #[.int .i64 kind, .string key, .int .i64 val, .slice a len cap] 42)).heap[w.heap.size]? = some (.cells #[.int .i64 kind, .string key, .int .i64 val, .slice a len cap] 42) := by
    show (Array.push w.heap _)[_]? = _
    rw [Array.getElem?_push, if_pos rfl]
  have HBA := Lib.hid (hba 42)
  have hza : (w.alloc (.cells #[.int .i64 kind, .string key, .int .i64 val, .slice a len cap] 42)).heap.size = w.heap.size + 1 := by simp
  have HAL := Lib.hid (h1.below HBA.out)
  have HAR := Lib.hid (h2.below HBA.out)
  have HAS : Hid (StrsAt (w.alloc (.cells #[.int .i64 kind, .string key, .int .i64 val, .slice a len cap] 42)) a ss) := by
    rcases hs with e | ⟨b, off, e, hb, hc⟩
    · exact Or.inl e
    · exact Or.inr ⟨b, off, e, by rw [hza]; omega, fun j hj => (HBA.out.cell (p := ⟨b, off + j, none⟩) hb).trans (hc j hj)⟩
  have c0 : (w.alloc (.cells #[.int .i64 kind, .string key, .int .i64 val, .slice a len cap] 42)).cell? ⟨w.heap.size, 0, none⟩ = some (.int .i64 kind) := by simp only [World.cell?, hz]; rfl
  have c1 : (w.alloc (.cells #[.int .i64 kind, .string key, .int .i64 val, .slice a len cap] 42)).cell? ⟨w.heap.size, 1, none⟩ = some (.string key) := by simp only [World.cell?, hz]; rfl
  have c2 : (w.alloc (.cells #[.int .i64 kind, .string key, .int .i64 val, .slice a len cap] 42)).cell? ⟨w.heap.size, 2, none⟩ = some (.int .i64 val) := by simp only [World.cell?, hz]; rfl
  have c3 : (w.alloc (.cells #[.int .i64 kind, .string key, .int .i64 val, .slice a len cap] 42)).cell? ⟨w.heap.size, 3, none⟩ = some (.slice a len cap) := by simp only [World.cell?, hz]; rfl
  have hnd0 : ¬ Lown m mp L w.heap.size := fun e => by have := h1.lt e; omega
  have hnd1 : ¬ Rown r v w.heap.size := fun e => by have := (h2.lt e).1; omega
  have HND := Lib.hid (And.intro hnd0 hnd1)
  have H12 := Lib.hid (And.intro h1 (And.intro h2 (And.intro h4 h5)))
  have HNN := Lib.hid (And.intro hnd hle)
  have HK := Lib.hid hk
  have HSEP := Lib.hid hsep
  have HSZ := Lib.hid hsz
  have HLL := Lib.hid hl
  clear hba hz hs h1 h2 h4 h5 hnd0 hnd1 hnd hle hk hsep hsz hl
  generalize hWA : w.alloc (.cells #[.int .i64 kind, .string key, .int .i64 val, .slice a len cap] 42) = wa at HBA hza HAL HAR HAS c0 c1 c2 c3
  have HWA := Lib.hid hWA
  have HZA := Lib.hid hza
  clear hWA hza
  by_cases k0 : kind = 0
  · subst k0
    go_enter Try.func14, Try.ntmps14
    go_wp2_with (fail)
    rw [HWA.out]
    refine (lput_any HAL.out HK.out val).mono ?_
    rintro e w2 ⟨L2, rfl, kl, kp, ko, ks⟩
    have d1 := ko.cell c1 HND.out.1
    have d2 := ko.cell c2 HND.out.1
    have H2 := Lib.hid (And.intro kl (And.intro kp (And.intro ko ks)))
    have HR2 := Lib.hid (HAR.out.off ko (fun b hb e => H12.out.2.2.1 b e hb))
    clear kl kp ko ks c0 c1 c2 c3
    go_wp2_with (fail)
    refine (rput_any HR2.out HNN.out.1 HNN.out.2 key val).mono ?_
    rintro e w3 ⟨rfl, v3, q1, q2, q3⟩
    have H3 := Lib.hid (And.intro q1 (And.intro q2 q3))
    clear q1 q2 q3 d1 d2
    go_wp2_with (fail)
    go_ret
    rw [deedA, if_pos rfl]
    exact ⟨rfl, both_step H12.out.1 H12.out.2.1 H12.out.2.2.1 H12.out.2.2.2 HBA.out H2.out.1 H2.out.2.2.1 H2.out.2.2.2 H3.out.1 H3.out.2.1 H3.out.2.2 H2.out.2.1⟩
  by_cases k1 : kind = 1
  · subst k1
    clear k0
    go_enter Try.func14, Try.ntmps14
    go_wp2_with (fail)
    rw [HWA.out]
    refine (lget_any HAL.out HK.out).mono ?_
    rintro e w2 ⟨L2, rfl, kl, kp, ko, ks⟩
    have d1 := ko.cell c1 HND.out.1
    have H2 := Lib.hid (And.intro kl (And.intro kp (And.intro ko ks)))
    have HR2 := Lib.hid (HAR.out.off ko (fun b hb e => H12.out.2.2.1 b e hb))
    clear kl kp ko ks c0 c1 c2 c3
    go_wp2_with (fail)
    refine (rget_any HR2.out HNN.out.1 key).mono ?_
    rintro e w3 ⟨rfl, v3, q1, q2, q3⟩
    have H3 := Lib.hid (And.intro q1 (And.intro q2 q3))
    clear q1 q2 q3 d1
    go_wp2_with (fail)
    go_ret
    rw [deedA, if_neg (by omega), if_pos rfl]
    exact ⟨rfl, both_step H12.out.1 H12.out.2.1 H12.out.2.2.1 H12.out.2.2.2 HBA.out H2.out.1 H2.out.2.2.1 (fun b hb => Or.inl (H2.out.2.2.2 b hb)) H3.out.1 H3.out.2.1 H3.out.2.2 H2.out.2.1⟩
  by_cases k2 : kind = 2
  · subst k2
    clear k0 k1
    go_enter Try.func14, Try.ntmps14
    go_wp2_with (fail)
    rw [HWA.out]
    refine (peek_any HAL.out.body HK.out).mono ?_
    rintro e w2 ⟨rfl, rfl⟩
    rw [has_pr, val_pr]
    go_wp2_with (fail)
    refine (rpeek_any HAR.out HNN.out.1 key).mono ?_
    rintro e w3 ⟨rfl, rfl⟩
    go_wp2_with (fail)
    go_ret
    rw [deedA, if_neg (by omega), if_neg (by omega), if_pos rfl]
    exact ⟨rfl, both_step H12.out.1 H12.out.2.1 H12.out.2.2.1 H12.out.2.2.2 HBA.out HAL.out (Off.refl _ _) (fun b hb => Or.inl hb) HAR.out (Off.refl _ _) (fun b hb => Or.inl hb) rfl⟩
  · have hd : deedA most (pr L) kind key val ss = (dropA (pr L) ss).1 := by rw [deedA, if_neg k0, if_neg k1, if_neg k2]
    have HD := Lib.hid hd
    have HS0 : Hid (wa.drew.cell? ⟨w.heap.size, 3, none⟩ = some (.slice a len cap)) := c3
    clear hd
    go_enter Try.func14, Try.ntmps14
    go_wp2_with (fail)
    rw [HWA.out]
    refine wp_region_held_drew (S := fun wx => wx.cell? ⟨w.heap.size, 3, none⟩ = some (.slice a len cap)) (by kernel_rfl) ?_ (fun hHeld => ?_)
    · exact HS0.out
    refine wpAnyH_take (i := 0) (v := ?_) rfl (by kernel_rfl) (by kernel_rfl) (by kernel_rfl) (fun _ _ _ h => h) (Or.inl ⟨by rfl, ?hy⟩) (by assumption) ?_
    case hy => intro w hSw; (try dsimp only at hSw); go_simp; try with_reducible rfl
    try simp only [Act.put, List.getElem_toArray, List.getElem_cons_succ, List.getElem_cons_zero, List.setIfInBounds_toArray, List.set_cons_zero, List.set_cons_succ]
    refine wpAnyH_take (i := 1) (v := ?_) rfl (by kernel_rfl) (by kernel_rfl) (by kernel_rfl) (fun _ _ _ h => h) (Or.inl ⟨by rfl, ?hy⟩) (by assumption) ?_
    case hy => intro w hSw; (try dsimp only at hSw); go_simp; try with_reducible rfl
    try simp only [Act.put, List.getElem_toArray, List.getElem_cons_succ, List.getElem_cons_zero, List.setIfInBounds_toArray, List.set_cons_zero, List.set_cons_succ]
    refine wpAnyH_take (i := 2) (v := ?_) rfl (by kernel_rfl) (by kernel_rfl) (by kernel_rfl) (fun _ _ _ h => h) (Or.inl ⟨by rfl, ?hy⟩) (by assumption) ?_
    case hy => intro w hSw; (try dsimp only at hSw); go_simp; try with_reducible rfl
    try simp only [Act.put, List.getElem_toArray, List.getElem_cons_succ, List.getElem_cons_zero, List.setIfInBounds_toArray, List.set_cons_zero, List.set_cons_succ]
    refine wpAnyH_take (i := 4) (v := ?_) rfl (by kernel_rfl) (by kernel_rfl) (by kernel_rfl) (fun _ _ _ h => h) (Or.inl ⟨by rfl, ?hy⟩) (by assumption) ?_
    case hy => intro w hSw; (try dsimp only at hSw); go_simp; try with_reducible rfl
    try simp only [Act.put, List.getElem_toArray, List.getElem_cons_succ, List.getElem_cons_zero, List.setIfInBounds_toArray, List.set_cons_zero, List.set_cons_succ]
    refine wpAnyH_take (i := 5) (v := ?_) rfl (by kernel_rfl) (by kernel_rfl) (by kernel_rfl) (fun _ _ _ h => h) (Or.inl ⟨by rfl, ?hy⟩) (by assumption) ?_
    case hy => intro w hSw; (try dsimp only at hSw); go_simp; try with_reducible rfl
    try simp only [Act.put, List.getElem_toArray, List.getElem_cons_succ, List.getElem_cons_zero, List.setIfInBounds_toArray, List.set_cons_zero, List.set_cons_succ]
    refine wpAnyH_take (i := 6) (v := ?_) rfl (by kernel_rfl) (by kernel_rfl) (by kernel_rfl) (fun _ _ _ h => h) (Or.inl ⟨by rfl, ?hy⟩) (by assumption) ?_
    case hy => intro w hSw; (try dsimp only at hSw); go_simp; try with_reducible rfl
    try simp only [Act.put, List.getElem_toArray, List.getElem_cons_succ, List.getElem_cons_zero, List.setIfInBounds_toArray, List.set_cons_zero, List.set_cons_succ]
    refine wpAnyH_ready (rs := [3]) (by kernel_rfl) (by simp) (AllReadyH.cons rfl (fun K hK => ?_) AllReadyH.nil)
    go_simp
    refine (ldrop_any (w := wa.drew) (HAL.out.below ((Below.refl _ _).drew)) a len cap ss HLL.out hm HAS.out (fun b off e hne hb => HSEP.out b off e hne ((H12.out.2.2.2 b).2 (Or.inl hb))) HSZ.out).mono ?_; rintro e w2 ⟨L2, rfl, kl, kp, ko, ks⟩; have H2 := Lib.hid (And.intro kl (And.intro kp (And.intro ko ks))); have HR2 := Lib.hid ((HAR.out.below (w' := wa.drew) ((Below.refl _ _).drew)).off ko (fun b hb e => H12.out.2.2.1 b e hb)); have HS2 : Hid (StrsAt w2 a ss) := strs_off (w := wa.drew) HAS.out ko (fun b off e hne hb => HSEP.out b off e hne ((H12.out.2.2.2 b).2 (Or.inl hb)))
    try (go_wp2_with fail)
    refine hK.out _ _ ?_ (fun hHeld => ?_)
    · exact H2.out.2.2.1.cell hHeld HND.out.1
    clear hK K
    try simp only [Act.put, List.getElem_toArray, List.getElem_cons_succ, List.getElem_cons_zero, List.setIfInBounds_toArray, List.set_cons_zero, List.set_cons_succ]
    refine wpAnyH_ready (rs := [7]) (by kernel_rfl) (by simp) (AllReadyH.cons rfl (fun K hK => ?_) AllReadyH.nil)
    go_simp
    refine (rdrop_any HR2.out HNN.out.1 a len cap ss HLL.out hm HS2.out (fun b off e hne hb => HSEP.out b off e hne ((H12.out.2.2.2 b).2 (Or.inr hb)))).mono ?_; rintro e w3 ⟨rfl, v3, q1, q2, q3⟩; have H3 := Lib.hid (And.intro q1 (And.intro q2 q3))
    try (go_wp2_with fail)
    refine hK.out _ _ ?_ (fun hHeld => ?_)
    · exact H3.out.2.1.cell hHeld HND.out.2
    clear hK K
    try simp only [Act.put, List.getElem_toArray, List.getElem_cons_succ, List.getElem_cons_zero, List.setIfInBounds_toArray, List.set_cons_zero, List.set_cons_succ]
    refine wpAnyH_take (i := 8) (v := ?_) rfl (by kernel_rfl) (by kernel_rfl) (by kernel_rfl) (fun _ _ _ h => h) (Or.inl ⟨by rfl, ?hy⟩) (by assumption) ?_
    case hy => intro w hSw; (try dsimp only at hSw); go_simp; try with_reducible rfl
    try simp only [Act.put, List.getElem_toArray, List.getElem_cons_succ, List.getElem_cons_zero, List.setIfInBounds_toArray, List.set_cons_zero, List.set_cons_succ]
    refine wpAnyH_take (i := 9) (v := ?_) rfl (by kernel_rfl) (by kernel_rfl) (by kernel_rfl) (fun _ _ _ h => h) (Or.inl ⟨by rfl, ?hy⟩) (by assumption) ?_
    case hy => intro w hSw; (try dsimp only at hSw); go_simp; try with_reducible rfl
    try simp only [Act.put, List.getElem_toArray, List.getElem_cons_succ, List.getElem_cons_zero, List.setIfInBounds_toArray, List.set_cons_zero, List.set_cons_succ]
    refine wpAnyH_done (by kernel_rfl) ?_ _
    go_wp2_with (fail)
    go_ret
    rw [HD.out]
    exact ⟨rfl, both_step H12.out.1 H12.out.2.1 H12.out.2.2.1 H12.out.2.2.2 (HBA.out.drew) H2.out.1 H2.out.2.2.1 (fun b hb => Or.inl (H2.out.2.2.2 b hb)) H3.out.1 H3.out.2.1 H3.out.2.2 H2.out.2.1⟩
end Go.Proofs.Ytidcbjgiohkidaa
