/- A region that draws its order, within a fence that lets every function by: what yields its value in every world that meets S may be taken first. -/
import Derived.OrdersIn
import Derived.OrdersHeld
import Derived.Deep.RegionHeld3
import Derived.TacticsIn
import Derived.Test.YtemlafbkkaloiaaGreatProg
namespace Go.Proofs.YtemlafbkkaloiaaGreat

set_option linter.unusedVariables false

section
variable {F : Fence} {n : Nat} {P : Program} {ops : Array Oper} {Q : Exit → Act → World → Prop} {S : World → Prop}

/-- No operation is a defer statement. -/
def noDeferB (ops : Array Oper) : Bool := ops.all (fun o => match o.op with | .defer _ => false | _ => true)
theorem noDefer_at (h : noDeferB ops = true) {i : Nat} {o : Oper} (hi : ops[i]? = some o) (ro : Option Nat) (ρ : Operand → Value) : Oper.semAt ro ρ o = execOp ρ o := by
  refine Oper.semAt_eq ro ρ o (fun c e => ?_)
  have hm : o ∈ ops := Array.mem_of_getElem? hi
  unfold noDeferB at h
  rw [Array.all_eq_true_iff_forall_mem] at h
  have := h o hm
  rw [e] at this
  cases this
theorem held_op {i : Nat} {o : Oper} {v : Value} {a : Act} (hF : ∀ f, F.fn f) (hnd : noDeferB ops = true) (hi : ops[i]? = some o) (hy : YieldsIf P ops S o v a)
    {K : Act → World → Prop} {w : World} (hS : S w) (h : K (a.put o.dst v) w) : wpOpIn F n P ops Q i K a w := by
  unfold wpOpIn
  simp only [hi]
  rcases hy with ⟨hw, hv⟩ | ⟨hw, rfl⟩
  · simp only [hw, if_true, Oper.wpIn, noDefer_at hnd hi, hv w hS, Oper.uponIn]
    exact ⟨fun f _ => hF f, h⟩
  · simp only [hw, Bool.false_eq_true, if_false]
    exact ⟨fun f _ => hF f, h⟩

theorem held_put {j : Nat} {oi oj : Oper} {v : Value} (hF : ∀ f, F.fn f) (hnd : noDeferB ops = true) (hj : ops[j]? = some oj) (hap : oi.apart ops oj = true)
    (hsi : ∀ cs b, oi.op ≠ .select cs b) (hsj : ∀ cs b, oj.op ≠ .select cs b) (hQ : ∀ c a w, Q (.panic c) (a.put oi.dst v) w → Q (.panic c) a w)
    {K : Act → World → Prop} {a : Act} {w : World} (hy : YieldsIf P ops S oi v a) (h : wpOpIn F n P ops Q j K (a.put oi.dst v) w) :
    wpOpIn F n P ops Q j (fun a' w' => YieldsIf P ops S oi v a' ∧ K (a'.put oi.dst v) w') a w := by
  obtain ⟨h1, h2, h3⟩ := Oper.apart_spec hap
  have keep : ∀ (a : Act), YieldsIf P ops S oi v a → ∀ u, YieldsIf P ops S oi v (a.put oj.dst u) := fun a hy u =>
    hy.of_same (execOp_put oi hsi a oj.dst u h3) (wanted_put oi a oj.dst u h3)
  have keepD : ∀ d, YieldsIf P ops S oi v { a with defers := d :: a.defers } := fun d => hy.of_same rfl rfl
  have hnj := fun ρ => noDefer_at hnd hj F.round ρ
  unfold wpOpIn at *
  simp only [hj] at *
  rw [wanted_put oj a oi.dst v h1] at h
  by_cases hw : Region.wanted oj (yielded ops a.tmps) = true
  · simp only [hw, if_true] at h ⊢
    unfold Oper.wpIn at *
    refine ⟨fun f _ => hF f, ?_⟩
    have h := h.2
    rw [hnj, execOp_put oj hsj a oi.dst v h1] at h
    rw [hnj]
    generalize (execOp a.eval oj).run P w = r at *
    cases r with
    | ok x w' =>
      cases x <;> simp only [Oper.uponIn] at h ⊢
      case value u => exact ⟨keep a hy u, by rw [← Act.put_comm a v u h2]; exact h⟩
      case skip => exact ⟨keep a hy _, by rw [← Act.put_comm a v undef h2]; exact h⟩
      case defer d =>
        refine ⟨keep _ (keepD d) _, ?_⟩
        rw [← Act.put_comm _ v undef h2, ← Act.put_defers]
        exact h
      case enter f args =>
        refine ⟨h.1, CallsIn.mono h.2 fun e w'' he => ?_⟩
        cases e with
        | returned u => exact ⟨keep a hy u, by rw [← Act.put_comm a v u h2]; exact he⟩
        | panicked c => exact hQ _ _ _ he
        | outgrown => exact he
      case row row args => exact ⟨h.1, RowsIn.mono h.2 fun u w'' he => ⟨keep a hy u, by rw [← Act.put_comm a v u h2]; exact he⟩⟩
      case round l f tmps assign body =>
        refine ⟨h.1, RoundIn.mono h.2 fun e w'' he => ?_⟩
        cases e with
        | returned u => exact ⟨keep a hy u, by rw [← Act.put_comm a v u h2]; exact he⟩
        | panicked c => exact hQ _ _ _ he
        | outgrown => exact he
    | halt x w' =>
      cases x <;> simp only [Oper.uponIn] at h ⊢
      case panic u => exact hQ _ _ _ h
  · simp only [hw] at h ⊢
    exact ⟨fun f _ => hF f, keep a hy _, by rw [← Act.put_comm a v undef h2]; exact h.2⟩

/-- Whatever is listed, what it waits for is. -/
def Clo (ops : Array Oper) (listed : Array Bool) : Prop := ∀ k o, ops[k]? = some o → listed.getD k false = true → ∀ e ∈ o.after, Region.binds .any e = true → listed.getD e.on false = true
theorem clo_start (ops : Array Oper) (n : Nat) : Clo ops (Array.replicate n false) := by
  intro k o _ hk
  exfalso
  simp [Array.getElem?_replicate] at hk
  split at hk <;> simp at hk
theorem Clo.list {listed : Array Bool} (h : Clo ops listed) {j : Nat} (hj : j ∈ Region.ready .any ops listed) : Clo ops (listed.setIfInBounds j true) := by
  intro k o ho hk e he hb
  by_cases e1 : j = k
  · subst e1
    obtain ⟨_, oj, hoj, hall⟩ := mem_ready.1 hj
    rw [hoj] at ho; cases ho
    exact getD_set_true (hall e he hb)
  · rw [getD_set_ne false e1] at hk
    exact getD_set_true (h k o ho hk e he hb)
/-- Does y wait for i? -/
def waitsB (ops : Array Oper) (i : Nat) : Nat → Nat → Bool
  | 0, _ => false
  | n + 1, y => match ops[y]? with
    | none => false
    | some o => o.after.any (fun e => Region.binds .any e && (e.on == i || waitsB ops i n e.on))
theorem waits_spec {i : Nat} {listed : Array Bool} (hc : Clo ops listed) : ∀ (n y : Nat) (o : Oper), ops[y]? = some o → waitsB ops i n y = true → (∀ e ∈ o.after, Region.binds .any e = true → listed.getD e.on false = true) → listed.getD i false = true
  | 0, y, o, _, h, _ => by simp [waitsB] at h
  | n + 1, y, o, ho, h, hall => by
    simp only [waitsB, ho] at h
    obtain ⟨k, hk, hb, hx⟩ : ∃ (k : Nat) (hk : k < o.after.size), Region.binds .any o.after[k] = true ∧ (o.after[k].on = i ∨ waitsB ops i n o.after[k].on = true) := by simpa using h
    have he : o.after[k] ∈ o.after := Array.getElem_mem hk
    generalize o.after[k] = e at *
    have hl := hall e he hb
    rcases hx with hx | hx
    · rw [← hx]; exact hl
    · cases hoe : ops[e.on]? with
      | none =>
        cases n with
        | zero => simp [waitsB] at hx
        | succ n => simp [waitsB, hoe] at hx
      | some oe => exact waits_spec hc n e.on oe hoe hx (hc e.on oe hoe hl)

/-- Till number y has come (none: always). -/
def Till (y : Option Nat) (listed : Array Bool) : Prop := ∀ z, y = some z → listed.getD z false = false
/-- Whatever order is drawn from here on; S holds behind every operation till number y has come. -/
def anyHeld (F : Fence) (n : Nat) (P : Program) (ops : Array Oper) (Q : Exit → Act → World → Prop) (y : Option Nat) (S : World → Prop) : Nat → Array Bool → Act → World → Prop
  | 0, listed, a, w => Region.ready .any ops listed = [] ∧ Q .normal a w
  | fuel + 1, listed, a, w =>
    (Region.ready .any ops listed = [] → Q .normal a w) ∧
    ∀ i ∈ Region.ready .any ops listed, wpOpIn F n P ops Q i (fun a' w' => (Till y (listed.setIfInBounds i true) → S w') ∧ anyHeld F n P ops Q y S fuel (listed.setIfInBounds i true) a' w') a w

theorem any_of_held {y : Option Nat} : ∀ (fuel : Nat) (listed : Array Bool) (a : Act) (w : World), anyHeld F n P ops Q y S fuel listed a w → wpAnyIn F n P .any ops Q fuel listed a w
  | 0, _, _, _, h => h
  | fuel + 1, _, _, _, h => ⟨h.1, fun i hi => wpOpIn_mono (fun a' w' h' => any_of_held fuel _ a' w' h'.2) (h.2 i hi)⟩

theorem held_first {i : Nat} {y : Option Nat} {oi : Oper} {v : Value} {T : World → Prop} {d : Nat} (hiy : ∀ z, y = some z → i ≠ z) (hT : (∀ w, T w) ∨ ((∀ z, y = some z → waitsB ops i d z = true) ∧ ∀ w, S w → T w)) (hF : ∀ f, F.fn f) (hnd : noDeferB ops = true) (hi : ops[i]? = some oi) (hsel : ∀ (j : Nat) (o : Oper) cs b, ops[j]? = some o → o.op ≠ .select cs b)
    (hQ : ∀ c a w, Q (.panic c) (a.put oi.dst v) w → Q (.panic c) a w) :
    ∀ (fuel : Nat) (listed : Array Bool) (a : Act) (w : World), Clo ops listed →
      (∀ j oj, ops[j]? = some oj → j ≠ i → listed.getD j true = false → (∀ e ∈ oj.after, Region.binds .any e = true → e.on ≠ i) → oi.apart ops oj = true) →
      i ∈ Region.ready .any ops listed → YieldsIf P ops T oi v a → T w → (Till y (listed.setIfInBounds i true) → S w) →
      anyHeld F n P ops Q y S fuel (listed.setIfInBounds i true) (a.put oi.dst v) w → anyHeld F n P ops Q y S (fuel + 1) listed a w := by
  intro fuel
  induction fuel with
  | zero =>
    intro listed a w _ _ hr hy hS hSi H
    refine ⟨fun h => (by rw [h] at hr; cases hr), fun j hj => ?_⟩
    by_cases hji : j = i
    · subst hji; exact held_op hF hnd hi hy hS ⟨hSi, H⟩
    · have := ready_mono hj hji
      rw [H.1] at this
      cases this
  | succ fuel ih =>
    intro listed a w hclo hfree hr hy hS hSi H
    refine ⟨fun h => (by rw [h] at hr; cases hr), fun j hj => ?_⟩
    by_cases hji : j = i
    · subst hji; exact held_op hF hnd hi hy hS ⟨hSi, H⟩
    · have h1 := H.2 j (ready_mono hj hji)
      obtain ⟨hjun, oj, hoj, hall⟩ := mem_ready.1 hj
      have hiun := (mem_ready.1 hr).1
      have hiunf : listed.getD i false = false := by
        simp only [Array.getD_eq_getD_getElem?] at hiun ⊢
        cases h : listed[i]? with
        | none => rfl
        | some b => rw [h] at hiun; exact hiun
      have hnot : ∀ e ∈ oj.after, Region.binds .any e = true → e.on ≠ i := fun e he hb heq => by
        have h1 := hall e he hb
        rw [heq, hiunf] at h1; cases h1
      have h2 := held_put hF hnd hoj (hfree j oj hoj hji hjun hnot) (fun cs b => hsel i oi cs b hi) (fun cs b => hsel j oj cs b hoj) hQ hy h1
      have hfree' : ∀ k ok, ops[k]? = some ok → k ≠ i → (listed.setIfInBounds j true).getD k true = false →
          (∀ e ∈ ok.after, Region.binds .any e = true → e.on ≠ i) → oi.apart ops ok = true := fun k ok hk hki hun hno => by
        refine hfree k ok hk hki ?_ hno
        by_cases hjk : j = k
        · subst hjk; exact hjun
        · rw [getD_set_ne true hjk] at hun; exact hun
      refine wpOpIn_mono (fun a' w' h3 => ?_) h2
      obtain ⟨h3y, h3S, h3H⟩ := h3
      have hcomm : (listed.setIfInBounds i true).setIfInBounds j true = (listed.setIfInBounds j true).setIfInBounds i true := Array.setIfInBounds_comm _ _ (Ne.symm hji)
      rw [hcomm] at h3S h3H
      have hTw : T w' := by
        rcases hT with hT | ⟨hwt, hST⟩
        · exact hT w'
        · refine hST w' (h3S (fun z hz => ?_))
          have hwt := hwt z hz
          have hiz := hiy z hz
          cases hyl : ((listed.setIfInBounds j true).setIfInBounds i true).getD z false with
          | false => rfl
          | true =>
            exfalso
            rw [getD_set_ne false hiz] at hyl
            by_cases hyj : j = z
            · subst hyj
              have := waits_spec hclo d j oj hoj hwt hall
              rw [hiunf] at this; cases this
            · rw [getD_set_ne false hyj] at hyl
              cases hoy : ops[z]? with
              | none =>
                cases d with
                | zero => simp [waitsB] at hwt
                | succ d => simp [waitsB, hoy] at hwt
              | some oy =>
                have := waits_spec hclo d z oy hoy hwt (hclo z oy hoy hyl)
                rw [hiunf] at this; cases this
      exact ⟨fun hyf => h3S (fun z hz => by rw [getD_set_ne false (hiy z hz)]; exact hyf z hz), ih (listed.setIfInBounds j true) a' w' (hclo.list hj) hfree' (ready_mono hr (Ne.symm hji)) h3y hTw h3S h3H⟩

/-- A walk of such a region: what is listed is closed. -/
def walkHeld (F : Fence) (n : Nat) (P : Program) (ops : Array Oper) (Q : Exit → Act → World → Prop) (y : Option Nat) (S : World → Prop) (fuel : Nat) (listed : Array Bool) (a : Act) (w : World) : Prop := Clo ops listed → anyHeld F n P ops Q y S fuel listed a w
theorem ready_of {i : Nat} {listed : Array Bool} (hr : (Region.ready .any ops listed).contains i = true) : i ∈ Region.ready .any ops listed := by simpa using hr
theorem held_take {i : Nat} {y : Option Nat} {oi : Oper} {v : Value} {fuel : Nat} {listed : Array Bool} {a : Act} {w : World} (hF : ∀ f, F.fn f) (hnd : noDeferB ops = true) (hi : ops[i]? = some oi) (hiy : ∀ z, y = some z → i ≠ z) (d : Nat) (hwt : ∀ z, y = some z → waitsB ops i d z = true)
    (hs : Region.noSelect ops = true) (hf : Region.free .any ops listed i = true) (hr : (Region.ready .any ops listed).contains i = true)
    (hQ : ∀ c a w, Q (.panic c) (a.put oi.dst v) w → Q (.panic c) a w) (hy : YieldsIf P ops S oi v a) (hS : S w)
    (h : walkHeld F n P ops Q y S fuel (listed.setIfInBounds i true) (a.put oi.dst v) w) : walkHeld F n P ops Q y S (fuel + 1) listed a w :=
  fun hc => held_first hiy (Or.inr ⟨hwt, fun _ h => h⟩) hF hnd hi (Region.noSelect_spec hs) hQ fuel listed a w hc (Region.free_spec hi hf) (ready_of hr) hy hS (fun _ => hS) (h (hc.list (ready_of hr)))
/-- .. what hangs on no world, or is not wanted. -/
theorem held_free {i : Nat} {y : Option Nat} {oi : Oper} {v : Value} {fuel : Nat} {listed : Array Bool} {a : Act} {w : World} (hF : ∀ f, F.fn f) (hnd : noDeferB ops = true) (hi : ops[i]? = some oi) (hiy : ∀ z, y = some z → i ≠ z)
    (hs : Region.noSelect ops = true) (hf : Region.free .any ops listed i = true) (hr : (Region.ready .any ops listed).contains i = true)
    (hQ : ∀ c a w, Q (.panic c) (a.put oi.dst v) w → Q (.panic c) a w) (hy : YieldsIf P ops (fun _ => True) oi v a) (hS : Till y listed → S w)
    (h : walkHeld F n P ops Q y S fuel (listed.setIfInBounds i true) (a.put oi.dst v) w) : walkHeld F n P ops Q y S (fuel + 1) listed a w :=
  fun hc => held_first (d := 0) hiy (Or.inl (fun _ => trivial)) hF hnd hi (Region.noSelect_spec hs) hQ fuel listed a w hc (Region.free_spec hi hf) (ready_of hr) hy trivial (fun h => hS (fun z hz => by have h := h z hz; rw [getD_set_ne false (hiy z hz)] at h; exact h)) (h (hc.list (ready_of hr)))
theorem held_one {y : Nat} {o : Oper} {fuel : Nat} {listed : Array Bool} {a : Act} {w : World} (hr : Region.ready .any ops listed = [y]) (ho : ops[y]? = some o) (hb : (listed.setIfInBounds y true).getD y false = true) (hw : Region.wanted o (yielded ops a.tmps) = true)
    (h : ∀ K' : Act → World → Prop, Shut (∀ a w, walkHeld F n P ops Q (some y) S fuel (listed.setIfInBounds y true) a w → K' a w) → Oper.wpIn F n P o a w K' Q) : walkHeld F n P ops Q (some y) S (fuel + 1) listed a w :=
  fun hc => ⟨fun h0 => absurd (hr ▸ h0) (by simp), fun j hj => by
    have hj2 := hj
    rw [hr] at hj
    obtain rfl := List.mem_singleton.1 hj
    unfold wpOpIn
    simp only [ho, hw, if_true]
    exact h _ (fun a w hW => ⟨fun e => (by have e := e j rfl; rw [hb] at e; cases e), hW (hc.list hj2)⟩)⟩
theorem held_skip {y : Nat} {o : Oper} {fuel : Nat} {listed : Array Bool} {a : Act} {w : World} (hF : ∀ f, F.fn f) (hr : Region.ready .any ops listed = [y]) (ho : ops[y]? = some o) (hb : (listed.setIfInBounds y true).getD y false = true) (hw : Region.wanted o (yielded ops a.tmps) = false)
    (h : walkHeld F n P ops Q (some y) S fuel (listed.setIfInBounds y true) (a.put o.dst undef) w) : walkHeld F n P ops Q (some y) S (fuel + 1) listed a w :=
  fun hc => ⟨fun h0 => absurd (hr ▸ h0) (by simp), fun j hj => by
    have hj2 := hj
    rw [hr] at hj
    obtain rfl := List.mem_singleton.1 hj
    unfold wpOpIn
    simp only [ho, hw, Bool.false_eq_true, if_false]
    exact ⟨fun f _ => hF f, fun e => (by have e := e j rfl; rw [hb] at e; cases e), h (hc.list hj2)⟩⟩
/-- A call, and S anew behind it. -/
theorem held_call {i : Nat} {y : Option Nat} {o : Oper} {fuel : Nat} {listed : Array Bool} {a : Act} {w : World} (hr : Region.ready .any ops listed = [i]) (ho : ops[i]? = some o) (hw : Region.wanted o (yielded ops a.tmps) = true)
    (h : ∀ K' : Act → World → Prop, Shut (∀ a w, S w → walkHeld F n P ops Q y S fuel (listed.setIfInBounds i true) a w → K' a w) → Oper.wpIn F n P o a w K' Q) : walkHeld F n P ops Q y S (fuel + 1) listed a w :=
  fun hc => ⟨fun h0 => absurd (hr ▸ h0) (by simp), fun j hj => by
    have hj2 := hj
    rw [hr] at hj
    obtain rfl := List.mem_singleton.1 hj
    unfold wpOpIn
    simp only [ho, hw, if_true]
    exact h _ (fun a w hS hW => ⟨fun _ => hS, hW (hc.list hj2)⟩)⟩
theorem held_done {y : Option Nat} {listed : Array Bool} {a : Act} {w : World} (hr : Region.ready .any ops listed = []) (h : Q .normal a w) :
    ∀ fuel, walkHeld F n P ops Q y S fuel listed a w
  | 0 => fun _ => ⟨hr, h⟩
  | _ + 1 => fun _ => ⟨fun _ => h, by rw [hr]; simp⟩
theorem held_region {y : Option Nat} {id : Nat} {a : Act} {w : World} (hm : P.follows .mixedOrders = true) (hS : S w.drew)
    (h : S w.drew → walkHeld F n P ops Q y S ops.size (Array.replicate ops.size false) a w.drew) : (Code.region id ops true).wpIn F n P Q a w :=
  wpIn_region_any hm (any_of_held _ _ _ _ (h hS (clo_start _ _)))
theorem wpIn_region_noPanic {id : Nat} {b : Bool} {a : Act} {w : World} (h : (Code.region id ops b).wpIn F n P (NoPanic Q) a w) : (Code.region id ops b).wpIn F n P Q a w :=
  Code.wpIn_mono NoPanic.imp h
/-- A round of the loop's body: by yield. -/
theorem yield_op {o : Oper} {a : Act} {w : World} {K : Act → World → Prop} {l : Nat} {fn : FuncId} {tmps : Array Value} {assign body : Code} {R : Ending → World → Prop} (hF : ∀ f, F.fn f) (hro : F.round = none) (hn : 1 ≤ n)
    (hx : (execOp a.eval o).run P w = .ok (.round l fn tmps assign body) w) (hr : RoundIn F (n - 1) P l fn tmps assign body w R)
    (hK : ∀ v w', R (.returned v) w' → K (a.put o.dst v) w') (hR : ∀ e w', R e w' → ∃ v, e = .returned v) : Oper.wpIn F n P o a w K Q := by
  refine ⟨fun f _ => hF f, ?_⟩
  rw [hro, Oper.semAt_none, hx]
  simp only [Oper.uponIn]
  refine ⟨fun _ => hn, RoundIn.mono hr fun e w' he => ?_⟩
  obtain ⟨v, rfl⟩ := hR e w' he
  exact hK v w' he
end
end Go.Proofs.YtemlafbkkaloiaaGreat
