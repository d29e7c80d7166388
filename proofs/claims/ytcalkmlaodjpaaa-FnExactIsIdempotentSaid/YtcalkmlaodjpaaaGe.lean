/- Regions whose order of evaluation is drawn: an operation that only reads may be taken first, if whatever else runs before it leaves what is there as it is. Over any program; nothing is claimed of the given one. -/
import Derived.Test.YtcalkmlaodjpaaaGh
import Derived.OrdersHeld
namespace Go.Proofs.Ytcalkmlaodjpaaa.G
open Go.RowKit
set_option linter.unusedVariables false

section
variable {P : Program} {ops : Array Oper} {Q : Exit → Act → World → Prop} {md : Region.Mode}

/-- in this state and in whatever later world the operation yields v and leaves that world -/
def YieldsL (P : Program) (ops : Array Oper) (o : Oper) (v : Value) (a : Act) (w : World) : Prop :=
  (Region.wanted o (yielded ops a.tmps) = true ∧ ∀ w', Later w w' → (execOp a.eval o).run P w' = .ok (.value v) w') ∨
  (Region.wanted o (yielded ops a.tmps) = false ∧ v = undef)

theorem YieldsL.later {o : Oper} {v : Value} {a : Act} {w w' : World} (h : YieldsL P ops o v a w) (hl : Later w w') : YieldsL P ops o v a w' :=
  h.imp (fun ⟨hw, hv⟩ => ⟨hw, fun w2 h2 => hv w2 (hl.trans h2)⟩) id
theorem YieldsL.wpOp {i : Nat} {o : Oper} {v : Value} {a : Act} {w : World} (hi : ops[i]? = some o) (hy : YieldsL P ops o v a w)
    {K : Act → World → Prop} (h : K (a.put o.dst v) w) : wpOp P ops Q i K a w := by
  unfold Go.wpOp
  simp only [hi]
  rcases hy with ⟨hw, hv⟩ | ⟨hw, rfl⟩
  · simp only [hw, if_true, Oper.wp, hv w (Later.refl w), Oper.upon]; exact .inl h
  · simp only [hw, Bool.false_eq_true, if_false]; exact h
theorem YieldsL.of_same {o : Oper} {v : Value} {a a' : Act} {w : World} (hy : YieldsL P ops o v a w) (he : execOp a'.eval o = execOp a.eval o)
    (hw : Region.wanted o (yielded ops a'.tmps) = Region.wanted o (yielded ops a.tmps)) : YieldsL P ops o v a' w := by
  unfold YieldsL at *
  rw [he, hw]
  exact hy

theorem wpOp_putY (Y : Act → Prop) {j : Nat} {oi oj : Oper} {v : Value} (hj : ops[j]? = some oj) (hap : oi.apart ops oj = true)
    (hsi : ∀ cs b, oi.op ≠ .select cs b) (hsj : ∀ cs b, oj.op ≠ .select cs b)
    (hQ : ∀ c a w, Q (.panic c) (a.put oi.dst v) w → Q (.panic c) a w) {K : Act → World → Prop} {a : Act} {w : World}
    (keep : ∀ (a : Act), Y a → ∀ u, Y (a.put oj.dst u)) (keepd : ∀ (a : Act), Y a → ∀ d, Y { a with defers := d :: a.defers })
    (hy : Y a) (h : wpOp P ops Q j K (a.put oi.dst v) w) :
    wpOp P ops Q j (fun a' w' => Y a' ∧ K (a'.put oi.dst v) w') a w := by
  obtain ⟨h1, h2, h3⟩ := Oper.apart_spec hap
  have keepD : ∀ d, Y { a with defers := d :: a.defers } := fun d => keepd a hy d
  unfold wpOp at *
  simp only [hj] at *
  rw [wanted_put oj a oi.dst v h1] at h
  split
  · rename_i hw
    simp only [hw, if_true] at h
    rcases h with h | ⟨hasks, hlets⟩
    case inr => exact .inr ⟨by unfold Oper.asks at *; rw [execOp_put oj hsj a oi.dst v h1] at hasks; exact hasks, hlets⟩
    refine .inl ?_
    unfold Oper.wp at *
    rw [execOp_put oj hsj a oi.dst v h1] at h
    generalize (execOp a.eval oj).run P w = r at *
    cases r with
    | ok n w' =>
      cases n <;> simp only [Oper.upon] at h ⊢
      case value u => exact ⟨keep a hy u, by rw [← Act.put_comm a v u h2]; exact h⟩
      case skip => exact ⟨keep a hy _, by rw [← Act.put_comm a v undef h2]; exact h⟩
      case defer d =>
        refine ⟨keep _ (keepD d) _, ?_⟩
        rw [← Act.put_comm _ v undef h2, ← Act.put_defers]
        exact h
      case enter f args =>
        refine Calls.mono h fun e w'' he => ?_
        cases e with
        | returned u => exact ⟨keep a hy u, by rw [← Act.put_comm a v u h2]; exact he⟩
        | panicked c => exact hQ _ _ _ he
        | outgrown => exact he
      case row row args => exact Rows.mono h fun u w'' he => ⟨keep a hy u, by rw [← Act.put_comm a v u h2]; exact he⟩
    | halt x w' =>
      cases x <;> simp only [Oper.upon] at h ⊢
      case panic u => exact hQ _ _ _ h
  · rename_i hw
    simp only [hw] at h
    exact ⟨keep a hy _, by rw [← Act.put_comm a v undef h2]; exact h⟩

/-- it yields v, now and in later worlds, or (pu) in whatever world -/
def YD (P : Program) (ops : Array Oper) (o : Oper) (v : Value) (pu : Bool) (a : Act) (w : World) : Prop := match pu with
  | true => ∀ w', YieldsL P ops o v a w'
  | false => YieldsL P ops o v a w
theorem YD.now {o : Oper} {v : Value} {pu : Bool} {a : Act} {w : World} (h : YD P ops o v pu a w) : YieldsL P ops o v a w := by
  cases pu with
  | true => exact h w
  | false => exact h
theorem YD.later {o : Oper} {v : Value} {pu : Bool} {a : Act} {w w' : World} (h : YD P ops o v pu a w) (hl : pu = false → Later w w') : YD P ops o v pu a w' := by
  cases pu with
  | true => exact h
  | false => exact YieldsL.later h (hl rfl)
theorem wpOp_putL {pu : Bool} {j : Nat} {oi oj : Oper} {v : Value} (hj : ops[j]? = some oj) (hap : oi.apart ops oj = true)
    (hsi : ∀ cs b, oi.op ≠ .select cs b) (hsj : ∀ cs b, oj.op ≠ .select cs b)
    (hQ : ∀ c a w, Q (.panic c) (a.put oi.dst v) w → Q (.panic c) a w) {K : Act → World → Prop} {a : Act} {w : World}
    (hy : YD P ops oi v pu a w) (h : wpOp P ops Q j K (a.put oi.dst v) w) :
    wpOp P ops Q j (fun a' w' => YD P ops oi v pu a' w ∧ K (a'.put oi.dst v) w') a w := by
  obtain ⟨h1, h2, h3⟩ := Oper.apart_spec hap
  refine wpOp_putY (fun a => YD P ops oi v pu a w) hj hap hsi hsj hQ (fun a hy u => ?_) (fun a hy d => ?_) hy h
  · cases pu with
    | true => exact fun w' => (hy w').of_same (execOp_put oi hsi a oj.dst u h3) (wanted_put oi a oj.dst u h3)
    | false => exact YieldsL.of_same hy (execOp_put oi hsi a oj.dst u h3) (wanted_put oi a oj.dst u h3)
  · cases pu with
    | true => exact fun w' => (hy w').of_same rfl rfl
    | false => exact YieldsL.of_same hy rfl rfl
/-- operation j waits for operation i, perhaps by others between them -/
def needs (md : Region.Mode) (ops : Array Oper) : Nat → Nat → Nat → Bool
  | 0, _, _ => false
  | f + 1, j, i => match ops[j]? with
    | some o => o.after.any fun e => Region.binds md e && (Nat.beq e.on i || needs md ops f e.on i)
    | none => false
/-- operations from number m on wait for all loads among the first m -/
def isLoad (ops : Array Oper) (i : Nat) : Bool := match ops[i]? with
  | some o => (match o.op with | .load _ _ => true | _ => false)
  | none => false
def tailOk (md : Region.Mode) (m : Nat) (ops : Array Oper) : Bool :=
  (List.range ops.size).all fun j => bif Nat.blt j m then true else (List.range m).all fun i => bif isLoad ops i then needs md ops ops.size j i else true
/-- what is listed has been waited for -/
def Closed (md : Region.Mode) (ops : Array Oper) (listed : Array Bool) : Prop :=
  ∀ (a : Nat) oa, ops[a]? = some oa → listed.getD a false = true → ∀ e ∈ oa.after, Region.binds md e = true → listed.getD e.on false = true
theorem Closed.start : Closed md ops (Array.replicate ops.size false) := fun a oa ha hl => by
  have hlt := (Array.getElem?_eq_some_iff.1 ha).1
  simp [hlt] at hl
theorem getD_set_true {l : Array Bool} {i j : Nat} (h : l.getD j false = true) : (l.setIfInBounds i true).getD j false = true := by
  by_cases hj : j < l.size
  · by_cases e : i = j
    · subst e; simp [hj]
    · simp [hj] at h ⊢
      rw [Array.getElem_setIfInBounds_ne]
      · exact h
      · exact e
  · simp [Array.getElem?_eq_none (Nat.le_of_not_lt hj)] at h
theorem Closed.set {listed : Array Bool} (h : Closed md ops listed) {i : Nat} (hi : i ∈ Region.ready md ops listed) : Closed md ops (listed.setIfInBounds i true) := fun a oa ha hl e he hb => by
  obtain ⟨hun, o, ho, hall⟩ := mem_ready.1 hi
  by_cases hai : a = i
  · subst hai
    rw [ho] at ha
    simp only [Option.some.injEq] at ha
    subst ha
    exact getD_set_true (hall e he hb)
  · refine getD_set_true (h a oa ha ?_ e he hb)
    by_cases hj : a < listed.size
    · simp [hj] at hl ⊢
      rwa [Array.getElem_setIfInBounds_ne _ (fun e => hai e.symm)] at hl
    · rw [Array.getD_eq_getD_getElem?, Array.getElem?_eq_none (by simpa using hj)] at hl
      simp at hl
theorem needs_listed {listed : Array Bool} (h : Closed md ops listed) : ∀ (f j : Nat) (oj : Oper) (i : Nat), ops[j]? = some oj → (∀ e ∈ oj.after, Region.binds md e = true → listed.getD e.on false = true) → needs md ops f j i = true → listed.getD i false = true
  | 0, _, _, _, _, _, hn => by simp [needs] at hn
  | f + 1, j, oj, i, hj, hall, hn => by
    simp only [needs, hj] at hn
    obtain ⟨e, he, hb⟩ := Array.any_eq_true'.1 hn
    rw [Bool.and_eq_true, Bool.or_eq_true] at hb
    have h1 := hall e he hb.1
    rcases hb.2 with h2 | h2
    · rw [← Nat.eq_of_beq_eq_true h2]; exact h1
    · cases ho : ops[e.on]? with
      | none =>
        cases f with
        | zero => simp [needs] at h2
        | succ f => simp [needs, ho] at h2
      | some oe => exact needs_listed h f e.on oe i ho (h e.on oe ho h1) h2

/-- whatever order is picked from here on; the first m operations leave what is there as it is -/
def wpAnyL (P : Program) (md : Region.Mode) (m : Nat) (ops : Array Oper) (Q : Exit → Act → World → Prop) : Nat → Array Bool → Act → World → Prop
  | 0, listed, a, w => Region.ready md ops listed = [] ∧ Q .normal a w
  | fuel + 1, listed, a, w =>
    (Region.ready md ops listed = [] → Q .normal a w) ∧
    ∀ i ∈ Region.ready md ops listed, wpOp P ops Q i (fun a' w' => (m ≤ i ∨ Later w w') ∧ wpAnyL P md m ops Q fuel (listed.setIfInBounds i true) a' w') a w

theorem wpAny_of_later {m : Nat} : ∀ (fuel : Nat) (listed : Array Bool) (a : Act) (w : World), wpAnyL P md m ops Q fuel listed a w → wpAny P md ops Q fuel listed a w
  | 0, _, _, _, h => h
  | fuel + 1, _, _, _, h => ⟨h.1, fun i hi => wpOp_mono (fun a' w' h' => wpAny_of_later fuel _ a' w' h'.2) (h.2 i hi)⟩

theorem tailOk_spec {m i j : Nat} (h : tailOk md m ops = true) (hld : isLoad ops i = true) (him : i < m) (hjm : m ≤ j) {oj : Oper} (hj : ops[j]? = some oj) : needs md ops ops.size j i = true := by
  unfold tailOk at h
  rw [List.all_eq_true] at h
  have h1 := h j (List.mem_range.2 (Array.getElem?_eq_some_iff.1 hj).1)
  have hb : Nat.blt j m = false := by rw [← Bool.not_eq_true, Nat.blt_eq]; omega
  simp only [hb, cond_false] at h1
  rw [List.all_eq_true] at h1
  have h2 := h1 i (List.mem_range.2 him)
  rwa [hld, cond_true] at h2

theorem upon_mono {o : Oper} {a : Act} {K K' : Act → World → Prop} {Q Q' : Exit → Act → World → Prop} {r : Result Next} (h : ∀ a w, K a w → K' a w) (hq : ∀ e a w, e ≠ .normal → Q e a w → Q' e a w)
    (hh : o.upon P a K Q r) : o.upon P a K' Q' r := by
  unfold Oper.upon at *
  split at hh
  · exact h _ _ hh
  · exact h _ _ hh
  · exact h _ _ hh
  · refine Calls.mono hh fun e w'' he => ?_
    cases e with
    | returned v => exact h _ _ he
    | panicked c => exact hq _ _ _ (by simp) he
    | outgrown => obtain ⟨a0, w0, h0⟩ := he; exact ⟨a0, w0, hq _ _ _ (by simp) h0⟩
  · exact Rows.mono hh fun v w'' he => h _ _ he
  · exact hq _ _ _ (by simp) hh
  · exact hh.elim

theorem wpAnyL_first {pu : Bool} {m : Nat} {i : Nat} (him : pu = false → i < m ∧ isLoad ops i = true) (htail : tailOk md m ops = true) {oi : Oper} {v : Value} (hi : ops[i]? = some oi) (hsel : ∀ (j : Nat) (o : Oper) cs b, ops[j]? = some o → o.op ≠ .select cs b)
    (hQ : ∀ c a w, Q (.panic c) (a.put oi.dst v) w → Q (.panic c) a w) :
    ∀ (fuel : Nat) (listed : Array Bool) (a : Act) (w : World), Closed md ops listed →
      (∀ j oj, ops[j]? = some oj → j ≠ i → listed.getD j true = false → (∀ e ∈ oj.after, Region.binds md e = true → e.on ≠ i) → oi.apart ops oj = true) →
      i ∈ Region.ready md ops listed → YD P ops oi v pu a w →
      wpAnyL P md m ops Q fuel (listed.setIfInBounds i true) (a.put oi.dst v) w → wpAnyL P md m ops Q (fuel + 1) listed a w := by
  intro fuel
  induction fuel with
  | zero =>
    intro listed a w _ _ hr hy H
    refine ⟨fun h => (by rw [h] at hr; cases hr), fun j hj => ?_⟩
    by_cases hji : j = i
    · subst hji; exact hy.now.wpOp hi ⟨.inr (Later.refl w), H⟩
    · have := ready_mono hj hji
      rw [H.1] at this
      cases this
  | succ fuel ih =>
    intro listed a w hcl hfree hr hy H
    refine ⟨fun h => (by rw [h] at hr; cases hr), fun j hj => ?_⟩
    by_cases hji : j = i
    · subst hji; exact hy.now.wpOp hi ⟨.inr (Later.refl w), H⟩
    · have h1 := H.2 j (ready_mono hj hji)
      obtain ⟨hjun, oj, hoj, hall⟩ := mem_ready.1 hj
      have hun0 := (mem_ready.1 hr).1
      have hnot : ∀ e ∈ oj.after, Region.binds md e = true → e.on ≠ i := fun e he hb heq => by
        have h1 := hall e he hb
        rw [heq] at h1
        rcases Nat.lt_or_ge i listed.size with h' | h'
        · simp [h'] at hun0 h1; rw [hun0] at h1; cases h1
        · simp [Array.getElem?_eq_none h'] at h1
      have h2 := wpOp_putL hoj (hfree j oj hoj hji hjun hnot) (fun cs b => hsel i oi cs b hi) (fun cs b => hsel j oj cs b hoj) hQ hy h1
      have hfree' : ∀ k ok, ops[k]? = some ok → k ≠ i → (listed.setIfInBounds j true).getD k true = false →
          (∀ e ∈ ok.after, Region.binds md e = true → e.on ≠ i) → oi.apart ops ok = true := fun k ok hk hki hun hno => by
        refine hfree k ok hk hki ?_ hno
        by_cases hjk : j = k
        · subst hjk; exact hjun
        · rw [getD_set_ne true hjk] at hun; exact hun
      have hjm : pu = false → ¬ m ≤ j := fun hpu hjm => by
        have hL := needs_listed hcl _ j oj i hoj hall (tailOk_spec htail (him hpu).2 (him hpu).1 hjm hoj)
        rcases Nat.lt_or_ge i listed.size with h' | h'
        · simp [h'] at hun0 hL; rw [hun0] at hL; cases hL
        · simp [Array.getElem?_eq_none h'] at hL
      refine wpOp_mono (fun a' w' h3 => ?_) h2
      refine ⟨h3.2.1, ih (listed.setIfInBounds j true) a' w' (hcl.set hj) hfree' (ready_mono hr (Ne.symm hji)) (h3.1.later fun hpu => h3.2.1.resolve_left (hjm hpu)) ?_⟩
      rw [Array.setIfInBounds_comm _ _ hji]
      exact h3.2.2

/-! ### in terms of the slots -/
class NoPan (Q : Exit → Env → World → Prop) : Prop where
  h : ∀ c E w, ¬ Q (.panic c) E w
instance (K : Env → World → Prop) (Q : Exit → Env → World → Prop) [hQ : NoPan Q] : NoPan (Th K Q) := ⟨fun c E w h => hQ.h c E w h⟩
instance (id : Nat) (Q : Exit → Env → World → Prop) [hQ : NoPan Q] : NoPan (Bk id Q) := ⟨fun c E w h => hQ.h c E w h⟩
instance (P : Program) (fn : Func) (R : Value → World → Prop) : NoPan (Fin P fn R) := ⟨fun _ _ _ h => h⟩

/-- the slots' own: a region in whatever order, the operations in 'listed' done -/
def RgA (P : Program) (n m : Nat) (ops : Array Oper) (fuel : Nat) (listed : Array Bool) (Q : Exit → Env → World → Prop) (E : Env) (w : World) : Prop :=
  (Region.noSelect ops && tailOk .any m ops) = true → Closed .any ops listed → ∀ a, Fits n a E → wpAnyL P .any m ops (Up n Q) fuel listed a w

variable {n m : Nat} {fuel : Nat} {listed : Array Bool} {E : Env} {w : World}

theorem Wp.draw {Q : Exit → Env → World → Prop} {id : Nat} (m : Nat) (hm : P.follows .mixedOrders = true) (hst : (Region.noSelect ops && tailOk .any m ops) = true)
    (h : RgA P n m ops ops.size (Array.replicate ops.size false) Q E w.drew) : Wp P n (.region id ops true) Q E w := by
  unfold Wp
  intro a ha
  exact wp_region_any hm (wpAny_of_later _ _ _ _ (h hst Closed.start a ha))

theorem RgA.nil {Q : Exit → Env → World → Prop} (hr : Region.ready .any ops listed = []) (h : Q .normal E w) : RgA P n m ops fuel listed Q E w := fun hst hcl a ha => by
  cases fuel with
  | zero => exact ⟨hr, E, ha, h⟩
  | succ f => exact ⟨fun _ => ⟨E, ha, h⟩, by rw [hr]; simp⟩

/-- take number i first: a load -/
theorem RgA.take {Q : Exit → Env → World → Prop} [hQ : NoPan Q] (i : Nat) {o : Oper} {v : Value} (ho : ops[i]? = some o)
    (hc : (Nat.blt i m && isLoad ops i && Region.free .any ops listed i && (Region.ready .any ops listed).contains i) = true)
    (hs : Sil P E o v w) (hw : want n ops o E = true) (hd : fits n o.dst = true) (h : RgA P n m ops fuel (listed.setIfInBounds i true) Q (put E o.dst v) w) :
    RgA P n m ops (fuel + 1) listed Q E w := fun hst hcl a ha => by
  simp only [Bool.and_eq_true] at hc
  obtain ⟨⟨⟨h1, h0⟩, h4⟩, h5⟩ := hc
  obtain ⟨h2, h3⟩ := by rw [Bool.and_eq_true] at hst; exact hst
  refine wpAnyL_first (pu := false) (fun _ => ⟨by rwa [Nat.blt_eq] at h1, h0⟩) h3 ho (Region.noSelect_spec h2) ?_ fuel listed a w hcl (Region.free_spec ho h4) (by simpa using h5) ?_ (h hst (hcl.set (by simpa using h5)) _ (ha.put' hd v))
  · intro c a w ⟨E, _, hp⟩; exact absurd hp (hQ.h _ _ _)
  · refine .inl ⟨by rw [want_eq ha]; exact hw, fun w' hl => ?_⟩
    rw [ha.eval]
    unfold Sil at hs
    exact hs w' hl
/-- one that does not look at memory -/
theorem RgA.pure {Q : Exit → Env → World → Prop} [hQ : NoPan Q] (i : Nat) {o : Oper} {v : Value} (ho : ops[i]? = some o)
    (hc : (Region.free .any ops listed i && (Region.ready .any ops listed).contains i) = true)
    (hs : ∀ w, Sil P E o v w) (hw : want n ops o E = true) (hd : fits n o.dst = true) (h : RgA P n m ops fuel (listed.setIfInBounds i true) Q (put E o.dst v) w) :
    RgA P n m ops (fuel + 1) listed Q E w := fun hst hcl a ha => by
  simp only [Bool.and_eq_true] at hc
  obtain ⟨h4, h5⟩ := hc
  obtain ⟨h2, h3⟩ := by rw [Bool.and_eq_true] at hst; exact hst
  refine wpAnyL_first (pu := true) (fun h => by cases h) h3 ho (Region.noSelect_spec h2) ?_ fuel listed a w hcl (Region.free_spec ho h4) (by simpa using h5) ?_ (h hst (hcl.set (by simpa using h5)) _ (ha.put' hd v))
  · intro c a w ⟨E, _, hp⟩; exact absurd hp (hQ.h _ _ _)
  · intro w'
    refine .inl ⟨by rw [want_eq ha]; exact hw, fun w2 hl => ?_⟩
    rw [ha.eval]
    have := hs w'
    unfold Sil at this
    exact this w2 hl
/-- one that is not wanted -/
theorem RgA.skip {Q : Exit → Env → World → Prop} [hQ : NoPan Q] (i : Nat) {o : Oper} (ho : ops[i]? = some o)
    (hc : (Region.free .any ops listed i && (Region.ready .any ops listed).contains i) = true)
    (hw : want n ops o E = false) (hd : fits n o.dst = true) (h : RgA P n m ops fuel (listed.setIfInBounds i true) Q (put E o.dst undef) w) :
    RgA P n m ops (fuel + 1) listed Q E w := fun hst hcl a ha => by
  simp only [Bool.and_eq_true] at hc
  obtain ⟨h4, h5⟩ := hc
  obtain ⟨h2, h3⟩ := by rw [Bool.and_eq_true] at hst; exact hst
  refine wpAnyL_first (pu := true) (fun h => by cases h) h3 ho (Region.noSelect_spec h2) ?_ fuel listed a w hcl (Region.free_spec ho h4) (by simpa using h5) ?_ (h hst (hcl.set (by simpa using h5)) _ (ha.put' hd undef))
  · intro c a w ⟨E, _, hp⟩; exact absurd hp (hQ.h _ _ _)
  · exact fun w' => .inr ⟨by rw [want_eq ha]; exact hw, rfl⟩
theorem tk {Q : Exit → Env → World → Prop} [hQ : NoPan Q] (i : Nat) {o : Oper} {v : Value} (ho : ops[i]? = some o)
    (hc : (Region.free .any ops listed i && (Region.ready .any ops listed).contains i) = true)
    (hs : ∀ w, Sil P E o v w) (hw : want n ops o E = true) (hd : fits n o.dst = true) (h : RgA P n m ops fuel (listed.setIfInBounds i true) Q (put E o.dst v) w) :
    RgA P n m ops (fuel + 1) listed Q E w := RgA.pure i ho hc hs hw hd h
/-- the only one that may come up, by the rule for a list of one -/
theorem RgA.only {Q : Exit → Env → World → Prop} (i : Nat) {o : Oper} (ho : ops[i]? = some o) (hr : Region.ready .any ops listed = [i])
    (h : Rg P n ops [o] (Th (fun E' w' => (m ≤ i ∨ Later w w') ∧ RgA P n m ops fuel (listed.setIfInBounds i true) Q E' w') Q) E w) :
    RgA P n m ops (fuel + 1) listed Q E w := fun hst hcl a ha => by
  have hcl' : Closed .any ops (listed.setIfInBounds i true) := hcl.set (by rw [hr]; simp)
  refine ⟨fun h0 => (by rw [hr] at h0; cases h0), fun j hj => ?_⟩
  rw [hr] at hj
  obtain rfl : j = i := by simpa using hj
  unfold Rg at h
  have h1 := h a ha
  unfold wpList at h1
  unfold wpOp
  simp only [ho]
  split
  · rename_i hw
    rw [if_pos hw] at h1
    rcases h1 with h1 | ⟨h1, a0, w0, E0, hE0, hq⟩
    · refine .inl ?_
      unfold Oper.wp at *
      refine upon_mono ?_ ?_ h1
      · intro a' w' ⟨E', hf', hq⟩; exact ⟨hq.1, hq.2 hst hcl' a' hf'⟩
      · intro e a' w' hne ⟨E', hf', hq⟩
        refine ⟨E', hf', ?_⟩
        cases e <;> first | exact hq | exact absurd rfl hne
    · exact .inr ⟨h1, a0, w0, E0, hE0, hq⟩
  · rename_i hw
    rw [if_neg hw] at h1
    obtain ⟨E', hf', hq⟩ := h1
    exact ⟨hq.1, hq.2 hst hcl' _ hf'⟩
end
attribute [irreducible] RgA
theorem jT {K : Env → World → Prop} {Q : Exit → Env → World → Prop} {e : Exit} {E : Env} {w : World} (h : Th K Q e E w) : Th K Q e E w := h
theorem jO {i : Nat} {Q : Exit → Env → World → Prop} {e : Exit} {E : Env} {w : World} (h : Bk i Q e E w) : Bk i Q e E w := h
end Go.Proofs.Ytcalkmlaodjpaaa.G
