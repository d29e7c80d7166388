/- Rules for walking the code of a function with its slots as a function from numbers to values: control flow, regions, contracts of calls. Over any program; nothing is claimed of the given one. -/
import Derived.WalkKit
import Derived.ProofKit
import Derived.Orders
import Derived.Deep.LoopGhost
namespace Go.Proofs.Ytcalkmlaodjpaaa.G
open Go.RowKit
set_option linter.unusedVariables false

abbrev Env := Nat → Value
def upd (E : Env) (d : Nat) (v : Value) : Env := fun t => bif Nat.beq t d then v else E t
/-- the slots at a call's start -/
def fr (l : List Value) : Env := fun t => l.getD t undef
def ev (E : Env) : Operand → Value
  | .tmp t => E t
  | .const v => v
  | .global g => .pointer (some ⟨g, 0, none⟩)
  | .func f => .func (.func f) #[] #[]

theorem intEq {a b : Int} (h : a = b) : Value.int .i64 a = .int .i64 b := by rw [h]
theorem boolEq {a b : Bool} (h : a = b) : Value.bool a = .bool b := by rw [h]
theorem ltB {a b : Nat} (h : Nat.blt a b = true) : a < b := by rwa [Nat.blt_eq] at h
theorem leB {a b : Nat} (h : Nat.ble a b = true) : a ≤ b := Nat.le_of_ble_eq_true h
theorem upd_same (E : Env) (d : Nat) (v : Value) : upd E d v d = v := by simp [upd]
theorem upd_ne (E : Env) {d t : Nat} (v : Value) (h : t ≠ d) : upd E d v t = E t := by
  have : Nat.beq t d = false := by rw [← Bool.not_eq_true]; intro hb; exact h (Nat.eq_of_beq_eq_true hb)
  simp [upd, this]

structure Fits (n : Nat) (a : Act) (E : Env) : Prop where
  size : a.tmps.size = n
  defers : a.defers = []
  get : ∀ t, a.tmps.getD t undef = E t

theorem Fits.eval {n : Nat} {a : Act} {E : Env} (h : Fits n a E) : a.eval = ev E := by
  funext x
  cases x with
  | tmp t => exact h.get t
  | const v => rfl
  | global g => rfl
  | func f => rfl

theorem Fits.put {n : Nat} {a : Act} {E : Env} (h : Fits n a E) {d : Nat} (hd : d < n) (v : Value) : Fits n (a.put (some d) v) (upd E d v) := by
  refine ⟨by simp [Act.put, h.size], h.defers, fun t => ?_⟩
  by_cases e : t = d
  · subst e
    rw [upd_same]
    have : t < a.tmps.size := by rw [h.size]; exact hd
    simp [Act.put, this]
  · rw [upd_ne _ _ e, ← h.get t]
    simp only [Act.put, Array.getD_eq_getD_getElem?, Array.getElem?_setIfInBounds]
    rw [if_neg (fun x => e x.symm)]

/-- what is said of the slots, said of the machine's state -/
def Up (n : Nat) (Q : Exit → Env → World → Prop) : Exit → Act → World → Prop := fun e a w => ∃ E, Fits n a E ∧ Q e E w

def Wp (P : Program) (n : Nat) (c : Code) (Q : Exit → Env → World → Prop) (E : Env) (w : World) : Prop :=
  ∀ a, Fits n a E → c.wp P (Up n Q) a w

/-- first K, and Q for whatever leaves -/
def Th (K : Env → World → Prop) (Q : Exit → Env → World → Prop) : Exit → Env → World → Prop
  | .normal, E, w => K E w
  | e, E, w => Q e E w
def Bk (id : Nat) (Q : Exit → Env → World → Prop) : Exit → Env → World → Prop
  | .exit id', E, w => bif Nat.beq id' id then Q .normal E w else Q (.exit id') E w
  | e, E, w => Q e E w

section
variable {P : Program} {n : Nat} {Q : Exit → Env → World → Prop} {E : Env} {w : World}

theorem Th.normal {K : Env → World → Prop} (h : K E w) : Th K Q .normal E w := h
theorem Th.ret {K : Env → World → Prop} (h : Q .ret E w) : Th K Q .ret E w := h
theorem Th.exit {K : Env → World → Prop} {id : Nat} (h : Q (.exit id) E w) : Th K Q (.exit id) E w := h
theorem Bk.normal {id : Nat} (h : Q .normal E w) : Bk id Q .normal E w := h
theorem Bk.ret {id : Nat} (h : Q .ret E w) : Bk id Q .ret E w := h
theorem Bk.here {id id' : Nat} (hb : Nat.beq id' id = true) (h : Q .normal E w) : Bk id Q (.exit id') E w := by
  simp only [Bk, hb]; exact h
theorem Bk.far {id id' : Nat} (hb : Nat.beq id' id = false) (h : Q (.exit id') E w) : Bk id Q (.exit id') E w := by
  simp only [Bk, hb]; exact h

theorem Wp.mono {c : Code} {Q' : Exit → Env → World → Prop} (h : Wp P n c Q E w) (hq : ∀ e E w, Q e E w → Q' e E w) : Wp P n c Q' E w :=
  fun a ha => wp_mono (h a ha) fun e a w ⟨E', hf, hq'⟩ => ⟨E', hf, hq e E' w hq'⟩

theorem Wp.skip (h : Q .normal E w) : Wp P n .skip Q E w := fun _ ha => wp_skip ⟨E, ha, h⟩
theorem Wp.ret (h : Q .ret E w) : Wp P n .ret Q E w := fun _ ha => wp_ret ⟨E, ha, h⟩
theorem Wp.exit {id : Nat} (h : Q (.exit id) E w) : Wp P n (.exit id) Q E w := fun _ ha => wp_exit ⟨E, ha, h⟩
theorem Wp.seq {x y : Code} (h : Wp P n x (Th (Wp P n y Q) Q) E w) : Wp P n (.seq x y) Q E w := fun a ha =>
  wp_seq (wp_mono (h a ha) fun e a w ⟨E', hf, hq⟩ => by
    cases e <;> first | exact hq a hf | exact ⟨E', hf, hq⟩)
/-- what follows, behind a name -/
theorem Wp.seqK {x y : Code} (h : ∀ K : Env → World → Prop, (∀ E w, Wp P n y Q E w → K E w) → Wp P n x (Th K Q) E w) : Wp P n (.seq x y) Q E w := Wp.seq (h _ fun _ _ h => h)
theorem useK {K : Env → World → Prop} {y : Code} (hK : ∀ E w, Wp P n y Q E w → K E w) (h : Wp P n y Q E w) : K E w := hK E w h
theorem Wp.seqCut {x y : Code} (K : Env → World → Prop) (h : Wp P n x (Th K Q) E w) (hy : ∀ E w, K E w → Wp P n y Q E w) : Wp P n (.seq x y) Q E w :=
  Wp.seq (h.mono fun e E w hq => by
    cases e <;> first | exact hy E w hq | exact hq)
theorem Wp.block {id : Nat} {c : Code} (h : Wp P n c (Bk id Q) E w) : Wp P n (.block id c) Q E w := fun a ha =>
  wp_block (wp_mono (h a ha) fun e a w ⟨E', hf, hq⟩ => by
    cases e with
    | exit id' =>
      simp only [Exit.inBlock]
      by_cases hid : id' = id
      · subst hid
        simp only [Bk, Nat.beq_refl, cond_true] at hq
        simp only [if_true]
        exact ⟨E', hf, hq⟩
      · have hb : Nat.beq id' id = false := by rw [← Bool.not_eq_true]; intro hb; exact hid (Nat.eq_of_beq_eq_true hb)
        simp only [Bk, hb, cond_false] at hq
        simp only [hid, if_false]
        exact ⟨E', hf, hq⟩
    | _ => exact ⟨E', hf, hq⟩)
theorem Wp.cond {c : Operand} {x y : Code} {b : Bool} (hc : ev E c = .bool b) (ht : b = true → Wp P n x Q E w) (hf : b = false → Wp P n y Q E w) : Wp P n (.cond c x y) Q E w := fun a ha => by
  have hc' : a.eval c = .bool b := by rw [ha.eval]; exact hc
  exact wp_cond_split hc' (fun h => ht h a ha) (fun h => hf h a ha)
theorem Wp.condT {c : Operand} {x y : Code} {b : Bool} (hc : ev E c = .bool b) (hb : b = true) (h : Wp P n x Q E w) : Wp P n (.cond c x y) Q E w :=
  Wp.cond hc (fun _ => h) (fun h' => by rw [hb] at h'; cases h')
theorem Wp.condF {c : Operand} {x y : Code} {b : Bool} (hc : ev E c = .bool b) (hb : b = false) (h : Wp P n y Q E w) : Wp P n (.cond c x y) Q E w :=
  Wp.cond hc (fun h' => by rw [hb] at h'; cases h') (fun _ => h)
theorem Wp.loop {c : Code} (I : Env → World → Prop) (μ : Env → World → Nat) (h₀ : I E w)
    (round : ∀ E w, I E w → Wp P n c (Th (fun E' w' => I E' w' ∧ μ E' w' < μ E w) Q) E w) : Wp P n (.loop c) Q E w := fun a ha => by
  refine wp_loop (fun a w => Fits n a (fun t => a.tmps.getD t undef) ∧ I (fun t => a.tmps.getD t undef) w) (fun a w => μ (fun t => a.tmps.getD t undef) w) ?_ ?_
  · have : (fun t => a.tmps.getD t undef) = E := funext ha.get
    rw [this]; exact ⟨ha, h₀⟩
  · intro a w ⟨hf, hI⟩
    refine wp_mono (round _ w hI a hf) fun e a' w' ⟨E', hf', hq⟩ => ?_
    cases e with
    | normal =>
      have : (fun t => a'.tmps.getD t undef) = E' := funext hf'.get
      simp only [Exit.then]
      rw [this]
      exact ⟨⟨hf', hq.1⟩, hq.2⟩
    | _ => exact ⟨E', hf', hq⟩
end

/-! ### the slots at a loop's head and behind a cut -/

def mem : List Nat → Nat → Bool
  | [], _ => false
  | a :: l, t => bif Nat.beq t a then true else mem l t
/-- the slots of S hold whatever h says, all others what E says -/
def hv (S : List Nat) (h E : Env) : Env := fun t => bif mem S t then h t else E t
def ups : List (Nat × Value) → Env → Env
  | [], E => E
  | (d, v) :: l, E => upd (ups l E) d v
def At (E : Env) : List (Nat × Value) → Prop
  | [] => True
  | (d, v) :: l => E d = v ∧ At E l
def Agr (S : List Nat) (E' E : Env) : Prop := ∀ t, mem S t = false → E' t = E t

theorem ups_of_at {E : Env} {l : List (Nat × Value)} (h : At E l) : ups l E = E := by
  induction l with
  | nil => rfl
  | cons p l ih =>
    obtain ⟨d, v⟩ := p
    simp only [ups, ih h.2]
    funext t
    by_cases e : t = d
    · subst e; rw [upd_same, h.1]
    · rw [upd_ne _ _ e]
theorem hv_of_agr {S : List Nat} {E' E : Env} (h : Agr S E' E) : hv S E' E = E' := by
  funext t
  simp only [hv]
  cases hm : mem S t with
  | true => rfl
  | false => exact (h t hm).symm
theorem Agr.refl (S : List Nat) (E : Env) : Agr S E E := fun _ _ => rfl
theorem Agr.hv (S : List Nat) (h E : Env) : Agr S (G.hv S h E) E := fun t ht => by simp only [G.hv, ht]; rfl
theorem Agr.upd {S : List Nat} {E' E : Env} {d : Nat} {v : Value} (hd : mem S d = true) (h : Agr S E' E) : Agr S (G.upd E' d v) E := fun t ht => by
  by_cases e : t = d
  · subst e; rw [hd] at ht; cases ht
  · rw [upd_ne _ _ e]; exact h t ht
def memO (S : List Nat) : Option Nat → Bool | some d => mem S d | none => true
def memAll (S : List Nat) : List (Nat × Value) → Bool
  | [] => true
  | (d, _) :: l => bif mem S d then memAll S l else false
theorem Agr.ups {S : List Nat} {E' E : Env} {l : List (Nat × Value)} (hl : memAll S l = true) (h : Agr S E' E) : Agr S (G.ups l E') E := by
  induction l with
  | nil => exact h
  | cons p l ih =>
    obtain ⟨d, v⟩ := p
    simp only [memAll] at hl
    cases hm : mem S d with
    | false => rw [hm] at hl; cases hl
    | true => rw [hm] at hl; exact Agr.upd hm (ih hl)

section
variable {P : Program} {n : Nat} {Q : Exit → Env → World → Prop} {E : Env} {w : World}

/-- A loop: S: the slots that its rounds write; 'st': what the live ones of them hold, by a state of one's own; I: what holds; μ: what goes down. -/
theorem Wp.loopS {σ : Type} (S : List Nat) (st : σ → List (Nat × Value)) (I : σ → World → Prop) (μ : σ → Nat) (s0 : σ) {c : Code}
    (hE : At E (st s0)) (h0 : I s0 w)
    (round : ∀ s w h, I s w → Wp P n c (Th (fun E' w' => ∃ s', At E' (st s') ∧ Agr S E' E ∧ I s' w' ∧ μ s' < μ s) Q) (ups (st s) (hv S h E)) w) :
    Wp P n (.loop c) Q E w := fun a ha => by
  have key : ∀ s E1, At E1 (st s) → Agr S E1 E → ups (st s) (hv S E1 E) = E1 := fun s E1 h1 h2 => by
    rw [hv_of_agr h2, ups_of_at h1]
  refine wp_loop_ghost (fun m a w => ∃ s E1, μ s = m ∧ Fits n a E1 ∧ At E1 (st s) ∧ Agr S E1 E ∧ I s w) (μ s0) ⟨s0, E, rfl, ha, hE, Agr.refl _ _, h0⟩ ?_
  rintro m a w ⟨s, E1, rfl, hf, hat, hag, hI⟩
  have hr := round s w E1 hI
  rw [key s E1 hat hag] at hr
  refine wp_mono (hr a hf) fun e a' w' ⟨E', hf', hq⟩ => ?_
  cases e with
  | normal =>
    obtain ⟨s', hat', hag', hI', hlt⟩ := hq
    exact ⟨μ s', hlt, s', E', rfl, hf', hat', hag', hI'⟩
  | _ => exact ⟨E', hf', hq⟩

/-- A cut: behind x the slots of S may hold anything but what 'st' and I say. -/
theorem Wp.cutS {σ : Type} (S : List Nat) (st : σ → List (Nat × Value)) (I : σ → World → Prop) {x y : Code}
    (hx : Wp P n x (Th (fun E' w' => ∃ s, At E' (st s) ∧ Agr S E' E ∧ I s w') Q) E w)
    (hy : ∀ s w h, I s w → Wp P n y Q (ups (st s) (hv S h E)) w) : Wp P n (.seq x y) Q E w :=
  Wp.seqCut _ hx fun E' w' ⟨s, hat, hag, hI⟩ => by
    have := hy s w' E' hI
    rw [hv_of_agr hag, ups_of_at hat] at this
    exact this

/-! ### regions -/

def Rg (P : Program) (n : Nat) (ops : Array Oper) (os : List Oper) (Q : Exit → Env → World → Prop) (E : Env) (w : World) : Prop :=
  ∀ a, Fits n a E → wpList P ops (Up n Q) os a w

theorem Wp.region {id : Nat} {l : List Oper} (h : Rg P n l.toArray l Q E w) : Wp P n (.region id l.toArray false) Q E w :=
  fun a ha => wp_region_lit (h a ha)

/-- is an operation wanted? none: no guard; a guard: its Bool -/
def want (n : Nat) (ops : Array Oper) (o : Oper) (E : Env) : Bool :=
  match o.guard with
  | none => true
  | some (j, b) => match (ops[j]?).bind (·.dst) with
    | some d => bif Nat.blt d n then (match E d with | .bool c => c == b | _ => false) else false
    | none => false

theorem want_eq {ops : Array Oper} {o : Oper} {a : Act} (ha : Fits n a E) : Region.wanted o (yielded ops a.tmps) = want n ops o E := by
  unfold Region.wanted want
  cases o.guard with
  | none => rfl
  | some p =>
    obtain ⟨j, b⟩ := p
    simp only [yielded]
    cases hd : (ops[j]?).bind (·.dst) with
    | none => simp
    | some d =>
      simp only [Option.bind_some]
      by_cases hlt : d < n
      · have h1 : Nat.blt d n = true := by simpa [Nat.blt_eq] using hlt
        have h2 : d < a.tmps.size := by rw [ha.size]; exact hlt
        have h3 : a.tmps[d]? = some (E d) := by rw [← ha.get d, Array.getD_eq_getD_getElem?]; simp [h2]
        rw [h3, h1]
        simp only [cond_true]
        cases E d <;> simp
      · have h1 : Nat.blt d n = false := by rw [← Bool.not_eq_true, Nat.blt_eq]; exact hlt
        have h2 : ¬ d < a.tmps.size := by rw [ha.size]; exact hlt
        have h3 : a.tmps[d]? = none := by rw [Array.getElem?_eq_none_iff]; exact Nat.le_of_not_lt h2
        rw [h3, h1]
        simp

theorem Agr.nothing {S : List Nat} : memO S none = true := rfl
theorem Rg.nil {ops : Array Oper} (h : Q .normal E w) : Rg P n ops [] Q E w := fun _ ha => ⟨E, ha, h⟩

/-- the slots behind an operation -/
def put (E : Env) (d : Option Nat) (v : Value) : Env := match d with | some d => upd E d v | none => E
def fits (n : Nat) : Option Nat → Bool | some d => Nat.blt d n | none => true
theorem Agr.put {S : List Nat} {E' E : Env} {d : Option Nat} {v : Value} (hd : memO S d = true) (h : Agr S E' E) : Agr S (G.put E' d v) E := by
  cases d with
  | none => exact h
  | some d => exact Agr.upd hd h
theorem Fits.put' {a : Act} (ha : Fits n a E) {d : Option Nat} (hd : fits n d = true) (v : Value) : Fits n (a.put d v) (G.put E d v) := by
  cases d with
  | none => exact ha
  | some d => exact ha.put (by simpa [fits, Nat.blt_eq] using hd) v

/-- an operation that yields a value and leaves a world -/
theorem Rg.val {ops : Array Oper} {os : List Oper} {o : Oper} {v : Value} {w' : World} (hw : want n ops o E = true)
    (hr : (execOp (ev E) o).run P w = .ok (.value v) w') (hd : fits n o.dst = true) (h : Rg P n ops os Q (put E o.dst v) w') : Rg P n ops (o :: os) Q E w := fun a ha => by
  unfold wpList
  rw [want_eq ha, hw, if_pos rfl]
  refine .inl ?_
  rw [Oper.wp, ha.eval, hr]
  exact h _ (ha.put' hd v)
/-- one that yields nothing: a store -/
theorem Rg.unit {ops : Array Oper} {os : List Oper} {o : Oper} {w' : World} (hw : want n ops o E = true)
    (hr : (execOp (ev E) o).run P w = .ok .skip w') (hd : fits n o.dst = true) (h : Rg P n ops os Q (put E o.dst undef) w') : Rg P n ops (o :: os) Q E w := fun a ha => by
  unfold wpList
  rw [want_eq ha, hw, if_pos rfl]
  refine .inl ?_
  rw [Oper.wp, ha.eval, hr]
  exact h _ (ha.put' hd undef)
theorem Rg.skip {ops : Array Oper} {os : List Oper} {o : Oper} (hw : want n ops o E = false) (hd : fits n o.dst = true)
    (h : Rg P n ops os Q (put E o.dst undef) w) : Rg P n ops (o :: os) Q E w := fun a ha => by
  unfold wpList
  rw [want_eq ha, hw, if_neg (by simp)]
  exact h _ (ha.put' hd undef)

/-- a slot that is known to hold a Bool's value -/
theorem upd_eq_self {d : Nat} {v : Value} (h : E d = v) : upd E d v = E := by
  funext t
  by_cases e : t = d
  · subst e; rw [upd_same, h]
  · rw [upd_ne _ _ e]
theorem Rg.split {ops : Array Oper} {os : List Oper} {x : Option Tmp} {op : Op} {ty : TypeId} {pos : String} {af : Array Edge} {j : Nat} {c : Bool} {d : Nat} {b : Bool}
    (hj : (ops[j]?).bind (·.dst) = some d) (hE : E d = .bool b)
    (ht : b = true → Rg P n ops (⟨x, op, ty, pos, af, some (j, c)⟩ :: os) Q (upd E d (.bool true)) w)
    (hf : b = false → Rg P n ops (⟨x, op, ty, pos, af, some (j, c)⟩ :: os) Q (upd E d (.bool false)) w) : Rg P n ops (⟨x, op, ty, pos, af, some (j, c)⟩ :: os) Q E w := by
  cases b with
  | true => have := ht rfl; rwa [upd_eq_self hE] at this
  | false => have := hf rfl; rwa [upd_eq_self hE] at this
theorem Rg.splitD {ops : Array Oper} {os : List Oper} {x : Option Tmp} {op : Op} {ty : TypeId} {pos : String} {af : Array Edge} {j : Nat} {c : Bool} {d : Nat} {p : Prop} [Decidable p]
    (hj : (ops[j]?).bind (·.dst) = some d) (hE : E d = .bool (decide p))
    (ht : p → Rg P n ops (⟨x, op, ty, pos, af, some (j, c)⟩ :: os) Q (upd E d (.bool true)) w)
    (hf : ¬ p → Rg P n ops (⟨x, op, ty, pos, af, some (j, c)⟩ :: os) Q (upd E d (.bool false)) w) : Rg P n ops (⟨x, op, ty, pos, af, some (j, c)⟩ :: os) Q E w :=
  Rg.split hj hE (fun h => ht (of_decide_eq_true h)) (fun h => hf (of_decide_eq_false h))
theorem Rg.splitN {ops : Array Oper} {os : List Oper} {x : Option Tmp} {op : Op} {ty : TypeId} {pos : String} {af : Array Edge} {j : Nat} {c : Bool} {d : Nat} {p : Prop} [Decidable p]
    (hj : (ops[j]?).bind (·.dst) = some d) (hE : E d = .bool (!decide p))
    (ht : ¬ p → Rg P n ops (⟨x, op, ty, pos, af, some (j, c)⟩ :: os) Q (upd E d (.bool true)) w)
    (hf : p → Rg P n ops (⟨x, op, ty, pos, af, some (j, c)⟩ :: os) Q (upd E d (.bool false)) w) : Rg P n ops (⟨x, op, ty, pos, af, some (j, c)⟩ :: os) Q E w :=
  Rg.split hj hE (fun h => ht (by simpa using h)) (fun h => hf (by simpa using h))
theorem Wp.condD {c : Operand} {x y : Code} {p : Prop} [Decidable p] (hc : ev E c = .bool (decide p)) (ht : p → Wp P n x Q E w) (hf : ¬ p → Wp P n y Q E w) : Wp P n (.cond c x y) Q E w :=
  Wp.cond hc (fun h => ht (of_decide_eq_true h)) (fun h => hf (of_decide_eq_false h))
theorem Wp.condN {c : Operand} {x y : Code} {p : Prop} [Decidable p] (hc : ev E c = .bool (!decide p)) (ht : ¬ p → Wp P n x Q E w) (hf : p → Wp P n y Q E w) : Wp P n (.cond c x y) Q E w :=
  Wp.cond hc (fun h => ht (by simpa using h)) (fun h => hf (by simpa using h))
theorem Wp.yes {c : Operand} {x y : Code} (hc : ev E c = .bool true) (h : Wp P n x Q E w) : Wp P n (.cond c x y) Q E w := Wp.condT hc rfl h
theorem Wp.no {c : Operand} {x y : Code} (hc : ev E c = .bool false) (h : Wp P n y Q E w) : Wp P n (.cond c x y) Q E w := Wp.condF hc rfl h

/-- what a call comes to: it returns a value of which R holds -/
def Run (P : Program) (f : FuncId) (args : List Value) (w : World) (R : Value → World → Prop) : Prop :=
  Calls P f args.toArray w fun e w' => ∃ v, e = .returned v ∧ R v w'

theorem Run.calls {f : FuncId} {args : List Value} {R : Value → World → Prop} (h : Run P f args w R) : Calls P f args.toArray w fun e w' => ∃ v, e = .returned v ∧ R v w' := h
theorem Run.mono {f : FuncId} {args : List Value} {R R' : Value → World → Prop} (h : Run P f args w R) (hr : ∀ v w', R v w' → R' v w') : Run P f args w R' :=
  Calls.mono h fun e w' ⟨v, he, hR⟩ => ⟨v, he, hr v w' hR⟩

theorem Rg.enter {ops : Array Oper} {os : List Oper} {o : Oper} {f : FuncId} {args : List Value} {w' : World} {R : Value → World → Prop} (hw : want n ops o E = true)
    (hr : (execOp (ev E) o).run P w = .ok (.enter f args.toArray) w') (hd : fits n o.dst = true) (hc : Run P f args w' R)
    (h : ∀ v w'', R v w'' → Rg P n ops os Q (put E o.dst v) w'') : Rg P n ops (o :: os) Q E w := fun a ha => by
  unfold wpList
  rw [want_eq ha, hw, if_pos rfl]
  refine .inl ?_
  rw [Oper.wp, ha.eval, hr]
  refine Calls.mono hc fun e w'' ⟨v, he, hR⟩ => ?_
  subst he
  exact h v w'' hR _ (ha.put' hd v)
end

/-! ### a function -/

/-- what a body must come to -/
def Fin (P : Program) (fn : Func) (R : Value → World → Prop) : Exit → Env → World → Prop
  | .normal, E, w | .ret, E, w => ∃ v, (∀ tmps : Array Value, (∀ t, tmps.getD t undef = E t) → (results fn tmps).run P w = .ok v w) ∧ R v w
  | _, _, _ => False

theorem Fin.ret {P : Program} {fn : Func} {R : Value → World → Prop} {E : Env} {w : World} (h : Fin P fn R .ret E w) : Fin P fn R .normal E w := h

theorem Run.intro {P : Program} {f : FuncId} {fn : Func} {c : Code} {args : List Value} {w : World} {R : Value → World → Prop}
    (hf : P.funcs[f]? = some fn) (hb : fn.body = some c) (ha : args.length ≤ fn.ntmps) (h : Wp P fn.ntmps c (Fin P fn R) (fr args) w) : Run P f args w R := by
  refine calls_of_wp hf hb ?_
  have hfit : Fits fn.ntmps { tmps := args.toArray ++ Array.replicate (fn.ntmps - args.toArray.size) undef, defers := [] } (fr args) := by
    refine ⟨by simp; omega, rfl, fun t => ?_⟩
    simp only [fr, Array.getD_eq_getD_getElem?, List.getD_eq_getElem?_getD, Array.getElem?_append, List.size_toArray, List.getElem?_toArray]
    by_cases h1 : t < args.length
    · rw [if_pos h1]
    · have h2 : args[t]? = none := by rw [List.getElem?_eq_none_iff]; omega
      rw [if_neg h1, h2]
      simp only [Array.getElem?_replicate]
      split <;> rfl
  refine wp_mono (h _ hfit) fun e a w' ⟨E', hf', hq⟩ => ?_
  cases e with
  | normal => obtain ⟨v, hv, hR⟩ := hq; exact ⟨hf'.defers, v, hv _ hf'.get, v, rfl, hR⟩
  | ret => obtain ⟨v, hv, hR⟩ := hq; exact ⟨hf'.defers, v, hv _ hf'.get, v, rfl, hR⟩
  | panic c => exact hq.elim
  | exit i => exact hq.elim
  | goto i => exact hq.elim
  | outgrown => exact hq.elim

theorem Run.go {P : Program} {f : FuncId} {fn : Func} {n : Nat} {c : Code} {args : List Value} {w : World} {R : Value → World → Prop}
    (hf : P.funcs[f]? = some fn) (hn : fn.ntmps = n) (hb : fn.body = some c) (ha : Nat.ble args.length n = true) (h : Wp P n c (Fin P fn R) (fr args) w) : Run P f args w R := by
  subst hn
  exact Run.intro hf hb (Nat.le_of_ble_eq_true ha) h

/-- one result, in a slot -/
theorem Fin.one {P : Program} {fn : Func} {R : Value → World → Prop} {E : Env} {w : World} {t : Nat} (hr : fn.results = #[.tmp t]) (h : R (E t) w) : Fin P fn R .ret E w :=
  ⟨E t, fun tmps ht => by simp [results, hr, ht], h⟩
theorem Fin.oneI {P : Program} {fn : Func} {R : Value → World → Prop} {E : Env} {w : World} {t : Nat} {k : IntKind} {a : Int} (hr : fn.results = #[.tmp t]) (hE : E t = .int k a) (h : R (.int k a) w) : Fin P fn R .ret E w :=
  Fin.one hr (by rw [hE]; exact h)
theorem Fin.oneB {P : Program} {fn : Func} {R : Value → World → Prop} {E : Env} {w : World} {t : Nat} {b : Bool} (hr : fn.results = #[.tmp t]) (hE : E t = .bool b) (h : R (.bool b) w) : Fin P fn R .ret E w :=
  Fin.one hr (by rw [hE]; exact h)
theorem Fin.oneS {P : Program} {fn : Func} {R : Value → World → Prop} {E : Env} {w : World} {t : Nat} {p : Option Addr} {l c : Nat} (hr : fn.results = #[.tmp t]) (hE : E t = .slice p l c) (h : R (.slice p l c) w) : Fin P fn R .ret E w :=
  Fin.one hr (by rw [hE]; exact h)
theorem Fin.oneG {P : Program} {fn : Func} {R : Value → World → Prop} {E : Env} {w : World} {t : Nat} {cs : Array Value} (hr : fn.results = #[.tmp t]) (hE : E t = .agg cs) (h : R (.agg cs) w) : Fin P fn R .ret E w :=
  Fin.one hr (by rw [hE]; exact h)
theorem Fin.two {P : Program} {fn : Func} {R : Value → World → Prop} {E : Env} {w : World} {t u : Nat} (hr : fn.results = #[.tmp t, .tmp u]) (h : R (.tuple #[E t, E u]) w) : Fin P fn R .ret E w :=
  ⟨.tuple #[E t, E u], fun tmps ht => by simp [results, hr, ht], h⟩
theorem Fin.three {P : Program} {fn : Func} {R : Value → World → Prop} {E : Env} {w : World} {t u s : Nat} (hr : fn.results = #[.tmp t, .tmp u, .tmp s]) (h : R (.tuple #[E t, E u, E s]) w) : Fin P fn R .ret E w :=
  ⟨.tuple #[E t, E u, E s], fun tmps ht => by simp [results, hr, ht], h⟩
attribute [irreducible] Wp Rg Run
end Go.Proofs.Ytcalkmlaodjpaaa.G
