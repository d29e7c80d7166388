/- Rules for walking code by abstract states: control flow, loops, regions, operations that write nothing. Over any program; nothing is claimed of the given one. -/
import Derived.Test.YtcalkmlaodjpaaaHb
namespace Go.Proofs.Ytcalkmlaodjpaaa.V
open Go.RowKit G
set_option linter.unusedVariables false
set_option linter.unusedSimpArgs false

/-! ### operands -/
def inRange : Int → Bool
  | .ofNat m => Nat.ble m 9223372036854775807
  | .negSucc m => Nat.ble m 9223372036854775807
theorem inRange_spec {n : Int} (h : inRange n = true) : In64 n := by
  cases n with
  | ofNat m => have := leB h; exact ⟨by simp only [Int.ofNat_eq_natCast]; omega, by simp only [Int.ofNat_eq_natCast]; omega⟩
  | negSucc m => have := leB h; exact ⟨by omega, by omega⟩
def cst1 : Value → AV
  | .int .i64 n => bif inRange n then .i n else .no
  | .bool b => .b b
  | .slice none 0 0 => .nl
  | _ => .no
def cst : Value → AV
  | .agg cs => .agg (cs.toList.map cst1)
  | v => cst1 v
def evA (st : St) : Operand → AV
  | .tmp t => st.E t
  | .const v => cst v
  | .global _ => .no
  | .func f => .fn f []
section
variable {N : Nat} {C : Nat → Option Conc} {Im : Nat → Prop} {w : World}
theorem RV.cst1 (v : Value) : RV N C Im w (cst1 v) v := by
  unfold V.cst1
  split
  · rename_i n
    cases h : inRange n with
    | true => exact ⟨rfl, inRange_spec h⟩
    | false => trivial
  · rfl
  · rfl
  · trivial
theorem RVL.cst1 : ∀ (l : List Value), RVL N C Im w (l.map V.cst1) l
  | [] => rfl
  | v :: l => ⟨v, l, rfl, RV.cst1 v, RVL.cst1 l⟩
theorem RV.cst (v : Value) : RV N C Im w (cst v) v := by
  unfold V.cst
  split
  · rename_i cs; exact ⟨cs.toList, rfl, RVL.cst1 _⟩
  · exact RV.cst1 v
variable {w0 : World} {MP : Fr} {st : St} {E' : Env}
theorem Sm.ev (h : Sm w0 MP st C Im E' w) (x : Operand) : RV st.nx C Im w (evA st x) (G.ev E' x) := by
  cases x with
  | tmp t => exact h.slot t
  | const v => exact RV.cst v
  | global g => trivial
  | func f => exact ⟨[], rfl, rfl⟩
theorem Sm.evL (h : Sm w0 MP st C Im E' w) : ∀ (xs : List Operand), RVL st.nx C Im w (xs.map (evA st)) (xs.map (G.ev E'))
  | [] => rfl
  | x :: xs => ⟨_, _, rfl, h.ev x, h.evL xs⟩
end

/-! ### judgments -/
def upQ (w0 : World) (MP : Fr) (Q : Exit → St → Prop) : Exit → Env → World → Prop := fun e E w => ∃ st, Sim w0 MP st E w ∧ Q e st
def AW (P : Program) (n : Nat) (w0 : World) (MP : Fr) (c : Code) (Q : Exit → St → Prop) (st : St) : Prop := ∀ E w, Sim w0 MP st E w → Wp P n c (upQ w0 MP Q) E w
def ARg (P : Program) (n : Nat) (w0 : World) (MP : Fr) (lb : Bool) (ops : Array Oper) (os : List Oper) (Q : Exit → St → Prop) (st : St) : Prop :=
  ∀ E w, Sim w0 MP st E w → Rg P n ops os (fun e E' w' => (lb = true → Later w w') ∧ upQ w0 MP Q e E' w') E w
def ATh (K : St → Prop) (Q : Exit → St → Prop) : Exit → St → Prop
  | .normal, st => K st
  | e, st => Q e st
def ABk (id : Nat) (Q : Exit → St → Prop) : Exit → St → Prop
  | .exit id', st => bif Nat.beq id' id then Q .normal st else Q (.exit id') st
  | e, st => Q e st
class ANoPan (Q : Exit → St → Prop) : Prop where
  h : ∀ c st, ¬ Q (.panic c) st
instance (K : St → Prop) (Q : Exit → St → Prop) [hQ : ANoPan Q] : ANoPan (ATh K Q) := ⟨fun c st h => hQ.h c st h⟩
instance (id : Nat) (Q : Exit → St → Prop) [hQ : ANoPan Q] : ANoPan (ABk id Q) := ⟨fun c st h => hQ.h c st h⟩
instance (w0 : World) (MP : Fr) (Q : Exit → St → Prop) [hQ : ANoPan Q] : NoPan (upQ w0 MP Q) := ⟨fun c E w ⟨st, _, h⟩ => hQ.h c st h⟩

section
variable {P : Program} {n : Nat} {w0 : World} {MP : Fr} {Q : Exit → St → Prop} {st : St}
theorem AW.skip (h : Q .normal st) : AW P n w0 MP .skip Q st := fun E w hs => Wp.skip ⟨st, hs, h⟩
theorem AW.ret (h : Q .ret st) : AW P n w0 MP .ret Q st := fun E w hs => Wp.ret ⟨st, hs, h⟩
theorem AW.exit {id : Nat} (h : Q (.exit id) st) : AW P n w0 MP (.exit id) Q st := fun E w hs => Wp.exit ⟨st, hs, h⟩
theorem AW.seq {x y : Code} (h : AW P n w0 MP x (ATh (AW P n w0 MP y Q) Q) st) : AW P n w0 MP (.seq x y) Q st := fun E w hs =>
  Wp.seq ((h E w hs).mono fun e E' w' ⟨st', hs', hq⟩ => by
    cases e <;> first | exact hq E' w' hs' | exact ⟨st', hs', hq⟩)
theorem AW.block {id : Nat} {c : Code} (h : AW P n w0 MP c (ABk id Q) st) : AW P n w0 MP (.block id c) Q st := fun E w hs =>
  Wp.block ((h E w hs).mono fun e E' w' ⟨st', hs', hq⟩ => by
    cases e with
    | exit id' =>
      simp only [ABk] at hq
      simp only [Bk]
      cases hb : Nat.beq id' id with
      | true => rw [hb] at hq; exact ⟨st', hs', hq⟩
      | false => rw [hb] at hq; exact ⟨st', hs', hq⟩
    | _ => exact ⟨st', hs', hq⟩)
theorem AW.scope {c : Code} (h : ∀ (E : Env) (w : World), Wp P n c (upQ w0 MP Q) E w → Wp P n (.scope c) (upQ w0 MP Q) E w) (k : AW P n w0 MP c Q st) : AW P n w0 MP (.scope c) Q st := fun E w hs => h E w (k E w hs)
theorem ATh.normal {K : St → Prop} (h : K st) : ATh K Q .normal st := h
theorem ATh.ret {K : St → Prop} (h : Q .ret st) : ATh K Q .ret st := h
theorem ATh.exit {K : St → Prop} {id : Nat} (h : Q (.exit id) st) : ATh K Q (.exit id) st := h
theorem ABk.normal {id : Nat} (h : Q .normal st) : ABk id Q .normal st := h
theorem ABk.ret {id : Nat} (h : Q .ret st) : ABk id Q .ret st := h
theorem ABk.here {id id' : Nat} (hb : Nat.beq id' id = true) (h : Q .normal st) : ABk id Q (.exit id') st := by simp only [ABk, hb]; exact h
theorem ABk.far {id id' : Nat} (hb : Nat.beq id' id = false) (h : Q (.exit id') st) : ABk id Q (.exit id') st := by simp only [ABk, hb]; exact h
theorem AW.cond {c : Operand} {x y : Code} {b : Bool} (hc : evA st c = .b b) (ht : b = true → AW P n w0 MP x Q st) (hf : b = false → AW P n w0 MP y Q st) : AW P n w0 MP (.cond c x y) Q st := fun E w hs => by
  obtain ⟨C, Im, hm⟩ := hs
  have h1 := hm.ev c
  rw [hc] at h1
  exact Wp.cond h1 (fun h => ht h E w ⟨C, Im, hm⟩) (fun h => hf h E w ⟨C, Im, hm⟩)
theorem AW.yes {c : Operand} {x y : Code} (hc : evA st c = .b true) (h : AW P n w0 MP x Q st) : AW P n w0 MP (.cond c x y) Q st := AW.cond hc (fun _ => h) (fun h => by cases h)
theorem AW.no {c : Operand} {x y : Code} (hc : evA st c = .b false) (h : AW P n w0 MP y Q st) : AW P n w0 MP (.cond c x y) Q st := AW.cond hc (fun h => by cases h) (fun _ => h)
theorem AW.condT {c : Operand} {x y : Code} {b : Bool} (hc : evA st c = .b b) (hb : b = true) (h : AW P n w0 MP x Q st) : AW P n w0 MP (.cond c x y) Q st := AW.cond hc (fun _ => h) (fun h' => by rw [hb] at h'; cases h')
theorem AW.condF {c : Operand} {x y : Code} {b : Bool} (hc : evA st c = .b b) (hb : b = false) (h : AW P n w0 MP y Q st) : AW P n w0 MP (.cond c x y) Q st := AW.cond hc (fun h' => by rw [hb] at h'; cases h') (fun _ => h)
theorem AW.condD {c : Operand} {x y : Code} {p : Prop} [Decidable p] (hc : evA st c = .b (decide p)) (ht : p → AW P n w0 MP x Q st) (hf : ¬ p → AW P n w0 MP y Q st) : AW P n w0 MP (.cond c x y) Q st :=
  AW.cond hc (fun h => ht (of_decide_eq_true h)) (fun h => hf (of_decide_eq_false h))
theorem AW.condN {c : Operand} {x y : Code} {p : Prop} [Decidable p] (hc : evA st c = .b (!decide p)) (ht : ¬ p → AW P n w0 MP x Q st) (hf : p → AW P n w0 MP y Q st) : AW P n w0 MP (.cond c x y) Q st :=
  AW.cond hc (fun h => ht (by simpa using h)) (fun h => hf (by simpa using h))

/-! ### loops and cuts -/
theorem Wp.loopG {n : Nat} {Q : Exit → Env → World → Prop} {E : Env} {w : World} {σ : Type} (J : σ → Env → World → Prop) (μ : σ → Nat) (s0 : σ) {c : Code} (h0 : J s0 E w)
    (round : ∀ s E w, J s E w → Wp P n c (Th (fun E' w' => ∃ s', J s' E' w' ∧ μ s' < μ s) Q) E w) : Wp P n (.loop c) Q E w := by
  unfold Wp
  intro a ha
  refine wp_loop_ghost (fun m a w => ∃ s E1, μ s = m ∧ Fits n a E1 ∧ J s E1 w) (μ s0) ⟨s0, E, rfl, ha, h0⟩ ?_
  rintro m a w ⟨s, E1, rfl, hf, hJ⟩
  have hr := round s E1 w hJ
  unfold Wp at hr
  refine wp_mono (hr a hf) fun e a' w' ⟨E', hf', hq⟩ => ?_
  cases e with
  | normal =>
    obtain ⟨s', hJ', hlt⟩ := hq
    exact ⟨μ s', hlt, s', E', rfl, hf', hJ'⟩
  | _ => exact ⟨E', hf', hq⟩
def upsA {β : Type} : List (Nat × β) → (Nat → β) → Nat → β
  | [], E => E
  | (d, v) :: l, E => updA (upsA l E) d v
def AtA {β : Type} (E : Nat → β) : List (Nat × β) → Prop
  | [] => True
  | (d, v) :: l => E d = v ∧ AtA E l
def keys {β : Type} : List (Nat × β) → List Nat
  | [] => []
  | (d, _) :: l => d :: keys l
/-- slots other than those of S are as before; the objects below m that l does not name are, too -/
def AgrA {β : Type} (S : List Nat) (E' E : Nat → β) : Prop := ∀ t, mem S t = false → E' t = E t
def AgrH {β : Type} (m : Nat) (l : List (Nat × β)) (h' h : Nat → β) : Prop := ∀ o, o < m → mem (keys l) o = false → h' o = h o
def noS (S : List Nat) (E : Nat → AV) : Nat → AV := fun t => bif mem S t then .no else E t
def cutH (m : Nat) (h : Nat → Ob) : Nat → Ob := fun o => bif Nat.blt o m then h o else .dead
theorem upsA_at {β : Type} {E : Nat → β} : ∀ {l : List (Nat × β)}, AtA E l → ∀ t, mem (keys l) t = true → upsA l (fun t => E t) t = E t
  | (d, v) :: l, h, t, ht => by
    by_cases e : t = d
    · subst e; simp only [upsA]; rw [updA_same, h.1]
    · simp only [upsA]
      rw [updA_ne _ _ e]
      simp only [keys, mem] at ht
      have : Nat.beq t d = false := by rw [← Bool.not_eq_true]; intro hb; exact e (Nat.eq_of_beq_eq_true hb)
      rw [this] at ht
      exact upsA_at h.2 t ht
theorem upsA_in {β : Type} {E F : Nat → β} : ∀ {l : List (Nat × β)}, AtA E l → ∀ t, mem (keys l) t = true → upsA l F t = E t
  | (d, v) :: l, h, t, ht => by
    by_cases e : t = d
    · subst e; simp only [upsA]; rw [updA_same, h.1]
    · simp only [upsA]
      rw [updA_ne _ _ e]
      simp only [keys, mem] at ht
      have : Nat.beq t d = false := by rw [← Bool.not_eq_true]; intro hb; exact e (Nat.eq_of_beq_eq_true hb)
      rw [this] at ht
      exact upsA_in h.2 t ht
theorem upsA_out {β : Type} {F : Nat → β} : ∀ {l : List (Nat × β)} (t : Nat), mem (keys l) t = false → upsA l F t = F t
  | [], t, _ => rfl
  | (d, v) :: l, t, ht => by
    simp only [keys, mem] at ht
    cases hb : Nat.beq t d with
    | true => rw [hb] at ht; cases ht
    | false =>
      rw [hb] at ht
      simp only [upsA]
      have e : t ≠ d := fun e => by subst e; rw [Nat.beq_refl] at hb; cases hb
      rw [updA_ne _ _ e]
      exact upsA_out t ht
/-- what a list of values and of objects says of objects below m -/
def BndS (m : Nat) : List (Nat × AV) → Prop
  | [] => True
  | (_, a) :: l => Bnd m a ∧ BndS m l
def BndO (m : Nat) : Ob → Prop
  | .dead => True
  | .live _ _ xs => BndL m xs.flatten
def BndH (m : Nat) : List (Nat × Ob) → Prop
  | [] => True
  | (o, x) :: l => o < m ∧ BndO m x ∧ BndH m l
theorem BndS.at {m : Nat} {E : Nat → AV} : ∀ {l : List (Nat × AV)}, BndS m l → AtA E l → ∀ t, mem (keys l) t = true → Bnd m (E t)
  | (d, v) :: l, hb, h, t, ht => by
    by_cases e : t = d
    · subst e; rw [h.1]; exact hb.1
    · simp only [keys, mem] at ht
      have : Nat.beq t d = false := by rw [← Bool.not_eq_true]; intro hb; exact e (Nat.eq_of_beq_eq_true hb)
      rw [this] at ht
      exact hb.2.at h.2 t ht
theorem BndH.at {m : Nat} {E : Nat → Ob} : ∀ {l : List (Nat × Ob)}, BndH m l → AtA E l → ∀ t, mem (keys l) t = true → t < m ∧ BndO m (E t)
  | (d, v) :: l, hb, h, t, ht => by
    by_cases e : t = d
    · subst e; rw [h.1]; exact ⟨hb.1, hb.2.1⟩
    · simp only [keys, mem] at ht
      have : Nat.beq t d = false := by rw [← Bool.not_eq_true]; intro hb; exact e (Nat.eq_of_beq_eq_true hb)
      rw [this] at ht
      exact hb.2.2.at h.2 t ht
theorem BndO.E {α : Type} [Enc α] (m sz : Nat) (l o : Bool) (xs : List α) : BndO m (.live l sz (V.E o xs)) :=
  BndL.of_mem fun a ha => Bnd.pure (List.all_eq_true.1 (E_pure o xs) a ha) m
/-- the state at a loop's head, or behind a cut -/
def head (S : List Nat) (l : List (Nat × AV)) (h : List (Nat × Ob)) (st : St) : St := ⟨upsA l (noS S st.E), upsA h st.hp, st.nx⟩
/-- another state that fits -/
structure Fit (S : List Nat) (l : List (Nat × AV)) (h : List (Nat × Ob)) (st st' : St) : Prop where
  sl : AtA st'.E l
  ags : AgrA S st'.E st.E
  ob : AtA st'.hp h
  agh : AgrH st.nx h st'.hp st.hp
  nx : st.nx ≤ st'.nx
theorem Fit.sim {S : List Nat} {l : List (Nat × AV)} {h : List (Nat × Ob)} {st' : St} {E0 E1 : Env} {wa wb : World} (hf : Fit S l h st st') (h0 : Sim w0 MP st E0 wa) (hb : BndS st.nx l) (hbh : BndH st.nx h) (h1 : Sim w0 MP st' E1 wb) : Sim w0 MP (head S l h st) E1 wb := by
  obtain ⟨C0, I0, m0⟩ := h0
  obtain ⟨C, Im, m⟩ := h1
  let D : Nat → Option Conc := fun o => bif Nat.blt o st.nx then C o else none
  have hD : ∀ o, o < st.nx → ∀ cc, D o = some cc → C o = some cc := fun o ho cc hc => by
    have : Nat.blt o st.nx = true := by rw [Nat.blt_eq]; exact ho
    simpa [D, this] using hc
  have hDo : ∀ o, o < st.nx → D o = C o := fun o ho => by
    have : Nat.blt o st.nx = true := by rw [Nat.blt_eq]; exact ho
    simp [D, this]
  have hDs : ∀ o cc, D o = some cc → o < st.nx ∧ C o = some cc := fun o cc hc => by
    cases hb : Nat.blt o st.nx with
    | true => rw [Nat.blt_eq] at hb; exact ⟨hb, hD o hb cc hc⟩
    | false => simp [D, hb] at hc
  -- an object of the head is one of the other state, or none
  have hhp : ∀ o, o < st.nx → (head S l h st).hp o = st'.hp o := fun o ho => by
    cases hm : mem (keys h) o with
    | true => exact upsA_in hf.ob o hm
    | false => exact (upsA_out o hm).trans (hf.agh o ho hm).symm
  have hhd : ∀ o, st.nx ≤ o → (head S l h st).hp o = .dead := fun o ho => by
    cases hm : mem (keys h) o with
    | true => have := (hbh.at hf.ob o hm).1; omega
    | false => exact (upsA_out o hm).trans (m0.lt o ho)
  refine ⟨D, Im, m.tch, m.im, fun t => ?_, fun o ho => ?_, fun o l' sz xs ho => ?_, hhd, fun o o' c c' hoo hc hc' => m.dis o o' c c' hoo (hDs o c hc).2 (hDs o' c' hc').2, m.imJ, fun p hp => RV.cut hD _ _ (RV.bnd _ _ (m0.gst p hp)) (m.gst p hp)⟩
  · show RV st.nx D Im wb (upsA l (noS S st.E) t) (E1 t)
    cases hm : mem (keys l) t with
    | true =>
      rw [upsA_in hf.sl t hm]
      exact RV.cut hD _ _ (hb.at hf.sl t hm) (m.slot t)
    | false =>
      rw [upsA_out t hm]
      unfold noS
      cases hs : mem S t with
      | true => trivial
      | false =>
        simp only [cond_false]
        rw [← hf.ags t hs]
        exact RV.cut hD _ _ (by rw [hf.ags t hs]; exact RV.bnd _ _ (m0.slot t)) (m.slot t)
  · rcases Nat.lt_or_ge o st.nx with hlt | hge
    · rw [hDo o hlt]; exact m.nod o (by rw [← hhp o hlt]; exact ho)
    · have : Nat.blt o st.nx = false := by rw [← Bool.not_eq_true, Nat.blt_eq]; omega
      simp [D, this]
  · rcases Nat.lt_or_ge o st.nx with hlt | hge
    · have ho' := ho
      rw [hhp o hlt] at ho'
      obtain ⟨cc, g1, g2⟩ := m.obj o l' sz xs ho'
      have hbo : BndL st.nx xs.flatten := by
        cases hm : mem (keys h) o with
        | true =>
          have := (hbh.at hf.ob o hm).2
          rw [ho'] at this; exact this
        | false =>
          rw [hf.agh o hlt hm] at ho'
          obtain ⟨c0, _, g3⟩ := m0.obj o l' sz xs ho'
          exact g3.lay.bnd
      exact ⟨cc, (hDo o hlt).trans g1, g2.esz, g2.len, g2.buf, g2.lay.cutN hD hbo, g2.lens, g2.nd, g2.ge, g2.nim, g2.lent⟩
    · rw [hhd o hge] at ho; cases ho
theorem Fit.refl {S : List Nat} {l : List (Nat × AV)} {h : List (Nat × Ob)} (h1 : AtA st.E l) (h2 : AtA st.hp h) : Fit S l h st st := ⟨h1, fun _ _ => rfl, h2, fun _ _ _ => rfl, Nat.le_refl _⟩
/-- A loop: S: the slots that its rounds write; sl: what the live ones of them hold; ob: the objects that its rounds turn -/
theorem AW.loop {σ : Type} (S : List Nat) (sl : σ → List (Nat × AV)) (ob : σ → List (Nat × Ob)) (I : σ → Prop) (μ : σ → Nat) (s0 : σ) {c : Code} (h1 : AtA st.E (sl s0)) (h2 : AtA st.hp (ob s0)) (h0 : I s0)
    (hb : ∀ s, BndS st.nx (sl s) ∧ BndH st.nx (ob s))
    (round : ∀ s, I s → AW P n w0 MP c (ATh (fun st' => ∃ s', Fit S (sl s') (ob s') st st' ∧ I s' ∧ μ s' < μ s) Q) (head S (sl s) (ob s) st)) : AW P n w0 MP (.loop c) Q st := fun E w hs => by
  refine Wp.loopG (fun s E w => Sim w0 MP (head S (sl s) (ob s) st) E w ∧ I s) μ s0 ⟨(Fit.refl h1 h2).sim hs (hb s0).1 (hb s0).2 hs, h0⟩ ?_
  rintro s E1 w1 ⟨hs1, hI⟩
  refine (round s hI E1 w1 hs1).mono fun e E2 w2 ⟨st2, hs2, hq⟩ => ?_
  cases e with
  | normal =>
    obtain ⟨s', hf, hI', hlt⟩ := hq
    exact ⟨s', ⟨hf.sim hs (hb s').1 (hb s').2 hs2, hI'⟩, hlt⟩
  | _ => exact ⟨st2, hs2, hq⟩
/-- a cut behind x -/
theorem AW.cut {σ : Type} (S : List Nat) (sl : σ → List (Nat × AV)) (ob : σ → List (Nat × Ob)) (I : σ → Prop) {x : Code} {K : St → Prop}
    (hb : ∀ s, BndS st.nx (sl s) ∧ BndH st.nx (ob s))
    (hx : AW P n w0 MP x (ATh (fun st' => ∃ s', Fit S (sl s') (ob s') st st' ∧ I s') Q) st)
    (hy : ∀ s, I s → ∀ E w, Sim w0 MP (head S (sl s) (ob s) st) E w → upQ w0 MP (fun _ => K) .normal E w) : AW P n w0 MP x (ATh K Q) st := fun E w hs => by
  refine (hx E w hs).mono fun e E2 w2 ⟨st2, hs2, hq⟩ => ?_
  cases e with
  | normal =>
    obtain ⟨s', hf, hI'⟩ := hq
    exact hy s' hI' E2 w2 (hf.sim hs (hb s').1 (hb s').2 hs2)
  | _ => exact ⟨st2, hs2, hq⟩
theorem AW.cutK {σ : Type} (S : List Nat) (sl : σ → List (Nat × AV)) (ob : σ → List (Nat × Ob)) (I : σ → Prop) {x : Code} {K : St → Prop}
    (hb : ∀ s, BndS st.nx (sl s) ∧ BndH st.nx (ob s))
    (hx : AW P n w0 MP x (ATh (fun st' => ∃ s', Fit S (sl s') (ob s') st st' ∧ I s') Q) st)
    (hy : ∀ s, I s → K (head S (sl s) (ob s) st)) : AW P n w0 MP x (ATh K Q) st :=
  AW.cut S sl ob I hb hx fun s hI E w hs => ⟨_, hs, hy s hI⟩

/-! ### regions -/
variable {lb : Bool} {ops : Array Oper} {os : List Oper}
theorem wpList_mono {Q Q' : Exit → Act → World → Prop} (hq : ∀ e a w, Q e a w → Q' e a w) : ∀ (os : List Oper) (a : Act) (w : World), wpList P ops Q os a w → wpList P ops Q' os a w
  | [], a, w, h => hq _ _ _ h
  | o :: os, a, w, h => by
    unfold wpList at h ⊢
    split
    · rename_i hw
      rw [if_pos hw] at h
      rcases h with h | ⟨h1, a0, w0, h0⟩
      · refine .inl ?_
        unfold Oper.wp at *
        exact upon_mono (fun a' w' h' => wpList_mono hq os a' w' h') (fun e a' w' _ h' => hq e a' w' h') h
      · exact .inr ⟨h1, a0, w0, hq _ _ _ h0⟩
    · rename_i hw
      rw [if_neg hw] at h
      exact wpList_mono hq os _ w h
end
end Go.Proofs.Ytcalkmlaodjpaaa.V
namespace Go.Proofs.Ytcalkmlaodjpaaa.G
open Go.RowKit V
set_option linter.unusedVariables false
set_option linter.unusedSimpArgs false
variable {P : Program} {n : Nat} {w0 : World} {MP : Fr} {Q : Exit → St → Prop} {st : St}
variable {lb : Bool} {ops : Array Oper} {os : List Oper}
theorem Rg.mono {Q Q' : Exit → Env → World → Prop} {E : Env} {w : World} (h : Rg P n ops os Q E w) (hq : ∀ e E w, Q e E w → Q' e E w) : Rg P n ops os Q' E w := by
  unfold Rg at *
  exact fun a ha => wpList_mono (fun e a w ⟨E', hf, hq'⟩ => ⟨E', hf, hq e E' w hq'⟩) os a w (h a ha)
end Go.Proofs.Ytcalkmlaodjpaaa.G
namespace Go.Proofs.Ytcalkmlaodjpaaa.V
open Go.RowKit G
set_option linter.unusedVariables false
set_option linter.unusedSimpArgs false
section
variable {P : Program} {n : Nat} {w0 : World} {MP : Fr} {Q : Exit → St → Prop} {st : St}
variable {lb : Bool} {ops : Array Oper} {os : List Oper}
theorem AW.region {id : Nat} {l : List Oper} (h : ARg P n w0 MP false l.toArray l Q st) : AW P n w0 MP (.region id l.toArray false) Q st := fun E w hs =>
  Wp.region ((h E w hs).mono fun e E' w' hq => hq.2)
theorem ARg.nil (h : Q .normal st) : ARg P n w0 MP lb ops [] Q st := fun E w hs => Rg.nil ⟨fun _ => Later.refl w, st, hs, h⟩
/-- is an operation wanted? -/
def awant (n : Nat) (ops : Array Oper) (o : Oper) (A : Nat → AV) (want : Bool) : Bool :=
  match o.guard with
  | none => want
  | some (j, b) => match (ops[j]?).bind (·.dst) with
    | some d => bif Nat.blt d n then (match A d with | .b c => (c == b) == want | _ => false) else !want
    | none => !want
theorem awant_spec {C : Nat → Option Conc} {Im : Nat → Prop} {E : Env} {w : World} (hm : Sm w0 MP st C Im E w) {o : Oper} {b : Bool} (h : awant n ops o st.E b = true) : want n ops o E = b := by
  unfold awant at h
  unfold want
  cases hg : o.guard with
  | none => rw [hg] at h; exact h.symm
  | some p =>
    obtain ⟨j, b'⟩ := p
    rw [hg] at h
    simp only at h ⊢
    cases hd : (ops[j]?).bind (·.dst) with
    | none => rw [hd] at h; simp only at h ⊢; cases b <;> first | rfl | cases h
    | some d =>
      rw [hd] at h
      simp only at h ⊢
      cases hn : Nat.blt d n with
      | false => rw [hn] at h; simp only [cond_false] at h ⊢; cases b <;> first | rfl | cases h
      | true =>
        rw [hn] at h
        simp only [cond_true] at h ⊢
        have hv := hm.slot d
        cases ha : st.E d with
        | b c =>
          rw [ha] at h hv
          have : E d = .bool c := hv
          rw [this]
          simpa using h
        | _ => rw [ha] at h; cases h
def putA (st : St) (d : Option Tmp) (a : AV) : St := match d with | some d => ⟨updA st.E d a, st.hp, st.nx⟩ | none => st
theorem Sm.put {C : Nat → Option Conc} {Im : Nat → Prop} {E : Env} {w : World} (hm : Sm w0 MP st C Im E w) (d : Option Tmp) {a : AV} {v : Value} (hv : RV st.nx C Im w a v) : Sm w0 MP (putA st d a) C Im (G.put E d v) w := by
  cases d with
  | none => exact hm
  | some d => exact hm.upd d hv
theorem ARg.skip {o : Oper} (hw : awant n ops o st.E false = true) (hd : fits n o.dst = true) (h : ARg P n w0 MP lb ops os Q (putA st o.dst .no)) : ARg P n w0 MP lb ops (o :: os) Q st := fun E w ⟨C, Im, hm⟩ =>
  Rg.skip (awant_spec hm hw) hd (h _ _ ⟨C, Im, hm.put _ trivial⟩)
/-- an operation that yields a value and leaves a world -/
theorem ARg.val {o : Oper} {st' : St} (hw : awant n ops o st.E true = true) (hd : fits n o.dst = true)
    (H : ∀ C Im E w, Sm w0 MP st C Im E w → ∃ v w', (execOp (ev E) o).run P w = .ok (.value v) w' ∧ (lb = true → Later w w') ∧ Sim w0 MP st' (G.put E o.dst v) w')
    (h : ARg P n w0 MP lb ops os Q st') : ARg P n w0 MP lb ops (o :: os) Q st := fun E w ⟨C, Im, hm⟩ => by
  obtain ⟨v, w', h1, h2, h3⟩ := H C Im E w hm
  exact Rg.val (awant_spec hm hw) h1 hd ((h _ _ h3).mono fun e E2 w2 hq => ⟨fun hb => (h2 hb).trans (hq.1 hb), hq.2⟩)
theorem ARg.unit {o : Oper} {st' : St} (hw : awant n ops o st.E true = true) (hd : fits n o.dst = true)
    (H : ∀ C Im E w, Sm w0 MP st C Im E w → ∃ w', (execOp (ev E) o).run P w = .ok .skip w' ∧ (lb = true → Later w w') ∧ Sim w0 MP st' (G.put E o.dst undef) w')
    (h : ARg P n w0 MP lb ops os Q st') : ARg P n w0 MP lb ops (o :: os) Q st := fun E w ⟨C, Im, hm⟩ => by
  obtain ⟨w', h1, h2, h3⟩ := H C Im E w hm
  exact Rg.unit (awant_spec hm hw) h1 hd ((h _ _ h3).mono fun e E2 w2 hq => ⟨fun hb => (h2 hb).trans (hq.1 hb), hq.2⟩)
/-- an operation that yields a value and leaves the world: in every world (pu), or in later ones -/
def ASil (pu : Bool) (P : Program) (w0 : World) (MP : Fr) (st : St) (o : Oper) (a : AV) : Prop :=
  ∀ C Im E w, Sm w0 MP st C Im E w → ∃ v, (match pu with | true => ∀ w', Sil P E o v w' | false => Sil P E o v w) ∧ RV st.nx C Im w a v
theorem ASil.now {pu : Bool} {o : Oper} {a : AV} (h : ASil pu P w0 MP st o a) : ASil false P w0 MP st o a := fun C Im E w hm => by
  obtain ⟨v, h1, h2⟩ := h C Im E w hm
  cases pu with
  | true => exact ⟨v, h1 w, h2⟩
  | false => exact ⟨v, h1, h2⟩
theorem ARg.sil {pu : Bool} {o : Oper} {a : AV} (hs : ASil pu P w0 MP st o a) (hw : awant n ops o st.E true = true) (hd : fits n o.dst = true) (h : ARg P n w0 MP lb ops os Q (putA st o.dst a)) : ARg P n w0 MP lb ops (o :: os) Q st :=
  ARg.val hw hd (fun C Im E w hm => by
    obtain ⟨v, h1, h2⟩ := hs.now C Im E w hm
    unfold Sil at h1
    exact ⟨v, w, h1 w (Later.refl w), fun _ => Later.refl w, C, Im, hm.put _ h2⟩) h
/-- a guard that is not known yet -/
theorem ARg.split {x : Option Tmp} {op : Op} {ty : TypeId} {pos : String} {af : Array Edge} {j : Nat} {c : Bool} {d : Nat} {b : Bool} (hj : (ops[j]?).bind (·.dst) = some d) (hE : st.E d = .b b)
    (ht : b = true → ARg P n w0 MP lb ops (⟨x, op, ty, pos, af, some (j, c)⟩ :: os) Q ⟨updA st.E d (.b true), st.hp, st.nx⟩)
    (hf : b = false → ARg P n w0 MP lb ops (⟨x, op, ty, pos, af, some (j, c)⟩ :: os) Q ⟨updA st.E d (.b false), st.hp, st.nx⟩) : ARg P n w0 MP lb ops (⟨x, op, ty, pos, af, some (j, c)⟩ :: os) Q st := fun E w ⟨C, Im, hm⟩ => by
  have hv := hm.slot d
  rw [hE] at hv
  have e : E d = .bool b := hv
  cases b with
  | true => exact ht rfl E w ⟨C, Im, by have := hm.upd d (a := .b true) (v := .bool true) rfl; rwa [G.upd_eq_self e] at this⟩
  | false => exact hf rfl E w ⟨C, Im, by have := hm.upd d (a := .b false) (v := .bool false) rfl; rwa [G.upd_eq_self e] at this⟩
theorem ARg.splitD {x : Option Tmp} {op : Op} {ty : TypeId} {pos : String} {af : Array Edge} {j : Nat} {c : Bool} {d : Nat} {p : Prop} [Decidable p] (hj : (ops[j]?).bind (·.dst) = some d) (hE : st.E d = .b (decide p))
    (ht : p → ARg P n w0 MP lb ops (⟨x, op, ty, pos, af, some (j, c)⟩ :: os) Q ⟨updA st.E d (.b true), st.hp, st.nx⟩)
    (hf : ¬ p → ARg P n w0 MP lb ops (⟨x, op, ty, pos, af, some (j, c)⟩ :: os) Q ⟨updA st.E d (.b false), st.hp, st.nx⟩) : ARg P n w0 MP lb ops (⟨x, op, ty, pos, af, some (j, c)⟩ :: os) Q st :=
  ARg.split hj hE (fun h => ht (of_decide_eq_true h)) (fun h => hf (of_decide_eq_false h))
theorem ARg.splitN {x : Option Tmp} {op : Op} {ty : TypeId} {pos : String} {af : Array Edge} {j : Nat} {c : Bool} {d : Nat} {p : Prop} [Decidable p] (hj : (ops[j]?).bind (·.dst) = some d) (hE : st.E d = .b (!decide p))
    (ht : ¬ p → ARg P n w0 MP lb ops (⟨x, op, ty, pos, af, some (j, c)⟩ :: os) Q ⟨updA st.E d (.b true), st.hp, st.nx⟩)
    (hf : p → ARg P n w0 MP lb ops (⟨x, op, ty, pos, af, some (j, c)⟩ :: os) Q ⟨updA st.E d (.b false), st.hp, st.nx⟩) : ARg P n w0 MP lb ops (⟨x, op, ty, pos, af, some (j, c)⟩ :: os) Q st :=
  ARg.split hj hE (fun h => ht (by simpa using h)) (fun h => hf (by simpa using h))

/-! ### regions whose order is drawn -/
def ARA (P : Program) (n : Nat) (w0 : World) (MP : Fr) (m : Nat) (ops : Array Oper) (fuel : Nat) (listed : Array Bool) (Q : Exit → St → Prop) (st : St) : Prop :=
  ∀ E w, Sim w0 MP st E w → RgA P n m ops fuel listed (upQ w0 MP Q) E w
variable {m fuel : Nat} {listed : Array Bool}
theorem AW.draw {id : Nat} (m : Nat) (hm : P.follows .mixedOrders = true) (hst : (Region.noSelect ops && tailOk .any m ops) = true) (h : ARA P n w0 MP m ops ops.size (Array.replicate ops.size false) Q st) : AW P n w0 MP (.region id ops true) Q st := fun E w ⟨C, Im, hs⟩ =>
  Wp.draw m hm hst (h E w.drew ⟨C, Im, hs.later (Later.refl w).drew⟩)
theorem ARA.nil (hr : Region.ready .any ops listed = []) (h : Q .normal st) : ARA P n w0 MP m ops fuel listed Q st := fun E w hs => RgA.nil hr ⟨st, hs, h⟩
theorem ARA.take [ANoPan Q] (i : Nat) {o : Oper} {a : AV} (ho : ops[i]? = some o) (hc : (Nat.blt i m && isLoad ops i && Region.free .any ops listed i && (Region.ready .any ops listed).contains i) = true)
    (hs : ASil false P w0 MP st o a) (hw : awant n ops o st.E true = true) (hd : fits n o.dst = true) (h : ARA P n w0 MP m ops fuel (listed.setIfInBounds i true) Q (putA st o.dst a)) : ARA P n w0 MP m ops (fuel + 1) listed Q st := fun E w ⟨C, Im, hm⟩ => by
  obtain ⟨v, h1, h2⟩ := hs C Im E w hm
  exact RgA.take i ho hc h1 (awant_spec hm hw) hd (h _ _ ⟨C, Im, hm.put _ h2⟩)
theorem ARA.pure [ANoPan Q] (i : Nat) {o : Oper} {a : AV} (ho : ops[i]? = some o) (hc : (Region.free .any ops listed i && (Region.ready .any ops listed).contains i) = true)
    (hs : ASil true P w0 MP st o a) (hw : awant n ops o st.E true = true) (hd : fits n o.dst = true) (h : ARA P n w0 MP m ops fuel (listed.setIfInBounds i true) Q (putA st o.dst a)) : ARA P n w0 MP m ops (fuel + 1) listed Q st := fun E w ⟨C, Im, hm⟩ => by
  obtain ⟨v, h1, h2⟩ := hs C Im E w hm
  exact RgA.pure i ho hc h1 (awant_spec hm hw) hd (h _ _ ⟨C, Im, hm.put _ h2⟩)
theorem ARA.skip [ANoPan Q] (i : Nat) {o : Oper} (ho : ops[i]? = some o) (hc : (Region.free .any ops listed i && (Region.ready .any ops listed).contains i) = true)
    (hw : awant n ops o st.E false = true) (hd : fits n o.dst = true) (h : ARA P n w0 MP m ops fuel (listed.setIfInBounds i true) Q (putA st o.dst .no)) : ARA P n w0 MP m ops (fuel + 1) listed Q st := fun E w ⟨C, Im, hm⟩ =>
  RgA.skip i ho hc (awant_spec hm hw) hd (h _ _ ⟨C, Im, hm.put _ trivial⟩)
theorem ARA.only (i : Nat) (lb : Bool) {o : Oper} (ho : ops[i]? = some o) (hr : Region.ready .any ops listed = [i]) (hl : (lb || Nat.ble m i) = true)
    (h : ARg P n w0 MP lb ops [o] (ATh (ARA P n w0 MP m ops fuel (listed.setIfInBounds i true) Q) Q) st) : ARA P n w0 MP m ops (fuel + 1) listed Q st := fun E w hs =>
  RgA.only i ho hr ((h E w hs).mono fun e E' w' ⟨h1, st', hs', hq⟩ => by
    cases e with
    | normal =>
      refine ⟨?_, hq E' w' hs'⟩
      rw [Bool.or_eq_true] at hl
      rcases hl with hl | hl
      · exact .inr (h1 hl)
      · exact .inl (leB hl)
    | _ => exact ⟨st', hs', hq⟩)
theorem RgA.any {Q : Exit → Env → World → Prop} {E : Env} {w : World} (hne : Region.ready .any ops listed ≠ [])
    (h : ∀ i ∈ Region.ready .any ops listed, ∃ o, ops[i]? = some o ∧ Rg P n ops [o] (Th (fun E' w' => (m ≤ i ∨ Later w w') ∧ RgA P n m ops fuel (listed.setIfInBounds i true) Q E' w') Q) E w) : RgA P n m ops (fuel + 1) listed Q E w := by
  unfold RgA
  intro hst hcl a ha
  refine ⟨fun h0 => absurd h0 hne, fun i hi => ?_⟩
  have hcl' : Closed .any ops (listed.setIfInBounds i true) := hcl.set hi
  obtain ⟨o, ho, h⟩ := h i hi
  unfold Rg at h
  have h1 := h a ha
  unfold wpList at h1
  unfold wpOp
  simp only [ho]
  split
  · rename_i hw
    rw [if_pos hw] at h1
    rcases h1 with h1 | ⟨h1, a0, w0, E0, hE0, hq⟩
    · refine .inl ?_
      unfold Oper.wp at *
      refine upon_mono ?_ ?_ h1
      · intro a' w' ⟨E', hf', hq⟩; have h2 := hq.2; unfold RgA at h2; exact ⟨hq.1, h2 hst hcl' a' hf'⟩
      · intro e a' w' hne ⟨E', hf', hq⟩
        refine ⟨E', hf', ?_⟩
        cases e <;> first | exact hq | exact absurd rfl hne
    · exact .inr ⟨h1, a0, w0, E0, hE0, hq⟩
  · rename_i hw
    rw [if_neg hw] at h1
    obtain ⟨E', hf', hq⟩ := h1
    have h2 := hq.2
    unfold RgA at h2
    exact ⟨hq.1, h2 hst hcl' _ hf'⟩
/-- whichever of some comes up -/
theorem ARA.any (is : List Nat) (hr : Region.ready .any ops listed = is) (hne : is ≠ [])
    (h : ∀ i ∈ is, ∃ o lb, ops[i]? = some o ∧ (lb || Nat.ble m i) = true ∧ ARg P n w0 MP lb ops [o] (ATh (ARA P n w0 MP m ops fuel (listed.setIfInBounds i true) Q) Q) st) : ARA P n w0 MP m ops (fuel + 1) listed Q st := fun E w hs =>
  RgA.any (by rw [hr]; exact hne) fun i hi => by
    obtain ⟨o, lb, ho, hl, h⟩ := h i (by rw [← hr]; exact hi)
    refine ⟨o, ho, (h E w hs).mono fun e E' w' ⟨h1, st', hs', hq⟩ => ?_⟩
    cases e with
    | normal =>
      refine ⟨?_, hq E' w' hs'⟩
      rw [Bool.or_eq_true] at hl
      rcases hl with hl | hl
      · exact .inr (h1 hl)
      · exact .inl (leB hl)
    | _ => exact ⟨st', hs', hq⟩
/-- a guard that is not known yet -/
theorem ARA.split (d : Nat) {b : Bool} (hE : st.E d = .b b) (ht : b = true → ARA P n w0 MP m ops fuel listed Q ⟨updA st.E d (.b true), st.hp, st.nx⟩) (hf : b = false → ARA P n w0 MP m ops fuel listed Q ⟨updA st.E d (.b false), st.hp, st.nx⟩) : ARA P n w0 MP m ops fuel listed Q st := fun E w ⟨C, Im, hm⟩ => by
  have hv := hm.slot d
  rw [hE] at hv
  have e : E d = .bool b := hv
  cases b with
  | true => exact ht rfl E w ⟨C, Im, by have := hm.upd d (a := .b true) (v := .bool true) rfl; rwa [G.upd_eq_self e] at this⟩
  | false => exact hf rfl E w ⟨C, Im, by have := hm.upd d (a := .b false) (v := .bool false) rfl; rwa [G.upd_eq_self e] at this⟩
end
end Go.Proofs.Ytcalkmlaodjpaaa.V
