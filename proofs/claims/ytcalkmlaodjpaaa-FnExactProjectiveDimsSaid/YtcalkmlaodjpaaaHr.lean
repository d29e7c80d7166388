/- What is only read from here on; objects that a call takes; clear. Over any program; nothing is claimed of the given one. -/
import Derived.Test.YtcalkmlaodjpaaaHp
namespace Go.Proofs.Ytcalkmlaodjpaaa.V
open V.Enc (enc)
open Go.RowKit G
set_option linter.unusedVariables false
set_option linter.unusedSimpArgs false
section
variable {w0 w w' : World} {MP : Fr} {st : St} {C : Nat → Option Conc} {Im : Nat → Prop} {E : Env}
/-- a slice of an object becomes one of what is only read; the object is forgotten -/
theorem Sim.freeze {t o n off m sz : Nat} {l : Bool} {xs ys : List (List AV)} (ht : st.E t = .sl o n off m) (hh : st.hp o = .live l sz xs) (hn : xs.length = n) (hp : xs.flatten.all pureB = true) (hy : frzLL ((xs.drop off).take m) = ys) (hs : Sim w0 MP st E w) :
    Sim w0 MP ⟨updA st.E t (.dt false sz ys), updA st.hp o .dead, st.nx⟩ E w := by
  obtain ⟨C, Im, hm⟩ := hs
  obtain ⟨cc, hcc, hO⟩ := hm.obj o l sz xs hh
  have hv := hm.slot t
  rw [ht] at hv
  have hview := OR.view (J := fun k => Im k ∨ k ∈ blks cc) hcc hO (fun k hk => .inl hk) (fun k hk => .inr hk) hn hv hp hy
  have h1 := (hm.kill o).imAdd (blks cc) (fun k hk => (hO.wb k hk).lt) hO.ge (fun o' c' hc' k hk hk' => by
    by_cases e : o' = o
    · subst e; rw [updA_same] at hc'; cases hc'
    · rw [updA_ne _ _ e] at hc'; exact hm.dis o o' cc c' (Ne.symm e) hcc hc' k hk hk')
  have h2 := h1.upd t (RV.imm (N := st.nx) (C := updA C o Option.none) hview)
  rw [G.upd_eq_self rfl] at h2
  exact ⟨_, _, h2⟩
/-- the lists below an object are only read from here on, and may be held more than once -/
theorem Sim.share {α : Type} [Enc α] {o sz : Nat} {l : Bool} {ls : List α} (hh : st.hp o = .live l sz (V.E true ls)) (hs : Sim w0 MP st E w) : Sim w0 MP ⟨st.E, updA st.hp o (.live false sz (V.E false ls)), st.nx⟩ E w := by
  obtain ⟨C0, Im0, hm0⟩ := hs
  obtain ⟨Im, hm⟩ := hm0.lend o hh
  obtain ⟨cc, hcc, hO⟩ := hm.obj o true sz (V.E true ls) (updA_same ..)
  have hF : ∀ k ∈ cc.F, Im k := fun k hk => (hO.lent k hk).2 rfl
  have hlay : LayC st.nx C0 Im w (V.E false ls).flatten cc.us [] := by
    have h1 := (hO.lay.pure (E_pure true ls)).frz (Im' := Im) (fun _ h => h) hF
    have e : frzL (V.E true ls).flatten = (V.E false ls).flatten := by rw [← frzLL_flatten, E_frz]
    rw [e] at h1
    exact LayC.imm h1
  let cc' : Conc := ⟨cc.hv, cc.len, cc.sz, cc.us, []⟩
  have hO' : OR w0 MP st.nx C0 Im w false sz (V.E false ls) cc' := by
    refine ⟨hO.esz, ?_, hO.buf, hlay, fun x hx => ?_, ?_, fun k hk => hO.ge k ?_, hO.nim, fun k hk => by cases hk⟩
    · show cc.len = _
      rw [hO.len, E_length, E_length]
    · rw [E_len false ls x hx]
      have hl : ls ≠ [] := by rintro rfl; cases hx
      obtain ⟨a, ls', rfl⟩ := List.exists_cons_of_ne_nil hl
      have := hO.lens (enc true a) (List.mem_map.2 ⟨a, by simp, rfl⟩)
      rw [Enc.len] at this
      exact this
    · have := hO.nd
      unfold blks at this ⊢
      simp only [cc', List.append_nil]
      exact (List.nodup_append.1 this).1
    · unfold blks at hk ⊢
      simp only [cc', List.append_nil] at hk
      exact List.mem_append_left _ hk
  have hT := hm.turn o (l' := false) (xs' := V.E false ls) (cc' := cc') (updA_same ..) hcc (.inl ⟨rfl, rfl, rfl⟩) hm.tch (Nat.le_refl _) (fun _ _ => rfl) (fun _ _ _ _ _ _ => rfl) hO' (fun o' c ho' hc k hk hk' => by
    unfold blks at hk
    simp only [cc', List.append_nil] at hk
    exact hm.dis o o' cc c (Ne.symm ho') hcc hc k (List.mem_append_left _ hk) hk')
  have e : updA (updA st.hp o (.live true sz (V.E true ls))) o (.live false sz (V.E false ls)) = updA st.hp o (.live false sz (V.E false ls)) := by
    funext t
    by_cases h : t = o
    · subst h; rw [updA_same, updA_same]
    · rw [updA_ne _ _ h, updA_ne _ _ h, updA_ne _ _ h]
  dsimp only at hT
  rw [e] at hT
  exact ⟨_, Im, hT⟩

/-- a pointer to a variable becomes one to what is only read -/
theorem Sim.freezeP {α : Type} [Enc α] {t o sz : Nat} {l oo : Bool} {a : α} (ht : st.E t = .pt o 1 0 0) (hh : st.hp o = .live l sz [enc oo a]) (hs : Sim w0 MP st E w) : Sim w0 MP ⟨updA st.E t (.ip (enc false a)), updA st.hp o .dead, st.nx⟩ E w := by
  obtain ⟨C, Im, hm⟩ := hs
  obtain ⟨cc, hcc, hO⟩ := hm.obj o l sz _ hh
  have hv := hm.slot t
  rw [ht] at hv
  obtain ⟨b, q, e1, h4, h5⟩ := hv
  obtain ⟨f1, f2⟩ := (h5 cc hcc).2 (by rw [hO.len]; rfl)
  have f2' : q = 0 := by rw [f2]; omega
  subst f2'
  have h1 := (hm.kill o).imAdd (blks cc) (fun k hk => (hO.wb k hk).lt) hO.ge (fun o' c' hc' k hk hk' => by
    by_cases e : o' = o
    · subst e; rw [updA_same] at hc'; cases hc'
    · rw [updA_ne _ _ e] at hc'; exact hm.dis o o' cc c' (Ne.symm e) hcc hc' k hk hk')
  have hpu : ([enc oo a] : List (List AV)).flatten.all pureB = true := by simpa using Enc.pure oo a
  have hI2 := (hO.lay.pure hpu).frz (Im' := fun k => Im k ∨ k ∈ blks cc) (fun k hk => .inl hk) (fun k hk => .inr (by simp [blks, hk]))
  have e3 : frzL ([enc oo a] : List (List AV)).flatten = enc false a := by simp [Enc.frz]
  rw [e3] at hI2
  have h2 := h1.upd t (a := .ip (enc false a)) (v := E t) ⟨b, 0, cc.us, e1, .inr (by simp [blks, mem_ownL, f1]), fun i u hu => by rw [Nat.zero_add]; exact hO.cell f1 hu, hI2⟩
  rw [G.upd_eq_self rfl] at h2
  exact ⟨_, _, h2⟩
/-! ### calls that take objects -/
theorem OR.gh {bl : List Nat} {J : Nat → Prop} {g g' : List (AV × Value)} {N : Nat} {l : Bool} {sz : Nat} {xs : List (List AV)} {cc : Conc} (h : OR w0 ⟨bl, J, g⟩ N C Im w l sz xs cc) : OR w0 ⟨bl, J, g'⟩ N C Im w l sz xs cc := ⟨h.esz, h.len, h.buf, h.lay, h.lens, h.nd, h.ge, h.nim, h.lent⟩
theorem Sm.noGh {bl : List Nat} {J : Nat → Prop} {g : List (AV × Value)} (h : Sm w0 ⟨bl, J, g⟩ st C Im E w) : Sm w0 ⟨bl, J, []⟩ st C Im E w :=
  ⟨h.tch, h.im, h.slot, h.nod, fun o l sz xs ho => by obtain ⟨cc, h1, h2⟩ := h.obj o l sz xs ho; exact ⟨cc, h1, h2.gh⟩, h.lt, h.dis, h.imJ, fun p hp => by cases hp⟩
/-- what a call comes to that takes the objects 0, 1, .. of its caller: none of them is spoken of behind it -/
def AK (P : Program) (f : FuncId) (bs : List AV) (obs : List (Nat × List (List AV))) (rs : List AV) : Prop :=
  ∀ (w : World) (bl : List Nat) (J : Nat → Prop) (C : Nat → Option Conc) (E0 : Env) (us : List Value), Sm w ⟨bl, J, []⟩ ⟨fun _ => .no, obS obs, obs.length⟩ C J E0 w → RVL obs.length C J w bs us →
    Run P f us w fun v w' => ∃ J' E', Sm w ⟨bl, J, []⟩ ⟨fun _ => .no, fun _ => .dead, 0⟩ (fun _ => Option.none) J' E' w' ∧ ∃ vs F, v = tupV vs ∧ ResM 0 (fun _ => Option.none) J' w' rs vs F ∧ Loose w ⟨bl, J, []⟩ (fun _ => Option.none) w' F ∧ ∀ k ∈ F, ¬ J' k
def KRet (P : Program) (res : List ResultVar) (rs : List AV) : Exit → St → Prop
  | .ret, st | .normal, st => ∃ as hp', RetL P st res as ∧ OutM 0 st.hp as rs hp'
  | _, _ => False
instance (P : Program) (res : List ResultVar) (rs : List AV) : ANoPan (KRet P res rs) := ⟨fun _ _ h => h⟩
variable {P : Program}
theorem AK.go {f : FuncId} {fn : Func} {n : Nat} {c : Code} {bs rs : List AV} {obs : List (Nat × List (List AV))} (hf : P.funcs[f]? = some fn) (hn : fn.ntmps = n) (hb : fn.body = some c) (ha : Nat.ble bs.length n = true)
    (h : ∀ w0 bl J, WfL bs → AW P n w0 ⟨bl, J, []⟩ c (KRet P fn.results.toList rs) ⟨fun t => bs.getD t .no, obS obs, obs.length⟩) : AK P f bs obs rs := fun w bl J C E0 us hS0 hus => by
  have hul := RVL.length hus
  refine Run.go hf hn hb (by rw [hul]; exact ha) ?_
  have hS : Sim w ⟨bl, J, []⟩ ⟨fun t => bs.getD t .no, obS obs, obs.length⟩ (fr us) w := by
    refine ⟨C, J, hS0.tch, hS0.im, fun t => ?_, hS0.nod, hS0.obj, hS0.lt, hS0.dis, hS0.imJ, hS0.gst⟩
    simp only [fr]
    by_cases ht : t < bs.length
    · obtain ⟨v, h1, h2⟩ := RVL.get hus (i := t) (a := bs[t]) (by simp [ht])
      rw [List.getD_eq_getElem?_getD, List.getD_eq_getElem?_getD, h1]
      simpa [ht] using h2
    · have : bs.getD t .no = .no := by simp [Nat.le_of_not_lt ht]
      rw [this]; trivial
  refine (h w bl J (RVL.wf _ _ hus) _ _ hS).mono fun e E' w' ⟨st', ⟨C1, Im, hm⟩, hq⟩ => ?_
  have key : (∃ as hp', RetL P st' fn.results.toList as ∧ OutM 0 st'.hp as rs hp') → ∃ v, (∀ tmps : Array Value, (∀ t, tmps.getD t undef = E' t) → (results fn tmps).run P w' = .ok v w') ∧
      ∃ J' E', Sm w ⟨bl, J, []⟩ ⟨fun _ => .no, fun _ => .dead, 0⟩ (fun _ => Option.none) J' E' w' ∧ ∃ vs F, v = tupV vs ∧ ResM 0 (fun _ => Option.none) J' w' rs vs F ∧ Loose w ⟨bl, J, []⟩ (fun _ => Option.none) w' F ∧ ∀ k ∈ F, ¬ J' k := by
    rintro ⟨as, hp', h1, h2⟩
    obtain ⟨vs, g1, g2, g3⟩ := h1.spec hm
    obtain ⟨C2, F, k1, k2, k3, k4, k5⟩ := h2.spec (st := st') (H := []) (show Sm w ⟨bl, J, []⟩ ⟨st'.E, st'.hp, st'.nx⟩ C1 Im E' w' from hm) g1 Loose.nil
    rw [List.append_nil] at k3
    refine ⟨tupV vs, fun tmps ht => results_run g2 g3 tmps ht, Im, E', ⟨k1.tch, k1.im, (fun t => trivial), (fun o _ => rfl), (fun o l sz xs ho => by cases ho), (fun o _ => rfl), (fun o o' c c' _ hc _ => by cases hc), k1.imJ, (fun p hp => by cases hp)⟩, vs, F, rfl, h2.bnd (fun o ho => by omega) k2, ⟨k3.nd, k3.ge, k3.wb, (fun o c hc => by cases hc)⟩, k4⟩
  cases e with
  | normal => exact key hq
  | ret => exact key hq
  | _ => exact hq.elim
def kilC (ρ : List Nat) (C : Nat → Option Conc) : Nat → Option Conc := fun o => if o ∈ ρ then Option.none else C o
theorem killL_out : ∀ {l : List Nat} {hp : Nat → Ob} {o : Nat}, o ∉ l → killL l hp o = hp o
  | [], _, _, _ => rfl
  | a :: l, hp, o, h => by
    rw [killL, killL_out (fun hm => h (List.mem_cons_of_mem _ hm)), updA_ne _ _ (fun e => h (by rw [e]; exact List.mem_cons_self ..))]
theorem killL_in : ∀ {l : List Nat} {hp : Nat → Ob} {o : Nat}, o ∈ l → killL l hp o = .dead
  | a :: l, hp, o, h => by
    rw [killL]
    by_cases hm : o ∈ l
    · exact killL_in hm
    · rw [killL_out hm]
      rcases List.mem_cons.1 h with rfl | h
      · exact updA_same ..
      · exact absurd h hm
theorem Sm.backK (hm : Sm w0 MP st C Im E w) {ρ : List Nat} {J J' : Nat → Prop} (hI : ∀ k, Im k → J k) (hJ : ∀ k, J k → k < w.heap.size ∧ k ∉ blsOf C ρ) {E' : Env} (hb : Sm w ⟨blsOf C ρ, J, []⟩ ⟨fun _ => .no, fun _ => .dead, 0⟩ (fun _ => Option.none) J' E' w') :
    Sm w0 MP ⟨st.E, killL ρ st.hp, st.nx⟩ (kilC ρ C) (Im2 Im J' w (blsOf C ρ)) E w' ∧ CLe st.nx C (kilC ρ C) ∧
      ∀ F, Loose w ⟨blsOf C ρ, J, []⟩ (fun _ => Option.none) w' F → (∀ k ∈ F, ¬ J' k) → Loose w0 MP (kilC ρ C) w' F ∧ ∀ k ∈ F, ¬ Im2 Im J' w (blsOf C ρ) k := by
  have hwz := hm.tch.size
  have hwz' := hb.tch.size
  have cS : ∀ {o c}, kilC ρ C o = some c → o ∉ ρ ∧ C o = some c := fun {o c} h => by
    unfold kilC at h
    split at h
    · cases h
    · exact ⟨by assumption, h⟩
  have cOut : ∀ {o}, o ∉ ρ → kilC ρ C o = C o := fun h => if_neg h
  have bge : ∀ k ∈ blsOf C ρ, w0.heap.size ≤ k ∨ k ∈ MP.bl := fun k hk => by
    obtain ⟨o, cc, h1, h2, h3⟩ := mem_blsOf.1 hk
    obtain ⟨_, _, _, _, hO⟩ := hm.objOf h2
    exact hO.ge k h3
  have bge' : ∀ k, w.heap.size ≤ k ∨ k ∈ blsOf C ρ → w0.heap.size ≤ k ∨ k ∈ MP.bl := fun k hk => hk.elim (fun h => .inl (by omega)) (bge k)
  have hsame : ∀ k, k < w.heap.size → k ∉ blsOf C ρ → w'.heap[k]? = w.heap[k]? := fun k h1 h2 => hb.tch.same k h1 h2
  have hIs : ∀ k, Im k → w'.heap[k]? = w.heap[k]? := fun k hk => hsame k (hm.im k hk) (hJ k (hI k hk)).2
  have hoff : ∀ o c, o ∉ ρ → C o = some c → ∀ k ∈ blks c, k < w.heap.size ∧ k ∉ blsOf C ρ := fun o c ho hc k hk => by
    obtain ⟨_, _, _, _, hO⟩ := hm.objOf hc
    refine ⟨(hO.wb k hk).lt, fun hk' => ?_⟩
    obtain ⟨o', cc, h1, h2, h3⟩ := mem_blsOf.1 hk'
    exact hm.dis o o' c cc (fun e => ho (e ▸ h1)) hc h2 k hk h3
  have hIm2 : ∀ k, Im k → Im2 Im J' w (blsOf C ρ) k := fun k hk => .inl hk
  have nIm : ∀ k, w.heap.size ≤ k ∨ k ∈ blsOf C ρ → ¬ Im k := fun k hk hi => by
    have := hJ k (hI k hi)
    rcases hk with hk | hk
    · omega
    · exact this.2 hk
  have hle : CLe st.nx C (kilC ρ C) := fun o _ c' hc' => ⟨c', (cS hc').2, .inl ⟨rfl, rfl, rfl⟩⟩
  refine ⟨⟨⟨fun k hk hm' => (hb.tch.same k (by omega) fun hk' => (bge k hk').elim (by omega) (fun h => hm' h)).trans (hm.tch.same k hk hm'), by omega, hb.tch.os.trans hm.tch.os, hb.tch.tape.trans hm.tch.tape, hb.tch.output.trans hm.tch.output⟩, fun k hk => hk.elim (fun hk => by have := hm.im k hk; omega) (fun hk => hb.im k hk.1), fun t => RV.mono hIm2 hIs (Nat.le_refl _) hle _ _ (hm.slot t), fun o ho => ?_, fun o l sz xs ho => ?_, fun o ho => ?_, fun o o' c c' hoo hc hc' => hm.dis o o' c c' hoo (cS hc).2 (cS hc').2, fun k hk => hk.elim (hm.imJ k) fun hk => .inr (bge' k hk.2), fun p hp => RV.mono hIm2 hIs (Nat.le_refl _) hle _ _ (hm.gst p hp)⟩, hle, fun F hL hF => ⟨⟨hL.nd, fun k hk => bge' k (hL.ge k hk), hL.wb, fun o c hc k hk hk' => ?_⟩, fun k hk hi2 => hi2.elim (nIm k (hL.ge k hk)) fun hi2 => hF k hk hi2.1⟩⟩
  · by_cases h : o ∈ ρ
    · exact if_pos h
    · dsimp only at ho
      rw [killL_out h] at ho
      rw [cOut h]; exact hm.nod o ho
  · dsimp only at ho ⊢
    obtain ⟨h1, h2⟩ := killL_live ho
    obtain ⟨c, g1, g2⟩ := hm.obj o l sz xs h2
    have ho2 := hoff o c h1 g1
    have hs2 : ∀ k ∈ blks c, w'.heap[k]? = w.heap[k]? := fun k hk => hsame k (ho2 k hk).1 (ho2 k hk).2
    refine ⟨c, (cOut h1).trans g1, g2.esz, g2.len, g2.buf.same fun b hb => hs2 b (by simp [blks, mem_ownL, hb]), g2.lay.mono hIm2 hIs (Nat.le_refl _) hle fun k hk => hs2 k (by simp [blks, hk]), g2.lens, g2.nd, g2.ge, fun b hb' hi2 => hi2.elim (g2.nim b hb') fun hi2 => ?_, fun k hk => ⟨fun hi2 => hi2.elim (g2.lent k hk).1 fun hi2 => ?_, fun h => .inl ((g2.lent k hk).2 h)⟩⟩
    · have := ho2 b (by simp [blks, mem_ownL, hb'])
      rcases hi2.2 with h | h
      · omega
      · exact this.2 h
    · have := ho2 k (by simp [blks, hk])
      rcases hi2.2 with h | h
      · omega
      · exact absurd h this.2
  · dsimp only at ho ⊢
    by_cases h : o ∈ ρ
    · exact killL_in h
    · rw [killL_out h]; exact hm.lt o ho
  · have h1 := hoff o c (cS hc).1 (cS hc).2 k hk'
    rcases hL.ge k hk with h | h
    · omega
    · exact h1.2 h
end
section
variable {P : Program} {n : Nat} {w0 : World} {MP : Fr} {Q : Exit → St → Prop} {st : St} {lb : Bool} {ops : Array Oper} {os : List Oper} {d : Option Tmp} {ty : TypeId} {pos : String} {af : Array Edge} {g : Option (Nat × Bool)} {x y : Operand}
/-- a call that takes the objects ρ -/
theorem R.callK {f : FuncId} {args : Array Operand} {ats : Array TypeId} {bs rs as : List AV} {obs ob : List (Nat × List (List AV))} [hf : IsFn P f] (ρ : List Nat) (hc : AK P f bs obs rs) (hn : ρ.Nodup) (hob : ObL st.hp ρ obs) (hs : RenL (fun _ => .dead) ρ (args.toList.map (evA st)) bs)
    (hrb : rs.all (renRB true) = true) (hnr : rs.all (fun a => match a with | .sl _ _ _ _ => false | .pt _ _ _ _ => false | .agg _ => false | _ => true) = true) (ht : ThwM st.nx rs as ob) (hw : awant n ops ⟨d, .call ⟨.value (.func f), args, ats⟩, ty, pos, af, g⟩ st.E true = true) (hd : fits n d = true) (hlb : lb = false)
    (h : ARg P n w0 MP lb ops os Q (putA ⟨st.E, addO (killL ρ st.hp) st.nx ob, st.nx + ob.length⟩ d (tupA as))) : ARg P n w0 MP lb ops (⟨d, .call ⟨.value (.func f), args, ats⟩, ty, pos, af, g⟩ :: os) Q st := fun E w ⟨C, Im, hm⟩ => by
  have hoff : ∀ k, Im k → k ∉ blsOf C ρ := fun k hk hk' => by
    obtain ⟨o, cc, h1, h2, h3⟩ := mem_blsOf.1 hk'
    obtain ⟨i, hi⟩ := List.mem_iff_getElem?.1 h1
    obtain ⟨p, q1, q2, q3⟩ := hob.at hi
    obtain ⟨cc', r1, r2⟩ := hm.obj _ _ _ _ q2
    rw [h2] at r1
    cases r1
    rcases List.mem_append.1 h3 with h3 | h3
    · exact r2.nim k (mem_ownL.1 h3) hk
    · cases (r2.lent k h3).1 hk
  have hI : ∀ k, Im k → k < w.heap.size ∧ k ∉ blsOf C ρ := fun k hk => ⟨hm.im k hk, hoff k hk⟩
  have hr := hs.spec (w0 := w0) (MP := MP) (N := st.nx) (C := C) (Im := Im) (J := Im) (fun k hk => hk) (fun o l sz xs ho => by cases ho) (hm.evL _)
  rw [hob.length] at hr
  refine G.Rg.call (hc w _ _ _ E _ (hm.give hn hob (fun k hk => hk) hI E).noGh hr) rfl (awant_spec hm hw) hd ?_
  rintro v w' ⟨J', E', hb, vs, F, e, hR, hL, hF⟩
  subst e
  obtain ⟨hS, hle, hfo⟩ := hm.backK (fun k hk => hk) hI hb
  obtain ⟨hL2, hF2⟩ := hfo F hL hF
  have hres : ResM st.nx (kilC ρ C) (Im2 Im J' w (blsOf C ρ)) w' rs vs F := by
    have hv : ∀ k, J' k → Im2 Im J' w (blsOf C ρ) k := fun k hk => by
      rcases hb.imJ k hk with h | h
      · exact .inl h
      · exact .inr ⟨hk, h⟩
    have := hR.ren (N := st.nx) (C2 := kilC ρ C) (I2 := Im2 Im J' w (blsOf C ρ)) (ρ := []) (vw := true) rfl (fun o ho => by cases ho) (fun i o hi => by simp at hi) (fun _ => hv) hrb
    have e : rs.map (renR []) = rs := by
      conv => rhs; rw [← List.map_id rs]
      apply List.map_congr_left
      intro a ha
      have := List.all_eq_true.1 hnr a ha
      cases a <;> first | rfl | cases this
    rwa [e] at this
  obtain ⟨C3, g1, g2, g3⟩ := ht.spec (st := ⟨st.E, killL ρ st.hp, st.nx⟩) rfl hS hres hL2 hF2
  exact (h _ _ (putS g1 d (tup_rv g2))).mono fun e E2 w2 hq => ⟨fun hb => (by rw [hlb] at hb; cases hb), hq.2⟩
end
section
variable {P : Program} {n : Nat} {w0 : World} {MP : Fr} {Q : Exit → St → Prop} {E : Nat → AV} {hp : Nat → Ob} {nx : Nat} {lb : Bool} {ops : Array Oper} {os : List Oper} {d : Option Tmp} {ty : TypeId} {pos : String} {af : Array Edge} {g : Option (Nat × Bool)} {x y : Operand}
theorem F.k {f : FuncId} {args : Array Operand} {ats : Array TypeId} {bs rs as : List AV} {a : AV} {obs ob : List (Nat × List (List AV))} [hf : IsFn P f] (ρ : List Nat) (hc : AK P f bs obs rs) (h : ARg P n w0 MP lb ops os Q ⟨putE E d a, addO (killL ρ hp) nx ob, nx + ob.length⟩)
    (hn : ρ.Nodup := by exact ndB rfl) (hob : ObL hp ρ obs := by (repeat' first | exact ObL.nil | refine ObL.cons rfl (by first | exact E_pure _ _ | rfl) ?_) <;> fail)
    (hs : RenL (fun _ => .dead) ρ (args.toList.map (evA ⟨E, hp, nx⟩)) bs := by
      (repeat' first
        | exact RenL.nil
        | refine RenL.sl rfl ?_
        | refine RenL.agg ?_ ?_
        | refine RenL.sn (by (repeat' first | exact SnapL.nil | refine SnapL.i ?_ | refine SnapL.bo ?_ | refine SnapL.dt ?_ | refine SnapL.nd ?_ | refine SnapL.ed ?_ | refine SnapL.nl ?_ | refine SnapL.agg ?_ ?_ | refine SnapL.fn ?_ ?_ | refine SnapL.ip ?_) <;> fail) ?_) <;> fail)
    (hrb : rs.all (renRB true) = true := by first | rfl | (simp only [renRB, renB, List.all_cons, List.all_nil, E_own, E_pure, Bool.or_true, Bool.true_or, Bool.true_and, Bool.and_true, Bool.and_self]; done) | (simp [renRB, renB, E_own, E_pure]; done)) (hnr : rs.all (fun a => match a with | .sl _ _ _ _ => false | .pt _ _ _ _ => false | .agg _ => false | _ => true) = true := by exact rfl)
    (ht : ThwM nx rs as ob := by (repeat' first | exact ThwM.nil | apply ThwM.agg | apply ThwM.cell rfl | exact ThwC.nil | apply ThwC.at1 rfl | apply ThwC.ow (E_length _ _) | apply ThwC.ow rfl) <;> fail) (ha : tupA as = a := by exact rfl)
    (hw : awant n ops ⟨d, .call ⟨.value (.func f), args, ats⟩, ty, pos, af, g⟩ E true = true := by exact rfl) (hd : fits n d = true := by exact rfl) (hlb : lb = false := by exact rfl) : ARg P n w0 MP lb ops (⟨d, .call ⟨.value (.func f), args, ats⟩, ty, pos, af, g⟩ :: os) Q ⟨E, hp, nx⟩ := by
  subst ha; exact R.callK ρ hc hn hob hs hrb hnr ht hw hd hlb (by rw [putA_eq]; exact h)
theorem F.retK {res : List ResultVar} {as rs rs' : List AV} {hp' : Nat → Ob} (he : rs' = rs)
    (h1 : RetL P ⟨E, hp, nx⟩ res as := by repeat' first | exact RetL.nil | apply RetL.tmp (a := .i _) rfl | apply RetL.tmp (a := .b _) rfl | apply RetL.tmp (a := .dt _ _ _) rfl | apply RetL.tmp (a := .nl) rfl | apply RetL.tmp (a := .em) rfl)
    (h2 : OutM 0 hp as rs' hp' := by repeat' first | exact OutM.nil | apply OutM.cell rfl (Mv.at1 rfl .nil) rfl | apply OutM.cell rfl (Mv.nl _ .nil) rfl | apply OutM.cell rfl (Mv.em _ .nil) rfl) : KRet P res rs .ret ⟨E, hp, nx⟩ := by
  subst he; exact ⟨as, hp', h1, h2⟩
/-- ghosts: a slot's slice is only read from here on -/
theorem AW.freeze {α : Type} [Enc α] {c : Code} (t : Nat) {o m off k sz : Nat} {l oo : Bool} {ls : List α} (ht : E t = .sl o m off k) (hh : hp o = .live l sz (V.E oo ls)) (hn : ls.length = m) (h : AW P n w0 MP c Q ⟨updA E t (.dt false sz (V.E false ((ls.drop off).take k))), updA hp o .dead, nx⟩) : AW P n w0 MP c Q ⟨E, hp, nx⟩ :=
  AW.ghost (fun E' w hs => Sim.freeze (st := ⟨E, hp, nx⟩) ht hh (by rw [E_length, hn]) (E_pure oo ls) (by rw [E_drop, E_take, E_frz]) hs) h
theorem F.freeze {α : Type} [Enc α] (t : Nat) {o m off k sz : Nat} {l oo : Bool} {ls : List α} (ht : E t = .sl o m off k) (hh : hp o = .live l sz (V.E oo ls)) (hn : ls.length = m) (h : ARg P n w0 MP lb ops os Q ⟨updA E t (.dt false sz (V.E false ((ls.drop off).take k))), updA hp o .dead, nx⟩) : ARg P n w0 MP lb ops os Q ⟨E, hp, nx⟩ :=
  ARg.ghost (fun E' w hs => Sim.freeze (st := ⟨E, hp, nx⟩) ht hh (by rw [E_length, hn]) (E_pure oo ls) (by rw [E_drop, E_take, E_frz]) hs) h
theorem dz {α : Type} [Enc α] {m0 fuel : Nat} {listed : Array Bool} (t : Nat) {o m off k sz : Nat} {l oo : Bool} {ls : List α} (ht : E t = .sl o m off k) (hh : hp o = .live l sz (V.E oo ls)) (hn : ls.length = m) (h : ARA P n w0 MP m0 ops fuel listed Q ⟨updA E t (.dt false sz (V.E false ((ls.drop off).take k))), updA hp o .dead, nx⟩) : ARA P n w0 MP m0 ops fuel listed Q ⟨E, hp, nx⟩ :=
  ARA.ghost (fun E' w hs => Sim.freeze (st := ⟨E, hp, nx⟩) ht hh (by rw [E_length, hn]) (E_pure oo ls) (by rw [E_drop, E_take, E_frz]) hs) h
theorem AW.share {α : Type} [Enc α] {c : Code} (o : Nat) {sz : Nat} {l : Bool} {ls : List α} (hh : hp o = .live l sz (V.E true ls)) (h : AW P n w0 MP c Q ⟨E, updA hp o (.live false sz (V.E false ls)), nx⟩) : AW P n w0 MP c Q ⟨E, hp, nx⟩ :=
  AW.ghost (fun E' w hs => Sim.share (st := ⟨E, hp, nx⟩) hh hs) h
theorem F.share {α : Type} [Enc α] (o : Nat) {sz : Nat} {l : Bool} {ls : List α} (hh : hp o = .live l sz (V.E true ls)) (h : ARg P n w0 MP lb ops os Q ⟨E, updA hp o (.live false sz (V.E false ls)), nx⟩) : ARg P n w0 MP lb ops os Q ⟨E, hp, nx⟩ :=
  ARg.ghost (fun E' w hs => Sim.share (st := ⟨E, hp, nx⟩) hh hs) h
theorem take_all {α : Type} {ls : List α} {m : Nat} (h : ls.length = m) : (ls.drop 0).take m = ls := by rw [List.drop_zero, ← h, List.take_length]
/-- the same for all of an object -/
theorem AW.freezeA {α : Type} [Enc α] {c : Code} (t : Nat) {o m sz : Nat} {l oo : Bool} {ls : List α} (ht : E t = .sl o m 0 m) (hh : hp o = .live l sz (V.E oo ls)) (hn : ls.length = m) (h : AW P n w0 MP c Q ⟨updA E t (.dt false sz (V.E false ls)), updA hp o .dead, nx⟩) : AW P n w0 MP c Q ⟨E, hp, nx⟩ :=
  AW.freeze t ht hh hn (by rw [take_all hn]; exact h)
theorem F.freezeA {α : Type} [Enc α] (t : Nat) {o m sz : Nat} {l oo : Bool} {ls : List α} (ht : E t = .sl o m 0 m) (hh : hp o = .live l sz (V.E oo ls)) (hn : ls.length = m) (h : ARg P n w0 MP lb ops os Q ⟨updA E t (.dt false sz (V.E false ls)), updA hp o .dead, nx⟩) : ARg P n w0 MP lb ops os Q ⟨E, hp, nx⟩ :=
  F.freeze t ht hh hn (by rw [take_all hn]; exact h)
theorem dzA {α : Type} [Enc α] {m0 fuel : Nat} {listed : Array Bool} (t : Nat) {o m sz : Nat} {l oo : Bool} {ls : List α} (ht : E t = .sl o m 0 m) (hh : hp o = .live l sz (V.E oo ls)) (hn : ls.length = m) (h : ARA P n w0 MP m0 ops fuel listed Q ⟨updA E t (.dt false sz (V.E false ls)), updA hp o .dead, nx⟩) : ARA P n w0 MP m0 ops fuel listed Q ⟨E, hp, nx⟩ :=
  dz t ht hh hn (by rw [take_all hn]; exact h)
theorem AW.freezeP {α : Type} [Enc α] {c : Code} (a : α) (t : Nat) {o sz : Nat} {l oo : Bool} (ht : E t = .pt o 1 0 0) (hh : hp o = .live l sz [enc oo a]) (h : AW P n w0 MP c Q ⟨updA E t (.ip (enc false a)), updA hp o .dead, nx⟩) : AW P n w0 MP c Q ⟨E, hp, nx⟩ :=
  AW.ghost (fun E' w hs => Sim.freezeP (st := ⟨E, hp, nx⟩) ht hh hs) h
/-- clear(x[off:off+m]) -/
theorem F.clear {α : Type} [Enc α] {z : α} {t e o nn off m : Nat} {ls ls' : List α} [hu : HasU P t (.slice e)] [hz : ZeroE P e α z] (hx : evA ⟨E, hp, nx⟩ x = .sl o nn off m) (hh : hp o = .live false (Enc.nc α) (V.E false ls)) (hn : ls.length = nn) (he : ls.take off ++ (List.replicate m z ++ ls.drop (off + m)) = ls')
    (hw : awant n ops ⟨d, .call ⟨.builtin .clear, #[x], #[t]⟩, ty, pos, af, g⟩ E true = true) (hd : fits n d = true) (hlb : lb = false)
    (h : ARg P n w0 MP lb ops os Q ⟨putE E d .no, updA hp o (.live false (Enc.nc α) (V.E false ls')), nx⟩) : ARg P n w0 MP lb ops (⟨d, .call ⟨.builtin .clear, #[x], #[t]⟩, ty, pos, af, g⟩ :: os) Q ⟨E, hp, nx⟩ := by
  subst he
  refine ARg.val (st' := putA ⟨E, updA hp o (.live false (Enc.nc α) (V.E false (ls.take off ++ (List.replicate m z ++ ls.drop (off + m))))), nx⟩ d .no) hw hd (fun C Im E' w hm => ?_) (by rw [putA_eq]; exact h)
  have hv := hm.ev x
  rw [hx] at hv
  obtain ⟨p, c, g1, g2, g3, g4, g5⟩ := hv
  obtain ⟨cc, hcc, hO⟩ := hm.obj o false _ _ hh
  have hlen : cc.len = ls.length := by rw [hO.len, E_length]
  obtain ⟨s1, s2, s3⟩ := (g5 cc hcc).2 (by rw [hlen, hn])
  rw [hlen] at s1
  obtain ⟨bys, zz, us, hi, z1, z2, z3, z4⟩ := hz.h
  by_cases h0 : m = 0
  · subst h0
    have e0 : ls.take off ++ (List.replicate 0 z ++ ls.drop (off + 0)) = ls := by simp
    rw [e0]
    have e1 : updA hp o (.live false (Enc.nc α) (V.E false ls)) = hp := by
      funext t'
      by_cases ht : t' = o
      · subst ht; rw [updA_same]; exact hh.symm
      · rw [updA_ne _ _ ht]
    rw [e1]
    have hr : (execOp (ev E') ⟨d, .call ⟨.builtin .clear, #[x], #[t]⟩, ty, pos, af, g⟩).run P w = .ok (.value (.tuple #[])) w := by
      have := hu.und w
      cases p <;> simp [execOp, resolve, invoke, builtin, Builtin.clear_, g1, this]
    exact ⟨_, w, hr, (fun hl => by rw [hlb] at hl; cases hl), putS (show Sm w0 MP ⟨E, hp, nx⟩ C Im E' w from hm) d trivial⟩
  · obtain ⟨b, c', f1, f2⟩ := s3 h0
    obtain ⟨e', hB⟩ := hO.buf
    have hsz : cc.sz = Enc.nc α := hO.esz
    rcases hB.2 with ⟨_, p', hp'⟩ | ⟨b', cp, cur, hp', h2, h3, h4, h5, h6⟩
    · rw [hp'] at f1; cases p' <;> simp [own] at f1
    rw [hp'] at f1
    simp [own] at f1
    subst f1
    let vs := (List.replicate m us).flatten
    have hvl : vs.length = m * Enc.nc α := by
      show (List.replicate m us).flatten.length = _
      rw [flatten_len (sz := Enc.nc α) (fun x hx => by rw [(List.mem_replicate.1 hx).2]; exact z3), List.length_replicate]
    have hone : oneAll vs := by
      have h1 : oneAll us := (z4 (fun _ => False) w).one
      intro u hu'
      obtain ⟨x', hx', hu'⟩ := List.mem_flatten.1 hu'
      rw [(List.mem_replicate.1 hx').2] at hu'
      exact h1 u hu'
    have hfit : off * Enc.nc α + vs.length ≤ cur.length := by
      rw [hvl, h5, hsz, ← Nat.add_mul]
      exact Nat.mul_le_mul_right _ (by omega)
    have hst := run_storeCells_at P b' (off * Enc.nc α) e' vs 0 cur.toArray w h2 (by simpa using hfit) hone
    simp only [Nat.add_zero] at hst
    have hset := setRow_heap w b' cur.toArray (cur.take (off * Enc.nc α) ++ vs ++ cur.drop (off * Enc.nc α + vs.length)).toArray e' _ h2
    have hzc : (Builtin.zeroCells zz.cells m).toList = vs := by
      have := made_flat us z2 m
      rw [z1]
      simpa [Builtin.zeroCells, madeCells] using this
    obtain ⟨m', rfl⟩ : ∃ m', m = m' + 1 := ⟨m - 1, by omega⟩
    have hbo : off * cc.sz = off * Enc.nc α := by rw [hsz]
    have hr : (execOp (ev E') ⟨d, .call ⟨.builtin .clear, #[x], #[t]⟩, ty, pos, af, g⟩).run P w = .ok (.value (.tuple #[])) (w.setRow b' (cur.take (off * Enc.nc α) ++ vs ++ cur.drop (off * Enc.nc α + vs.length)).toArray) := by
      have h1 := hu.und w
      have h9 := hi.zeroV w
      rw [hbo] at f2
      simp [execOp, resolve, invoke, builtin, Builtin.clear_, f2, h1, h9, hzc, hst]
    have hzL : LayC nx C Im w (V.E false (List.replicate (m' + 1) z)).flatten vs [] := by
      have h1 := ((z4 Im w).rep (m' + 1)).frz (Im' := Im) (fun _ h => h) (fun k hk => by cases hk)
      rw [← frzLL_flatten, E_frz] at h1
      exact LayC.imm h1
    have hsp : ls = ls.take off ++ ((ls.drop off).take (m' + 1) ++ ls.drop (off + (m' + 1))) := by
      rw [← List.drop_drop, List.take_append_drop, List.take_append_drop]
    have hAl : (V.E false (ls.take off)).flatten.length = off * Enc.nc α := by
      rw [flatten_len (E_len false _), E_length, List.length_take, Nat.min_eq_left (by omega)]
    obtain ⟨cc', m5, _⟩ := Sm.store (w' := w.setRow b' (cur.take (off * Enc.nc α) ++ vs ++ cur.drop (off * Enc.nc α + vs.length)).toArray) (show Sm w0 MP ⟨E, hp, nx⟩ C Im E' w from hm) (xs' := V.E false (ls.take off ++ (List.replicate (m' + 1) z ++ ls.drop (off + (m' + 1)))))
      (A := (V.E false (ls.take off)).flatten) (B := (V.E false ((ls.drop off).take (m' + 1))).flatten) (B' := (V.E false (List.replicate (m' + 1) z)).flatten) (D := (V.E false (ls.drop (off + (m' + 1)))).flatten) hh hcc
      (by conv => lhs; rw [hsp, E_append, E_append, List.flatten_append, List.flatten_append]) (by rw [E_append, E_append, List.flatten_append, List.flatten_append])
      (by simp only [E_length, List.length_append, List.length_take, List.length_replicate, List.length_drop]; omega) (E_len false _)
      (by rw [flatten_len (E_len false _), flatten_len (E_len false _), E_length, E_length, List.length_replicate, List.length_take, List.length_drop]; congr 1; omega) (by rw [hp']; rfl) hzL Loose.nil (fun k hk => by cases hk)
      ⟨fun k hk => setRow_other w b' k _ hk, by simp, rfl, rfl, rfl⟩ (fun cur' e2 hB' => by
        unfold Blk at hB' h2
        rw [h2] at hB'
        simp only [Option.some.injEq, Obj.cells.injEq] at hB'
        have : cur = cur' := by simpa using congrArg Array.toList hB'.1
        subst this
        rw [hAl]; exact ⟨e', hset⟩)
    exact ⟨_, _, hr, (fun hl => by rw [hlb] at hl; cases hl), putS m5 d trivial⟩
end
end Go.Proofs.Ytcalkmlaodjpaaa.V
