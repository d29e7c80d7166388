/- Rules for calls that write what they are given, or return parts of it; parts of an object taken out and put back. Over any program; nothing is claimed of the given one. -/
import Derived.Test.YtcalkmlaodjpaaaHn
namespace Go.Proofs.Ytcalkmlaodjpaaa.V
open V.Enc (enc)
open Go.RowKit G
set_option linter.unusedVariables false
set_option linter.unusedSimpArgs false

section
variable {P : Program} {n : Nat} {w0 : World} {MP : Fr} {Q : Exit → St → Prop} {st : St} {lb : Bool} {ops : Array Oper} {os : List Oper} {d : Option Tmp} {ty : TypeId} {pos : String} {af : Array Edge} {g : Option (Nat × Bool)} {x y : Operand}
theorem Later.ofTouched {w w' : World} (h : Touched [] w w') : Later w w' := h.below (Nat.le_refl _) (fun k hk => by cases hk)
theorem Sm.calledM {C : Nat → Option Conc} {Im J : Nat → Prop} {E : Env} {w : World} (hm : Sm w0 MP st C Im E w) {ρ : List Nat} {obs obs' ob : List (Nat × List (List AV))} {bs rs as : List AV} {f : FuncId} {us : List Value} {vw : Bool} (hc : AM P f bs obs rs obs') (hn : ρ.Nodup) (hob : ObL st.hp ρ obs)
    (hI : ∀ k, Im k → J k) (hJ : ∀ k, J k → k < w.heap.size ∧ k ∉ blsOf C ρ) (hr : RVL ρ.length (Cc ρ C) J w bs us) (hl : obs'.length = obs.length) (hsz : szO obs obs') (hown : ownO obs') (hvw : vw = true → ∀ k, J k → Im k) (hrb : rs.all (renRB vw) = true) (ht : ThwM st.nx (rs.map (renR ρ)) as ob) (d : Option Tmp) :
    Run P f us w fun v w' => (ρ = [] → Later w w') ∧ Sim w0 MP (putA ⟨st.E, addO (upsA (zipO ρ obs') st.hp) st.nx ob, st.nx + ob.length⟩ d (tupA as)) (G.put E d v) w' := by
  have hlen := hob.length
  rw [hlen] at hr
  refine (hc w _ _ E us (hm.give hn hob hI hJ E) hr).mono fun v w' ⟨C', J', E', hb, vs, F, e, hR, hL, hF⟩ => ?_
  subst e
  obtain ⟨hS, hle, hfo⟩ := hm.back hn hob hI hJ hl hsz hown hb
  obtain ⟨hL2, hF2⟩ := hfo F hL hF
  have hres := hR.ren (N := st.nx) (C2 := upsA (zipF C' ρ 0) C) (I2 := Im2 Im J' w (blsOf C ρ)) (vw := vw) hlen.symm (fun o ho => by
    obtain ⟨i, hi⟩ := List.mem_iff_getElem?.1 ho
    obtain ⟨p, q1, q2, q3⟩ := hob.at hi
    rcases Nat.lt_or_ge o st.nx with h | h
    · exact h
    · have := hm.lt o h; rw [q2] at this; cases this) (fun i o hi => by rw [zipF_at hn hi, Nat.zero_add]) (fun hv k hk => by
    rcases hb.imJ k hk with h | h
    · exact .inl (hvw hv k h)
    · exact .inr ⟨hk, h⟩) hrb
  obtain ⟨C3, g1, g2, g3⟩ := ht.spec (st := ⟨st.E, upsA (zipO ρ obs') st.hp, st.nx⟩) rfl hS hres hL2 hF2
  refine ⟨fun hρ => ?_, putS g1 d (tup_rv g2)⟩
  subst hρ
  exact Later.ofTouched hb.tch
/-- a call that writes objects -/
theorem R.callM {f : FuncId} {args : Array Operand} {ats : Array TypeId} {bs rs as : List AV} {obs obs' ob : List (Nat × List (List AV))} [hf : IsFn P f] (ρ : List Nat) (hc : AM P f bs obs rs obs') (hn : ρ.Nodup) (hob : ObL st.hp ρ obs) (hs : RenL (killL ρ st.hp) ρ (args.toList.map (evA st)) bs) (hl : obs'.length = obs.length) (hsz : szO obs obs') (hown : ownO obs')
    (hrb : rs.all (renRB false) = true) (ht : ThwM st.nx (rs.map (renR ρ)) as ob) (hw : awant n ops ⟨d, .call ⟨.value (.func f), args, ats⟩, ty, pos, af, g⟩ st.E true = true) (hd : fits n d = true) (hlb : lb = false)
    (h : ARg P n w0 MP lb ops os Q (putA ⟨st.E, addO (upsA (zipO ρ obs') st.hp) st.nx ob, st.nx + ob.length⟩ d (tupA as))) : ARg P n w0 MP lb ops (⟨d, .call ⟨.value (.func f), args, ats⟩, ty, pos, af, g⟩ :: os) Q st := fun E w ⟨C, Im, hm⟩ => by
  have hoff : ∀ k, Im k → k ∉ blsOf C ρ := fun k hk hk' => by
    obtain ⟨o, cc, h1, h2, h3⟩ := mem_blsOf.1 hk'
    obtain ⟨i, hi⟩ := List.mem_iff_getElem?.1 h1
    obtain ⟨p, q1, q2, q3⟩ := hob.at hi
    obtain ⟨cc', r1, r2⟩ := hm.obj _ _ _ _ q2
    rw [h2] at r1
    cases r1
    rcases List.mem_append.1 h3 with h3 | h3
    · exact r2.nim k (mem_ownL.1 h3) hk
    · cases (r2.lent k h3).1 hk
  have hr := hs.spec (w0 := w0) (MP := MP) (N := st.nx) (C := C) (Im := Im) (J := fun k => k < w.heap.size ∧ k ∉ blsOf C ρ) (fun k hk => ⟨hm.im k hk, hoff k hk⟩) (fun o l sz xs ho => by
    obtain ⟨h1, h2⟩ := killL_live ho
    obtain ⟨cc, r1, r2⟩ := hm.obj _ _ _ _ h2
    refine ⟨cc, r1, r2, fun k hk => ⟨(r2.wb k hk).lt, fun hk' => ?_⟩⟩
    obtain ⟨o', c', g1, g2, g3⟩ := mem_blsOf.1 hk'
    exact hm.dis o o' cc c' (fun e => h1 (e ▸ g1)) r1 g2 k hk g3) (hm.evL _)
  refine G.Rg.call (hm.calledM hc hn hob (fun k hk => ⟨hm.im k hk, hoff k hk⟩) (fun k hk => hk) hr hl hsz hown (vw := false) (fun h => by cases h) hrb ht d) rfl (awant_spec hm hw) hd ?_
  rintro v w' ⟨_, hS⟩
  exact (h _ _ hS).mono fun e E2 w2 hq => ⟨fun hb => (by rw [hlb] at hb; cases hb), hq.2⟩
/-- a call that returns parts of what does not change -/
theorem R.callW {f : FuncId} {args : Array Operand} {ats : Array TypeId} {bs rs as : List AV} {ob : List (Nat × List (List AV))} [hf : IsFn P f] (hc : AM P f bs [] rs []) (hs : RenL (fun _ => .dead) [] (args.toList.map (evA st)) bs)
    (hrb : rs.all (renRB true) = true) (ht : ThwM st.nx (rs.map (renR [])) as ob) (hw : awant n ops ⟨d, .call ⟨.value (.func f), args, ats⟩, ty, pos, af, g⟩ st.E true = true) (hd : fits n d = true)
    (h : ARg P n w0 MP lb ops os Q (putA ⟨st.E, addO st.hp st.nx ob, st.nx + ob.length⟩ d (tupA as))) : ARg P n w0 MP lb ops (⟨d, .call ⟨.value (.func f), args, ats⟩, ty, pos, af, g⟩ :: os) Q st := fun E w ⟨C, Im, hm⟩ => by
  have hr := hs.spec (w0 := w0) (MP := MP) (N := st.nx) (C := C) (Im := Im) (J := Im) (fun k hk => hk) (fun o l sz xs ho => by cases ho) (hm.evL _)
  refine G.Rg.call (hm.calledM (ρ := []) (J := Im) hc List.nodup_nil .nil (fun k hk => hk) (fun k hk => ⟨hm.im k hk, by simp [blsOf]⟩) hr rfl rfl ownO.nil (vw := true) (fun _ k hk => hk) hrb ht d) rfl (awant_spec hm hw) hd ?_
  rintro v w' ⟨hl, hS⟩
  exact (h _ _ hS).mono fun e E2 w2 hq => ⟨fun hb => (hl rfl).trans (hq.1 hb), hq.2⟩

/-! ### a part of an object is taken out, and put back -/
theorem AW.ghost {c : Code} {st' : St} (hs : ∀ E w, Sim w0 MP st E w → Sim w0 MP st' E w) (h : AW P n w0 MP c Q st') : AW P n w0 MP c Q st := fun E w hm => h E w (hs E w hm)
theorem ARg.ghost {st' : St} (hs : ∀ E w, Sim w0 MP st E w → Sim w0 MP st' E w) (h : ARg P n w0 MP lb ops os Q st') : ARg P n w0 MP lb ops os Q st := fun E w hm => h E w (hs E w hm)
theorem ARA.ghost {m fuel : Nat} {listed : Array Bool} {st' : St} (hs : ∀ E w, Sim w0 MP st E w → Sim w0 MP st' E w) (h : ARA P n w0 MP m ops fuel listed Q st') : ARA P n w0 MP m ops fuel listed Q st := fun E w hm => h E w (hs E w hm)
theorem set_len {xs : List (List AV)} {sz k : Nat} {c : List AV} (h : ∀ x ∈ xs, x.length = sz) (hc : c.length = sz) : ∀ x ∈ xs.set k c, x.length = sz := fun x hx => by
  rcases List.mem_or_eq_of_mem_set hx with h' | h'
  · exact h x h'
  · rw [h']; exact hc
/-- one cell of an object is told in other words -/
theorem Sm.recell {C : Nat → Option Conc} {Im : Nat → Prop} {E : Env} {w : World} (hm : Sm w0 MP st C Im E w) {o sz k j : Nat} {l : Bool} {xs : List (List AV)} {c : List AV} {a' : AV} {cc : Conc} {u1 u3 : List Value} {v : Value} {F1 F3 G : List Nat} (ho : st.hp o = .live l sz xs) (hcc : C o = some cc) (hk : xs[k]? = some c) (hj : j < c.length)
    (e1 : cc.us = u1 ++ ([v] ++ u3)) (hA : LayC st.nx C Im w ((xs.take k).flatten ++ c.take j) u1 F1) (hB : LayC st.nx C Im w (c.drop (j + 1) ++ (xs.drop (k + 1)).flatten) u3 F3) (hc : LayC st.nx C Im w [a'] [v] G)
    (hnd : (F1 ++ (G ++ F3)).Nodup) (hown : ∀ b, own cc.hv = some b → b ∉ F1 ++ (G ++ F3)) (hge : ∀ k ∈ F1 ++ (G ++ F3), w0.heap.size ≤ k ∨ k ∈ MP.bl) (hl : ∀ k ∈ F1 ++ (G ++ F3), Im k ↔ l = true) (hoff : ∀ o' c', o' ≠ o → C o' = some c' → ∀ k ∈ F1 ++ (G ++ F3), k ∉ blks c') :
    Sm w0 MP ⟨st.E, updA st.hp o (.live l sz (xs.set k (c.set j a'))), st.nx⟩ (updA C o (some ⟨cc.hv, cc.len, cc.sz, cc.us, F1 ++ (G ++ F3)⟩)) Im E w := by
  obtain ⟨cc1, hcc1, hO⟩ := hm.obj o l sz xs ho
  rw [hcc] at hcc1
  cases hcc1
  have hsz : ∀ x ∈ xs, x.length = sz := fun x hx => by rw [hO.lens x hx, hO.esz]
  have hcl : c.length = sz := hsz c (List.mem_of_getElem? hk)
  have hflat : (xs.set k (c.set j a')).flatten = ((xs.take k).flatten ++ c.take j) ++ ([a'] ++ (c.drop (j + 1) ++ (xs.drop (k + 1)).flatten)) := by
    rw [flatten_set hk, List.set_eq_take_append_cons_drop, if_pos hj]; simp
  refine hm.turn o ho hcc (.inl ⟨rfl, rfl, rfl⟩) hm.tch (Nat.le_refl _) (fun _ _ => rfl) (fun _ _ _ _ _ _ => rfl) ⟨hO.esz, by rw [List.length_set]; exact hO.len, hO.buf, ?_, fun x hx => by rw [set_len hsz (by rw [List.length_set]; exact hcl) x hx]; exact hO.esz.symm, ?_, fun k hk => ?_, hO.nim, hl⟩ fun o' c' ho' hc' k hk => ?_
  · rw [hflat, e1]
    exact hA.append (hc.append hB)
  · refine List.nodup_append.2 ⟨?_, hnd, fun a ha b hb e => ?_⟩
    · unfold ownL; cases own cc.hv <;> simp
    · subst e; exact hown a (mem_ownL.1 ha) hb
  · rcases List.mem_append.1 hk with hk | hk
    · exact hO.ge k (List.mem_append_left _ hk)
    · exact hge k hk
  · rcases List.mem_append.1 hk with hk | hk
    · exact hm.dis o o' cc c' (Ne.symm ho') hcc hc' k (List.mem_append_left _ hk)
    · exact hoff o' c' ho' hc' k hk
theorem flat_cell {xs : List (List AV)} {k j : Nat} {c : List AV} {a : AV} (hk : xs[k]? = some c) (hj : c[j]? = some a) : xs.flatten = ((xs.take k).flatten ++ c.take j) ++ ([a] ++ (c.drop (j + 1) ++ (xs.drop (k + 1)).flatten)) := by
  have hl : j < c.length := (List.getElem?_eq_some_iff.1 hj).1
  have := flat_parts (r := 1) (j := j) hk (by omega)
  rw [this]
  congr 2
  have e : (c.drop j).take 1 = [a] := by
    rw [List.drop_eq_getElem_cons hl, List.take_succ_cons, List.take_zero, (List.getElem?_eq_some_iff.1 hj).2]
  rw [e]
/-- a list below an object's cell becomes an object -/
theorem Sim.take {E : Env} {w : World} {o sz k j sz2 : Nat} {xs ys : List (List AV)} {c : List AV} (ho : st.hp o = .live false sz xs) (hk : xs[k]? = some c) (hj : c[j]? = some (.dt true sz2 ys)) (hs : Sim w0 MP st E w) :
    Sim w0 MP ⟨st.E, updA (updA st.hp o (.live false sz (xs.set k (c.set j (.sl st.nx ys.length 0 ys.length))))) st.nx (.live false sz2 ys), st.nx + 1⟩ E w ∧ ∀ b q, (∃ cc C Im, Sm w0 MP st C Im E w ∧ C o = some cc ∧ own cc.hv = some b ∧ q = k * cc.sz + j) →
      ∃ v C' Im', w.cell? ⟨b, q, none⟩ = some v ∧ v.oneCell' = true ∧ Sm w0 MP ⟨st.E, updA (updA st.hp o (.live false sz (xs.set k (c.set j (.sl st.nx ys.length 0 ys.length))))) st.nx (.live false sz2 ys), st.nx + 1⟩ C' Im' E w ∧ RV (st.nx + 1) C' Im' w (.sl st.nx ys.length 0 ys.length) v := by
  have key : ∀ C Im, Sm w0 MP st C Im E w → ∃ v C', Sm w0 MP ⟨st.E, updA (updA st.hp o (.live false sz (xs.set k (c.set j (.sl st.nx ys.length 0 ys.length))))) st.nx (.live false sz2 ys), st.nx + 1⟩ C' Im E w ∧ RV (st.nx + 1) C' Im w (.sl st.nx ys.length 0 ys.length) v ∧ v.oneCell' = true ∧
      ∀ cc, C o = some cc → ∀ b, own cc.hv = some b → w.cell? ⟨b, k * cc.sz + j, none⟩ = some v := by
    intro C Im hm
    obtain ⟨cc, hcc, hO⟩ := hm.obj o false sz xs ho
    have hjl : j < c.length := (List.getElem?_eq_some_iff.1 hj).1
    have hkl : k < xs.length := (List.getElem?_eq_some_iff.1 hk).1
    have hsz : ∀ x ∈ xs, x.length = sz := fun x hx => by rw [hO.lens x hx, hO.esz]
    have hcl : c.length = sz := hsz c (List.mem_of_getElem? hk)
    have hox : o < st.nx := by
      rcases Nat.lt_or_ge o st.nx with h | h
      · exact h
      · have := hm.lt o h; rw [ho] at this; cases this
    obtain ⟨u1, u2, u3, F1, F2, F3, e1, e2, l1, l2, q1, q2, q3⟩ := hO.lay.cut (flat_cell hk hj)
    have hnd := hO.nd
    unfold blks at hnd
    obtain ⟨n1, n2, n3⟩ := List.nodup_append.1 hnd
    rw [e2] at n2
    obtain ⟨m1, m2, m3⟩ := List.nodup_append.1 n2
    obtain ⟨m4, m5, m6⟩ := List.nodup_append.1 m2
    have sub : ∀ x, x ∈ F1 ++ ([] ++ F3) → x ∈ cc.F := fun x hx => by
      rw [e2]; simp only [List.nil_append, List.mem_append] at hx ⊢
      rcases hx with h | h
      · exact .inl h
      · exact .inr (.inr h)
    have subB : ∀ x, x ∈ cc.F → x ∈ blks cc := fun x hx => List.mem_append_right _ hx
    cases q2 with
    | at1 h _ _ => exact absurd h.1 (by simp)
    | @ow _ _ v G1 _ vs G2 h1 h2 =>
      cases h2
      have hone : v.oneCell' = true := h1.one _ (by simp)
      have hcell : ∀ b, own cc.hv = some b → w.cell? ⟨b, k * cc.sz + j, none⟩ = some v := fun b hb => by
        refine hO.cell hb ?_
        have hl1 : u1.length = k * cc.sz + j := by
          rw [l1, List.length_append, flatten_take hsz (by omega), List.length_take, Nat.min_eq_left (by omega), hO.esz]
        rw [e1, List.getElem?_append_right (by omega), hl1]; simp
      cases h1 with
      | at1 h _ => cases h
      | @ow _ _ _ us2 G _ vs' F4 g1 g2 g3 g4 =>
      cases g4
      simp only [List.append_nil] at e2 m2 m3 m4 m5 m6 n2
      have hA := Sm.recell hm (a' := .no) (v := v) (u1 := u1) (u3 := u3) (F1 := F1) (F3 := F3) (G := []) ho hcc hk hjl (by rw [e1]) q1 q3 (.at1 trivial hone .nil)
        (by
          rw [List.nil_append]
          exact List.nodup_append.2 ⟨m1, m5, fun a ha b hb => m3 a ha b (List.mem_append_right _ hb)⟩) (fun b hb hk' => n3 b (mem_ownL.2 hb) b (sub b hk') rfl) (fun x hx => hO.ge x (subB x (sub x hx))) (fun x hx => hO.lent x (sub x hx)) (fun o' c' ho' hc' x hx => hm.dis o o' cc c' (Ne.symm ho') hcc hc' x (subB x (sub x hx)))
      simp only [List.nil_append] at hA
      let cc1 : Conc := ⟨cc.hv, cc.len, cc.sz, cc.us, F1 ++ F3⟩
      let C1 := updA C o (some cc1)
      let cc2 : Conc := ⟨v, ys.length, sz2, us2, G⟩
      have hF : ∀ x ∈ blks cc2, x ∈ cc.F := fun x hx => by rw [e2]; exact List.mem_append_right _ (List.mem_append_left _ hx)
      have hle1 : CLe st.nx C C1 := fun o1 ho1 c1 hc1 => by
        by_cases e : o1 = o
        · subst e
          simp only [C1] at hc1
          rw [updA_same] at hc1
          cases hc1
          exact ⟨cc, hcc, .inl ⟨rfl, rfl, rfl⟩⟩
        · simp only [C1] at hc1
          rw [updA_ne _ _ e] at hc1
          exact ⟨c1, hc1, .inl ⟨rfl, rfl, rfl⟩⟩
      have hO2 : OR w0 MP st.nx C1 Im w false sz2 ys cc2 := ⟨rfl, rfl, g1, LayC.own g2, g3, m4, fun x hx => hO.ge x (subB x (hF x hx)), fun b hb hi => absurd ((hO.lent b (hF b (List.mem_append_left _ (mem_ownL.2 hb)))).1 hi) (by simp), fun x hx => hO.lent x (hF x (List.mem_append_right _ hx))⟩
      have hB := hA.new hO2 (fun o1 c1 hc1 x hx hx1 => by
        by_cases e : o1 = o
        · subst e
          rw [updA_same] at hc1
          cases hc1
          rcases List.mem_append.1 hx1 with hx1 | hx1
          · exact n3 x hx1 x (hF x hx) rfl
          · rcases List.mem_append.1 hx1 with hx1 | hx1
            · exact m3 x hx1 x (List.mem_append_left _ hx) rfl
            · exact m6 x hx x hx1 rfl
        · rw [updA_ne _ _ e] at hc1
          exact hm.dis o o1 cc c1 (Ne.symm e) hcc hc1 x (subB x (hF x hx)) hx1)
      dsimp only at hB
      have hrv : RV (st.nx + 1) (updA C1 st.nx (some cc2)) Im w (.sl st.nx ys.length 0 ys.length) v := by
        obtain ⟨c2, q1, q2⟩ := hB.obj st.nx false sz2 ys (updA_same ..)
        have := RV.slNew q2 q1 (Nat.lt_succ_self _)
        rw [updA_same] at q1
        cases q1
        exact this
      have hle2 : CLe st.nx C (updA C1 st.nx (some cc2)) := fun o1 ho1 c1 hc1 => by
        rw [updA_ne _ _ (by omega)] at hc1
        exact hle1 o1 ho1 c1 hc1
      have hoB : (updA (updA st.hp o (.live false sz (xs.set k (c.set j .no)))) st.nx (.live false sz2 ys)) o = .live false sz (xs.set k (c.set j .no)) := by rw [updA_ne _ _ (by omega), updA_same]
      have hkB : (xs.set k (c.set j .no))[k]? = some (c.set j .no) := by simp [hkl]
      have hC := Sm.recell hB (o := o) (k := k) (j := j) (c := c.set j .no) (a' := .sl st.nx ys.length 0 ys.length) (cc := cc1) (v := v) (u1 := u1) (u3 := u3) (F1 := F1) (F3 := F3) (G := []) hoB (by
          rw [updA_ne _ _ (by omega)]
          exact updA_same ..) hkB (by simpa using hjl) e1
        (by
          have := q1.mono (fun _ h => h) (fun _ _ => rfl) (Nat.le_succ _) hle2 (fun _ _ => rfl)
          rw [List.take_set_of_le (by omega), List.take_set_of_le (by omega)]
          exact this)
        (by
          have := q3.mono (fun _ h => h) (fun _ _ => rfl) (Nat.le_succ _) hle2 (fun _ _ => rfl)
          rw [List.drop_set_of_lt (by omega), List.drop_set_of_lt (by omega)]
          exact this) (.at1 hrv hone .nil)
        (by
          rw [List.nil_append]
          exact List.nodup_append.2 ⟨m1, m5, fun a ha b hb => m3 a ha b (List.mem_append_right _ hb)⟩) (fun b hb hk' => n3 b (mem_ownL.2 hb) b (sub b hk') rfl) (fun x hx => hO.ge x (subB x (sub x hx))) (fun x hx => hO.lent x (sub x hx)) (fun o' c' ho' hc' x hx hx1 => by
          by_cases e : o' = st.nx
          · subst e
            rw [updA_same] at hc'
            cases hc'
            rcases List.mem_append.1 hx with hx | hx
            · exact m3 x hx x (List.mem_append_left _ hx1) rfl
            · exact m6 x hx1 x hx rfl
          · rw [updA_ne _ _ e] at hc'
            have hc2 : updA C o (some cc1) o' = some c' := hc'
            rw [updA_ne _ _ ho'] at hc2
            replace hc' := hc2
            exact hm.dis o o' cc c' (Ne.symm ho') hcc hc' x (subB x (sub x hx)) hx1)
      refine ⟨v, updA (updA C1 st.nx (some cc2)) o (some ⟨cc1.hv, cc1.len, cc1.sz, cc1.us, F1 ++ ([] ++ F3)⟩), ?_, ?_, hone, fun cc' hc' b hb => by rw [hcc] at hc'; cases hc'; exact hcell b hb⟩
      · have e5 : ∀ (a : AV), (xs.set k (c.set j .no)).set k ((c.set j .no).set j a) = xs.set k (c.set j a) := fun a => by simp
        have e6 : updA (updA (updA st.hp o (.live false sz (xs.set k (c.set j .no)))) st.nx (.live false sz2 ys)) o (.live false sz ((xs.set k (c.set j .no)).set k ((c.set j .no).set j (.sl st.nx ys.length 0 ys.length)))) = updA (updA st.hp o (.live false sz (xs.set k (c.set j (.sl st.nx ys.length 0 ys.length))))) st.nx (.live false sz2 ys) := by
          rw [e5]
          funext t
          by_cases e : t = o
          · subst e
            rw [updA_same, updA_ne _ _ (by omega), updA_same]
          · rw [updA_ne _ _ e]
            by_cases e' : t = st.nx
            · subst e'; rw [updA_same, updA_same]
            · rw [updA_ne _ _ e', updA_ne _ _ e', updA_ne _ _ e, updA_ne _ _ e]
        rw [← e6]
        exact hC
      · refine RV.mono (fun _ h => h) (fun _ _ => rfl) (Nat.le_refl _) (fun o1 ho1 c1 hc1 => ?_) _ _ hrv
        by_cases e : o1 = o
        · subst e
          rw [updA_same] at hc1
          cases hc1
          exact ⟨cc1, by rw [updA_ne _ _ (by omega)]; exact updA_same .., .inl ⟨rfl, rfl, rfl⟩⟩
        · rw [updA_ne _ _ e] at hc1
          exact ⟨c1, hc1, .inl ⟨rfl, rfl, rfl⟩⟩
  obtain ⟨C, Im, hm⟩ := hs
  obtain ⟨v, C', h1, h2, h3, h4⟩ := key C Im hm
  refine ⟨⟨C', Im, h1⟩, fun b q ⟨cc, C, Im, hm, hcc, hb, hq⟩ => ?_⟩
  obtain ⟨v, C', h1, h2, h3, h4⟩ := key C Im hm
  subst hq
  exact ⟨v, C', Im, h4 cc hcc b hb, h3, h1, h2⟩
/-- a slice in an object's cell: its list goes along with the object -/
theorem Sim.put {E : Env} {w : World} {o sz k j : Nat} {l : Bool} {xs : List (List AV)} {c : List AV} {a a' : AV} {hp' : Nat → Ob} (ho : st.hp o = .live l sz xs) (hk : xs[k]? = some c) (hj : c[j]? = some a) (hca : cellB a = true) (hmv : Mv l st.hp [a] [a'] hp') (ho' : hp' o = .live l sz xs) (hs : Sim w0 MP st E w) :
    Sim w0 MP ⟨st.E, updA hp' o (.live l sz (xs.set k (c.set j a'))), st.nx⟩ E w := by
  obtain ⟨C, Im, hm⟩ := hs
  obtain ⟨cc, hcc, hO⟩ := hm.obj o l sz xs ho
  have hjl : j < c.length := (List.getElem?_eq_some_iff.1 hj).1
  obtain ⟨u1, u2, u3, F1, F2, F3, e1, e2, l1, l2, q1, q2, q3⟩ := hO.lay.cut (flat_cell hk hj)
  obtain ⟨v, rfl, rfl, hv⟩ := q2.get1 (fun sz xs e => by subst e; cases hca)
  have hone := hv.one hca
  obtain ⟨C1, Gb, f3, m1, y1, L1, le1⟩ := hmv.lay (H := []) (show Sm w0 MP ⟨st.E, st.hp, st.nx⟩ C Im E w from hm) (LayC.at1 hv hone .nil) Loose.nil (fun _ k hk => by cases hk)
  rw [List.append_nil] at L1
  obtain ⟨Im', hI, m4, hGl⟩ := m1.lendTo l L1 f3
  obtain ⟨cc1, hc1, hO4⟩ := m4.obj o l sz xs ho'
  have : cc1 = cc := by
    have := le1 o cc1 hc1
    rw [hcc] at this; exact (Option.some.inj this).symm
  subst this
  have hle : CLe st.nx C C1 := sub_cle le1
  have hnd := hO4.nd
  unfold blks at hnd
  obtain ⟨n1, n2, n3⟩ := List.nodup_append.1 hnd
  simp only [List.nil_append] at e2
  rw [e2] at n2
  obtain ⟨k1, k2, k3⟩ := List.nodup_append.1 n2
  have hF : ∀ x, x ∈ F1 ++ (Gb ++ F3) → x ∈ cc1.F ∨ x ∈ Gb := fun x hx => by
    rw [e2]; simp only [List.mem_append] at hx ⊢
    rcases hx with h | h | h
    · exact .inl (.inl h)
    · exact .inr h
    · exact .inl (.inr h)
  have hGo : ∀ x ∈ Gb, x ∉ blks cc1 := fun x hx => L1.off o cc1 hc1 x hx
  have key := Sm.recell m4 (a' := a') (v := v) (u1 := u1) (u3 := u3) (F1 := F1) (F3 := F3) (G := Gb) ho' hc1 hk hjl e1 (q1.mono hI (fun _ _ => rfl) (Nat.le_refl _) hle (fun _ _ => rfl)) (q3.mono hI (fun _ _ => rfl) (Nat.le_refl _) hle (fun _ _ => rfl)) (y1.mono hI (fun _ _ => rfl) (Nat.le_refl _) (CLe.refl _ _) (fun _ _ => rfl))
    (by
      refine List.nodup_append.2 ⟨k1, List.nodup_append.2 ⟨L1.nd, k2, fun a ha b hb e => ?_⟩, fun a ha b hb e => ?_⟩
      · subst e; exact hGo a ha (by simp [blks, e2, hb])
      · subst e
        rcases List.mem_append.1 hb with hb | hb
        · exact hGo a hb (by simp [blks, e2, ha])
        · exact k3 a ha a hb rfl)
    (fun b hb hx => (hF b hx).elim (fun h => n3 b (mem_ownL.2 hb) b h rfl) fun h => hGo b h (List.mem_append_left _ (mem_ownL.2 hb)))
    (fun x hx => (hF x hx).elim (fun h => hO4.ge x (by simp [blks, h])) (L1.ge x)) (fun x hx => (hF x hx).elim (hO4.lent x) (hGl x))
    (fun o1 c1 h1 hc' x hx => (hF x hx).elim (fun h => m4.dis o o1 cc1 c1 (Ne.symm h1) hc1 hc' x (by simp [blks, h])) fun h => L1.off o1 c1 hc' x h)
  exact ⟨_, Im', key⟩
end
section
variable {P : Program} {n : Nat} {w0 : World} {MP : Fr} {Q : Exit → St → Prop} {E : Nat → AV} {hp : Nat → Ob} {nx : Nat} {lb : Bool} {ops : Array Oper} {os : List Oper} {d : Option Tmp} {ty : TypeId} {pos : String} {af : Array Edge} {g : Option (Nat × Bool)} {x y : Operand}
theorem ndB {l : List Nat} (h : decide l.Nodup = true) : l.Nodup := of_decide_eq_true h
/-- a call that writes the objects ρ, by its contract -/
theorem F.m {f : FuncId} {args : Array Operand} {ats : Array TypeId} {bs rs as rs2 : List AV} {a : AV} {obs obs' ob : List (Nat × List (List AV))} [hf : IsFn P f] (ρ : List Nat) (hc : AM P f bs obs rs obs') (h : ARg P n w0 MP lb ops os Q ⟨putE E d a, addO (upsA (zipO ρ obs') hp) nx ob, nx + ob.length⟩)
    (hn : ρ.Nodup := by exact ndB rfl) (hob : ObL hp ρ obs := by (repeat' first | exact ObL.nil | refine ObL.cons rfl (by first | exact E_pure _ _ | rfl) ?_) <;> fail)
    (hs : RenL (killL ρ hp) ρ (args.toList.map (evA ⟨E, hp, nx⟩)) bs := by
      (repeat' first
        | exact RenL.nil
        | refine RenL.sl rfl ?_
        | refine RenL.agg ?_ ?_
        | refine RenL.sn (by (repeat' first | exact SnapL.nil | refine SnapL.i ?_ | refine SnapL.bo ?_ | refine SnapL.dt ?_ | refine SnapL.slE rfl (by first | rfl | omega | (simp; done) | (simp; omega)) ?_ | refine SnapL.slV rfl (by first | rfl | omega | (simp; done) | (simp; omega)) ?_ | refine SnapL.nd ?_ | refine SnapL.ed ?_ | refine SnapL.nl ?_ | refine SnapL.agg ?_ ?_ | refine SnapL.fn ?_ ?_ | refine SnapL.ip ?_ | refine SnapL.pt rfl rfl rfl rfl ?_ rfl ?_) <;> fail) ?_) <;> fail)
    (hl : obs'.length = obs.length := by exact rfl) (hsz : szO obs obs' := by exact rfl) (hown : ownO obs' := by repeat' first | exact ownO.nil | refine ownO.cons (by first | exact E_own _ | rfl) (by first | exact E_pure _ _ | rfl) ?_) (hrb : rs.all (renRB false) = true := by first | rfl | (simp [renRB, renB, E_own, E_pure]; done))
    (hr : rs.map (renR ρ) = rs2 := by exact rfl) (ht : ThwM nx rs2 as ob := by (repeat' first | exact ThwM.nil | apply ThwM.agg | apply ThwM.cell rfl | exact ThwC.nil | apply ThwC.at1 rfl | apply ThwC.ow (E_length _ _) | apply ThwC.ow rfl) <;> fail) (ha : tupA as = a := by exact rfl)
    (hw : awant n ops ⟨d, .call ⟨.value (.func f), args, ats⟩, ty, pos, af, g⟩ E true = true := by exact rfl) (hd : fits n d = true := by exact rfl) (hlb : lb = false := by exact rfl) : ARg P n w0 MP lb ops (⟨d, .call ⟨.value (.func f), args, ats⟩, ty, pos, af, g⟩ :: os) Q ⟨E, hp, nx⟩ := by
  subst ha; subst hr; exact R.callM ρ hc hn hob hs hl hsz hown hrb ht hw hd hlb (by rw [putA_eq]; exact h)
/-- a call that returns parts of what does not change -/
theorem F.w {f : FuncId} {args : Array Operand} {ats : Array TypeId} {bs rs as rs2 : List AV} {a : AV} {ob : List (Nat × List (List AV))} [hf : IsFn P f] (hc : AM P f bs [] rs []) (h : ARg P n w0 MP lb ops os Q ⟨putE E d a, addO hp nx ob, nx + ob.length⟩)
    (hs : RenL (fun _ => .dead) [] (args.toList.map (evA ⟨E, hp, nx⟩)) bs := by
      (repeat' first
        | exact RenL.nil
        | refine RenL.agg ?_ ?_
        | refine RenL.sn (by (repeat' first | exact SnapL.nil | refine SnapL.i ?_ | refine SnapL.bo ?_ | refine SnapL.dt ?_ | refine SnapL.nd ?_ | refine SnapL.ed ?_ | refine SnapL.nl ?_ | refine SnapL.agg ?_ ?_ | refine SnapL.fn ?_ ?_ | refine SnapL.ip ?_) <;> fail) ?_) <;> fail)
    (hrb : rs.all (renRB true) = true := by first | rfl | (simp [renRB, renB, E_own, E_pure]; done))
    (hr : rs.map (renR []) = rs2 := by exact rfl) (ht : ThwM nx rs2 as ob := by (repeat' first | exact ThwM.nil | apply ThwM.agg | apply ThwM.cell rfl | exact ThwC.nil | apply ThwC.at1 rfl | apply ThwC.ow (E_length _ _) | apply ThwC.ow rfl) <;> fail) (ha : tupA as = a := by exact rfl)
    (hw : awant n ops ⟨d, .call ⟨.value (.func f), args, ats⟩, ty, pos, af, g⟩ E true = true := by exact rfl) (hd : fits n d = true := by exact rfl) : ARg P n w0 MP lb ops (⟨d, .call ⟨.value (.func f), args, ats⟩, ty, pos, af, g⟩ :: os) Q ⟨E, hp, nx⟩ := by
  subst ha; subst hr; exact R.callW hc hs hrb ht hw hd (by rw [putA_eq]; exact h)
def ObE (hp : Nat → Ob) : Nat → List (Nat × List (List AV)) → Prop
  | _, [] => True
  | N, (sz, xs) :: os => hp N = .live false sz xs ∧ ObE hp (N + 1) os
theorem ObE.spec {hp : Nat → Ob} : ∀ {os : List (Nat × List (List AV))} {N : Nat}, ObE hp N os → ∀ i p, os[i]? = some p → hp (N + i) = .live false p.1 p.2
  | [], _, _, i, p, h => by simp at h
  | (sz, xs) :: os, N, ⟨h1, h2⟩, 0, p, h => by
    simp only [List.getElem?_cons_zero, Option.some.injEq] at h
    subst h; exact h1
  | (sz, xs) :: os, N, ⟨h1, h2⟩, i + 1, p, h => by
    rw [show N + (i + 1) = N + 1 + i by omega]
    exact ObE.spec h2 i p (by simpa using h)
/-- the end of a call that writes -/
theorem F.retM {K : Nat} {res : List ResultVar} {as rs rs' : List AV} {obs' : List (Nat × List (List AV))} {hp' : Nat → Ob} (he : rs' = rs) (ho : ObE hp' 0 obs')
    (h1 : RetL P ⟨E, hp, nx⟩ res as := by repeat' first | exact RetL.nil | apply RetL.tmp (a := .i _) rfl | apply RetL.tmp (a := .b _) rfl | apply RetL.tmp (a := .sl _ _ _ _) rfl | apply RetL.tmp (a := .nl) rfl | apply RetL.tmp (a := .em) rfl | apply RetL.tmp (a := .agg _) rfl | apply RetL.tmp (a := .dt _ _ _) rfl | apply RetL.agg rfl rfl rfl rfl | apply RetL.one rfl rfl rfl)
    (h2 : OutM K hp as rs' hp' := by
      repeat' first
        | exact OutM.nil
        | apply OutM.ref rfl
        | apply OutM.agg rfl
        | exact rfl
        | apply OutM.cell rfl (Mv.at1 rfl .nil) rfl
        | apply OutM.cell rfl (Mv.mv rfl rfl (by first | rfl | exact E_length _ _ | (simp [E_length]; done) | (simp [E_length]; omega)) (by first | exact E_pure _ _ | rfl) .nil) rfl
        | apply OutM.cell rfl (Mv.nl _ .nil) rfl
        | apply OutM.cell rfl (Mv.em _ .nil) rfl
        | exact Mv.nil | apply Mv.at1 rfl | apply Mv.mv rfl rfl (by first | rfl | exact E_length _ _ | (simp [E_length]; done) | (simp [E_length]; omega)) (by first | exact E_pure _ _ | rfl) | apply Mv.nl _ | apply Mv.em _)
    (hl : obs'.length = K := by exact rfl) (hk : K ≤ nx := by first | exact Nat.zero_le _ | (simp; done) | (simp; omega)) (hpu : pureO obs' := by repeat' first | exact pureO.nil | refine pureO.cons (by first | exact E_pure _ _ | rfl) ?_) : MRet P K res rs obs' .ret ⟨E, hp, nx⟩ := by
  subst he
  refine ⟨as, hp', h1, h2, hl, fun o hlt => ?_, hk, hpu⟩
  have hlt' : o < obs'.length := by omega
  have hg : obs'[o]? = some obs'[o] := by simp [hlt']
  have := ho.spec o _ hg
  rw [Nat.zero_add] at this
  rw [this, obS_at hg]
/-- a list below an object's cell is loaded to be written -/
theorem F.ldT {t : TypeId} [h1 : One P t] {o nn k j sz sz2 m : Nat} {xs ys : List (List AV)} {c : List AV} (hx : evA ⟨E, hp, nx⟩ x = .pt o nn k j) (hh : hp o = .live false sz xs) (hn : xs.length = nn) (hk : xs[k]? = some c) (hj : c[j]? = some (.dt true sz2 ys)) (hm : ys.length = m)
    (hw : awant n ops ⟨d, .load t x, ty, pos, af, g⟩ E true = true) (hd : fits n d = true)
    (h : ARg P n w0 MP lb ops os Q ⟨putE E d (.sl nx m 0 m), updA (updA hp o (.live false sz (xs.set k (c.set j (.sl nx m 0 m))))) nx (.live false sz2 ys), nx + 1⟩) : ARg P n w0 MP lb ops (⟨d, .load t x, ty, pos, af, g⟩ :: os) Q ⟨E, hp, nx⟩ := by
  subst hm
  refine ARg.val (st' := putA ⟨E, updA (updA hp o (.live false sz (xs.set k (c.set j (.sl nx ys.length 0 ys.length))))) nx (.live false sz2 ys), nx + 1⟩ d (.sl nx ys.length 0 ys.length)) hw hd (fun C Im E' w hm => ?_) (by rw [putA_eq]; exact h)
  have hv := hm.ev x
  rw [hx] at hv
  obtain ⟨b, q, p1, p2, p3⟩ := hv
  obtain ⟨cc, hcc, hO⟩ := hm.obj o false sz xs hh
  obtain ⟨f1, f2⟩ := (p3 cc hcc).2 (by rw [hO.len, hn])
  obtain ⟨v, C', Im', g1, g2, g3, g4⟩ := (Sim.take hh hk hj ⟨C, Im, hm⟩).2 b q ⟨cc, C, Im, hm, hcc, f1, f2⟩
  have hs := Sil.load (P := P) (d := d) (ty := ty) (pos := pos) (af := af) (g := g) (t := t) p1 g1
  unfold Sil at hs
  exact ⟨v, w, hs w (Later.refl w), fun _ => Later.refl w, putS g3 d g4⟩
theorem F.ldTE {α : Type} [Enc α] [Inhabited α] {t : TypeId} [h1 : One P t] {o nn k j sz sz2 m : Nat} {ls : List α} {ys : List (List AV)} (hx : evA ⟨E, hp, nx⟩ x = .pt o nn k j) (hh : hp o = .live false sz (V.E true ls)) (hn : ls.length = nn) (hk : k < ls.length) (hj : (enc true (ls.getD k default))[j]? = some (.dt true sz2 ys)) (hm : ys.length = m)
    (hw : awant n ops ⟨d, .load t x, ty, pos, af, g⟩ E true = true) (hd : fits n d = true)
    (h : ARg P n w0 MP lb ops os Q ⟨putE E d (.sl nx m 0 m), updA (updA hp o (.live false sz ((V.E true ls).set k ((enc true (ls.getD k default)).set j (.sl nx m 0 m))))) nx (.live false sz2 ys), nx + 1⟩) : ARg P n w0 MP lb ops (⟨d, .load t x, ty, pos, af, g⟩ :: os) Q ⟨E, hp, nx⟩ :=
  F.ldT hx hh (by rw [E_length, hn]) (E_get true ls hk) hj hm hw hd h
theorem Sim.ldPut {α : Type} [Enc α] {o k j sz sz2 m o2 : Nat} {ls : List α} {x v : α} {ys : List (List AV)} {E' : Env} {w : World} (ho : hp o = .live false sz ((V.E true ls).set k ((enc true x).set j (.sl o2 m 0 m)))) (ho2 : hp o2 = .live false sz2 ys) (hm : ys.length = m) (hpu : ys.flatten.all pureB = true) (hne : (updA hp o2 .dead) o = .live false sz ((V.E true ls).set k ((enc true x).set j (.sl o2 m 0 m)))) (hk : k < ls.length) (hj : Nat.blt j (Enc.nc α) = true) (he : (enc true x).set j (.dt true sz2 ys) = enc true v)
    (hs : Sim w0 MP ⟨E, hp, nx⟩ E' w) : Sim w0 MP ⟨E, updA (updA hp o2 .dead) o (.live false sz (V.E true (ls.set k v))), nx⟩ E' w := by
  have hl : j < (enc true x).length := by rw [Enc.len]; exact ltB hj
  have key := Sim.put (st := ⟨E, hp, nx⟩) ho (k := k) (c := (enc true x).set j (.sl o2 m 0 m)) (j := j) (a := .sl o2 m 0 m) (a' := .dt true sz2 ys) (by simp [E_length, hk]) (by simp [hl]) rfl (.mv ho2 rfl hm hpu .nil) hne hs
  have : ((V.E true ls).set k ((enc true x).set j (.sl o2 m 0 m))).set k (((enc true x).set j (.sl o2 m 0 m)).set j (.dt true sz2 ys)) = V.E true (ls.set k v) := by
    rw [List.set_set, List.set_set, he, E_set]
  simp only at key
  rw [this] at key; exact key
/-- a list that was taken out is put back -/
theorem AW.put {α : Type} [Enc α] {c : Code} {o k j sz sz2 m o2 : Nat} {ls : List α} {x v : α} {ys : List (List AV)} (ho : hp o = .live false sz ((V.E true ls).set k ((enc true x).set j (.sl o2 m 0 m)))) (ho2 : hp o2 = .live false sz2 ys) (hm : ys.length = m) (hpu : ys.flatten.all pureB = true) (hne : (updA hp o2 .dead) o = .live false sz ((V.E true ls).set k ((enc true x).set j (.sl o2 m 0 m)))) (hk : k < ls.length) (hj : Nat.blt j (Enc.nc α) = true) (he : (enc true x).set j (.dt true sz2 ys) = enc true v)
    (h : AW P n w0 MP c Q ⟨E, updA (updA hp o2 .dead) o (.live false sz (V.E true (ls.set k v))), nx⟩) : AW P n w0 MP c Q ⟨E, hp, nx⟩ :=
  AW.ghost (fun E' w hs => Sim.ldPut ho ho2 hm hpu hne hk hj he hs) h
theorem F.put {α : Type} [Enc α] {o k j sz sz2 m o2 : Nat} {ls : List α} {x v : α} {ys : List (List AV)} (ho : hp o = .live false sz ((V.E true ls).set k ((enc true x).set j (.sl o2 m 0 m)))) (ho2 : hp o2 = .live false sz2 ys) (hm : ys.length = m) (hpu : ys.flatten.all pureB = true) (hne : (updA hp o2 .dead) o = .live false sz ((V.E true ls).set k ((enc true x).set j (.sl o2 m 0 m)))) (hk : k < ls.length) (hj : Nat.blt j (Enc.nc α) = true) (he : (enc true x).set j (.dt true sz2 ys) = enc true v)
    (h : ARg P n w0 MP lb ops os Q ⟨E, updA (updA hp o2 .dead) o (.live false sz (V.E true (ls.set k v))), nx⟩) : ARg P n w0 MP lb ops os Q ⟨E, hp, nx⟩ :=
  ARg.ghost (fun E' w hs => Sim.ldPut ho ho2 hm hpu hne hk hj he hs) h
end
end Go.Proofs.Ytcalkmlaodjpaaa.V
