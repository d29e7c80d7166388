/- Texts that the proof needs: Uf, Ug, Uj, Uk. -/
import Derived.Test.YtoilkinagffhiaaGreatQfeUi
namespace Go.Proofs.YtoilkinagffhiaaGreat.V
open Go.RowKit G
set_option linter.unusedVariables false
set_option linter.unusedSimpArgs false
section
variable {P : Program} {n : Nat} {w0 : World} {MP : Fr} {Q : Exit → St → Prop} {E : Nat → AV} {hp : Nat → Ob} {nx : Nat}
theorem AW.putC {c : Code} {o k j sz sz2 m o2 : Nat} {xs : List (List AV)} {cs : List AV} {ys : List (List AV)} (ho : hp o = .live false sz xs) (hk : xs[k]? = some cs) (hj : cs[j]? = some (.sl o2 m 0 m)) (ho2 : hp o2 = .live false sz2 ys) (hm : ys.length = m) (hpu : ys.flatten.all pureB = true) (hne : (updA hp o2 .dead) o = .live false sz xs)
  (h : AW P n w0 MP c Q ⟨E, updA (updA hp o2 .dead) o (.live false sz (xs.set k (cs.set j (.dt true sz2 ys)))), nx⟩) : AW P n w0 MP c Q ⟨E, hp, nx⟩ :=
 AW.ghost (fun E' w hs => Sim.put (st := ⟨E, hp, nx⟩) ho (k := k) (c := cs) (j := j) (a := .sl o2 m 0 m) (a' := .dt true sz2 ys) hk hj rfl (.mv ho2 rfl hm hpu .nil) hne hs) h
end
section
variable {w0 : World} {MP : Fr} {st : St} {C : Nat → Option Conc} {Im : Nat → Prop} {E' : Env} {w : World}
theorem Sm.killAll (h : Sm w0 MP st C Im E' w) (f : Nat → Bool) : Sm w0 MP ⟨st.E, fun o => bif f o then st.hp o else .dead, st.nx⟩ (fun o => bif f o then C o else Option.none) Im E' w := by
 have hle : CLe st.nx C (fun o => bif f o then C o else Option.none) := fun o1 ho1 c hc => by
  cases e : f o1 with
  | false => simp [e] at hc
  | true => simp [e] at hc; exact ⟨c, hc, .inl ⟨rfl, rfl, rfl⟩⟩
 refine ⟨h.tch, h.im, fun t => RV.mono (fun _ h => h) (fun _ _ => rfl) (Nat.le_refl _) hle _ _ (h.slot t), fun o1 h1 => ?_, fun o1 l1 sz1 xs1 h1 => ?_, fun o1 h1 => ?_, fun o1 o2 c1 c2 hoo hc1 hc2 => ?_, h.imJ, fun p hp => RV.mono (fun _ h => h) (fun _ _ => rfl) (Nat.le_refl _) hle _ _ (h.gst p hp)⟩
 ·cases e : f o1 with
  | false => rfl
  | true => simp only [e, cond_true] at h1; simp only [cond_true]; exact h.nod o1 h1
 ·cases e : f o1 with
  | false => simp [e] at h1
  | true =>
   simp only [e, cond_true] at h1
   obtain ⟨c, g1, g2⟩ := h.obj o1 l1 sz1 xs1 h1
   exact ⟨c, by simp only [cond_true]; exact g1, g2.esz, g2.len, g2.buf, g2.lay.mono (fun _ h => h) (fun _ _ => rfl) (Nat.le_refl _) hle (fun _ _ => rfl), g2.lens, g2.nd, g2.ge, g2.nim, g2.lent⟩
 ·cases e : f o1 with
  | false => simp only [e, cond_false]
  | true => simp only [e, cond_true]; exact h.lt o1 h1
 ·cases e : f o1 with
  | false => simp [e] at hc1
  | true =>
   cases e2 : f o2 with
   | false => simp [e2] at hc2
   | true =>
    simp only [e, cond_true] at hc1
    simp only [e2, cond_true] at hc2
    exact h.dis o1 o2 c1 c2 hoo hc1 hc2
theorem Sm.slots (h : Sm w0 MP st C Im E' w) {F : Nat → AV} (hF : ∀ t, F t = .no ∨ F t = st.E t) : Sm w0 MP ⟨F, st.hp, st.nx⟩ C Im E' w :=
 ⟨h.tch, h.im, fun t => by
  rcases hF t with e | e
  ·simp only [e]; exact trivial
  ·simp only [e]; exact h.slot t, h.nod, h.obj, h.lt, h.dis, h.imJ, h.gst⟩
theorem Sim.only {E : Nat → AV} {hp : Nat → Ob} {nx : Nat} (sl : List (Nat × AV)) (ob : List (Nat × Ob)) (h1 : AtA E sl) (h2 : AtA hp ob) (hs : Sim w0 MP ⟨E, hp, nx⟩ E' w) : Sim w0 MP ⟨upsA sl fun _ => .no, upsA ob fun _ => .dead, nx⟩ E' w := by
 obtain ⟨C, Im, hm⟩ := hs
 have h3 := (hm.killAll (mem (keys ob))).slots (F := upsA sl fun _ => .no) fun t => by
  cases e : mem (keys sl) t with
  | false => exact .inl (upsA_out _ e)
  | true => exact .inr (upsA_in h1 t e)
 have e : (fun o => bif mem (keys ob) o then hp o else .dead) = upsA ob fun _ => .dead := by
  funext o
  cases e : mem (keys ob) o with
  | false => rw [upsA_out _ e]; rfl
  | true => rw [upsA_in h2 o e]; rfl
 simp only at h3
 rw [e] at h3
 exact ⟨_, Im, h3⟩
end
section
variable {P : Program} {n : Nat} {w0 : World} {MP : Fr} {Q : Exit → St → Prop} {E : Nat → AV} {hp : Nat → Ob} {nx : Nat}
theorem AW.only {c : Code} (sl : List (Nat × AV)) (ob : List (Nat × Ob)) (nx' : Nat) (h1 : AtA E sl) (h2 : AtA hp ob) (hn : nx = nx') (h : AW P n w0 MP c Q ⟨upsA sl fun _ => .no, upsA ob fun _ => .dead, nx'⟩) : AW P n w0 MP c Q ⟨E, hp, nx⟩ := by
 subst hn
 exact AW.ghost (fun E' w hs => Sim.only sl ob h1 h2 hs) h
theorem AW.putV {c : Code} (t j : Nat) {o sz sz2 m o2 : Nat} {cs : List AV} {ys : List (List AV)} (ht : E t = .pt o 1 0 0) (ho : hp o = .live false sz [cs]) (hj : cs[j]? = some (.sl o2 m 0 m)) (ho2 : hp o2 = .live false sz2 ys) (hm : ys.length = m) (hpu : ys.flatten.all pureB = true) (hne : (updA hp o2 .dead) o = .live false sz [cs])
  (h : AW P n w0 MP c Q ⟨E, updA (updA hp o2 .dead) o (.live false sz [cs.set j (.dt true sz2 ys)]), nx⟩) : AW P n w0 MP c Q ⟨E, hp, nx⟩ :=
 AW.putC (k := 0) ho rfl hj ho2 hm hpu hne h
end
end Go.Proofs.YtoilkinagffhiaaGreat.V
namespace Go.Proofs.YtoilkinagffhiaaGreat.V
open Go.RowKit G D
set_option linter.unusedVariables false
set_option linter.unusedSimpArgs false
section
variable {P : Program} {n : Nat} {w0 : World} {MP : Fr} {Q : Exit → St → Prop} {E : Nat → AV} {hp : Nat → Ob} {nx : Nat} {I0 : Nat → Prop} {T : Exit → Env → World → Prop} {fuel : Nat} {ops : Array Oper} {listed : Array Bool}
theorem ARI.ghost {st st' : St} (hs : ∀ E w, Sim w0 MP st E w → Sim w0 MP st' E w) (h : ARI false I0 T P n w0 MP ops fuel listed Q st') : ARI false I0 T P n w0 MP ops fuel listed Q st := fun h0 hN hT E w C Im hm _ => by
 obtain ⟨C', Im', hm'⟩ := hs E w ⟨C, Im, hm⟩
 exact h h0 hN hT E w C' Im' hm' fun hh => by cases hh
end
theorem RVL.setj {N : Nat} {C : Nat → Option Conc} {Im : Nat → Prop} {w : World} : ∀ {cs : List AV} {us : List Value} {j : Nat} {a' : AV}, RVL N C Im w cs us → (∀ v, us[j]? = some v → RV N C Im w a' v) → RVL N C Im w (cs.set j a') us
 | [], us, j, a', h, _ => h
 | b :: cs, us, 0, a', ⟨v, vs, h1, h2, h3⟩, hv => by subst h1; exact ⟨v, vs, rfl, hv v rfl, h3⟩
 | b :: cs, us, j + 1, a', ⟨v, vs, h1, h2, h3⟩, hv => by
  subst h1
  exact ⟨v, vs, rfl, h2, RVL.setj h3 fun u hu => hv u (by simpa using hu)⟩
theorem upsA_flt {β : Type} {S : List Nat} {E : Nat → β} : ∀ (l : List (Nat × β)) (t : Nat), mem S t = false → upsA l E t = upsA (l.filter fun p => !mem S p.1) E t
 | [], _, _ => rfl
 | (d, v) :: l, t, ht => by
  have ih := upsA_flt (S := S) (E := E) l t ht
  cases hd : mem S d with
  | true =>
   have hne : t ≠ d := by rintro rfl; rw [hd] at ht; cases ht
   rw [List.filter_cons_of_neg (by simp [hd]), ← ih]
   exact updA_ne _ _ hne
  | false =>
   rw [List.filter_cons_of_pos (by simp [hd])]
   by_cases e : t = d
   ·subst e; exact (updA_same _ _ _).trans (updA_same _ _ _).symm
   ·exact (updA_ne _ _ e).trans (ih.trans (updA_ne _ _ e).symm)
theorem AgrA.lit {S : List Nat} {l1 l0 : List (Nat × AV)} (h : (l1.filter fun p => !mem S p.1) = l0.filter fun p => !mem S p.1) : AgrA S (upsA l1 fun _ => .no) (upsA l0 fun _ => .no) := fun t ht => by
 rw [upsA_flt l1 t ht, h, ← upsA_flt l0 t ht]
theorem AgrH.lit {m : Nat} {l l0 : List (Nat × Ob)} (h0 : ((keys l0).all fun o => mem (keys l) o || Nat.ble m o) = true) : AgrH m l (fun _ => .dead) (upsA l0 fun _ => .dead) := by
 have a := AgrH.head (l' := l0) h0 (AgrH.refl (m := m) (l := l) (h := fun _ => Ob.dead))
 exact fun o ho hk => (a o ho hk).symm
structure Tl (T : Prop) : Prop where
 t : T
theorem tailedT {T G : Prop} (h : Tl T → G) (t : T) : G := h ⟨t⟩
theorem Sim.freezeG {w0 w : World} {MP : Fr} {st : St} {E : Env} {t j o m sz : Nat} {l : Bool} {xs ys : List (List AV)} {cs : List AV} (ht : st.E t = .agg cs) (hj : cs[j]? = some (.sl o m 0 m)) (hh : st.hp o = .live l sz xs) (hn : xs.length = m) (hp : xs.flatten.all pureB = true) (hy : frzLL ((xs.drop 0).take m) = ys) (hs : Sim w0 MP st E w) :
  Sim w0 MP ⟨updA st.E t (.agg (cs.set j (.dt false sz ys))), updA st.hp o .dead, st.nx⟩ E w := by
 obtain ⟨C, Im, hm⟩ := hs
 obtain ⟨cc, hcc, hO⟩ := hm.obj o l sz xs hh
 have hv := hm.slot t
 rw [ht] at hv
 obtain ⟨us, hus, hrl⟩ := hv
 obtain ⟨v, hvj, hvv⟩ := RVL.get hrl hj
 have hview := OR.view (J := fun k => Im k ∨ k ∈ blks cc) hcc hO (fun k hk => .inl hk) (fun k hk => .inr hk) hn hvv hp hy
 have h1 := (hm.kill o).imAdd (blks cc) (fun k hk => (hO.wb k hk).lt) hO.ge (fun o' c' hc' k hk hk' => by
  by_cases e : o' = o
  ·subst e; rw [updA_same] at hc'; cases hc'
  ·rw [updA_ne _ _ e] at hc'; exact hm.dis o o' cc c' (Ne.symm e) hcc hc' k hk hk')
 have hs1 := h1.slot t
 have hs2 : RV st.nx (updA C o Option.none) (fun k => Im k ∨ k ∈ blks cc) w (.agg cs) (E t) := by rw [← ht]; exact hs1
 obtain ⟨us2, hus2, hrl2⟩ := hs2
 have hu : us2 = us := by
  rw [hus] at hus2
  have := Value.agg.inj hus2
  exact (Array.toList_inj.2 this.symm)
 subst hu
 have h2 := h1.upd t (a := .agg (cs.set j (.dt false sz ys))) (v := E t) ⟨us2, hus2, RVL.setj hrl2 fun u hu => by
  rw [hvj] at hu
  cases hu
  exact RV.imm (N := st.nx) (C := updA C o Option.none) hview⟩
 rw [G.upd_eq_self rfl] at h2
 exact ⟨_, _, h2⟩
end Go.Proofs.YtoilkinagffhiaaGreat.V
