/- Rules: lists in fields of structs that are only read from here on. Over any program; nothing is claimed of the given one. -/
import Derived.Test.YtoilkinagffhiaaUj
namespace Go.Proofs.Ytoilkinagffhiaa.V
open Go.RowKit G D
set_option linter.unusedVariables false
set_option linter.unusedSimpArgs false
theorem RVL.setj {N : Nat} {C : Nat → Option Conc} {Im : Nat → Prop} {w : World} : ∀ {cs : List AV} {us : List Value} {j : Nat} {a' : AV}, RVL N C Im w cs us → (∀ v, us[j]? = some v → RV N C Im w a' v) → RVL N C Im w (cs.set j a') us
  | [], us, j, a', h, _ => h
  | b :: cs, us, 0, a', ⟨v, vs, h1, h2, h3⟩, hv => by subst h1; exact ⟨v, vs, rfl, hv v rfl, h3⟩
  | b :: cs, us, j + 1, a', ⟨v, vs, h1, h2, h3⟩, hv => by
    subst h1
    exact ⟨v, vs, rfl, h2, RVL.setj h3 fun u hu => hv u (by simpa using hu)⟩
theorem upsA_flt {β : Type} {S : List Nat} {E : Nat → β} : ∀ (l : List (Nat × β)) (t : Nat), mem S t = false → upsA l E t = upsA (l.filter fun p => !mem S p.1) E t
  | [], _, _ => rfl
  | (d, v) :: l, t, ht => by
    have ih := upsA_flt (S := S) (E := E) l t ht
    cases hd : mem S d with
    | true =>
      have hne : t ≠ d := by rintro rfl; rw [hd] at ht; cases ht
      rw [List.filter_cons_of_neg (by simp [hd]), ← ih]
      exact updA_ne _ _ hne
    | false =>
      rw [List.filter_cons_of_pos (by simp [hd])]
      by_cases e : t = d
      · subst e; exact (updA_same _ _ _).trans (updA_same _ _ _).symm
      · exact (updA_ne _ _ e).trans (ih.trans (updA_ne _ _ e).symm)
/-- slots that are told alike: all that was forgotten apart from them -/
theorem AgrA.lit {S : List Nat} {l1 l0 : List (Nat × AV)} (h : (l1.filter fun p => !mem S p.1) = l0.filter fun p => !mem S p.1) : AgrA S (upsA l1 fun _ => .no) (upsA l0 fun _ => .no) := fun t ht => by
  rw [upsA_flt l1 t ht, h, ← upsA_flt l0 t ht]
theorem AgrH.lit {m : Nat} {l l0 : List (Nat × Ob)} (h0 : ((keys l0).all fun o => mem (keys l) o || Nat.ble m o) = true) : AgrH m l (fun _ => .dead) (upsA l0 fun _ => .dead) := by
  have a := AgrH.head (l' := l0) h0 (AgrH.refl (m := m) (l := l) (h := fun _ => Ob.dead))
  exact fun o ho hk => (a o ho hk).symm
/-- what is left to prove, kept from being found by search -/
structure Tl (T : Prop) : Prop where
  t : T
theorem tailedT {T G : Prop} (h : Tl T → G) (t : T) : G := h ⟨t⟩
/-- a list in a field of a struct that a slot holds is only read from here on -/
theorem Sim.freezeG {w0 w : World} {MP : Fr} {st : St} {E : Env} {t j o m sz : Nat} {l : Bool} {xs ys : List (List AV)} {cs : List AV} (ht : st.E t = .agg cs) (hj : cs[j]? = some (.sl o m 0 m)) (hh : st.hp o = .live l sz xs) (hn : xs.length = m) (hp : xs.flatten.all pureB = true) (hy : frzLL ((xs.drop 0).take m) = ys) (hs : Sim w0 MP st E w) :
    Sim w0 MP ⟨updA st.E t (.agg (cs.set j (.dt false sz ys))), updA st.hp o .dead, st.nx⟩ E w := by
  obtain ⟨C, Im, hm⟩ := hs
  obtain ⟨cc, hcc, hO⟩ := hm.obj o l sz xs hh
  have hv := hm.slot t
  rw [ht] at hv
  obtain ⟨us, hus, hrl⟩ := hv
  obtain ⟨v, hvj, hvv⟩ := RVL.get hrl hj
  have hview := OR.view (J := fun k => Im k ∨ k ∈ blks cc) hcc hO (fun k hk => .inl hk) (fun k hk => .inr hk) hn hvv hp hy
  have h1 := (hm.kill o).imAdd (blks cc) (fun k hk => (hO.wb k hk).lt) hO.ge (fun o' c' hc' k hk hk' => by
    by_cases e : o' = o
    · subst e; rw [updA_same] at hc'; cases hc'
    · rw [updA_ne _ _ e] at hc'; exact hm.dis o o' cc c' (Ne.symm e) hcc hc' k hk hk')
  have hs1 := h1.slot t
  have hs2 : RV st.nx (updA C o Option.none) (fun k => Im k ∨ k ∈ blks cc) w (.agg cs) (E t) := by rw [← ht]; exact hs1
  obtain ⟨us2, hus2, hrl2⟩ := hs2
  have hu : us2 = us := by
    rw [hus] at hus2
    have := Value.agg.inj hus2
    exact (Array.toList_inj.2 this.symm)
  subst hu
  have h2 := h1.upd t (a := .agg (cs.set j (.dt false sz ys))) (v := E t) ⟨us2, hus2, RVL.setj hrl2 fun u hu => by
    rw [hvj] at hu
    cases hu
    exact RV.imm (N := st.nx) (C := updA C o Option.none) hview⟩
  rw [G.upd_eq_self rfl] at h2
  exact ⟨_, _, h2⟩
section
variable {P : Program} {n : Nat} {w0 : World} {MP : Fr} {Q : Exit → St → Prop} {E : Nat → AV} {hp : Nat → Ob} {nx : Nat} {I0 : Nat → Prop} {T : Exit → Env → World → Prop} {fuel : Nat} {ops : Array Oper} {listed : Array Bool}
theorem AW.freezeG {α : Type} [Enc α] {c : Code} (t j : Nat) {o m sz : Nat} {l oo : Bool} {ls : List α} {cs : List AV} (ht : E t = .agg cs) (hj : cs[j]? = some (.sl o m 0 m)) (hh : hp o = .live l sz (V.E oo ls)) (hn : ls.length = m) (h : AW P n w0 MP c Q ⟨updA E t (.agg (cs.set j (.dt false sz (V.E false ls)))), updA hp o .dead, nx⟩) : AW P n w0 MP c Q ⟨E, hp, nx⟩ :=
  AW.ghost (fun E' w hs => Sim.freezeG (st := ⟨E, hp, nx⟩) ht hj hh (by rw [E_length, hn]) (E_pure oo ls) (by rw [E_drop, E_take, E_frz, take_all hn]) hs) h
theorem dzG {α : Type} [Enc α] {m0 : Nat} (t j : Nat) {o m sz : Nat} {l oo : Bool} {ls : List α} {cs : List AV} (ht : E t = .agg cs) (hj : cs[j]? = some (.sl o m 0 m)) (hh : hp o = .live l sz (V.E oo ls)) (hn : ls.length = m) (h : ARA P n w0 MP m0 ops fuel listed Q ⟨updA E t (.agg (cs.set j (.dt false sz (V.E false ls)))), updA hp o .dead, nx⟩) : ARA P n w0 MP m0 ops fuel listed Q ⟨E, hp, nx⟩ :=
  ARA.ghost (fun E' w hs => Sim.freezeG (st := ⟨E, hp, nx⟩) ht hj hh (by rw [E_length, hn]) (E_pure oo ls) (by rw [E_drop, E_take, E_frz, take_all hn]) hs) h
end
end Go.Proofs.Ytoilkinagffhiaa.V
