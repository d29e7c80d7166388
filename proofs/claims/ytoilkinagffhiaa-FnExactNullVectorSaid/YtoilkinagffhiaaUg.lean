/- Rules: all but some slots and objects is forgotten; a list below a variable's field is put back, by the slot that points to the variable. Over any program; nothing is claimed of the given one. -/
import Derived.Test.YtoilkinagffhiaaUf
namespace Go.Proofs.Ytoilkinagffhiaa.V
open Go.RowKit G
set_option linter.unusedVariables false
set_option linter.unusedSimpArgs false
section
variable {w0 : World} {MP : Fr} {st : St} {C : Nat → Option Conc} {Im : Nat → Prop} {E' : Env} {w : World}
theorem Sm.killAll (h : Sm w0 MP st C Im E' w) (f : Nat → Bool) : Sm w0 MP ⟨st.E, fun o => bif f o then st.hp o else .dead, st.nx⟩ (fun o => bif f o then C o else Option.none) Im E' w := by
  have hle : CLe st.nx C (fun o => bif f o then C o else Option.none) := fun o1 ho1 c hc => by
    cases e : f o1 with
    | false => simp [e] at hc
    | true => simp [e] at hc; exact ⟨c, hc, .inl ⟨rfl, rfl, rfl⟩⟩
  refine ⟨h.tch, h.im, fun t => RV.mono (fun _ h => h) (fun _ _ => rfl) (Nat.le_refl _) hle _ _ (h.slot t), fun o1 h1 => ?_, fun o1 l1 sz1 xs1 h1 => ?_, fun o1 h1 => ?_, fun o1 o2 c1 c2 hoo hc1 hc2 => ?_, h.imJ, fun p hp => RV.mono (fun _ h => h) (fun _ _ => rfl) (Nat.le_refl _) hle _ _ (h.gst p hp)⟩
  · cases e : f o1 with
    | false => rfl
    | true => simp only [e, cond_true] at h1; simp only [cond_true]; exact h.nod o1 h1
  · cases e : f o1 with
    | false => simp [e] at h1
    | true =>
      simp only [e, cond_true] at h1
      obtain ⟨c, g1, g2⟩ := h.obj o1 l1 sz1 xs1 h1
      exact ⟨c, by simp only [cond_true]; exact g1, g2.esz, g2.len, g2.buf, g2.lay.mono (fun _ h => h) (fun _ _ => rfl) (Nat.le_refl _) hle (fun _ _ => rfl), g2.lens, g2.nd, g2.ge, g2.nim, g2.lent⟩
  · cases e : f o1 with
    | false => simp only [e, cond_false]
    | true => simp only [e, cond_true]; exact h.lt o1 h1
  · cases e : f o1 with
    | false => simp [e] at hc1
    | true =>
      cases e2 : f o2 with
      | false => simp [e2] at hc2
      | true =>
        simp only [e, cond_true] at hc1
        simp only [e2, cond_true] at hc2
        exact h.dis o1 o2 c1 c2 hoo hc1 hc2
theorem Sm.slots (h : Sm w0 MP st C Im E' w) {F : Nat → AV} (hF : ∀ t, F t = .no ∨ F t = st.E t) : Sm w0 MP ⟨F, st.hp, st.nx⟩ C Im E' w :=
  ⟨h.tch, h.im, fun t => by
    rcases hF t with e | e
    · simp only [e]; exact trivial
    · simp only [e]; exact h.slot t, h.nod, h.obj, h.lt, h.dis, h.imJ, h.gst⟩
theorem Sim.only {E : Nat → AV} {hp : Nat → Ob} {nx : Nat} (sl : List (Nat × AV)) (ob : List (Nat × Ob)) (h1 : AtA E sl) (h2 : AtA hp ob) (hs : Sim w0 MP ⟨E, hp, nx⟩ E' w) : Sim w0 MP ⟨upsA sl fun _ => .no, upsA ob fun _ => .dead, nx⟩ E' w := by
  obtain ⟨C, Im, hm⟩ := hs
  have h3 := (hm.killAll (mem (keys ob))).slots (F := upsA sl fun _ => .no) fun t => by
    cases e : mem (keys sl) t with
    | false => exact .inl (upsA_out _ e)
    | true => exact .inr (upsA_in h1 t e)
  have e : (fun o => bif mem (keys ob) o then hp o else .dead) = upsA ob fun _ => .dead := by
    funext o
    cases e : mem (keys ob) o with
    | false => rw [upsA_out _ e]; rfl
    | true => rw [upsA_in h2 o e]; rfl
  simp only at h3
  rw [e] at h3
  exact ⟨_, Im, h3⟩
end
section
variable {P : Program} {n : Nat} {w0 : World} {MP : Fr} {Q : Exit → St → Prop} {E : Nat → AV} {hp : Nat → Ob} {nx : Nat}
/-- all but some slots and objects is forgotten -/
theorem AW.only {c : Code} (sl : List (Nat × AV)) (ob : List (Nat × Ob)) (nx' : Nat) (h1 : AtA E sl) (h2 : AtA hp ob) (hn : nx = nx') (h : AW P n w0 MP c Q ⟨upsA sl fun _ => .no, upsA ob fun _ => .dead, nx'⟩) : AW P n w0 MP c Q ⟨E, hp, nx⟩ := by
  subst hn
  exact AW.ghost (fun E' w hs => Sim.only sl ob h1 h2 hs) h
/-- a list is put below the field of a variable that a slot points to -/
theorem AW.putV {c : Code} (t j : Nat) {o sz sz2 m o2 : Nat} {cs : List AV} {ys : List (List AV)} (ht : E t = .pt o 1 0 0) (ho : hp o = .live false sz [cs]) (hj : cs[j]? = some (.sl o2 m 0 m)) (ho2 : hp o2 = .live false sz2 ys) (hm : ys.length = m) (hpu : ys.flatten.all pureB = true) (hne : (updA hp o2 .dead) o = .live false sz [cs])
    (h : AW P n w0 MP c Q ⟨E, updA (updA hp o2 .dead) o (.live false sz [cs.set j (.dt true sz2 ys)]), nx⟩) : AW P n w0 MP c Q ⟨E, hp, nx⟩ :=
  AW.putC (k := 0) ho rfl hj ho2 hm hpu hne h
/-- what is left to prove in several places is proved once -/
theorem tailed {T G : Prop} (h : T → G) (t : T) : G := h t
end
end Go.Proofs.Ytoilkinagffhiaa.V
