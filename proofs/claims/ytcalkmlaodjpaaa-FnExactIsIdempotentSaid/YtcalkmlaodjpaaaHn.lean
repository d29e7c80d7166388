/- Calls that write what they are given, or return parts of it, by abstract states. Over any program; nothing is claimed of the given one. -/
import Derived.Test.YtcalkmlaodjpaaaHj
namespace Go.Proofs.Ytcalkmlaodjpaaa.V
open Go.RowKit G
set_option linter.unusedVariables false
set_option linter.unusedSimpArgs false

/-! ### the objects that a call is given -/
theorem addO_lt : ∀ (os : List (Nat × List (List AV))) {hp : Nat → Ob} {N o : Nat}, o < N → addO hp N os o = hp o
  | [], _, _, _, _ => rfl
  | (sz, xs) :: os, hp, N, o, h => by rw [addO, addO_lt os (by omega), updA_ne _ _ (by omega)]
theorem addO_at : ∀ {os : List (Nat × List (List AV))} {hp : Nat → Ob} {N i : Nat} {p : Nat × List (List AV)}, os[i]? = some p → addO hp N os (N + i) = .live false p.1 p.2
  | [], _, _, i, p, h => by simp at h
  | (sz, xs) :: os, hp, N, 0, p, h => by
    simp only [List.getElem?_cons_zero, Option.some.injEq] at h
    subst h
    rw [addO, addO_lt os (by omega)]; exact updA_same ..
  | (sz, xs) :: os, hp, N, i + 1, p, h => by
    rw [addO, show N + (i + 1) = N + 1 + i by omega]
    exact addO_at (by simpa using h)
theorem addO_out : ∀ (os : List (Nat × List (List AV))) {hp : Nat → Ob} {N o : Nat}, N + os.length ≤ o → addO hp N os o = hp o
  | [], _, _, _, _ => rfl
  | (sz, xs) :: os, hp, N, o, h => by
    rw [List.length_cons] at h
    rw [addO, addO_out os (by omega), updA_ne _ _ (by omega)]
def obS (obs : List (Nat × List (List AV))) : Nat → Ob := addO (fun _ => .dead) 0 obs
theorem obS_at {obs : List (Nat × List (List AV))} {i : Nat} {p : Nat × List (List AV)} (h : obs[i]? = some p) : obS obs i = .live false p.1 p.2 := by
  have := addO_at (hp := fun _ => Ob.dead) (N := 0) h
  rwa [Nat.zero_add] at this
theorem obS_out {obs : List (Nat × List (List AV))} {o : Nat} (h : obs.length ≤ o) : obS obs o = .dead := addO_out obs (by omega)
theorem obS_inv {obs : List (Nat × List (List AV))} {o : Nat} {l : Bool} {sz : Nat} {xs : List (List AV)} (h : obS obs o = .live l sz xs) : l = false ∧ obs[o]? = some (sz, xs) := by
  rcases Nat.lt_or_ge o obs.length with hl | hl
  · obtain ⟨p, hp⟩ : ∃ p, obs[o]? = some p := ⟨obs[o], by simp [hl]⟩
    rw [obS_at hp] at h
    cases h
    exact ⟨rfl, hp⟩
  · rw [obS_out hl] at h; cases h
theorem obS_dead {obs : List (Nat × List (List AV))} {o : Nat} (h : obS obs o = .dead) : obs.length ≤ o := by
  rcases Nat.lt_or_ge o obs.length with hl | hl
  · obtain ⟨p, hp⟩ : ∃ p, obs[o]? = some p := ⟨obs[o], by simp [hl]⟩
    rw [obS_at hp] at h; cases h
  · exact hl

/-! ### what a call comes to -/
inductive ResM (N : Nat) (C : Nat → Option Conc) (Im : Nat → Prop) (w : World) : List AV → List Value → List Nat → Prop
  | nil : ResM N C Im w [] [] []
  | cell {a : AV} {v : Value} {rs : List AV} {vs : List Value} {F G : List Nat} : LayC N C Im w [a] [v] F → ResM N C Im w rs vs G → ResM N C Im w (a :: rs) (v :: vs) (F ++ G)
  | agg {cs : List AV} {us : List Value} {rs : List AV} {vs : List Value} {F G : List Nat} : LayC N C Im w cs us F → ResM N C Im w rs vs G → ResM N C Im w (.agg cs :: rs) (.agg us.toArray :: vs) (F ++ G)
/-- what a call comes to that is given objects 0, 1, .. of its caller: arguments, objects, results, objects behind it -/
def AM (P : Program) (f : FuncId) (bs : List AV) (obs : List (Nat × List (List AV))) (rs : List AV) (obs' : List (Nat × List (List AV))) : Prop :=
  ∀ (w : World) (mp : Fr) (C : Nat → Option Conc) (E0 : Env) (us : List Value), Sm w mp ⟨fun _ => .no, obS obs, obs.length⟩ C mp.J E0 w → RVL obs.length C mp.J w bs us →
    Run P f us w fun v w' => ∃ C' J' E', Sm w mp ⟨fun _ => .no, obS obs', obs.length⟩ C' J' E' w' ∧ ∃ vs F, v = tupV vs ∧ ResM obs.length C' J' w' rs vs F ∧ Loose w mp C' w' F ∧ ∀ k ∈ F, ¬ J' k
def refB (K : Nat) : AV → Bool
  | .sl o _ _ _ => Nat.blt o K
  | .pt o _ _ _ => Nat.blt o K
  | a => pureB a
theorem refB_bnd {K : Nat} {a : AV} (h : refB K a = true) : Bnd K a := by
  cases a with
  | sl o n off m => exact ltB h
  | pt o n k j => exact ltB h
  | _ => first | trivial | cases h
theorem refB_bndL {K : Nat} : ∀ {l : List AV}, l.all (refB K) = true → BndL K l
  | [], _ => trivial
  | a :: l, h => by rw [List.all_cons, Bool.and_eq_true] at h; exact ⟨refB_bnd h.1, refB_bndL h.2⟩
/-- results: what is the call's own is taken along -/
inductive OutM (K : Nat) : (Nat → Ob) → List AV → List AV → (Nat → Ob) → Prop
  | nil {hp : Nat → Ob} : OutM K hp [] [] hp
  | cell {hp hp' hp'' : Nat → Ob} {a r : AV} {as rs : List AV} : cellB a = true → Mv false hp [a] [r] hp' → refB K r = true → OutM K hp' as rs hp'' → OutM K hp (a :: as) (r :: rs) hp''
  | agg {hp hp' hp'' : Nat → Ob} {cs ds as rs : List AV} : cs.all cellB = true → Mv false hp cs ds hp' → ds.all (refB K) = true → OutM K hp' as rs hp'' → OutM K hp (.agg cs :: as) (.agg ds :: rs) hp''
theorem OutM.ref {K : Nat} {hp hp'' : Nat → Ob} {o n off m : Nat} {as rs : List AV} (ho : Nat.blt o K = true) (h : OutM K hp as rs hp'') : OutM K hp (.sl o n off m :: as) (.sl o n off m :: rs) hp'' := .cell rfl (.at1 rfl .nil) ho h
section
variable {w0 w w' : World} {MP : Fr} {st : St} {C : Nat → Option Conc} {Im : Nat → Prop} {E : Env} {N : Nat}
theorem Loose.perm {F G : List Nat} (hp : F.Perm G) (h : Loose w0 MP C w F) : Loose w0 MP C w G := ⟨hp.nodup h.nd, fun k hk => h.ge k (hp.mem_iff.2 hk), fun k hk => h.wb k (hp.mem_iff.2 hk), fun o c hc k hk => h.off o c hc k (hp.mem_iff.2 hk)⟩
theorem sub_cle {N : Nat} {C C' : Nat → Option Conc} (h : ∀ o c, C' o = some c → C o = some c) : CLe N C C' := fun o _ c hc => ⟨c, h o c hc, .inl ⟨rfl, rfl, rfl⟩⟩
theorem perm3 (G F H : List Nat) : (F ++ (G ++ H)).Perm (G ++ F ++ H) := by
  rw [← List.append_assoc]; exact List.Perm.append_right _ List.perm_append_comm
theorem OutM.spec {K : Nat} {hp hp' : Nat → Ob} {as rs : List AV} (h : OutM K hp as rs hp') : ∀ {C : Nat → Option Conc} {vs : List Value} {H : List Nat}, Sm w0 MP ⟨st.E, hp, st.nx⟩ C Im E w → RVL st.nx C Im w as vs → Loose w0 MP C w H →
    ∃ C' F, Sm w0 MP ⟨st.E, hp', st.nx⟩ C' Im E w ∧ ResM st.nx C' Im w rs vs F ∧ Loose w0 MP C' w (F ++ H) ∧ (∀ k ∈ F, ¬ Im k) ∧ ∀ o c, C' o = some c → C o = some c := by
  induction h with
  | nil =>
    intro C vs H hm hv hL
    have : vs = [] := hv
    subst this
    exact ⟨C, [], hm, .nil, hL, (fun k hk => by cases hk), fun _ _ h => h⟩
  | @cell hp hp' hp'' a r as rs hc hmv _ _ ih =>
    rintro C vs H hm ⟨v, vs', rfl, h2, h3⟩ hL
    obtain ⟨C1, G, f3, m1, l1, L1, le1⟩ := hmv.lay (F := []) (H := H) hm (.at1 h2 (h2.one hc) .nil) (by simpa using hL) (fun _ k hk => by cases hk)
    have h3' := RVL.mono (Im' := Im) (w' := w) (M := st.nx) (fun _ h => h) (fun _ _ => rfl) (Nat.le_refl _) (sub_cle le1) _ _ h3
    obtain ⟨C2, F, g1, g2, g3, g4, g5⟩ := ih m1 h3' L1
    exact ⟨C2, G ++ F, g1, .cell (l1.mono (fun _ h => h) (fun _ _ => rfl) (Nat.le_refl _) (sub_cle g5) (fun _ _ => rfl)) g2, g3.perm (perm3 G F H), fun k hk => (List.mem_append.1 hk).elim (f3 rfl k) (g4 k), fun o c h => le1 o c (g5 o c h)⟩
  | @agg hp hp' hp'' cs ds as rs hc hmv _ _ ih =>
    rintro C vs H hm ⟨v, vs', rfl, h2, h3⟩ hL
    obtain ⟨us, rfl, h2⟩ := h2
    obtain ⟨C1, G, f3, m1, l1, L1, le1⟩ := hmv.lay (F := []) (H := H) hm (LayC.cells h2 hc) (by simpa using hL) (fun _ k hk => by cases hk)
    have h3' := RVL.mono (Im' := Im) (w' := w) (M := st.nx) (fun _ h => h) (fun _ _ => rfl) (Nat.le_refl _) (sub_cle le1) _ _ h3
    obtain ⟨C2, F, g1, g2, g3, g4, g5⟩ := ih m1 h3' L1
    exact ⟨C2, G ++ F, g1, .agg (l1.mono (fun _ h => h) (fun _ _ => rfl) (Nat.le_refl _) (sub_cle g5) (fun _ _ => rfl)) g2, g3.perm (perm3 G F H), fun k hk => (List.mem_append.1 hk).elim (f3 rfl k) (g4 k), fun o c h => le1 o c (g5 o c h)⟩
theorem OutM.bnd {K : Nat} {hp hp' : Nat → Ob} {as rs : List AV} (h : OutM K hp as rs hp') : ∀ {N : Nat} {C C' : Nat → Option Conc} {vs : List Value} {F : List Nat}, (∀ o, o < K → ∀ cc, C' o = some cc → C o = some cc) → ResM N C Im w rs vs F → ResM K C' Im w rs vs F := by
  induction h with
  | nil => intro N C C' vs F _ h; cases h; exact .nil
  | cell hc hmv hr _ ih =>
    intro N C C' vs F hC h
    cases h with
    | cell h1 h2 => exact .cell (h1.cutN hC ⟨refB_bnd hr, trivial⟩) (ih hC h2)
    | agg h1 h2 => cases hr
  | agg hc hmv hr _ ih =>
    intro N C C' vs F hC h
    cases h with
    | cell h1 h2 => cases h1 with | at1 h3 h4 _ => obtain ⟨us, rfl, _⟩ := h3; cases h4
    | agg h1 h2 => exact .agg (h1.cutN hC (refB_bndL hr)) (ih hC h2)
def pureO (obs : List (Nat × List (List AV))) : Prop := ∀ p ∈ obs, p.2.flatten.all pureB = true
theorem pureO.nil : pureO [] := fun p hp => by cases hp
theorem pureO.cons {sz : Nat} {xs : List (List AV)} {obs : List (Nat × List (List AV))} (h : xs.flatten.all pureB = true) (hs : pureO obs) : pureO ((sz, xs) :: obs) := fun p hp => by
  rcases List.mem_cons.1 hp with rfl | hp
  · exact h
  · exact hs p hp
/-- what a body must come to -/
def MRet (P : Program) (K : Nat) (res : List ResultVar) (rs : List AV) (obs' : List (Nat × List (List AV))) : Exit → St → Prop
  | .ret, st | .normal, st => ∃ as hp', RetL P st res as ∧ OutM K st.hp as rs hp' ∧ obs'.length = K ∧ (∀ o, o < K → hp' o = obS obs' o) ∧ K ≤ st.nx ∧ pureO obs'
  | _, _ => False
instance (P : Program) (K : Nat) (res : List ResultVar) (rs : List AV) (obs' : List (Nat × List (List AV))) : ANoPan (MRet P K res rs obs') := ⟨fun _ _ h => h⟩
variable {P : Program}
theorem AM.go {f : FuncId} {fn : Func} {n : Nat} {c : Code} {bs rs : List AV} {obs obs' : List (Nat × List (List AV))} (hf : P.funcs[f]? = some fn) (hn : fn.ntmps = n) (hb : fn.body = some c) (ha : Nat.ble bs.length n = true)
    (h : ∀ w0 mp, WfL bs → AW P n w0 mp c (MRet P obs.length fn.results.toList rs obs') ⟨fun t => bs.getD t .no, obS obs, obs.length⟩) : AM P f bs obs rs obs' := fun w mp C E0 us hS0 hus => by
  have hul := RVL.length hus
  refine Run.go hf hn hb (by rw [hul]; exact ha) ?_
  have hS : Sim w mp ⟨fun t => bs.getD t .no, obS obs, obs.length⟩ (fr us) w := by
    refine ⟨C, mp.J, hS0.tch, hS0.im, fun t => ?_, hS0.nod, hS0.obj, hS0.lt, hS0.dis, hS0.imJ, hS0.gst⟩
    simp only [fr]
    by_cases ht : t < bs.length
    · obtain ⟨v, h1, h2⟩ := RVL.get hus (i := t) (a := bs[t]) (by simp [ht])
      rw [List.getD_eq_getElem?_getD, List.getD_eq_getElem?_getD, h1]
      simpa [ht] using h2
    · have : bs.getD t .no = .no := by simp [Nat.le_of_not_lt ht]
      rw [this]; trivial
  refine (h w mp (RVL.wf _ _ hus) _ _ hS).mono fun e E' w' ⟨st', ⟨C1, Im, hm⟩, hq⟩ => ?_
  have key : (∃ as hp', RetL P st' fn.results.toList as ∧ OutM obs.length st'.hp as rs hp' ∧ obs'.length = obs.length ∧ (∀ o, o < obs.length → hp' o = obS obs' o) ∧ obs.length ≤ st'.nx ∧ pureO obs') → ∃ v, (∀ tmps : Array Value, (∀ t, tmps.getD t undef = E' t) → (results fn tmps).run P w' = .ok v w') ∧
      ∃ C' J' E', Sm w mp ⟨fun _ => .no, obS obs', obs.length⟩ C' J' E' w' ∧ ∃ vs F, v = tupV vs ∧ ResM obs.length C' J' w' rs vs F ∧ Loose w mp C' w' F ∧ ∀ k ∈ F, ¬ J' k := by
    rintro ⟨as, hp', h1, h2, h3, h4, h5, h6⟩
    obtain ⟨vs, g1, g2, g3⟩ := h1.spec hm
    obtain ⟨C2, F, k1, k2, k3, k4, k5⟩ := h2.spec (st := st') (H := []) (show Sm w mp ⟨st'.E, st'.hp, st'.nx⟩ C1 Im E' w' from hm) g1 Loose.nil
    rw [List.append_nil] at k3
    let D : Nat → Option Conc := fun o => bif Nat.blt o obs.length then C2 o else none
    have hD : ∀ o, o < obs.length → ∀ cc, D o = some cc → C2 o = some cc := fun o ho cc hc => by
      have : Nat.blt o obs.length = true := by rw [Nat.blt_eq]; exact ho
      simpa [D, this] using hc
    have hDo : ∀ o, o < obs.length → D o = C2 o := fun o ho => by
      have : Nat.blt o obs.length = true := by rw [Nat.blt_eq]; exact ho
      simp [D, this]
    have hDs : ∀ o cc, D o = some cc → o < obs.length ∧ C2 o = some cc := fun o cc hc => by
      cases hb : Nat.blt o obs.length with
      | true => rw [Nat.blt_eq] at hb; exact ⟨hb, hD o hb cc hc⟩
      | false => simp [D, hb] at hc
    refine ⟨tupV vs, fun tmps ht => results_run g2 g3 tmps ht, D, Im, E', ⟨k1.tch, k1.im, fun t => trivial, fun o ho => ?_, fun o l sz xs ho => ?_, fun o ho => obS_out (by rw [h3]; exact ho), fun o o' c c' hoo hc hc' => k1.dis o o' c c' hoo (hDs o c hc).2 (hDs o' c' hc').2, k1.imJ, fun p hp => RV.cut hD _ _ (RV.bnd _ _ (hS0.gst p hp)) (k1.gst p hp)⟩, vs, F, rfl, h2.bnd hD k2, ⟨k3.nd, k3.ge, k3.wb, fun o c hc => k3.off o c (hDs o c hc).2⟩, k4⟩
    · have := obS_dead ho
      have : Nat.blt o obs.length = false := by rw [← Bool.not_eq_true, Nat.blt_eq]; omega
      simp [D, this]
    · obtain ⟨rfl, hp⟩ := obS_inv ho
      have hlt : o < obs.length := by rw [← h3]; exact (List.getElem?_eq_some_iff.1 hp).1
      obtain ⟨cc, q1, q2⟩ := k1.obj o false sz xs ((h4 o hlt).trans ho)
      have hpu := h6 _ (List.mem_of_getElem? hp)
      exact ⟨cc, (hDo o hlt).trans q1, q2.esz, q2.len, q2.buf, q2.lay.cutN hD (BndL.of_mem fun a ha => Bnd.pure (List.all_eq_true.1 hpu a ha) _), q2.lens, q2.nd, q2.ge, q2.nim, q2.lent⟩
  cases e with
  | normal => exact key hq
  | ret => exact key hq
  | _ => exact hq.elim

/-! ### the caller -/
def killL : List Nat → (Nat → Ob) → Nat → Ob
  | [], hp => hp
  | o :: l, hp => killL l (updA hp o .dead)
theorem killL_live : ∀ {l : List Nat} {hp : Nat → Ob} {o : Nat} {b : Bool} {sz : Nat} {xs : List (List AV)}, killL l hp o = .live b sz xs → o ∉ l ∧ hp o = .live b sz xs
  | [], _, _, _, _, _, h => ⟨by simp, h⟩
  | a :: l, hp, o, b, sz, xs, h => by
    obtain ⟨h1, h2⟩ := killL_live (l := l) h
    by_cases e : o = a
    · subst e; rw [updA_same] at h2; cases h2
    · rw [updA_ne _ _ e] at h2
      exact ⟨by simp [e, h1], h2⟩
/-- arguments as the callee sees them -/
inductive RenL (hk : Nat → Ob) (ρ : List Nat) : List AV → List AV → Prop
  | nil : RenL hk ρ [] []
  | sl {i o n off m : Nat} {as bs : List AV} : ρ[i]? = some o → RenL hk ρ as bs → RenL hk ρ (.sl o n off m :: as) (.sl i n off m :: bs)
  | agg {cs ds as bs : List AV} : RenL hk ρ cs ds → RenL hk ρ as bs → RenL hk ρ (.agg cs :: as) (.agg ds :: bs)
  | sn {a b : AV} {as bs : List AV} : SnapL hk [a] [b] → RenL hk ρ as bs → RenL hk ρ (a :: as) (b :: bs)
def Cc (ρ : List Nat) (C : Nat → Option Conc) (i : Nat) : Option Conc := (ρ[i]?).bind C
theorem RenL.spec {J : Nat → Prop} {ρ : List Nat} {hk : Nat → Ob} {as bs : List AV} (h : RenL hk ρ as bs) (hI : ∀ k, Im k → J k) (hobj : ∀ o l sz xs, hk o = .live l sz xs → ∃ cc, C o = some cc ∧ OR w0 MP N C Im w l sz xs cc ∧ ∀ k ∈ blks cc, J k) : ∀ {us : List Value}, RVL N C Im w as us → RVL ρ.length (Cc ρ C) J w bs us := by
  induction h with
  | nil => exact fun h => h
  | @sl i o n off m as bs hi _ ih =>
    rintro us ⟨v, vs, h1, h2, h3⟩
    obtain ⟨p, c, g1, g2, g3, g4, g5⟩ := h2
    refine ⟨v, vs, h1, ⟨p, c, g1, g2, g3, (List.getElem?_eq_some_iff.1 hi).1, fun cc hc => g5 cc ?_⟩, ih h3⟩
    unfold Cc at hc
    rwa [hi] at hc
  | agg _ _ ih1 ih2 => exact fun ⟨v, vs, h1, ⟨us, g1, g2⟩, h3⟩ => ⟨v, vs, h1, ⟨us, g1, ih1 g2⟩, ih2 h3⟩
  | sn hs _ ih =>
    rintro us ⟨v, vs, h1, h2, h3⟩
    obtain ⟨v', vs', q1, q2, q3⟩ := hs.specJ hI hobj (us := [v]) ⟨v, [], rfl, h2, rfl⟩
    simp only [List.cons.injEq] at q1
    obtain ⟨rfl, _⟩ := q1
    exact ⟨v, vs, h1, RV.mono (fun _ h => h) (fun _ _ => rfl) (Nat.zero_le _) (fun o ho => by omega) _ _ q2, ih h3⟩
/-- the objects that are given -/
inductive ObL (hp : Nat → Ob) : List Nat → List (Nat × List (List AV)) → Prop
  | nil : ObL hp [] []
  | cons {o sz : Nat} {xs : List (List AV)} {ρ : List Nat} {obs : List (Nat × List (List AV))} : hp o = .live false sz xs → xs.flatten.all pureB = true → ObL hp ρ obs → ObL hp (o :: ρ) ((sz, xs) :: obs)
theorem ObL.length {hp : Nat → Ob} {ρ : List Nat} {obs : List (Nat × List (List AV))} (h : ObL hp ρ obs) : ρ.length = obs.length := by
  induction h <;> simp_all
theorem ObL.at {hp : Nat → Ob} {ρ : List Nat} {obs : List (Nat × List (List AV))} (h : ObL hp ρ obs) : ∀ {i o : Nat}, ρ[i]? = some o → ∃ p, obs[i]? = some p ∧ hp o = .live false p.1 p.2 ∧ p.2.flatten.all pureB = true := by
  induction h with
  | nil => intro i o h; simp at h
  | @cons o' sz xs ρ obs h1 h2 _ ih =>
    intro i o h
    cases i with
    | zero =>
      simp only [List.getElem?_cons_zero, Option.some.injEq] at h
      subst h
      exact ⟨(sz, xs), rfl, h1, h2⟩
    | succ i => obtain ⟨p, q1, q2⟩ := ih (i := i) (by simpa using h); exact ⟨p, by simpa using q1, q2⟩
def blsOf (C : Nat → Option Conc) (ρ : List Nat) : List Nat := ρ.flatMap fun o => match C o with | some cc => blks cc | none => []
theorem mem_blsOf {C : Nat → Option Conc} {ρ : List Nat} {k : Nat} : k ∈ blsOf C ρ ↔ ∃ o cc, o ∈ ρ ∧ C o = some cc ∧ k ∈ blks cc := by
  unfold blsOf
  rw [List.mem_flatMap]
  refine ⟨fun ⟨o, ho, hk⟩ => ?_, fun ⟨o, cc, h1, h2, h3⟩ => ⟨o, h1, by rw [h2]; exact h3⟩⟩
  cases hc : C o with
  | none => rw [hc] at hk; cases hk
  | some cc => rw [hc] at hk; exact ⟨o, cc, ho, hc, hk⟩
def ghOf (C : Nat → Option Conc) (ρ : List Nat) : List (AV × Value) := (List.range ρ.length).filterMap fun i => match Cc ρ C i with | some cc => some (.sl i cc.len 0 cc.len, cc.hv) | none => none
theorem mem_ghOf {C : Nat → Option Conc} {ρ : List Nat} {p : AV × Value} : p ∈ ghOf C ρ ↔ ∃ i cc, i < ρ.length ∧ Cc ρ C i = some cc ∧ p = (.sl i cc.len 0 cc.len, cc.hv) := by
  unfold ghOf
  rw [List.mem_filterMap]
  refine ⟨fun ⟨i, hi, hp⟩ => ?_, fun ⟨i, cc, h1, h2, h3⟩ => ⟨i, by simpa using h1, by rw [h2, h3]⟩⟩
  cases hc : Cc ρ C i with
  | none => rw [hc] at hp; cases hp
  | some cc => rw [hc] at hp; exact ⟨i, cc, by simpa using hi, hc, by simpa using hp.symm⟩
theorem Cc_some {C : Nat → Option Conc} {ρ : List Nat} {i : Nat} {cc : Conc} (h : Cc ρ C i = some cc) : ∃ o, ρ[i]? = some o ∧ C o = some cc := by
  unfold Cc at h
  cases ho : ρ[i]? with
  | none => rw [ho] at h; cases h
  | some o => rw [ho] at h; exact ⟨o, rfl, h⟩
theorem nd_inj {ρ : List Nat} (h : ρ.Nodup) {i j o : Nat} (hi : ρ[i]? = some o) (hj : ρ[j]? = some o) : i = j :=
  (List.getElem?_inj (List.getElem?_eq_some_iff.1 hi).1 h).1 (hi.trans hj.symm)
/-- the callee's memory -/
theorem Sm.give (hm : Sm w0 MP st C Im E w) {ρ : List Nat} {obs : List (Nat × List (List AV))} (hn : ρ.Nodup) (hob : ObL st.hp ρ obs) {J : Nat → Prop} (hI : ∀ k, Im k → J k) (hJ : ∀ k, J k → k < w.heap.size ∧ k ∉ blsOf C ρ) (E0 : Env) :
    Sm w ⟨blsOf C ρ, J, ghOf C ρ⟩ ⟨fun _ => .no, obS obs, obs.length⟩ (Cc ρ C) J E0 w := by
  have hlen := hob.length
  refine ⟨⟨fun _ _ _ => rfl, Nat.le_refl _, rfl, rfl, rfl⟩, fun k hk => (hJ k hk).1, fun t => trivial, fun o ho => ?_, fun o l sz xs ho => ?_, fun o ho => obS_out ho, fun i i' c c' hii hc hc' => ?_, fun k hk => .inl hk, fun p hp => ?_⟩
  · have := obS_dead ho
    unfold Cc
    rw [List.getElem?_eq_none (by omega)]; rfl
  · obtain ⟨rfl, hp⟩ := obS_inv ho
    have hlt : o < ρ.length := by rw [hlen]; exact (List.getElem?_eq_some_iff.1 hp).1
    have ho' : ρ[o]? = some ρ[o] := by simp [hlt]
    obtain ⟨p, q1, q2, q3⟩ := hob.at ho'
    rw [hp] at q1
    cases q1
    obtain ⟨cc, hcc, hO⟩ := hm.obj _ _ _ _ q2
    have hb : ∀ k ∈ blks cc, k ∈ blsOf C ρ := fun k hk => mem_blsOf.2 ⟨_, cc, List.mem_of_getElem? ho', hcc, hk⟩
    refine ⟨cc, by unfold Cc; rw [ho']; exact hcc, hO.esz, hO.len, hO.buf, LayC.own ((hO.lay.pure q3).mono hI (fun _ _ => rfl) (fun _ _ => rfl)), hO.lens, hO.nd, fun k hk => .inr (hb k hk), fun b hb' hj => (hJ b hj).2 (hb b (by simp [blks, mem_ownL, hb'])), fun k hk => ⟨fun hj => absurd (hb k (by simp [blks, hk])) (hJ k hj).2, fun h => by cases h⟩⟩
  · obtain ⟨o, h1, h2⟩ := Cc_some hc
    obtain ⟨o', h1', h2'⟩ := Cc_some hc'
    exact hm.dis o o' c c' (fun e => hii (nd_inj hn h1 (e ▸ h1'))) h2 h2'
  · obtain ⟨i, cc, hi, hc, rfl⟩ := mem_ghOf.1 hp
    obtain ⟨o, h1, h2⟩ := Cc_some hc
    obtain ⟨p, q1, q2, q3⟩ := hob.at h1
    obtain ⟨cc', hcc, hO⟩ := hm.obj _ _ _ _ q2
    rw [h2] at hcc
    cases hcc
    have := RV.slNew hO h2 (show o < st.nx from by
      rcases Nat.lt_or_ge o st.nx with h | h
      · exact h
      · have := hm.lt o h; rw [q2] at this; cases this)
    obtain ⟨p', c, g1, g2, g3, g4, g5⟩ := this
    rw [← hO.len] at g1 g2 g5
    exact ⟨p', c, g1, g2, g3, by rw [← hlen]; exact hi, fun c1 hc1 => g5 c1 (by rw [← hc1, hc, h2])⟩
def zipF {β : Type} (f : Nat → β) : List Nat → Nat → List (Nat × β)
  | [], _ => []
  | o :: ρ, i => (o, f i) :: zipF f ρ (i + 1)
theorem zipF_at {β : Type} {f F : Nat → β} : ∀ {ρ : List Nat} {j i o : Nat}, ρ.Nodup → ρ[i]? = some o → upsA (zipF f ρ j) F o = f (j + i)
  | [], _, i, o, _, h => by simp at h
  | a :: ρ, j, 0, o, _, h => by
    simp only [List.getElem?_cons_zero, Option.some.injEq] at h
    subst h; exact updA_same ..
  | a :: ρ, j, i + 1, o, hn, h => by
    have h' : ρ[i]? = some o := by simpa using h
    obtain ⟨n1, n2⟩ := List.nodup_cons.1 hn
    have : o ≠ a := fun e => n1 (e ▸ List.mem_of_getElem? h')
    simp only [zipF, upsA]
    rw [updA_ne _ _ this, zipF_at (j := j + 1) n2 h']
    congr 1; omega
theorem zipF_out {β : Type} {f F : Nat → β} : ∀ {ρ : List Nat} {j o : Nat}, o ∉ ρ → upsA (zipF f ρ j) F o = F o
  | [], _, o, _ => rfl
  | a :: ρ, j, o, h => by
    simp only [List.mem_cons, not_or] at h
    simp only [zipF, upsA]
    rw [updA_ne _ _ h.1, zipF_out h.2]
def zipO : List Nat → List (Nat × List (List AV)) → List (Nat × Ob)
  | o :: ρ, (sz, xs) :: os => (o, .live false sz xs) :: zipO ρ os
  | _, _ => []
theorem zipO_eq {F : Nat → Ob} : ∀ (ρ : List Nat) (obs : List (Nat × List (List AV))) {hp : Nat → Ob} {N : Nat}, ρ.length = obs.length → upsA (zipO ρ obs) F = upsA (zipF (addO hp N obs) ρ N) F
  | [], os, hp, N, h => by cases os <;> first | rfl | cases h
  | o :: ρ, (sz, xs) :: os, hp, N, h => by
    simp only [zipO, zipF, upsA]
    rw [zipO_eq ρ os (hp := updA hp N (.live false sz xs)) (N := N + 1) (by simpa using h), addO, addO_lt os (Nat.lt_succ_self N), updA_same]
def szO (obs obs' : List (Nat × List (List AV))) : Prop := obs.map (·.1) = obs'.map (·.1)
def ownO (obs : List (Nat × List (List AV))) : Prop := ∀ p ∈ obs, ownLL p.2 = true ∧ p.2.flatten.all pureB = true
theorem ownO.nil : ownO [] := fun p hp => by cases hp
theorem ownO.cons {sz : Nat} {xs : List (List AV)} {obs : List (Nat × List (List AV))} (h : ownLL xs = true) (h' : xs.flatten.all pureB = true) (hs : ownO obs) : ownO ((sz, xs) :: obs) := fun p hp => by
  rcases List.mem_cons.1 hp with rfl | hp
  · exact ⟨h, h'⟩
  · exact hs p hp
theorem ref_or (ρ : List Nat) (o : Nat) : (∃ i : Nat, ρ[i]? = some o) ∨ o ∉ ρ := by
  by_cases h : o ∈ ρ
  · exact .inl (List.mem_iff_getElem?.1 h)
  · exact .inr h
/-- more blocks that are not written, behind a call -/
def Im2 (Im J' : Nat → Prop) (w : World) (bl : List Nat) (k : Nat) : Prop := Im k ∨ (J' k ∧ (w.heap.size ≤ k ∨ k ∈ bl))
theorem Sm.back (hm : Sm w0 MP st C Im E w) {ρ : List Nat} {obs obs' : List (Nat × List (List AV))} (hn : ρ.Nodup) (hob : ObL st.hp ρ obs) {J J' : Nat → Prop} (hI : ∀ k, Im k → J k) (hJ : ∀ k, J k → k < w.heap.size ∧ k ∉ blsOf C ρ)
    (hl' : obs'.length = obs.length) (hsz : szO obs obs') (hown : ownO obs') {C' : Nat → Option Conc} {E' : Env} (hb : Sm w ⟨blsOf C ρ, J, ghOf C ρ⟩ ⟨fun _ => .no, obS obs', obs.length⟩ C' J' E' w') :
    Sm w0 MP ⟨st.E, upsA (zipO ρ obs') st.hp, st.nx⟩ (upsA (zipF C' ρ 0) C) (Im2 Im J' w (blsOf C ρ)) E w' ∧ CLe st.nx C (upsA (zipF C' ρ 0) C) ∧
      ∀ F, Loose w ⟨blsOf C ρ, J, ghOf C ρ⟩ C' w' F → (∀ k ∈ F, ¬ J' k) → Loose w0 MP (upsA (zipF C' ρ 0) C) w' F ∧ ∀ k ∈ F, ¬ Im2 Im J' w (blsOf C ρ) k := by
  have hlen := hob.length
  have hhp : upsA (zipO ρ obs') st.hp = upsA (zipF (obS obs') ρ 0) st.hp := zipO_eq ρ obs' (by omega)
  have cAt : ∀ {i o}, ρ[i]? = some o → upsA (zipF C' ρ 0) C o = C' i := fun h => by rw [zipF_at hn h, Nat.zero_add]
  have cOut : ∀ {o}, o ∉ ρ → upsA (zipF C' ρ 0) C o = C o := fun h => zipF_out h
  have hAt : ∀ {i o}, ρ[i]? = some o → upsA (zipO ρ obs') st.hp o = obS obs' i := fun h => by rw [hhp, zipF_at hn h, Nat.zero_add]
  have hOut : ∀ {o}, o ∉ ρ → upsA (zipO ρ obs') st.hp o = st.hp o := fun h => by rw [hhp, zipF_out h]
  have hwz := hm.tch.size
  have hwz' := hb.tch.size
  -- blocks of the objects given, and others
  have bge : ∀ k ∈ blsOf C ρ, w0.heap.size ≤ k ∨ k ∈ MP.bl := fun k hk => by
    obtain ⟨o, cc, h1, h2, h3⟩ := mem_blsOf.1 hk
    obtain ⟨_, _, _, _, hO⟩ := hm.objOf h2
    exact hO.ge k h3
  have bge' : ∀ k, w.heap.size ≤ k ∨ k ∈ blsOf C ρ → w0.heap.size ≤ k ∨ k ∈ MP.bl := fun k hk => hk.elim (fun h => .inl (by omega)) (bge k)
  have hsame : ∀ k, k < w.heap.size → k ∉ blsOf C ρ → w'.heap[k]? = w.heap[k]? := fun k h1 h2 => hb.tch.same k h1 h2
  have hIs : ∀ k, Im k → w'.heap[k]? = w.heap[k]? := fun k hk => hsame k (hm.im k hk) (hJ k (hI k hk)).2
  have hoff : ∀ o c, o ∉ ρ → C o = some c → ∀ k ∈ blks c, k < w.heap.size ∧ k ∉ blsOf C ρ := fun o c ho hc k hk => by
    obtain ⟨_, _, _, _, hO⟩ := hm.objOf hc
    refine ⟨(hO.wb k hk).lt, fun hk' => ?_⟩
    obtain ⟨o', cc, h1, h2, h3⟩ := mem_blsOf.1 hk'
    exact hm.dis o o' c cc (fun e => ho (e ▸ h1)) hc h2 k hk h3
  have hIm2 : ∀ k, Im k → Im2 Im J' w (blsOf C ρ) k := fun k hk => .inl hk
  have nIm : ∀ k, w.heap.size ≤ k ∨ k ∈ blsOf C ρ → ¬ Im k := fun k hk hi => by
    have := hJ k (hI k hi)
    rcases hk with hk | hk
    · omega
    · exact this.2 hk
  -- what an object that was given has become
  have hobj : ∀ {i o}, ρ[i]? = some o → ∃ p' cc', obs'[i]? = some p' ∧ C' i = some cc' ∧ OR w ⟨blsOf C ρ, J, ghOf C ρ⟩ obs.length C' J' w' false p'.1 p'.2 cc' := fun {i o} h => by
    have hi : i < obs'.length := by have := (List.getElem?_eq_some_iff.1 h).1; omega
    have hp : obs'[i]? = some obs'[i] := by simp [hi]
    obtain ⟨cc', q1, q2⟩ := hb.obj i _ _ _ (obS_at hp)
    exact ⟨_, cc', hp, q1, q2⟩
  have hle : CLe st.nx C (upsA (zipF C' ρ 0) C) := fun o ho c' hc' => by
    rcases ref_or ρ o with ⟨i, hi⟩ | ho'
    · rw [cAt hi] at hc'
      obtain ⟨p, q1, q2, q3⟩ := hob.at hi
      obtain ⟨cc, hcc, hO⟩ := hm.obj _ _ _ _ q2
      have hcc2 : Cc ρ C i = some cc := by unfold Cc; rw [hi]; exact hcc
      have hilt : i < ρ.length := (List.getElem?_eq_some_iff.1 hi).1
      obtain ⟨_, _, _, _, _, _, g5⟩ := hb.gst _ (mem_ghOf.2 ⟨i, cc, hilt, hcc2, rfl⟩)
      obtain ⟨e1, e2⟩ := g5 c' hc'
      refine ⟨cc, hcc, ?_⟩
      rcases Nat.lt_or_ge cc.len c'.len with h | h
      · exact .inr h
      · have e3 : c'.len = cc.len := by omega
        obtain ⟨s1, s2, s3⟩ := e2 e3
        refine .inl ⟨e3.symm, s2 rfl e3.symm, ?_⟩
        obtain ⟨p', cc', r1, r2, r3⟩ := hobj hi
        rw [hc'] at r2
        cases r2
        rw [hO.esz, r3.esz]
        have := congrArg (fun l => l[i]?) hsz
        simp only [List.getElem?_map, q1, r1, Option.map_some, Option.some.injEq] at this
        exact this
    · rw [cOut ho'] at hc'
      exact ⟨c', hc', .inl ⟨rfl, rfl, rfl⟩⟩
  refine ⟨⟨⟨fun k hk hm' => (hb.tch.same k (by omega) fun hk' => (bge k hk').elim (by omega) (fun h => hm' h)).trans (hm.tch.same k hk hm'), by omega, hb.tch.os.trans hm.tch.os, hb.tch.tape.trans hm.tch.tape, hb.tch.output.trans hm.tch.output⟩, fun k hk => hk.elim (fun hk => by have := hm.im k hk; omega) (fun hk => hb.im k hk.1), fun t => RV.mono hIm2 hIs (Nat.le_refl _) hle _ _ (hm.slot t), fun o ho => ?_, fun o l sz xs ho => ?_, fun o ho => ?_, fun o o' c c' hoo hc hc' => ?_, fun k hk => hk.elim (hm.imJ k) fun hk => .inr (bge' k hk.2), fun p hp => RV.mono hIm2 hIs (Nat.le_refl _) hle _ _ (hm.gst p hp)⟩, hle, fun F hL hF => ⟨⟨hL.nd, fun k hk => bge' k (hL.ge k hk), hL.wb, fun o c hc k hk hk' => ?_⟩, fun k hk hi2 => hi2.elim (nIm k (hL.ge k hk)) fun hi2 => hF k hk hi2.1⟩⟩
  · dsimp only at ho
    rcases ref_or ρ o with ⟨i, hi⟩ | ho'
    · rw [hAt hi] at ho
      have := obS_dead ho
      have := (List.getElem?_eq_some_iff.1 hi).1
      omega
    · rw [hOut ho'] at ho
      rw [cOut ho']; exact hm.nod o ho
  · dsimp only at ho ⊢
    rcases ref_or ρ o with ⟨i, hi⟩ | ho'
    · rw [hAt hi] at ho
      obtain ⟨rfl, hp⟩ := obS_inv ho
      obtain ⟨p', cc', r1, r2, r3⟩ := hobj hi
      rw [hp] at r1
      cases r1
      obtain ⟨o1, o2⟩ := hown _ (List.mem_of_getElem? hp)
      rw [ownLL_all, ← ownL'_all] at o1
      refine ⟨cc', (cAt hi).trans r2, r3.esz, r3.len, r3.buf, LayC.own (((r3.lay.pure o2).own o1).mono (fun _ h => h.elim) (fun _ h => h.elim) (fun _ _ => rfl)), r3.lens, r3.nd, fun k hk => bge' k (r3.ge k hk), fun b hb' hi2 => ?_, fun k hk => ⟨fun hi2 => ?_, fun h => by cases h⟩⟩
      · rcases hi2 with hi2 | hi2
        · exact nIm b (r3.ge b (by simp [blks, mem_ownL, hb'])) hi2
        · exact r3.nim b hb' hi2.1
      · rcases hi2 with hi2 | hi2
        · exact absurd hi2 (nIm k (r3.ge k (by simp [blks, hk])))
        · exact (r3.lent k hk).1 hi2.1
    · rw [hOut ho'] at ho
      obtain ⟨c, g1, g2⟩ := hm.obj o l sz xs ho
      have ho2 := hoff o c ho' g1
      have hs2 : ∀ k ∈ blks c, w'.heap[k]? = w.heap[k]? := fun k hk => hsame k (ho2 k hk).1 (ho2 k hk).2
      refine ⟨c, (cOut ho').trans g1, g2.esz, g2.len, g2.buf.same fun b hb => hs2 b (by simp [blks, mem_ownL, hb]), g2.lay.mono hIm2 hIs (Nat.le_refl _) hle fun k hk => hs2 k (by simp [blks, hk]), g2.lens, g2.nd, g2.ge, fun b hb' hi2 => hi2.elim (g2.nim b hb') fun hi2 => ?_, fun k hk => ⟨fun hi2 => hi2.elim (g2.lent k hk).1 fun hi2 => ?_, fun h => .inl ((g2.lent k hk).2 h)⟩⟩
      · have := ho2 b (by simp [blks, mem_ownL, hb'])
        rcases hi2.2 with h | h
        · omega
        · exact this.2 h
      · have := ho2 k (by simp [blks, hk])
        rcases hi2.2 with h | h
        · omega
        · exact absurd h this.2
  · dsimp only at ho ⊢
    rcases ref_or ρ o with ⟨i, hi⟩ | ho'
    · obtain ⟨p, q1, q2, q3⟩ := hob.at hi
      have := hm.lt o ho
      rw [q2] at this; cases this
    · rw [hOut ho']; exact hm.lt o ho
  · rcases ref_or ρ o with ⟨i, hi⟩ | ho1 <;> rcases ref_or ρ o' with ⟨i', hi'⟩ | ho2
    · rw [cAt hi] at hc
      rw [cAt hi'] at hc'
      exact hb.dis i i' c c' (fun e => hoo (by subst e; rw [hi] at hi'; exact Option.some.inj hi')) hc hc'
    · rw [cAt hi] at hc
      rw [cOut ho2] at hc'
      intro k hk hk'
      obtain ⟨p', cc', r1, r2, r3⟩ := hobj hi
      rw [hc] at r2
      cases r2
      have h1 := hoff o' c' ho2 hc' k hk'
      rcases r3.ge k hk with h | h
      · omega
      · exact h1.2 h
    · rw [cOut ho1] at hc
      rw [cAt hi'] at hc'
      intro k hk hk'
      obtain ⟨p', cc', r1, r2, r3⟩ := hobj hi'
      rw [hc'] at r2
      cases r2
      have h1 := hoff o c ho1 hc k hk
      rcases r3.ge k hk' with h | h
      · omega
      · exact h1.2 h
    · rw [cOut ho1] at hc
      rw [cOut ho2] at hc'
      exact hm.dis o o' c c' hoo hc hc'
  · rcases ref_or ρ o with ⟨i, hi⟩ | ho'
    · rw [cAt hi] at hc
      exact hL.off i c hc k hk hk'
    · rw [cOut ho'] at hc
      have h1 := hoff o c ho' hc k hk'
      rcases hL.ge k hk with h | h
      · omega
      · exact h1.2 h
/-- a result as the caller sees it -/
def ren (ρ : List Nat) : AV → AV
  | .sl o n off m => .sl (ρ.getD o 0) n off m
  | .pt o n k j => .pt (ρ.getD o 0) n k j
  | a => a
def renB (vw : Bool) : AV → Bool
  | .i _ | .b _ | .nl | .em | .sl _ _ _ _ | .pt _ _ _ _ => true
  | .dt true _ xs => (ownLL xs || vw) && xs.flatten.all pureB
  | .dt false _ _ => vw
  | _ => false
theorem LayC.ren {K N : Nat} {C' C2 : Nat → Option Conc} {J' I2 : Nat → Prop} {w : World} {ρ : List Nat} {vw : Bool} (hK : K = ρ.length) (hρ : ∀ o ∈ ρ, o < N) (hC : ∀ i o, ρ[i]? = some o → C2 o = C' i) (hv : vw = true → ∀ k, J' k → I2 k) {cs : List AV} {us : List Value} {F : List Nat} (h : LayC K C' J' w cs us F) (hc : cs.all (renB vw) = true) : LayC N C2 I2 w (cs.map (V.ren ρ)) us F := by
  induction h with
  | nil => exact .nil
  | @at1 a v cs vs F h1 h2 _ ih =>
    rw [List.all_cons, Bool.and_eq_true] at hc
    refine .at1 ?_ h2 (ih hc.2)
    have hc1 := hc.1
    cases a with
    | i n => exact h1
    | b x => exact h1
    | nl => exact h1
    | em => exact h1
    | sl o n off m =>
      obtain ⟨p, c, g1, g2, g3, g4, g5⟩ := h1
      have ho : ρ[o]? = some (ρ.getD o 0) := by rw [hK] at g4; simp [g4]
      exact ⟨p, c, g1, g2, g3, hρ _ (List.mem_of_getElem? ho), fun cc hcc => g5 cc (by rw [← hC o _ ho]; exact hcc)⟩
    | pt o n k j =>
      obtain ⟨b, q, g1, g4, g5⟩ := h1
      have ho : ρ[o]? = some (ρ.getD o 0) := by rw [hK] at g4; simp [g4]
      exact ⟨b, q, g1, hρ _ (List.mem_of_getElem? ho), fun cc hcc => g5 cc (by rw [← hC o _ ho]; exact hcc)⟩
    | dt o sz xs =>
      obtain ⟨rfl, h1⟩ := h1
      have : vw = true := hc1
      exact ⟨rfl, h1.mono (hv this) (fun _ _ => rfl)⟩
    | _ => cases hc1
  | @ow sz xs v F1 cs vs F h1 h2 ih =>
    rw [List.all_cons, Bool.and_eq_true] at hc
    have hc1 := hc.1
    simp only [renB, Bool.and_eq_true, Bool.or_eq_true] at hc1
    rcases hc1.1 with ho | hvw
    · exact .ow ((h1.own (by simp [ownL', ownA, ho])).mono (fun _ h => h.elim) (fun _ h => h.elim) (fun _ _ => rfl)) (ih hc.2)
    · exact .ow (h1.mono (hv hvw) (fun _ _ => rfl) (fun _ _ => rfl)) (ih hc.2)
def renR (ρ : List Nat) : AV → AV
  | .agg cs => .agg (cs.map (V.ren ρ))
  | a => V.ren ρ a
def renRB (vw : Bool) : AV → Bool
  | .agg cs => cs.all (renB vw)
  | a => renB vw a
theorem ResM.ren {K N : Nat} {C' C2 : Nat → Option Conc} {J' I2 : Nat → Prop} {w : World} {ρ : List Nat} {vw : Bool} (hK : K = ρ.length) (hρ : ∀ o ∈ ρ, o < N) (hC : ∀ i o, ρ[i]? = some o → C2 o = C' i) (hv : vw = true → ∀ k, J' k → I2 k) {rs : List AV} {us : List Value} {F : List Nat} (h : ResM K C' J' w rs us F) (hc : rs.all (renRB vw) = true) : ResM N C2 I2 w (rs.map (renR ρ)) us F := by
  induction h with
  | nil => exact .nil
  | @cell a v rs vs F G h1 _ ih =>
    rw [List.all_cons, Bool.and_eq_true] at hc
    have ha : renR ρ a = V.ren ρ a ∧ renRB vw a = renB vw a := by
      cases a with
      | agg cs => cases h1 with | at1 h3 h4 _ => obtain ⟨us, rfl, _⟩ := h3; cases h4
      | _ => exact ⟨rfl, rfl⟩
    rw [List.map_cons, ha.1]
    exact .cell (h1.ren hK hρ hC hv (by rw [List.all_cons, ← ha.2, hc.1]; rfl)) (ih hc.2)
  | @agg cs us rs vs F G h1 _ ih =>
    rw [List.all_cons, Bool.and_eq_true] at hc
    exact .agg (h1.ren hK hρ hC hv hc.1) (ih hc.2)
/-- what is the callee's own becomes objects of the caller -/
inductive ThwC : Nat → List AV → List AV → List (Nat × List (List AV)) → Prop
  | nil {N : Nat} : ThwC N [] [] []
  | at1 {N : Nat} {a : AV} {cs ds : List AV} {os : List (Nat × List (List AV))} : shr a = true → ThwC N cs ds os → ThwC N (a :: cs) (a :: ds) os
  | ow {N n sz : Nat} {xs : List (List AV)} {cs ds : List AV} {os : List (Nat × List (List AV))} : xs.length = n → ThwC (N + 1) cs ds os → ThwC N (.dt true sz xs :: cs) (.sl N n 0 n :: ds) ((sz, xs) :: os)
theorem ThwC.spec {N : Nat} {cs ds : List AV} {os : List (Nat × List (List AV))} (h : ThwC N cs ds os) : ∀ {st : St} {C : Nat → Option Conc} {us : List Value} {F H : List Nat}, st.nx = N → Sm w0 MP st C Im E w → LayC st.nx C Im w cs us F → Loose w0 MP C w (F ++ H) → (∀ k ∈ F ++ H, ¬ Im k) →
    ∃ C', Sm w0 MP ⟨st.E, addO st.hp st.nx os, st.nx + os.length⟩ C' Im E w ∧ RVL (st.nx + os.length) C' Im w ds us ∧ Loose w0 MP C' w H ∧ CLe st.nx C C' := by
  induction h with
  | nil =>
    intro st C us F H hN hm ho hL hi
    cases ho
    exact ⟨C, hm, rfl, by simpa using hL, CLe.refl _ _⟩
  | @at1 N a cs ds os ha _ ih =>
    intro st C us F H hN hm ho hL hi
    cases ho with
    | @at1 _ v _ vs _ h1 h0 h2 =>
      obtain ⟨C', g1, g2, g3, g4⟩ := ih hN hm h2 hL hi
      exact ⟨C', g1, ⟨v, vs, rfl, RV.mono (fun _ h => h) (fun _ _ => rfl) (by simp) g4 _ _ h1, g2⟩, g3, g4⟩
    | ow _ _ => cases ha
  | @ow N n sz xs cs ds os hn _ ih =>
    intro st C us F H hN hm ho hL hi
    cases ho with
    | at1 h1 _ h2 => exact absurd h1.1 (by simp)
    | @ow _ _ v F1 _ vs F2 h1 h4 =>
      cases h1 with
      | at1 h1 h2 => cases h1
      | @ow _ _ _ us2 G _ vs' F3 h1 h2 h3 h5 =>
      cases h5
      let cc : Conc := ⟨v, xs.length, sz, us2, G⟩
      simp only [List.append_nil] at hL hi
      rw [List.append_assoc] at hL hi
      obtain ⟨n1, n2, n3⟩ := List.nodup_append.1 hL.nd
      have hmem : ∀ k ∈ blks cc, k ∈ ownL v ++ G ++ (F2 ++ H) := fun k hk => List.mem_append_left _ hk
      have hO : OR w0 MP st.nx C Im w false sz xs cc := ⟨rfl, rfl, h1, LayC.own h2, h3, n1, fun k hk => hL.ge k (hmem k hk), fun b hb => hi b (hmem b (by simp [blks, cc, mem_ownL, hb])), fun k hk => ⟨fun h => absurd h (hi k (hmem k (by simp [blks, cc, show k ∈ G from hk]))), fun h => by cases h⟩⟩
      have hS := hm.new hO fun o c hc k hk => hL.off o c hc k (hmem k hk)
      have hle : CLe st.nx C (updA C st.nx (some cc)) := fun o ho c hc => ⟨c, by rwa [updA_ne _ _ (by omega)] at hc, .inl ⟨rfl, rfl, rfl⟩⟩
      obtain ⟨C', g1, g2, g3, g4⟩ := ih (st := ⟨st.E, updA st.hp st.nx (.live false sz xs), st.nx + 1⟩) (by simp [hN]) hS (h4.mono (fun _ h => h) (fun _ _ => rfl) (Nat.le_succ _) hle (fun _ _ => rfl)) (H := H) ⟨n2, fun k hk => hL.ge k (List.mem_append_right _ hk), fun k hk => hL.wb k (List.mem_append_right _ hk), fun o c hc k hk => by
        by_cases e : o = st.nx
        · subst e
          rw [updA_same] at hc
          cases hc
          exact fun hk' => n3 k hk' k hk rfl
        · rw [updA_ne _ _ e] at hc
          exact hL.off o c hc k (List.mem_append_right _ hk)⟩ fun k hk => hi k (List.mem_append_right _ hk)
      have hrv : RV (st.nx + 1) (updA C st.nx (some cc)) Im w (.sl st.nx n 0 n) v := by
        obtain ⟨c2, q1, q2⟩ := hS.obj st.nx false sz xs (updA_same ..)
        have := RV.slNew q2 q1 (Nat.lt_succ_self _)
        rw [updA_same] at q1
        cases q1
        rw [← hn]; exact this
      have e1 : st.nx + 1 + os.length = st.nx + ((sz, xs) :: os).length := by simp; omega
      simp only at g1 g2 g4
      rw [e1] at g1 g2
      refine ⟨C', g1, ⟨v, vs, rfl, ?_, g2⟩, g3, hle.trans g4 (Nat.le_succ _)⟩
      rw [← hN]
      exact RV.mono (fun _ h => h) (fun _ _ => rfl) (by simp) g4 _ _ hrv
def nag : AV → Bool
  | .agg _ => false
  | _ => true
inductive ThwM : Nat → List AV → List AV → List (Nat × List (List AV)) → Prop
  | nil {N : Nat} : ThwM N [] [] []
  | cell {N : Nat} {a a' : AV} {rs as : List AV} {os os' : List (Nat × List (List AV))} : nag a = true → ThwC N [a] [a'] os → ThwM (N + os.length) rs as os' → ThwM N (a :: rs) (a' :: as) (os ++ os')
  | agg {N : Nat} {cs ds : List AV} {rs as : List AV} {os os' : List (Nat × List (List AV))} : ThwC N cs ds os → ThwM (N + os.length) rs as os' → ThwM N (.agg cs :: rs) (.agg ds :: as) (os ++ os')
theorem ResM.mono {M : Nat} {C' : Nat → Option Conc} (hN : N ≤ M) (hC : CLe N C C') {rs : List AV} {vs : List Value} {F : List Nat} (h : ResM N C Im w rs vs F) : ResM M C' Im w rs vs F := by
  induction h with
  | nil => exact .nil
  | cell h1 _ ih => exact .cell (h1.mono (fun _ h => h) (fun _ _ => rfl) hN hC (fun _ _ => rfl)) ih
  | agg h1 _ ih => exact .agg (h1.mono (fun _ h => h) (fun _ _ => rfl) hN hC (fun _ _ => rfl)) ih
theorem ThwM.spec {N : Nat} {rs as : List AV} {os : List (Nat × List (List AV))} (h : ThwM N rs as os) : ∀ {st : St} {C : Nat → Option Conc} {vs : List Value} {F : List Nat}, st.nx = N → Sm w0 MP st C Im E w → ResM st.nx C Im w rs vs F → Loose w0 MP C w F → (∀ k ∈ F, ¬ Im k) →
    ∃ C', Sm w0 MP ⟨st.E, addO st.hp st.nx os, st.nx + os.length⟩ C' Im E w ∧ RVL (st.nx + os.length) C' Im w as vs ∧ CLe st.nx C C' := by
  induction h with
  | nil =>
    intro st C us F hN hm ho hL hi
    cases ho
    exact ⟨C, hm, rfl, CLe.refl _ _⟩
  | @cell N a a' rs as os os' hna ht _ ih =>
    intro st C vs F hN hm ho hL hi
    cases ho with
    | @cell _ v _ vs' F1 F2 h1 h2 =>
      obtain ⟨C1, g1, g2, g3, g4⟩ := ht.spec hN hm h1 hL hi
      obtain ⟨C2, k1, k2, k3⟩ := ih (st := ⟨st.E, addO st.hp st.nx os, st.nx + os.length⟩) (by simp [hN]) g1 (h2.mono (by simp) g4) g3 fun k hk => hi k (List.mem_append_right _ hk)
      have e1 : st.nx + os.length + os'.length = st.nx + (os ++ os').length := by simp; omega
      simp only at k1 k2 k3
      rw [← addO_append, e1] at k1
      rw [e1] at k2
      obtain ⟨v', vs2, q1, q2, q3⟩ := g2
      simp only [List.cons.injEq] at q1
      obtain ⟨rfl, _⟩ := q1
      exact ⟨C2, k1, ⟨v, vs', rfl, RV.mono (fun _ h => h) (fun _ _ => rfl) (by simp) k3 _ _ q2, k2⟩, g4.trans k3 (by omega)⟩
    | agg h1 h2 => cases hna
  | @agg N cs ds rs as os os' ht _ ih =>
    intro st C vs F hN hm ho hL hi
    cases ho with
    | cell h1 h2 => cases h1 with | at1 h3 h4 _ => obtain ⟨us, rfl, _⟩ := h3; cases h4
    | @agg _ us _ vs' F1 F2 h1 h2 =>
      obtain ⟨C1, g1, g2, g3, g4⟩ := ht.spec hN hm h1 hL hi
      obtain ⟨C2, k1, k2, k3⟩ := ih (st := ⟨st.E, addO st.hp st.nx os, st.nx + os.length⟩) (by simp [hN]) g1 (h2.mono (by simp) g4) g3 fun k hk => hi k (List.mem_append_right _ hk)
      have e1 : st.nx + os.length + os'.length = st.nx + (os ++ os').length := by simp; omega
      simp only at k1 k2 k3
      rw [← addO_append, e1] at k1
      rw [e1] at k2
      exact ⟨C2, k1, ⟨_, vs', rfl, ⟨us, rfl, RVL.mono (fun _ h => h) (fun _ _ => rfl) (by simp) k3 _ _ g2⟩, k2⟩, g4.trans k3 (by omega)⟩
end
end Go.Proofs.Ytcalkmlaodjpaaa.V
