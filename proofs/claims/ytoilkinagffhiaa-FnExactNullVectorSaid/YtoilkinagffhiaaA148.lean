/- Segments that end in a state that fits; a range over a function as one loop: the iterator's frame and the caller's round in one state. -/
import Derived.Test.YtoilkinagffhiaaA147
namespace Go.Proofs.Ytoilkinagffhiaa.V
open Go.RowKit G D
set_option linter.unusedVariables false
set_option linter.unusedSimpArgs false
set_option maxHeartbeats 4000000
set_option maxRecDepth 4000

section
variable {w0 w w' : World} {MP : Fr} {st st' : St} {C C' : Nat → Option Conc} {Im Im' : Nat → Prop} {E E' : Env} {bk : List Nat} {P : Program} {n l : Nat} {c : Code}
theorem segF {ι : Type} {S : List Nat} {sl : ι → List (Nat × AV)} {ob : ι → List (Nat × Ob)} {i : ι} (hm : Sm w0 MP st C Im E w) (hb : ∀ k ∈ bk, ¬ Im k ∧ ∃ o, w.heap[k]? = some o ∧ o.isCells = false) (hB : BndS st.nx (sl i) ∧ BndH st.nx (ob i))
    (hs : Sim w ⟨blsN C st.nx, Im, MP.gh⟩ st' E' w') (hf : Fit S (sl i) (ob i) st st') : SimB bk w0 MP (head S (sl i) (ob i) st) E' w' ∧ ∀ k ∈ bk, w'.heap[k]? = w.heap[k]? := by
  obtain ⟨C2, Im2, h2⟩ := hf.sim ⟨C, Im, hm.rebase⟩ hB.1 hB.2 hs
  exact hm.segB h2 hb
theorem AW.segF {ι : Type} {S : List Nat} {sl : ι → List (Nat × AV)} {ob : ι → List (Nat × Ob)} {K : Exit → ι → Prop} (hB : ∀ i, BndS st.nx (sl i) ∧ BndH st.nx (ob i)) (h : ∀ w0 mp, mp.gh = MP.gh → AW P n w0 mp c (fun e st' => ∃ i, K e i ∧ Fit S (sl i) (ob i) st st') st) (hs : SimB bk w0 MP st E w) :
    Wp P n c (fun e E' w' => ∃ i, K e i ∧ SimB bk w0 MP (head S (sl i) (ob i) st) E' w' ∧ ∀ k ∈ bk, w'.heap[k]? = w.heap[k]?) E w := by
  obtain ⟨C, Im, hm, hb⟩ := hs
  have h1 := h w ⟨blsN C st.nx, Im, MP.gh⟩ rfl
  unfold AW at h1
  refine (h1 E w ⟨C, Im, hm.rebase⟩).mono ?_
  rintro e E' w' ⟨st', hm', i, hk, hf⟩
  obtain ⟨g1, g2⟩ := V.segF hm hb (hB i) hm' hf
  exact ⟨i, hk, g1, g2⟩
theorem AWR.segF {ι : Type} {S : List Nat} {sl : ι → List (Nat × AV)} {ob : ι → List (Nat × Ob)} {K : Exit → ι → Prop} (hB : ∀ i, BndS st.nx (sl i) ∧ BndH st.nx (ob i)) (h : ∀ w0 mp, mp.gh = MP.gh → AWR P n l w0 mp c (fun e st' => ∃ i, K e i ∧ Fit S (sl i) (ob i) st st') st) (hs : SimB bk w0 MP st E w) :
    WpR P n l c (fun e E' w' => ∃ i, K e i ∧ SimB bk w0 MP (head S (sl i) (ob i) st) E' w' ∧ ∀ k ∈ bk, w'.heap[k]? = w.heap[k]?) E w := by
  obtain ⟨C, Im, hm, hb⟩ := hs
  have h1 := h w ⟨blsN C st.nx, Im, MP.gh⟩ rfl
  unfold AWR at h1
  intro d a ha
  refine wpIn_mono (h1 E w ⟨C, Im, hm.rebase⟩ d a ha) ?_
  rintro e a' w' ⟨E', hfi, st', hm', i, hk, hf⟩
  obtain ⟨g1, g2⟩ := V.segF hm hb (hB i) hm' hf
  exact ⟨E', hfi, i, hk, g1, g2⟩
theorem WpR.mono {Q Q' : Exit → Env → World → Prop} (h : WpR P n l c Q E w) (hq : ∀ e E w, Q e E w → Q' e E w) : WpR P n l c Q' E w :=
  fun d a ha => wpIn_mono (h d a ha) fun e a w ⟨E', hf, hq'⟩ => ⟨E', hf, hq e E' w hq'⟩
theorem SimB.switch (h : SimB bk w0 MP st E w) {E2 : Env} {S2 : Nat → AV} {gh : List (AV × Value)} (hs : ∀ C Im, Sm w0 MP st C Im E w → (∀ t, RV st.nx C Im w (S2 t) (E2 t)) ∧ ∀ p ∈ gh, RV st.nx C Im w p.1 p.2) : SimB bk w0 ⟨MP.bl, MP.J, gh⟩ ⟨S2, st.hp, st.nx⟩ E2 w := by
  obtain ⟨C, Im, hm, hb⟩ := h
  obtain ⟨h1, h2⟩ := hs C Im hm
  exact ⟨C, Im, hm.switch h1 h2, hb⟩
/-- slots as ghosts -/
def ghS (n : Nat) (S : Nat → AV) (E : Env) : List (AV × Value) := (List.range n).map fun t => (S t, E t)
theorem ghS_mem {S : Nat → AV} {t : Nat} (h : t < n) : (S t, E t) ∈ ghS n S E := List.mem_map.2 ⟨t, by simpa using h, rfl⟩
theorem ghS_of {S : Nat → AV} {R : AV → Value → Prop} (h : ∀ t, R (S t) (E t)) : ∀ p ∈ ghS n S E, R p.1 p.2 := fun p hp => by
  obtain ⟨t, _, rfl⟩ := List.mem_map.1 hp
  exact h t

variable {nI p s2 d1 d2 d3 : Nat} {r : Loop} {a : Act} {Ec : Env} {Sc Si : Nat → AV} {N : Nat} {σ : Type}
/-- one round, told in the iterator's frame: state s (what the objects hold) turns into nxt s -/
theorem roundI {id : Nat} {ats : Array TypeId} {t1 t2 t3 : TypeId} {p1 p2 p3 : String} {f1 f2 f3 : Array Edge} {hp hp' : Nat → Ob} {SA SB : List Nat} {slA : List (Nat × AV)} {obB : List (Nat × Ob)}
    (hlb : l ∈ bk) (hz : w0.heap.size ≤ l) (hr : r.state = .ready) (hpe : r.pending = none) (ht : r.tmps = a.tmps) (hfi : Fits n a Ec) (hps : r.params = #[p]) (hpn : p < n) (hSc : ∀ t, n ≤ t → Sc t = .no) (hSi : ∀ t, nI ≤ t → Si t = .no)
    (h0 : Si 0 = .q (fun v => v = .func (.yield l) #[] #[])) (h1 : d1 < nI) (h2 : d2 < nI) (h3 : d3 < nI) (h12 : d1 ≠ d2) (hs : s2 ≠ d1)
    (hBA : BndS N slA ∧ BndH N []) (hBB : BndS N [] ∧ BndH N obB)
    (hasg : ∀ v0 mp, AWR P n l v0 mp r.assign (fun e st' => ∃ _ : Unit, e = .normal ∧ Fit SA slA [] ⟨updA Sc p (Si s2), hp, N⟩ st') ⟨updA Sc p (Si s2), hp, N⟩)
    (hbody : ∀ v0 mp, AWR P n l v0 mp r.body (fun e st' => ∃ _ : Unit, e = .normal ∧ Fit SB [] obB (head SA slA [] ⟨updA Sc p (Si s2), hp, N⟩) st') (head SA slA [] ⟨updA Sc p (Si s2), hp, N⟩))
    (hhp : hp' = upsA obB (head SA slA [] ⟨updA Sc p (Si s2), hp, N⟩).hp) {D : Nat} {X : Option Obj} (hDb : D ∈ bk) (hDl : D ≠ l) (hD : w.heap[D]? = X)
    (hJ : SimB bk w0 ⟨MP.bl, MP.J, ghS n Sc Ec ++ MP.gh⟩ ⟨Si, hp, N⟩ E w) (hl : w.heap[l]? = some (.loop r)) :
    Wp P nI (.region id #[⟨some d1, .move (.tmp 0), t1, p1, f1, none⟩, ⟨some d2, .move (.tmp s2), t2, p2, f2, none⟩, ⟨some d3, .call ⟨.value (.tmp d1), #[.tmp d2], ats⟩, t3, p3, f3, none⟩] false)
      (fun e E' w' => e = .normal ∧ SimB bk w0 ⟨MP.bl, MP.J, ghS n Sc Ec ++ MP.gh⟩ ⟨updA (updA (updA Si d1 (Si 0)) d2 (Si s2)) d3 (.b true), hp', N⟩ E' w' ∧ w'.heap[l]? = some (.loop r) ∧ w'.heap[D]? = X) E w := by
  have hE0 : E 0 = .func (.yield l) #[] #[] := by
    obtain ⟨C, Im, hm, _⟩ := hJ
    have := hm.slot 0
    rw [show (⟨Si, hp, N⟩ : St).E 0 = Si 0 from rfl, h0] at this
    exact this.1
  have hB : SimB bk w0 ⟨MP.bl, MP.J, ghS nI Si E ++ (ghS n Sc Ec ++ MP.gh)⟩ ⟨updA Sc p (Si s2), hp, N⟩ (upd Ec p (E s2)) w := by
    refine hJ.switch (MP := ⟨MP.bl, MP.J, _⟩) fun C Im hm => ⟨fun t => ?_, fun q hq => ?_⟩
    · by_cases e : t = p
      · subst e; rw [updA_same, upd_same]; exact hm.slot s2
      · rw [updA_ne _ _ e, upd_ne _ _ e]
        rcases Nat.lt_or_ge t n with hlt | hge
        · exact hm.gst _ (List.mem_append.2 (.inl (ghS_mem hlt)))
        · rw [hSc t hge]; trivial
    · rcases List.mem_append.1 hq with hq | hq
      · exact ghS_of (R := fun x y => RV N C Im w x y) hm.slot q hq
      · exact hm.gst q hq
  refine Wp.yield (K := fun b W' => b = .bool true ∧ ∃ E3, SimB bk w0 ⟨MP.bl, MP.J, ghS nI Si E ++ (ghS n Sc Ec ++ MP.gh)⟩ (head SB [] obB (head SA slA [] ⟨updA Sc p (Si s2), hp, N⟩)) E3 W' ∧ W'.heap[l]? = some (.loop r) ∧ W'.heap[D]? = X) hE0 hl hps h1 h2 h3 h12 hs ?_ ?_
  · refine (round_of (R := fun W' => ∃ E3, SimB bk w0 ⟨MP.bl, MP.J, ghS nI Si E ++ (ghS n Sc Ec ++ MP.gh)⟩ (head SB [] obB (head SA slA [] ⟨updA Sc p (Si s2), hp, N⟩)) E3 W' ∧ W'.heap[l]? = some (.loop r) ∧ W'.heap[D]? = X) hl hr hpe ht hfi hpn ?_).mono ?_
    · refine (AWR.segF (ι := Unit) (K := fun e _ => e = .normal) (sl := fun _ => slA) (ob := fun _ => []) (fun _ => hBA) (fun v0 mp _ => hasg v0 mp) hB).mono ?_
      rintro e E1 W1 ⟨_, rfl, hS1, hk1⟩
      have hl1 : W1.heap[l]? = some (.loop r) := (hk1 l hlb).trans hl
      refine ⟨rfl, hl1, ?_⟩
      have hlt : l < W1.heap.size := (Array.getElem?_eq_some_iff.1 hl1).1
      have hl2 : (W1.putObj l (.loop { r with state := .busy })).heap[l]? = some (.loop { r with state := .busy }) := World.putObj_heap_same hlt
      refine (AWR.segF (ι := Unit) (K := fun e _ => e = .normal) (sl := fun _ => []) (ob := fun _ => obB) (fun _ => hBB) (fun v0 mp _ => hbody v0 mp) (hS1.put hlb hz (o' := .loop { r with state := .busy }) rfl)).mono ?_
      rintro e E3 W3 ⟨_, rfl, hS3, hk3⟩
      have hl3 := (hk3 l hlb).trans hl2
      have hlt3 : l < W3.heap.size := (Array.getElem?_eq_some_iff.1 hl3).1
      exact ⟨rfl, hl3, E3, hS3.put hlb hz rfl, World.putObj_heap_same hlt3, (World.putObj_heap_other hDl).trans ((hk3 D hDb).trans ((World.putObj_heap_other hDl).trans ((hk1 D hDb).trans hD)))⟩
    · rintro e W' ⟨rfl, hR⟩
      exact ⟨_, rfl, rfl, hR⟩
  · rintro b W' ⟨rfl, E3, hS3, hl3, hD3⟩
    refine ⟨rfl, ?_, hl3, hD3⟩
    subst hhp
    refine hS3.switch (MP := ⟨MP.bl, MP.J, _⟩) fun C Im hm => ⟨fun t => ?_, fun q hq => hm.gst q (List.mem_append.2 (.inr hq))⟩
    have hI : ∀ t, RV N C Im W' (Si t) (E t) := fun t => by
      rcases Nat.lt_or_ge t nI with hlt | hge
      · exact hm.gst _ (List.mem_append.2 (.inl (ghS_mem hlt)))
      · rw [hSi t hge]; trivial
    by_cases e3 : t = d3
    · subst e3; rw [updA_same, upd_same]; rfl
    · rw [updA_ne _ _ e3, upd_ne _ _ e3]
      by_cases e2 : t = d2
      · subst e2; rw [updA_same, upd_same]; exact hI s2
      · rw [updA_ne _ _ e2, upd_ne _ _ e2]
        by_cases e1 : t = d1
        · subst e1; rw [updA_same, upd_same]; exact hI 0
        · rw [updA_ne _ _ e1, upd_ne _ _ e1]; exact hI t
end
end Go.Proofs.Ytoilkinagffhiaa.V
