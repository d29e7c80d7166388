/- Texts that the proof needs: A155. -/
import Derived.Test.YtoilkinagffhiaaQffA151
import Derived.Test.YtoilkinagffhiaaQffUk
namespace Go.Proofs.Ytoilkinagffhiaa.V
open Go.RowKit G D
set_option linter.unusedVariables false
set_option linter.unusedSimpArgs false
set_option maxHeartbeats 4000000
set_option maxRecDepth 4000
section
variable {P : Program} {n : Nat} {w0 w : World} {MP : Fr} {E : Env} {st : St}
def WpM (P : Program) (n : Nat) (c : Code) (K : Nat → Env → World → Prop) (E : Env) (w : World) : Prop :=
 ∀ a, Fits n a E → c.wp P (fun e a' w' => e = .ret ∧ ∃ D a0 E', a' = dput [markL D] a0 ∧ Fits n a0 E' ∧ w'.heap[D]? = some (.deferred (some [])) ∧ K D E' w') a w
def AWM (P : Program) (n : Nat) (w0 : World) (MP : Fr) (c : Code) (Q : St → Prop) (st : St) : Prop :=
 ∀ E w, Sim w0 MP st E w → WpM P n c (fun D E' w' => w0.heap.size ≤ D ∧ ∃ st', SimB [D] w0 MP st' E' w' ∧ Q st') E w
def QN (K : St → Prop) : Exit → St → Prop
 | .normal, st => K st
 | _, _ => False
def RetQ (K : St → Prop) : Exit → St → Prop
 | .ret, st => K st
 | _, _ => False
instance (K : St → Prop) : ANoPan (RetQ K) := ⟨fun _ _ h => h⟩
instance (K : St → Prop) : ANoOut (RetQ K) := ⟨fun _ h => h⟩
theorem QN.normal {K : St → Prop} (h : K st) : QN K .normal st := h
theorem AWM.seq {x y : Code} {Q : St → Prop} (h : AW P n w0 MP x (QN (AWM P n w0 MP y Q)) st) : AWM P n w0 MP (.seq x y) Q st := fun E w hs a ha => by
 have h1 := h E w hs
 unfold Wp at h1
 exact wp_seq (wp_mono (h1 a ha) fun e a' w' ⟨E', hf, st', hs', hq⟩ => by
  cases e <;> first | exact hq E' w' hs' a' hf | exact hq.elim)
theorem AWM.only {c : Code} {Q : St → Prop} {E : Nat → AV} {hp : Nat → Ob} {nx : Nat} (sl : List (Nat × AV)) (ob : List (Nat × Ob)) (nx' : Nat) (h1 : AtA E sl) (h2 : AtA hp ob) (hn : nx = nx') (h : AWM P n w0 MP c Q ⟨upsA sl fun _ => .no, upsA ob fun _ => .dead, nx'⟩) : AWM P n w0 MP c Q ⟨E, hp, nx⟩ := by
 subst hn
 exact fun E' w hs => h E' w (Sim.only sl ob h1 h2 hs)
theorem AWR.ghost {l : Nat} {c : Code} {Q : Exit → St → Prop} {st st' : St} (hs : ∀ E w, Sim w0 MP st E w → Sim w0 MP st' E w) (h : AWR P n l w0 MP c Q st') : AWR P n l w0 MP c Q st := fun E w hm => h E w (hs E w hm)
def FitQ (w0 : World) (MP : Fr) (S : List Nat) (sl : List (Nat × AV)) (ob : List (Nat × Ob)) (st0 : St) : Exit → St → Prop
 | .normal, st => ∃ st2, (∀ E w, Sim w0 MP st E w → Sim w0 MP st2 E w) ∧ Fit S sl ob st0 st2
 | _, _ => False
instance {S : List Nat} {sl : List (Nat × AV)} {ob : List (Nat × Ob)} {st0 : St} : ANoOut (FitQ w0 MP S sl ob st0) := ⟨fun _ h => h⟩
instance {S : List Nat} {sl : List (Nat × AV)} {ob : List (Nat × Ob)} {st0 : St} : ANoPan (FitQ w0 MP S sl ob st0) := ⟨fun _ _ h => h⟩
theorem AWR.fitQ {l : Nat} {c : Code} {S : List Nat} {sl : List (Nat × AV)} {ob : List (Nat × Ob)} {st0 st : St} (h : AWR P n l w0 MP c (FitQ w0 MP S sl ob st0) st) : AWR P n l w0 MP c (fun e st' => ∃ _ : Unit, e = .normal ∧ Fit S sl ob st0 st') st := fun E w hm =>
 (h E w hm).mono fun e E' w' ⟨st', hs', hq⟩ => by
  obtain rfl : e = .normal := by cases e <;> first | rfl | exact hq.elim
  obtain ⟨st2, h2, h3⟩ := hq
  exact ⟨st2, h2 E' w' hs', (), rfl, h3⟩
theorem FitQ.mk {S : List Nat} {sl : List (Nat × AV)} {ob : List (Nat × Ob)} {st0 st : St} (h : Fit S sl ob st0 st) : FitQ w0 MP S sl ob st0 .normal st := ⟨st, fun _ _ h => h, h⟩
theorem FitQ.via {S : List Nat} {sl : List (Nat × AV)} {ob : List (Nat × Ob)} {st0 st st2 : St} (hs : ∀ E w, Sim w0 MP st E w → Sim w0 MP st2 E w) (h : Fit S sl ob st0 st2) : FitQ w0 MP S sl ob st0 .normal st := ⟨st2, hs, h⟩
theorem Sim.takeV {o sz sz2 m : Nat} {ys : List (List AV)} {S : Nat → AV} {hp : Nat → Ob} {nx : Nat} (ho : hp o = .live false sz [[.dt true sz2 ys]]) (hm : ys.length = m) : ∀ E w, Sim w0 MP ⟨S, hp, nx⟩ E w → Sim w0 MP ⟨S, updA (updA hp o (.live false sz [[.sl nx m 0 m]])) nx (.live false sz2 ys), nx + 1⟩ E w := fun E w hs => by
 subst hm
 exact (Sim.take (st := ⟨S, hp, nx⟩) (k := 0) (j := 0) ho rfl rfl hs).1
theorem Sim.putV {o o2 sz sz2 m : Nat} {ys : List (List AV)} {S : Nat → AV} {hp : Nat → Ob} {nx : Nat} (ho : hp o = .live false sz [[.sl o2 m 0 m]]) (ho2 : hp o2 = .live false sz2 ys) (hm : ys.length = m) (hpu : ys.flatten.all pureB = true) (hne : o ≠ o2) : ∀ E w, Sim w0 MP ⟨S, hp, nx⟩ E w → Sim w0 MP ⟨S, updA (updA hp o2 .dead) o (.live false sz [[.dt true sz2 ys]]), nx⟩ E w := fun E w hs =>
 Sim.put (st := ⟨S, hp, nx⟩) (k := 0) (j := 0) ho (a := .sl o2 m 0 m) (a' := .dt true sz2 ys) rfl rfl rfl (.mv ho2 rfl hm hpu .nil) (by rw [updA_ne _ _ hne]; exact ho) hs
theorem upsA_self {β : Type} {f : Nat → β} : ∀ {l : List (Nat × β)}, AtA f l → upsA l f = f
 | [], _ => rfl
 | (d, v) :: l, ⟨h1, h2⟩ => by
  funext t
  simp only [upsA]
  by_cases e : t = d
  ·subst e; rw [updA_same]; exact h1.symm
  ·rw [updA_ne _ _ e, upsA_self h2]
theorem Fit.more {S : List Nat} {sl : List (Nat × AV)} {h h2 : List (Nat × Ob)} {st st' : St} (hf : Fit S sl h st st') (hk : ∀ t, mem (keys h) t = true → mem (keys h2) t = true) (ha : AtA st'.hp h2) : Fit S sl h2 st st' :=
 ⟨hf.sl, hf.ags, ha, fun o ho hm => hf.agh o ho (by
  cases e : mem (keys h) o with
  | false => rfl
  | true => rw [hk o e] at hm; cases hm), hf.nx⟩
theorem AWD.ghost {ds : List Deferred} {c : Code} {Q : Exit → St → Prop} {st st' : St} (hs : ∀ E w, Sim w0 MP st E w → Sim w0 MP st' E w) (h : AWD P n ds w0 MP c Q st') : AWD P n ds w0 MP c Q st := fun E w hm => h E w (hs E w hm)
theorem SimB.only {bk : List Nat} {S : Nat → AV} {hp : Nat → Ob} {nx : Nat} (sl : List (Nat × AV)) (ob : List (Nat × Ob)) (h1 : AtA S sl) (h2 : AtA hp ob) (hs : SimB bk w0 MP ⟨S, hp, nx⟩ E w) : SimB bk w0 MP ⟨upsA sl fun _ => .no, upsA ob fun _ => .dead, nx⟩ E w := by
 obtain ⟨C, Im, hm, hb⟩ := hs
 have h3 := (hm.killAll (mem (keys ob))).slots (F := upsA sl fun _ => .no) fun t => by
  cases e : mem (keys sl) t with
  | false => exact .inl (upsA_out _ e)
  | true => exact .inr (upsA_in h1 t e)
 have e : (fun o => bif mem (keys ob) o then hp o else .dead) = upsA ob fun _ => .dead := by
  funext o
  cases e : mem (keys ob) o with
  | false => rw [upsA_out _ e]; rfl
  | true => rw [upsA_in h2 o e]; rfl
 simp only at h3
 rw [e] at h3
 exact ⟨_, Im, h3, hb⟩
theorem AWD.seg {ds : List Deferred} {c : Code} {Q : Exit → St → Prop} {bk : List Nat} (h : ∀ w0 mp, mp.gh = MP.gh → AWD P n ds w0 mp c Q st) (hs : SimB bk w0 MP st E w) :
  WpD P n ds c (fun e E' w' => ∃ st', SimB bk w0 MP st' E' w' ∧ Q e st' ∧ ∀ k ∈ bk, w'.heap[k]? = w.heap[k]?) E w := by
 obtain ⟨C, Im, hm, hb⟩ := hs
 have h1 := h w ⟨blsN C st.nx, Im, MP.gh⟩ rfl
 unfold AWD at h1
 intro a ha
 refine wp_mono (h1 E w ⟨C, Im, hm.rebase⟩ a ha) ?_
 rintro e a' w' ⟨a0, rfl, E', hf, st', ⟨C', Im', hm'⟩, hq⟩
 obtain ⟨g1, g2⟩ := hm.segB hm' hb
 exact ⟨a0, rfl, E', hf, st', g1, hq, g2⟩
theorem AWM.range {st0 : St} {g : Operand} {p : Tmp} {x assign body y : Code} {gf : FuncId} {fnI : Func} {cI : Code} {nI o m k j id : Nat} {hp' : Nat → Ob} {N' : Nat} {Q : St → Prop} [hfn : IsFn P gf]
  (hf : P.funcs[gf]? = some fnI) (hnI : fnI.ntmps = nI) (hbI : fnI.body = some cI) (hres : fnI.results = #[]) (h2 : Nat.ble 2 nI = true)
  (hx : AW P n w0 MP x (QN fun st1 => ∀ E w, Sim w0 MP st1 E w → Sim w0 MP st E w) st0) (hg : evA st g = .fn gf [.pt o m k j]) (hno : ∀ t, n ≤ t → st.E t = .no)
  (hit : ∀ (fn : FuncId) (E Ei : Env) (W : World) (l D : Nat) (a : Act), Fits n a E → w0.heap.size ≤ l → w0.heap.size ≤ D → D ≠ l → SimB [l, D] w0 ⟨MP.bl, MP.J, ghS n st.E E ++ MP.gh⟩ ⟨fun t => [.q (fun v => v = .func (.yield l) #[] #[]), .pt o m k j].getD t .no, st.hp, st.nx⟩ Ei W → W.heap[l]? = some (.loop (recL fn a #[p] assign body D)) → W.heap[D]? = some (.deferred (some [])) →
   Wp P nI cI (fun e E' W' => (e = .ret ∨ e = .normal) ∧ ∃ S', SimB [l, D] w0 ⟨MP.bl, MP.J, ghS n st.E E ++ MP.gh⟩ ⟨S', hp', N'⟩ E' W' ∧ W'.heap[l]? = some (.loop (recL fn a #[p] assign body D)) ∧ W'.heap[D]? = some (.deferred (some []))) Ei W)
  (hpost : ∀ D v0 mp, mp.gh = MP.gh → AWD P n [markL D] v0 mp y (RetQ Q) ⟨st.E, hp', N'⟩) :
  AWM P n w0 MP (.seq (.seq x (.block id (.rangeFunc g #[p] assign body))) y) Q st0 := fun E0 ww hs0 a00 ha00 => by
 have hx1 := hx E0 ww hs0
 unfold Wp at hx1
 refine wp_seq (wp_seq (wp_mono (hx1 a00 ha00) ?_))
 rintro e1 a w ⟨E, ha, st1, hs1, hq1⟩
 obtain rfl : e1 = .normal := by cases e1 <;> first | rfl | exact hq1.elim
 have hs := hq1 E w hs1
 obtain ⟨D, hD⟩ : ∃ D, D = w.heap.size := ⟨_, rfl⟩
 have hzD : w0.heap.size ≤ D := by
  obtain ⟨C, Im, hm⟩ := hs
  rw [hD]
  exact hm.tch.size
 obtain ⟨us, hv, hus⟩ : ∃ us, G.ev E g = .func (.func gf) #[] us.toArray ∧ ∀ C Im, Sm w0 MP st C Im E w → RVL st.nx C Im w [.pt o m k j] us := by
  obtain ⟨C, Im, hm⟩ := hs
  have h1 := hm.ev g
  rw [hg] at h1
  obtain ⟨us, h3, h4⟩ := h1
  refine ⟨us, h3, fun C2 Im2 hm2 => ?_⟩
  have h5 := hm2.ev g
  rw [hg] at h5
  obtain ⟨us2, h6, h7⟩ := h5
  rw [h3] at h6
  have : us = us2 := by simpa using h6
  rw [this]; exact h7
 have hlen : us.length = 1 := by
  obtain ⟨C, Im, hm⟩ := hs
  exact RVL.length (hus C Im hm)
 have hfa : fr (.func (.yield (D + 1)) #[] #[] :: us) 0 = .func (.yield (D + 1)) #[] #[] := rfl
 have hR := wp_rangeF (P := P) (n := n) (E := E) (w := w) (g := g) (ps := #[p]) (assign := assign) (body := body) (gf := gf) (lb := us) (a := a) (hf := hfn)
  (R := fun W' => SimB [D] w0 MP ⟨st.E, hp', N'⟩ E W' ∧ W'.heap[D]? = some (.deferred (some []))) ha hv ?_
 ·refine wp_block (wp_mono hR ?_)
  rintro e a' w' ⟨rfl, rfl, hS, hDd⟩
  have h3 := AWD.seg (ds := [markL D]) (fun v0 mp hg => hpost D v0 mp hg) hS
  rw [← hD]
  refine wp_mono (h3 a ha) ?_
  rintro e a' w2 ⟨a0, rfl, E', hf', st', hS', hq, hk⟩
  obtain rfl : e = .ret := by cases e <;> first | rfl | exact hq.elim
  exact ⟨rfl, D, a0, E', rfl, hf', (hk D (by simp)).trans hDd, hzD, st', hS', hq⟩
 ·intro fn
  rw [← hD]
  refine Run.go hf hnI hbI (by rw [List.length_cons, hlen]; exact h2) ?_
  obtain ⟨C, Im, hm⟩ := hs
  have hu := hus C Im hm
  have hs1 := (Sim.book (w0 := w0) (MP := MP) (st := st) (E := E) ⟨C, Im, hm⟩ (o := .deferred (some [])) rfl).book (o := .loop (recL fn a #[p] assign body D)) rfl
  have hsz : (w.alloc (.deferred (some []))).heap.size = D + 1 := by rw [hD]; simp
  rw [hsz, ← hD] at hs1
  have hs2 : SimB [D + 1, D] w0 ⟨MP.bl, MP.J, ghS n st.E E ++ MP.gh⟩ ⟨fun t => [.q (fun v => v = .func (.yield (D + 1)) #[] #[]), .pt o m k j].getD t .no, st.hp, st.nx⟩ (fr (.func (.yield (D + 1)) #[] #[] :: us)) ((w.alloc (.deferred (some []))).alloc (.loop (recL fn a #[p] assign body D))) := by
   refine hs1.switch fun C2 Im2 hm2 => ⟨fun t => ?_, fun q hq => ?_⟩
   ·match t with
    | 0 => exact ⟨rfl, rfl⟩
    | 1 =>
     obtain ⟨v, vs, rfl, h4, h5⟩ := hu
     have h6 := hm2.ev g
     rw [hg] at h6
     obtain ⟨us2, h7, h8⟩ := h6
     rw [hv] at h7
     have : v :: vs = us2 := by simpa using h7
     subst this
     obtain ⟨v2, vs2, e2, h9, _⟩ := h8
     simp only [List.cons.injEq] at e2
     obtain ⟨rfl, _⟩ := e2
     exact h9
    | t + 2 => trivial
   ·rcases List.mem_append.1 hq with hq | hq
    ·exact ghS_of (R := fun x y => RV st.nx C2 Im2 _ x y) hm2.slot q hq
    ·exact hm2.gst q hq
  have hl : ((w.alloc (.deferred (some []))).alloc (.loop (recL fn a #[p] assign body D))).heap[D + 1]? = some (.loop (recL fn a #[p] assign body D)) := by
   rw [← hsz]; exact World.alloc_heap_new _ _
  have hd : ((w.alloc (.deferred (some []))).alloc (.loop (recL fn a #[p] assign body D))).heap[D]? = some (.deferred (some [])) := by
   have h1 : (w.alloc (.deferred (some []))).heap[D]? = some (.deferred (some [])) := by rw [hD]; exact World.alloc_heap_new _ _
   exact (Below.block (Later.alloc _ _) D (by omega)).trans h1
  refine (hit fn E _ _ (D + 1) D a ha (by omega) hzD (by omega) hs2 hl hd).mono ?_
  rintro e E' W' ⟨he, S', hS', hl', hd'⟩
  have hfin : ∃ v, (∀ tmps : Array Value, (∀ t, tmps.getD t undef = E' t) → (results fnI tmps).run P W' = .ok v W') ∧
    (W'.heap[D + 1]? = some (.loop (recL fn a #[p] assign body D)) ∧ SimB [D] w0 MP ⟨st.E, hp', N'⟩ E (W'.putObj (D + 1) (.loop { recL fn a #[p] assign body D with state := .exhausted })) ∧ (W'.putObj (D + 1) (.loop { recL fn a #[p] assign body D with state := .exhausted })).heap[D]? = some (.deferred (some []))) := by
   refine ⟨tupV [], fun tmps ht => results_run (E := E') (vs := []) (by rw [hres]; rfl) (fun i r v h1 h2 => by simp at h2) tmps ht, hl', ?_, (World.putObj_heap_other (by omega)).trans hd'⟩
   have h5 := hS'.put (k := D + 1) (by simp) (by omega) (o' := .loop { recL fn a #[p] assign body D with state := .exhausted }) rfl
   have h6 : SimB [D + 1, D] w0 MP ⟨st.E, hp', N'⟩ E _ := h5.switch (MP := ⟨MP.bl, MP.J, _⟩) (gh := MP.gh) fun C2 Im2 hm2 => ⟨fun t => ?_, fun q hq => hm2.gst q (List.mem_append.2 (.inr hq))⟩
   ·obtain ⟨C2, Im2, hm2, hb2⟩ := h6
    exact ⟨C2, Im2, hm2, fun k hk => hb2 k (by simp at hk; subst hk; simp)⟩
   ·rcases Nat.lt_or_ge t n with hlt | hge
    ·exact hm2.gst _ (List.mem_append.2 (.inl (ghS_mem hlt)))
    ·rw [hno t hge]; trivial
  rcases he with rfl | rfl
  ·exact hfin
  ·exact hfin
theorem A.eqS {d : Option Tmp} {ty : TypeId} {pos : String} {af : Array Edge} {gg : Option (Nat × Bool)} {x : Operand} {t t' e o k off m sz : Nat} {l : Bool} {xs : List (List AV)} {S : Nat → AV} {hp : Nat → Ob} {nx : Nat} [hu : HasU P t (.slice e)] (hx : evA ⟨S, hp, nx⟩ x = .sl o k off m) (hh : hp o = .live l sz xs) (hk : xs.length = k) (hm0 : 0 < m) : ASil true P w0 MP ⟨S, hp, nx⟩ ⟨d, .binOp .eql t x (.const (.slice none 0 0)) t', ty, pos, af, gg⟩ (.b false) := fun C Im E w hm => by
 have h := hm.ev x
 rw [hx] at h
 obtain ⟨p, c, h1, h2, h3, h4, h5⟩ := h
 obtain ⟨cc, hcc, hO⟩ := hm.obj o l sz xs hh
 obtain ⟨_, _, h6⟩ := (h5 cc hcc).2 (by rw [hO.len, hk])
 obtain ⟨b, c2, _, h7⟩ := h6 (by omega)
 refine ⟨.bool false, fun w' => ?_, rfl⟩
 unfold Sil
 exact fun w2 _ => run_eqNil h7
theorem run_neNil {d : Option Tmp} {ty : TypeId} {pos : String} {af : Array Edge} {gg : Option (Nat × Bool)} {x : Operand} {t t' e l c : Nat} {p : Option Addr} [hu : HasU P t (.slice e)] (h : G.ev E x = .slice p l c) : (execOp (G.ev E) ⟨d, .binOp .neq t x (.const (.slice none 0 0)) t', ty, pos, af, gg⟩).run P w = .ok (.value (.bool (!p.isNone))) w := by
 have h1 := run_neq_slice_nil_any (P := P) w t e p l c 0 0 hu.u
 have hc : G.ev E (.const (.slice none 0 0)) = .slice none 0 0 := rfl
 simp [execOp, h, hc, eqGuard, h1]
theorem A.neN {d : Option Tmp} {ty : TypeId} {pos : String} {af : Array Edge} {gg : Option (Nat × Bool)} {x : Operand} {t t' e : Nat} {S : Nat → AV} {hp : Nat → Ob} {nx : Nat} [hu : HasU P t (.slice e)] (hx : evA ⟨S, hp, nx⟩ x = .nl) : ASil true P w0 MP ⟨S, hp, nx⟩ ⟨d, .binOp .neq t x (.const (.slice none 0 0)) t', ty, pos, af, gg⟩ (.b false) := fun C Im E w hm => by
 have h := hm.ev x
 rw [hx] at h
 refine ⟨.bool false, fun w' => ?_, rfl⟩
 unfold Sil
 exact fun w2 _ => run_neNil h
theorem A.neS {d : Option Tmp} {ty : TypeId} {pos : String} {af : Array Edge} {gg : Option (Nat × Bool)} {x : Operand} {t t' e o k off m sz : Nat} {l : Bool} {xs : List (List AV)} {S : Nat → AV} {hp : Nat → Ob} {nx : Nat} [hu : HasU P t (.slice e)] (hx : evA ⟨S, hp, nx⟩ x = .sl o k off m) (hh : hp o = .live l sz xs) (hk : xs.length = k) (hm0 : 0 < m) : ASil true P w0 MP ⟨S, hp, nx⟩ ⟨d, .binOp .neq t x (.const (.slice none 0 0)) t', ty, pos, af, gg⟩ (.b true) := fun C Im E w hm => by
 have h := hm.ev x
 rw [hx] at h
 obtain ⟨p, c, h1, h2, h3, h4, h5⟩ := h
 obtain ⟨cc, hcc, hO⟩ := hm.obj o l sz xs hh
 obtain ⟨_, _, h6⟩ := (h5 cc hcc).2 (by rw [hO.len, hk])
 obtain ⟨b, c2, _, h7⟩ := h6 (by omega)
 refine ⟨.bool true, fun w' => ?_, rfl⟩
 unfold Sil
 exact fun w2 _ => run_neNil h7
theorem AM.goR {f : FuncId} {fn : Func} {n : Nat} {c : Code} {bs rs : List AV} {obs obs' : List (Nat × List (List AV))} (hf : P.funcs[f]? = some fn) (hn : fn.ntmps = n) (hb : fn.body = some c) (ha : Nat.ble bs.length n = true)
  (h : ∀ w0 mp, WfL bs → AWM P n w0 mp c (MRet P obs.length fn.results.toList rs obs' .ret) ⟨fun t => bs.getD t .no, obS obs, obs.length⟩) : AM P f bs obs rs obs' := fun w mp C E0 us hS0 hus => by
 have hul := RVL.length hus
 have hS : Sim w mp ⟨fun t => bs.getD t .no, obS obs, obs.length⟩ (fr us) w := by
  refine ⟨C, mp.J, hS0.tch, hS0.im, fun t => ?_, hS0.nod, hS0.obj, hS0.lt, hS0.dis, hS0.imJ, hS0.gst⟩
  simp only [fr]
  by_cases ht : t < bs.length
  ·obtain ⟨v, h1, h2⟩ := RVL.get hus (i := t) (a := bs[t]) (by simp [ht])
   rw [List.getD_eq_getElem?_getD, List.getD_eq_getElem?_getD, h1]
   simpa [ht] using h2
  ·have : bs.getD t .no = .no := by simp [Nat.le_of_not_lt ht]
   rw [this]; trivial
 refine Run.goM hf hn hb (by rw [hul]; exact ha) fun a hfa => ?_
 refine wp_mono (h w mp (RVL.wf _ _ hus) _ _ hS a hfa) ?_
 rintro e a' w' ⟨rfl, D, a0, E', rfl, hf0, hd, hz, st', hSB, hq⟩
 refine ⟨rfl, D, a0, rfl, hf0.defers, hd, ?_⟩
 obtain ⟨C1, Im, hm, _⟩ := hSB.put (k := D) (by simp) hz (o' := .deferred none) rfl
 obtain ⟨v, h1, h2⟩ := MRet.key (fn := fn) hS0 hm hq
 exact ⟨v, h1 a0.tmps hf0.get, h2⟩
end
end Go.Proofs.Ytoilkinagffhiaa.V
