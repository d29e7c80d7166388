/- Rules for append and stores, by abstract states. Over any program; nothing is claimed of the given one. -/
import Derived.Test.YtcalkmlaodjpaaaHf
namespace Go.Proofs.Ytcalkmlaodjpaaa.V
open V.Enc (enc)
open Go.RowKit G
set_option linter.unusedVariables false
set_option linter.unusedSimpArgs false

/-- what is appended to, and its state -/
inductive DstA (st : St) : AV → Nat → Bool → Nat → List (List AV) → St → Prop
  | obj {o n sz : Nat} {lt : Bool} {xs : List (List AV)} : st.hp o = .live lt sz xs → xs.length = n → DstA st (.sl o n 0 n) o lt sz xs st
  | nl (sz : Nat) : DstA st .nl st.nx false sz [] (newS st sz [])
  | em (sz : Nat) : DstA st .em st.nx false sz [] (newS st sz [])
/-- what is appended -/
inductive SrcA (lt : Bool) (hp : Nat → Ob) : AV → List (List AV) → Nat → (Nat → Ob) → Prop
  | own {o m sz : Nat} {l : Bool} {ys : List (List AV)} : hp o = .live l sz ys → (l || lt) = lt → ys.length = m → SrcA lt hp (.sl o m 0 m) ys sz (updA hp o .dead)
  | imm {sz : Nat} {ys : List (List AV)} : SrcA lt hp (.dt false sz ys) ys sz hp
  | view {o n off m sz : Nat} {l : Bool} {xs ys : List (List AV)} : hp o = .live l sz xs → xs.length = n → (xs.drop off).take m = ys → ys.flatten.all cellB = true → SrcA lt hp (.sl o n off m) ys sz hp
  | nl {sz : Nat} : SrcA lt hp .nl [] sz hp
  | em {sz : Nat} : SrcA lt hp .em [] sz hp
section
variable {w0 w w' : World} {MP : Fr} {st : St} {C : Nat → Option Conc} {Im : Nat → Prop} {E : Env} {N : Nat}
theorem DstA.spec {a : AV} {v : Value} {o sz : Nat} {lt : Bool} {xs : List (List AV)} {st1 : St} (h : DstA st a o lt sz xs st1) (hm : Sm w0 MP st C Im E w) (hv : RV st.nx C Im w a v) :
    ∃ C1 cc, Sm w0 MP st1 C1 Im E w ∧ st1.hp o = .live lt sz xs ∧ C1 o = some cc ∧ cc.hv = v ∧ st1.E = st.E ∧ st.nx ≤ st1.nx ∧ CLe st.nx C C1 ∧ (st.nx ≤ o → own v = none) := by
  cases h with
  | obj ho hn =>
    obtain ⟨cc, hcc, hO⟩ := hm.obj o lt sz xs ho
    obtain ⟨p, c, h1, h2, h3, h4, h5⟩ := hv
    obtain ⟨s1, s2, s3⟩ := (h5 cc hcc).2 (by rw [hO.len, hn])
    exact ⟨C, cc, hm, ho, hcc, (s2 rfl (by rw [hO.len, hn])).symm, rfl, Nat.le_refl _, CLe.refl _ _, fun h => by have := hm.lt o h; rw [ho] at this; cases this⟩
  | nl =>
    obtain ⟨p, rfl⟩ : ∃ p, v = .slice p 0 0 := ⟨none, hv⟩
    have hp : own (.slice p 0 0) = none := by cases p <;> rfl
    let cc : Conc := ⟨.slice p 0 0, 0, sz, [], []⟩
    have hS := hm.fresh (Later.refl w) (cc := cc) (sz := sz) (xs := []) rfl rfl ⟨0, ⟨by simp [cc], .inl ⟨rfl, p, rfl⟩⟩⟩ .nil (fun x hx => by cases hx) (by simp [blks, cc, ownL, hp]) (fun k hk => by simp [blks, cc, ownL, hp] at hk)
    exact ⟨_, cc, hS, updA_same .., updA_same .., rfl, rfl, Nat.le_succ _, (fun o1 ho1 c1 h => ⟨c1, by rwa [updA_ne _ _ (by omega)] at h, .inl ⟨rfl, rfl, rfl⟩⟩), fun _ => hp⟩
  | em =>
    obtain ⟨p, rfl⟩ : ∃ p, v = .slice p 0 0 := hv
    have hp : own (.slice p 0 0) = none := by cases p <;> rfl
    let cc : Conc := ⟨.slice p 0 0, 0, sz, [], []⟩
    have hS := hm.fresh (Later.refl w) (cc := cc) (sz := sz) (xs := []) rfl rfl ⟨0, ⟨by simp [cc], .inl ⟨rfl, p, rfl⟩⟩⟩ .nil (fun x hx => by cases hx) (by simp [blks, cc, ownL, hp]) (fun k hk => by simp [blks, cc, ownL, hp] at hk)
    exact ⟨_, cc, hS, updA_same .., updA_same .., rfl, rfl, Nat.le_succ _, (fun o1 ho1 c1 h => ⟨c1, by rwa [updA_ne _ _ (by omega)] at h, .inl ⟨rfl, rfl, rfl⟩⟩), fun _ => hp⟩
theorem Sm.killLe (o : Nat) : ∀ o1 c1, updA C o Option.none o1 = some c1 → C o1 = some c1 := fun o1 c1 h => by
  by_cases e : o1 = o
  · subst e; rw [updA_same] at h; cases h
  · rwa [updA_ne _ _ e] at h
theorem LayC.imm {cs : List AV} {us : List Value} (h : Imm Im w cs us) : LayC N C Im w cs us [] := by
  induction h with
  | nil => exact .nil
  | int h1 _ ih => exact .at1 ⟨rfl, h1⟩ rfl ih
  | bool _ ih => exact .at1 rfl rfl ih
  | no h1 _ ih => exact .at1 trivial h1 ih
  | sl0 h1 _ ih => exact .at1 ⟨rfl, .sl0 h1 .nil⟩ rfl ih
  | sl h1 h2 h3 h4 h5 h6 _ _ ih => exact .at1 ⟨rfl, .sl h1 h2 h3 h4 h5 h6 .nil⟩ rfl ih
theorem LayC.none {cs : List AV} {us : List Value} {F : List Nat} (h : LayC N C Im w cs us F) (hc : cs.all cellB = true) : F = [] := by
  induction h with
  | nil => rfl
  | at1 _ _ _ ih =>
    rw [List.all_cons, Bool.and_eq_true] at hc
    exact ih hc.2
  | ow _ _ _ => rw [List.all_cons, Bool.and_eq_true] at hc; cases hc.1
theorem SrcA.spec {a : AV} {v : Value} {sz : Nat} {lt : Bool} {ys : List (List AV)} {hp2 : Nat → Ob} (h : SrcA lt st.hp a ys sz hp2) (hm : Sm w0 MP st C Im E w) (hv : RV st.nx C Im w a v) :
    ∃ C2 us F, Sm w0 MP ⟨st.E, hp2, st.nx⟩ C2 Im E w ∧ LayC st.nx C2 Im w ys.flatten us F ∧ Src w v ys.length us ∧ us.length = ys.length * sz ∧ Loose w0 MP C2 w F ∧ (lt = false → ∀ k ∈ F, ¬ Im k) ∧ (∀ o c, C2 o = some c → C o = some c) := by
  cases h with
  | @own o m _ l _ ho hl hn =>
    obtain ⟨cc, hcc, hO⟩ := hm.obj o l sz ys ho
    obtain ⟨p, c, h1, h2, h3, h4, h5⟩ := hv
    obtain ⟨s1, s2, s3⟩ := (h5 cc hcc).2 (by rw [hO.len, hn])
    have hv' := s2 rfl (by rw [hO.len, hn])
    subst hv'
    have hk := hm.kill o
    refine ⟨_, cc.us, cc.F, hk, hO.lay.mono (fun _ h => h) (fun _ _ => rfl) (Nat.le_refl _) (fun o1 _ c1 h => ⟨c1, Sm.killLe o o1 c1 h, .inl ⟨rfl, rfl, rfl⟩⟩) (fun _ _ => rfl), ?_, ?_, ⟨?_, fun k hk => hO.ge k (by simp [blks, hk]), fun k hk => hO.wb k (by simp [blks, hk]), fun o1 c1 h1 k hk => ?_⟩, fun hf k hk hk' => ?_, Sm.killLe o⟩
    · obtain ⟨e, hB⟩ := hO.buf
      have := hB.src
      rw [hO.len] at this; exact this
    · obtain ⟨e, hB⟩ := hO.buf
      rw [hB.1, hO.len, hO.esz]
    · have := hO.nd; unfold blks at this; exact (List.nodup_append.1 this).2.1
    · have hne : o1 ≠ o := fun e => by subst e; rw [updA_same] at h1; cases h1
      exact hm.dis o o1 cc c1 (Ne.symm hne) hcc (Sm.killLe o o1 c1 h1) k (by simp [blks, hk])
    · have := (hO.lent k hk).1 hk'
      subst this; subst hf; cases hl
  | imm =>
    obtain ⟨_, h2⟩ := hv
    obtain ⟨p, c, rfl, g2, g3, g4⟩ := h2.sl_inv
    rcases g4 with rfl | ⟨b, q, us, rfl, f1, f2, f3, f4⟩
    · exact ⟨C, [], [], hm, .nil, ⟨p, c, rfl, .inl rfl⟩, by simp, Loose.nil, (fun _ k hk => by cases hk), fun _ _ h => h⟩
    · exact ⟨C, us, [], hm, LayC.imm f3, ⟨_, c, rfl, .inr ⟨b, q, rfl, f2⟩⟩, by rw [f3.length, flatten_len f4], Loose.nil, (fun _ k hk => by cases hk), fun _ _ h => h⟩
  | @view o n off m _ l xs _ ho hn hys hc =>
    obtain ⟨cc, hcc, hO⟩ := hm.obj o l sz xs ho
    obtain ⟨p, c, h1, h2, h3, h4, h5⟩ := hv
    obtain ⟨s1, s2, s3⟩ := (h5 cc hcc).2 (by rw [hO.len, hn])
    have hle : off + m ≤ xs.length := by rw [← hO.len]; exact s1
    have hyl : ys.length = m := by rw [← hys, List.length_take, List.length_drop]; omega
    have hsz : ∀ x ∈ xs, x.length = sz := fun x hx => by rw [hO.lens x hx, hO.esz]
    have hsy : ∀ y ∈ ys, y.length = sz := fun y hy => hsz y (by rw [← hys] at hy; exact List.mem_of_mem_drop (List.mem_of_mem_take hy))
    have hfl : xs.flatten = (xs.take off).flatten ++ (ys.flatten ++ (xs.drop (off + m)).flatten) := by
      rw [← hys, ← List.flatten_append, ← List.flatten_append, ← List.drop_drop, List.take_append_drop, List.take_append_drop]
    obtain ⟨u1, u2, u3, F1, F2, F3, e1, e2, l1, l2, q1, q2, q3⟩ := hO.lay.cut hfl
    rw [flatten_take hsz (by omega)] at l1
    have hF2 : F2 = [] := q2.none hc
    subst hF2
    refine ⟨C, u2, [], hm, q2, ?_, by rw [l2, flatten_len hsy], Loose.nil, (fun _ k hk => by cases hk), fun _ _ h => h⟩
    refine ⟨p, c, by rw [hyl]; exact h1, ?_⟩
    by_cases h0 : m = 0
    · refine .inl (List.eq_nil_of_length_eq_zero ?_)
      rw [l2, flatten_len hsy, hyl, h0, Nat.zero_mul]
    · obtain ⟨b, c', f1, f2⟩ := s3 h0
      rw [h1] at f2
      simp only [Value.slice.injEq, true_and] at f2
      refine .inr ⟨b, off * cc.sz, f2.1, fun i u hu => ?_⟩
      refine hO.cell f1 ?_
      rw [hO.esz, e1, List.getElem?_append_right (by omega), l1, Nat.add_sub_cancel_left, List.getElem?_append_left (List.getElem?_eq_some_iff.1 hu).1, hu]
  | nl =>
    have hv' : v = .slice none 0 0 := hv
    subst hv'
    exact ⟨C, [], [], hm, .nil, ⟨none, 0, rfl, .inl rfl⟩, by simp, Loose.nil, (fun _ k hk => by cases hk), fun _ _ h => h⟩
  | em =>
    obtain ⟨p, rfl⟩ : ∃ p, v = .slice p 0 0 := hv
    exact ⟨C, [], [], hm, .nil, ⟨p, 0, rfl, .inl rfl⟩, by simp, Loose.nil, (fun _ k hk => by cases hk), fun _ _ h => h⟩
theorem Mv.pure {lt : Bool} {hp : Nat → Ob} : ∀ {cs : List AV}, cs.all pureB = true → Mv lt hp cs cs hp
  | [], _ => .nil
  | a :: cs, h => by
    rw [List.all_cons, Bool.and_eq_true] at h
    cases a with
    | i n => exact .at1 rfl (Mv.pure h.2)
    | b x => exact .at1 rfl (Mv.pure h.2)
    | dt o sz xs =>
      cases o with
      | true => exact .ow (Mv.pure h.2)
      | false => exact .at1 rfl (Mv.pure h.2)
    | _ => cases h.1
/-- blocks that are lent along with the object to which they go -/
theorem Sm.lendTo (hm : Sm w0 MP st C Im E w) (lt : Bool) {G : List Nat} (hG : Loose w0 MP C w G) (hf : lt = false → ∀ k ∈ G, ¬ Im k) : ∃ Im', (∀ k, Im k → Im' k) ∧ Sm w0 MP st C Im' E w ∧ ∀ k ∈ G, Im' k ↔ lt = true := by
  cases lt with
  | false => exact ⟨Im, fun _ h => h, hm, fun k hk => ⟨fun h => absurd h (hf rfl k hk), fun h => by cases h⟩⟩
  | true => exact ⟨_, fun _ h => .inl h, hm.imAdd G (fun k hk => (hG.wb k hk).lt) hG.ge hG.off, fun k hk => ⟨fun _ => rfl, fun _ => .inr hk⟩⟩
end
section
variable {P : Program} {n : Nat} {w0 : World} {MP : Fr} {Q : Exit → St → Prop} {st : St} {lb : Bool} {ops : Array Oper} {os : List Oper} {d : Option Tmp} {ty : TypeId} {pos : String} {af : Array Edge} {g : Option (Nat × Bool)} {x y : Operand}
theorem R.app {t e sz bys o n' : Nat} {zz : Value} {lt : Bool} {xs ys zs res : List (List AV)} {ds : List AV} {st1 : St} {hp2 hp3 : Nat → Ob} [hu : HasU P t (.slice e)] [hi : HasI P e sz bys zz]
    (hdst : DstA st (evA st x) o lt sz xs st1) (hsrc : SrcA lt st1.hp (evA st y) ys sz hp2) (hmv : Mv lt hp2 ys.flatten ds hp3) (hds : zs.flatten = ds) (hzl : ∀ z ∈ zs, z.length = sz) (hzn : zs.length = ys.length) (ho3 : hp3 o = .live lt sz xs)
    (hres : xs ++ zs = res) (hn' : res.length = n') (hby : n' * bys ≤ 140737488355328) (hmx : n' ≤ 9223372036854775807) (hz : zz.cells.size = sz) (hs0 : Nat.blt 0 sz = true)
    (hw : awant n ops ⟨d, .call ⟨.builtin .append, #[x, y], #[t, t]⟩, ty, pos, af, g⟩ st.E true = true) (hd : fits n d = true) (hlb : lb = true → st.nx ≤ o)
    (h : ARg P n w0 MP lb ops os Q (putA ⟨st.E, updA hp3 o (.live lt sz res), st1.nx⟩ d (.sl o n' 0 n'))) : ARg P n w0 MP lb ops (⟨d, .call ⟨.builtin .append, #[x, y], #[t, t]⟩, ty, pos, af, g⟩ :: os) Q st :=
  ARg.val hw hd (fun C Im E w hm => by
    subst hds hres hn'
    obtain ⟨C1, cc, m1, o1, c1, v1, e1, n1, le1, ow1⟩ := hdst.spec hm (hm.ev x)
    have hy1 : RV st1.nx C1 Im w (evA st y) (G.ev E y) := RV.mono (fun _ h => h) (fun _ _ => rfl) n1 le1 _ _ (hm.ev y)
    obtain ⟨C2, us, F, m2, l2, s2, sl2, L2, f2, le2⟩ := hsrc.spec m1 hy1
    obtain ⟨C3, G, f3, m3, l3, L3, le3⟩ := hmv.lay (H := []) m2 l2 (by simpa using L2) f2
    rw [List.append_nil] at L3
    obtain ⟨Im', hI, m4, hG⟩ := m3.lendTo lt L3 f3
    obtain ⟨cc3, c3, hO3⟩ := m4.obj o lt sz xs ho3
    have hcc : cc3 = cc := by
      have := le2 o cc3 (le3 o cc3 c3)
      rw [c1] at this; exact (Option.some.inj this).symm
    subst hcc
    have hB := hO3.buf
    rw [v1, hO3.esz] at hB
    have hlen : cc3.len + ys.length = (xs ++ zs).length := by rw [hO3.len, List.length_append, hzn]
    obtain ⟨v', w', hr, hB', hg, h0⟩ := run_append_buf' (P := P) (t := t) (ty := ty) hz (ltB hs0) hB s2 sl2 l2.one (by rw [maxLen_le, hlen]; exact hmx) (by rw [hlen]; exact hby)
    rw [← v1] at hg h0
    have l4 : LayC st1.nx C3 Im' w zs.flatten us G := l3.mono hI (fun _ _ => rfl) (Nat.le_refl _) (CLe.refl _ _) (fun _ _ => rfl)
    rw [← hzn] at hB' h0
    obtain ⟨cc', m5, hv', hO5⟩ := m4.app ho3 c3 l4 L3 hG hzl hB' hg (fun h => (h0 h).1)
    have hrv := RV.slNew hO5 (updA_same ..) (show o < st1.nx from by
      rcases Nat.lt_or_ge o st1.nx with h | h
      · exact h
      · have := m1.lt o h; rw [o1] at this; cases this)
    rw [hv'] at hrv
    refine ⟨v', w', ?_, (fun hl => ?_), ?_⟩
    · simp [execOp, resolve, invoke, builtin, hr]
    · have hno := ow1 (hlb hl)
      rw [← v1] at hno
      exact ⟨hg.os, hg.tape, hg.output, hg.size, fun k hk => hg.same k hk (by rw [hno]; simp)⟩
    · rw [e1] at m5
      exact putS m5 d hrv) h
/-- one element of a type -/
theorem R.app1 {α : Type} [Enc α] {t e bys o n' m : Nat} {zz : Value} {lt l oo : Bool} {ls : List α} {a : α} {c ds : List AV} {o2 : Nat} {hp3 : Nat → Ob} [hu : HasU P t (.slice e)] [hi : HasI P e (Enc.nc α) bys zz]
    (hx : evA st x = .sl o m 0 m) (hy : evA st y = .sl o2 1 0 1) (ho : st.hp o = .live lt (Enc.nc α) (V.E oo ls)) (hm : ls.length = m) (ho2 : st.hp o2 = .live l (Enc.nc α) [c]) (hll : (l || lt) = lt) (hmv : Mv lt (updA st.hp o2 .dead) c ds hp3) (ho3 : hp3 o = .live lt (Enc.nc α) (V.E oo ls)) (hds : enc oo a = ds) (hn' : m + 1 = n')
    (hby : n' * bys ≤ 140737488355328) (hmx : n' ≤ 9223372036854775807) (hz : zz.cells.size = Enc.nc α) (hs0 : Nat.blt 0 (Enc.nc α) = true)
    (hw : awant n ops ⟨d, .call ⟨.builtin .append, #[x, y], #[t, t]⟩, ty, pos, af, g⟩ st.E true = true) (hd : fits n d = true) (hlb : lb = false)
    (h : ARg P n w0 MP lb ops os Q (putA ⟨st.E, updA hp3 o (.live lt (Enc.nc α) (V.E oo (ls ++ [a]))), st.nx⟩ d (.sl o n' 0 n'))) : ARg P n w0 MP lb ops (⟨d, .call ⟨.builtin .append, #[x, y], #[t, t]⟩, ty, pos, af, g⟩ :: os) Q st :=
  R.app (st1 := st) (xs := V.E oo ls) (ys := [c]) (zs := [enc oo a]) (by rw [hx]; exact .obj ho (by rw [E_length, hm])) (by rw [hy]; exact .own ho2 hll rfl) (by simpa using hmv) (by simpa using hds) (fun z hz => by simp at hz; rw [hz, Enc.len]) rfl ho3 (by rw [E_append, E_one]) (by rw [E_length]; simp; omega) hby hmx hz hs0 hw hd (fun hl => by rw [hlb] at hl; cases hl) h
theorem R.app1N {α : Type} [Enc α] {t e bys : Nat} {zz : Value} {a : α} {c ds : List AV} {o2 : Nat} {hp3 : Nat → Ob} [hu : HasU P t (.slice e)] [hi : HasI P e (Enc.nc α) bys zz]
    (hx : evA st x = .nl ∨ evA st x = .em) (hy : evA st y = .sl o2 1 0 1) (ho2 : (newS st (Enc.nc α) []).hp o2 = .live false (Enc.nc α) [c]) (hmv : Mv false (updA (newS st (Enc.nc α) []).hp o2 .dead) c ds hp3) (ho3 : hp3 st.nx = .live false (Enc.nc α) []) (hds : enc true a = ds)
    (hby : 1 * bys ≤ 140737488355328) (hz : zz.cells.size = Enc.nc α) (hs0 : Nat.blt 0 (Enc.nc α) = true)
    (hw : awant n ops ⟨d, .call ⟨.builtin .append, #[x, y], #[t, t]⟩, ty, pos, af, g⟩ st.E true = true) (hd : fits n d = true)
    (h : ARg P n w0 MP lb ops os Q (putA ⟨st.E, updA hp3 st.nx (.live false (Enc.nc α) (V.E true [a])), st.nx + 1⟩ d (.sl st.nx 1 0 1))) : ARg P n w0 MP lb ops (⟨d, .call ⟨.builtin .append, #[x, y], #[t, t]⟩, ty, pos, af, g⟩ :: os) Q st :=
  R.app (st1 := newS st (Enc.nc α) []) (xs := []) (ys := [c]) (zs := [enc true a]) (by rcases hx with hx | hx <;> rw [hx]; exact .nl _; exact .em _) (by rw [hy]; exact .own ho2 rfl rfl) (by simpa using hmv) (by simpa using hds) (fun z hz => by simp at hz; rw [hz, Enc.len]) rfl ho3 (res := V.E true [a]) (n' := 1) rfl rfl hby (by decide) hz hs0 hw hd (fun _ => Nat.le_refl _) h
/-- the elements of a list -/
theorem R.appL {α : Type} [Enc α] {t e bys o n' m : Nat} {zz : Value} {lt oo : Bool} {ls ls2 : List α} {hp2 : Nat → Ob} [hu : HasU P t (.slice e)] [hi : HasI P e (Enc.nc α) bys zz]
    (hx : evA st x = .sl o m 0 m) (ho : st.hp o = .live lt (Enc.nc α) (V.E oo ls)) (hm : ls.length = m) (hsrc : SrcA lt st.hp (evA st y) (V.E oo ls2) (Enc.nc α) hp2) (ho3 : hp2 o = .live lt (Enc.nc α) (V.E oo ls)) (hn' : m + ls2.length = n')
    (hby : n' * bys ≤ 140737488355328) (hmx : n' ≤ 9223372036854775807) (hz : zz.cells.size = Enc.nc α) (hs0 : Nat.blt 0 (Enc.nc α) = true)
    (hw : awant n ops ⟨d, .call ⟨.builtin .append, #[x, y], #[t, t]⟩, ty, pos, af, g⟩ st.E true = true) (hd : fits n d = true) (hlb : lb = false)
    (h : ARg P n w0 MP lb ops os Q (putA ⟨st.E, updA hp2 o (.live lt (Enc.nc α) (V.E oo (ls ++ ls2))), st.nx⟩ d (.sl o n' 0 n'))) : ARg P n w0 MP lb ops (⟨d, .call ⟨.builtin .append, #[x, y], #[t, t]⟩, ty, pos, af, g⟩ :: os) Q st :=
  R.app (st1 := st) (xs := V.E oo ls) (ys := V.E oo ls2) (zs := V.E oo ls2) (by rw [hx]; exact .obj ho (by rw [E_length, hm])) hsrc (Mv.pure (E_pure oo ls2)) rfl (E_len oo ls2) rfl ho3 (by rw [E_append]) (by rw [E_length, List.length_append]; omega) hby hmx hz hs0 hw hd (fun hl => by rw [hlb] at hl; cases hl) h
theorem R.appLN {α : Type} [Enc α] {t e bys n' : Nat} {zz : Value} {oo : Bool} {ls2 : List α} {hp2 : Nat → Ob} [hu : HasU P t (.slice e)] [hi : HasI P e (Enc.nc α) bys zz]
    (hx : evA st x = .nl ∨ evA st x = .em) (hsrc : SrcA false (newS st (Enc.nc α) []).hp (evA st y) (V.E oo ls2) (Enc.nc α) hp2) (ho3 : hp2 st.nx = .live false (Enc.nc α) []) (hn' : ls2.length = n')
    (hby : n' * bys ≤ 140737488355328) (hmx : n' ≤ 9223372036854775807) (hz : zz.cells.size = Enc.nc α) (hs0 : Nat.blt 0 (Enc.nc α) = true)
    (hw : awant n ops ⟨d, .call ⟨.builtin .append, #[x, y], #[t, t]⟩, ty, pos, af, g⟩ st.E true = true) (hd : fits n d = true)
    (h : ARg P n w0 MP lb ops os Q (putA ⟨st.E, updA hp2 st.nx (.live false (Enc.nc α) (V.E oo ls2)), st.nx + 1⟩ d (.sl st.nx n' 0 n'))) : ARg P n w0 MP lb ops (⟨d, .call ⟨.builtin .append, #[x, y], #[t, t]⟩, ty, pos, af, g⟩ :: os) Q st :=
  R.app (st1 := newS st (Enc.nc α) []) (xs := []) (ys := V.E oo ls2) (zs := V.E oo ls2) (by rcases hx with hx | hx <;> rw [hx]; exact .nl _; exact .em _) hsrc (Mv.pure (E_pure oo ls2)) rfl (E_len oo ls2) rfl ho3 rfl (by rw [List.nil_append, E_length]; omega) hby hmx hz hs0 hw hd (fun _ => Nat.le_refl _) h

/-! ### stores -/
theorem flat_parts {xs : List (List AV)} {k j r : Nat} {c : List AV} (hk : xs[k]? = some c) (hj : j + r ≤ c.length) :
    xs.flatten = ((xs.take k).flatten ++ c.take j) ++ ((c.drop j).take r ++ (c.drop (j + r) ++ (xs.drop (k + 1)).flatten)) := by
  rw [flatten_cut hk, List.append_assoc]
  congr 1
  have : c = c.take j ++ ((c.drop j).take r ++ c.drop (j + r)) := by rw [← List.drop_drop, List.take_append_drop, List.take_append_drop]
  conv => lhs; rw [this]
  simp only [List.append_assoc]
theorem R.stCore {C1 : Nat → Option Conc} {Im : Nat → Prop} {E : Env} {w : World} {o k j sz : Nat} {l : Bool} {xs : List (List AV)} {c B' : List AV} {vs : List Value} {Gb : List Nat} {hp' : Nat → Ob} {cc : Conc} {b : Nat} (hm1 : Sm w0 MP ⟨st.E, hp', st.nx⟩ C1 Im E w) (hh' : hp' o = .live l sz xs) (hcc : C1 o = some cc) (hb : own cc.hv = some b)
    (hk : xs[k]? = some c) (hj : j + B'.length ≤ c.length) (hy : LayC st.nx C1 Im w B' vs Gb) (hG : Loose w0 MP C1 w Gb) (hf : l = false → ∀ k ∈ Gb, ¬ Im k)
    (hrun : ∀ cur e, Blk w b cur e → k * cc.sz + j + vs.length ≤ cur.length → ∃ w', (execOp (G.ev E) ⟨d, .store ty x y, ty, pos, af, g⟩).run P w = .ok .skip w' ∧ Wrote b w w' ∧ Blk w' b (cur.take (k * cc.sz + j) ++ vs ++ cur.drop (k * cc.sz + j + vs.length)) e) :
    ∃ w', (execOp (G.ev E) ⟨d, .store ty x y, ty, pos, af, g⟩).run P w = .ok .skip w' ∧ Sim w0 MP ⟨st.E, updA hp' o (.live l sz (xs.set k (c.take j ++ B' ++ c.drop (j + B'.length)))), st.nx⟩ E w' := by
  obtain ⟨Im', hI, m4, hGl⟩ := hm1.lendTo l hG hf
  obtain ⟨cc1, hcc1, hO⟩ := m4.obj o l sz xs hh'
  rw [hcc] at hcc1
  cases hcc1
  have hsz : ∀ x ∈ xs, x.length = sz := fun x hx => by rw [hO.lens x hx, hO.esz]
  have hkl : k < xs.length := (List.getElem?_eq_some_iff.1 hk).1
  obtain ⟨e, hB⟩ := hO.buf
  rcases hB.2 with ⟨_, p, hp⟩ | ⟨b', cp, cur, hp, h2, h3, h4, h5, h6⟩
  · rw [hp] at hb; cases p <;> simp [own] at hb
  rw [hp] at hb
  simp [own] at hb
  subst hb
  have hvl := hy.length
  have hcl : c.length = cc.sz := by rw [hO.esz]; exact hsz c (List.mem_of_getElem? hk)
  have hfit : k * cc.sz + j + vs.length ≤ cur.length := by
    have e1 : (k + 1) * cc.sz ≤ (cp + 1) * cc.sz := Nat.mul_le_mul_right _ (by have := hO.len; omega)
    rw [h5]
    rw [Nat.add_mul, Nat.one_mul] at e1
    omega
  obtain ⟨w', hr, hW, hBk⟩ := hrun cur e h2 hfit
  have hA : ((xs.take k).flatten ++ c.take j).length = k * cc.sz + j := by
    rw [List.length_append, flatten_take hsz (by omega), List.length_take, Nat.min_eq_left (by omega), hO.esz]
  have hlen' : (c.take j ++ B' ++ c.drop (j + B'.length)).length = sz := by
    simp only [List.length_append, List.length_take, List.length_drop]; rw [← hO.esz]; omega
  obtain ⟨cc', m5, _⟩ := m4.store (xs' := xs.set k (c.take j ++ B' ++ c.drop (j + B'.length))) (B := (c.drop j).take B'.length) (B' := B') (D := c.drop (j + B'.length) ++ (xs.drop (k + 1)).flatten) (A := (xs.take k).flatten ++ c.take j) hh' hcc (flat_parts hk hj)
    (by rw [flatten_set hk]; simp only [List.append_assoc]) (by rw [List.length_set]) (fun x hx => by
      rcases List.mem_or_eq_of_mem_set hx with h | h
      · exact hsz x h
      · rw [h]; exact hlen') (by rw [List.length_take, List.length_drop]; omega) (by rw [hp]; rfl) (hy.mono hI (fun _ _ => rfl) (Nat.le_refl _) (CLe.refl _ _) (fun _ _ => rfl)) hG hGl hW (fun cur' e' hB' => by
      unfold Blk at hB' h2
      rw [h2] at hB'
      simp only [Option.some.injEq, Obj.cells.injEq] at hB'
      have : cur = cur' := by simpa using congrArg Array.toList hB'.1
      subst this
      rw [hA]; exact ⟨e, hBk⟩)
  exact ⟨w', hr, _, Im', m5⟩
/-- one cell; what it names is taken along -/
theorem R.stM {t bys o nn k j sz : Nat} {zz : Value} {l : Bool} {xs : List (List AV)} {c : List AV} {a a' : AV} {hp' : Nat → Ob} [hi : HasI P t 1 bys zz] (hx : evA st x = .pt o nn k j) (hy : evA st y = a) (hca : cellB a = true) (hh : st.hp o = .live l sz xs) (hn : xs.length = nn) (hk : xs[k]? = some c) (hj : Nat.blt j c.length = true)
    (hmv : Mv l st.hp [a] [a'] hp') (hh' : hp' o = .live l sz xs) (hw : awant n ops ⟨d, .store t x y, ty, pos, af, g⟩ st.E true = true) (hd : fits n d = true) (hlb : lb = false)
    (h : ARg P n w0 MP lb ops os Q (putA ⟨st.E, updA hp' o (.live l sz (xs.set k (c.set j a'))), st.nx⟩ d .no)) : ARg P n w0 MP lb ops (⟨d, .store t x y, ty, pos, af, g⟩ :: os) Q st :=
  ARg.unit hw hd (fun C Im E w hm => by
    have hv := hm.ev y
    rw [hy] at hv
    have hp := hm.ev x
    rw [hx] at hp
    obtain ⟨b, q, p1, p2, p3⟩ := hp
    have hone := hv.one hca
    obtain ⟨cc, hcc, hO⟩ := hm.obj o l sz xs hh
    obtain ⟨f1, rfl⟩ := (p3 cc hcc).2 (by rw [hO.len, hn])
    obtain ⟨C1, Gb, f3, m1, l1, L1, le1⟩ := hmv.lay (H := []) (show Sm w0 MP ⟨st.E, st.hp, st.nx⟩ C Im E w from hm) (LayC.at1 hv hone .nil) Loose.nil (fun _ k hk => by cases hk)
    rw [List.append_nil] at L1
    have hc1 : C1 o = some cc := by
      obtain ⟨cc1, q1, _⟩ := m1.obj o l sz xs hh'
      have := le1 o cc1 q1
      rw [hcc] at this; cases this; exact q1
    have hjl := ltB hj
    obtain ⟨w', hr, hs⟩ := R.stCore (P := P) (x := x) (y := y) (d := d) (ty := t) (pos := pos) (af := af) (g := g) (B' := [a']) (k := k) (j := j) m1 hh' hc1 f1 hk (by simp; omega) l1 L1 f3 (fun cur e hB hfit => by
      obtain ⟨w', h1, h2, h3⟩ := run_st (P := P) (d := d) (ty := t) (pos := pos) (af := af) (g := g) (t := t) p1 rfl hB (by simp at hfit; omega) hone
      refine ⟨w', h1, h2, ?_⟩
      have : cur.take (k * cc.sz + j) ++ [G.ev E y] ++ cur.drop (k * cc.sz + j + [G.ev E y].length) = cur.set (k * cc.sz + j) (G.ev E y) := by
        rw [List.set_eq_take_append_cons_drop, if_pos (by simp at hfit; omega)]; simp
      rw [this]; exact h3)
    refine ⟨w', ?_, (fun hl => by rw [hl] at hlb; cases hlb), ?_⟩
    · exact hr
    · have e1 : c.take j ++ [a'] ++ c.drop (j + [a'].length) = c.set j a' := by
        rw [List.set_eq_take_append_cons_drop, if_pos hjl]; simp
      rw [e1] at hs
      obtain ⟨C5, I5, m5⟩ := hs
      exact ⟨C5, I5, m5.put d (v := undef) trivial⟩) h
/-- one cell as it is -/
theorem R.stR {t bys o nn k j sz : Nat} {zz : Value} {l : Bool} {xs : List (List AV)} {c : List AV} {a : AV} [hi : HasI P t 1 bys zz] (hx : evA st x = .pt o nn k j) (hy : evA st y = a) (hca : cellB a = true) (hh : st.hp o = .live l sz xs) (hn : xs.length = nn) (hk : xs[k]? = some c) (hj : Nat.blt j c.length = true)
    (hw : awant n ops ⟨d, .store t x y, ty, pos, af, g⟩ st.E true = true) (hd : fits n d = true) (hlb : lb = false)
    (h : ARg P n w0 MP lb ops os Q (putA ⟨st.E, updA st.hp o (.live l sz (xs.set k (c.set j a))), st.nx⟩ d .no)) : ARg P n w0 MP lb ops (⟨d, .store t x y, ty, pos, af, g⟩ :: os) Q st :=
  R.stM hx hy hca hh hn hk hj (.at1 hca .nil) hh hw hd hlb h
theorem R.stE {α : Type} [Enc α] [Inhabited α] {t bys o nn k j sz : Nat} {zz : Value} {l oo : Bool} {ls : List α} {v : α} {a a' : AV} {hp' : Nat → Ob} [hi : HasI P t 1 bys zz] (hx : evA st x = .pt o nn k j) (hy : evA st y = a) (hca : cellB a = true) (hh : st.hp o = .live l sz (V.E oo ls)) (hn : ls.length = nn) (hk : k < ls.length) (hj : Nat.blt j (Enc.nc α) = true)
    (hmv : Mv l st.hp [a] [a'] hp') (hh' : hp' o = .live l sz (V.E oo ls)) (he : (enc oo (ls.getD k default)).set j a' = enc oo v) (hw : awant n ops ⟨d, .store t x y, ty, pos, af, g⟩ st.E true = true) (hd : fits n d = true) (hlb : lb = false)
    (h : ARg P n w0 MP lb ops os Q (putA ⟨st.E, updA hp' o (.live l sz (V.E oo (ls.set k v))), st.nx⟩ d .no)) : ARg P n w0 MP lb ops (⟨d, .store t x y, ty, pos, af, g⟩ :: os) Q st := by
  refine R.stM hx hy hca hh (by rw [E_length, hn]) (E_get oo ls hk) (by rw [Enc.len]; exact hj) hmv hh' hw hd hlb ?_
  rw [he, E_set]; exact h
/-- a number in a list of numbers -/
theorem R.stI {t bys o nn k sz : Nat} {zz : Value} {l oo : Bool} {ls : List Int} {v : Int} [hi : HasI P t 1 bys zz] (hx : evA st x = .pt o nn k 0) (hy : evA st y = .i v) (hh : st.hp o = .live l sz (V.E oo ls)) (hn : ls.length = nn) (hk : k < ls.length)
    (hw : awant n ops ⟨d, .store t x y, ty, pos, af, g⟩ st.E true = true) (hd : fits n d = true) (hlb : lb = false)
    (h : ARg P n w0 MP lb ops os Q (putA ⟨st.E, updA st.hp o (.live l sz (V.E oo (ls.set k v))), st.nx⟩ d .no)) : ARg P n w0 MP lb ops (⟨d, .store t x y, ty, pos, af, g⟩ :: os) Q st :=
  R.stE hx hy rfl hh hn hk rfl (.at1 rfl .nil) hh rfl hw hd hlb h
/-- a struct -/
theorem R.stG {t sz bys o nn k j esz : Nat} {zz : Value} {l : Bool} {xs : List (List AV)} {c cs ds : List AV} {hp' : Nat → Ob} [hi : HasI P t sz bys zz] (hx : evA st x = .pt o nn k j) (hy : evA st y = .agg cs) (hca : cs.all cellB = true) (hcl : cs.length = sz) (hh : st.hp o = .live l esz xs) (hn : xs.length = nn) (hk : xs[k]? = some c) (hj : Nat.ble (j + ds.length) c.length = true)
    (hmv : Mv l st.hp cs ds hp') (hh' : hp' o = .live l esz xs) (hw : awant n ops ⟨d, .store t x y, ty, pos, af, g⟩ st.E true = true) (hd : fits n d = true) (hlb : lb = false)
    (h : ARg P n w0 MP lb ops os Q (putA ⟨st.E, updA hp' o (.live l esz (xs.set k (c.take j ++ ds ++ c.drop (j + ds.length)))), st.nx⟩ d .no)) : ARg P n w0 MP lb ops (⟨d, .store t x y, ty, pos, af, g⟩ :: os) Q st :=
  ARg.unit hw hd (fun C Im E w hm => by
    have hv := hm.ev y
    rw [hy] at hv
    obtain ⟨us, hv1, hv2⟩ := hv
    have hp := hm.ev x
    rw [hx] at hp
    obtain ⟨b, q, p1, p2, p3⟩ := hp
    obtain ⟨cc, hcc, hO⟩ := hm.obj o l esz xs hh
    obtain ⟨f1, rfl⟩ := (p3 cc hcc).2 (by rw [hO.len, hn])
    have l0 := LayC.cells hv2 hca
    obtain ⟨C1, Gb, f3, m1, l1, L1, le1⟩ := hmv.lay (H := []) (show Sm w0 MP ⟨st.E, st.hp, st.nx⟩ C Im E w from hm) l0 Loose.nil (fun _ k hk => by cases hk)
    rw [List.append_nil] at L1
    have hc1 : C1 o = some cc := by
      obtain ⟨cc1, q1, _⟩ := m1.obj o l esz xs hh'
      have := le1 o cc1 q1
      rw [hcc] at this; cases this; exact q1
    obtain ⟨w', hr, hs⟩ := R.stCore (P := P) (x := x) (y := y) (d := d) (ty := t) (pos := pos) (af := af) (g := g) (B' := ds) (k := k) (j := j) m1 hh' hc1 f1 hk (leB hj) l1 L1 f3 (fun cur e hB hfit =>
      run_stG (P := P) (d := d) (ty := t) (pos := pos) (af := af) (g := g) (t := t) p1 hv1 hB (by rw [hv2.length, hcl]) hfit l0.one)
    refine ⟨w', hr, (fun hl => by rw [hl] at hlb; cases hlb), ?_⟩
    obtain ⟨C5, I5, m5⟩ := hs
    exact ⟨C5, I5, m5.put d (v := undef) trivial⟩) h
/-- all of a variable -/
theorem R.stGW {t sz bys o esz : Nat} {zz : Value} {l : Bool} {c cs : List AV} [hi : HasI P t sz bys zz] (hx : evA st x = .pt o 1 0 0) (hy : evA st y = .agg cs) (hca : cs.all cellB = true) (hcl : cs.length = sz) (hh : st.hp o = .live l esz [c]) (hl : c.length = cs.length)
    (hw : awant n ops ⟨d, .store t x y, ty, pos, af, g⟩ st.E true = true) (hd : fits n d = true) (hlb : lb = false)
    (h : ARg P n w0 MP lb ops os Q (putA ⟨st.E, updA st.hp o (.live l esz [cs]), st.nx⟩ d .no)) : ARg P n w0 MP lb ops (⟨d, .store t x y, ty, pos, af, g⟩ :: os) Q st := by
  have hat : ∀ {cs : List AV}, cs.all cellB = true → Mv l st.hp cs cs st.hp := by
    intro cs
    induction cs with
    | nil => intro _; exact .nil
    | cons a cs ih => intro h; rw [List.all_cons, Bool.and_eq_true] at h; exact .at1 h.1 (ih h.2)
  refine R.stG hx hy hca hcl hh rfl (c := c) rfl (ds := cs) (by rw [Nat.zero_add, hl]; simp) (hat hca) hh hw hd hlb ?_
  have : [c].set 0 (c.take 0 ++ cs ++ c.drop (0 + cs.length)) = [cs] := by rw [Nat.zero_add, ← hl]; simp
  rw [this]; exact h
theorem R.stGE {α : Type} [Enc α] [Inhabited α] {t bys o nn k : Nat} {zz : Value} {l oo : Bool} {ls : List α} {v : α} {cs ds : List AV} {hp' : Nat → Ob} {esz : Nat} [hi : HasI P t (Enc.nc α) bys zz] (hx : evA st x = .pt o nn k 0) (hy : evA st y = .agg cs) (hca : cs.all cellB = true) (hcl : cs.length = Enc.nc α) (hh : st.hp o = .live l esz (V.E oo ls)) (hn : ls.length = nn) (hk : k < ls.length)
    (hmv : Mv l st.hp cs ds hp') (hh' : hp' o = .live l esz (V.E oo ls)) (he : enc oo v = ds) (hw : awant n ops ⟨d, .store t x y, ty, pos, af, g⟩ st.E true = true) (hd : fits n d = true) (hlb : lb = false)
    (h : ARg P n w0 MP lb ops os Q (putA ⟨st.E, updA hp' o (.live l esz (V.E oo (ls.set k v))), st.nx⟩ d .no)) : ARg P n w0 MP lb ops (⟨d, .store t x y, ty, pos, af, g⟩ :: os) Q st := by
  subst he
  refine R.stG hx hy hca hcl hh (by rw [E_length, hn]) (E_get oo ls hk) (by rw [Enc.len, Enc.len, Nat.zero_add]; simp) hmv hh' hw hd hlb ?_
  have : (enc oo (ls.getD k default)).take 0 ++ enc oo v ++ (enc oo (ls.getD k default)).drop (0 + (enc oo v).length) = enc oo v := by
    rw [Enc.len, Nat.zero_add, ← Enc.len oo (ls.getD k default)]; simp
  rw [this, E_set]; exact h
/-- an object's lists below are only read from here on -/
theorem AW.lend {c : Code} {o sz : Nat} {l : Bool} {xs : List (List AV)} (ho : st.hp o = .live l sz xs) (h : AW P n w0 MP c Q ⟨st.E, updA st.hp o (.live true sz xs), st.nx⟩) : AW P n w0 MP c Q st := fun E w ⟨C, Im, hm⟩ => by
  obtain ⟨Im', hm'⟩ := hm.lend o ho
  exact h E w ⟨C, Im', hm'⟩
/-- an empty slice in a slot, as an object to which may be appended -/
theorem AW.open {c : Code} (t sz : Nat) (ht : st.E t = .nl ∨ st.E t = .em) (h : AW P n w0 MP c Q ⟨updA st.E t (.sl st.nx 0 0 0), updA st.hp st.nx (.live false sz []), st.nx + 1⟩) : AW P n w0 MP c Q st := fun E w ⟨C, Im, hm⟩ => by
  have hv := hm.slot t
  have hdst : DstA st (st.E t) st.nx false sz [] (newS st sz []) := by rcases ht with ht | ht <;> rw [ht]; exact .nl _; exact .em _
  obtain ⟨C1, cc, m1, o1, c1, v1, e1, n1, le1, _⟩ := hdst.spec hm hv
  obtain ⟨cc1, q1, hO⟩ := m1.obj st.nx false sz [] o1
  rw [c1] at q1
  cases q1
  have h2 := RV.slNew hO c1 (Nat.lt_succ_self _)
  rw [v1] at h2
  have := m1.upd t h2
  rw [G.upd_eq_self rfl] at this
  exact h E w ⟨C1, Im, this⟩
end
end Go.Proofs.Ytcalkmlaodjpaaa.V
