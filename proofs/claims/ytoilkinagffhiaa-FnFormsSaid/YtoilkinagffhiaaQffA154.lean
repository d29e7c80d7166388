/- Texts that the proof needs: Uy, A153, A154. -/
import Derived.Test.YtoilkinagffhiaaQffA156
import Derived.Test.YtoilkinagffhiaaQffA151
namespace Go.Proofs.Ytoilkinagffhiaa.V
open Go.RowKit G
set_option linter.unusedVariables false
set_option linter.unusedSimpArgs false
def AMF (P : Program) (ff : FuncId) (f : FuncId) (bs : List AV) (sz : Nat) (cs : List AV) : Prop :=
 ∀ (w : World) (mp : Fr) (C : Nat → Option Conc) (E0 : Env) (us : List Value), Sm w mp ⟨fun _ => .no, obS [], 0⟩ C mp.J E0 w → RVL 0 C mp.J w bs us →
  Run P f us w fun v w' => ∃ C' J' E', Sm w mp ⟨fun _ => .no, obS [], 0⟩ C' J' E' w' ∧ ∃ b u F, v = .func (.func ff) #[] #[.pointer (some ⟨b, 0, none⟩)] ∧ own u = some b ∧ ResM 0 C' J' w' [.dt true sz [cs]] [u] F ∧ Loose w mp C' w' F ∧ ∀ k ∈ F, ¬ J' k
def FRet (P : Program) (ff : FuncId) (res : List ResultVar) (sz : Nat) (cs : List AV) : Exit → St → Prop
 | .ret, st | .normal, st => ∃ t o, res = [.tmp t] ∧ st.E t = .fn ff [.pt o 1 0 0] ∧ st.hp o = .live false sz [cs] ∧ cs.all pureB = true
 | _, _ => False
variable {P : Program}
theorem AMF.go {ff f : FuncId} {fn : Func} {n sz : Nat} {c : Code} {bs cs : List AV} (hf : P.funcs[f]? = some fn) (hn : fn.ntmps = n) (hb : fn.body = some c) (ha : Nat.ble bs.length n = true)
  (h : ∀ w0 mp, WfL bs → AW P n w0 mp c (FRet P ff fn.results.toList sz cs) ⟨fun t => bs.getD t .no, obS [], 0⟩) : AMF P ff f bs sz cs := fun w mp C E0 us hS0 hus => by
 have hul := RVL.length hus
 refine Run.go hf hn hb (by rw [hul]; exact ha) ?_
 have hS : Sim w mp ⟨fun t => bs.getD t .no, obS [], 0⟩ (fr us) w := by
  refine ⟨C, mp.J, hS0.tch, hS0.im, fun t => ?_, hS0.nod, hS0.obj, hS0.lt, hS0.dis, hS0.imJ, hS0.gst⟩
  simp only [fr]
  by_cases ht : t < bs.length
  ·obtain ⟨v, h1, h2⟩ := RVL.get hus (i := t) (a := bs[t]) (by simp [ht])
   rw [List.getD_eq_getElem?_getD, List.getD_eq_getElem?_getD, h1]
   simpa [ht] using h2
  ·have : bs.getD t .no = .no := by simp [Nat.le_of_not_lt ht]
   rw [this]; trivial
 refine (h w mp (RVL.wf _ _ hus) _ _ hS).mono fun e E' w' ⟨st', ⟨C1, Im, hm⟩, hq⟩ => ?_
 have key : (∃ t o, fn.results.toList = [.tmp t] ∧ st'.E t = .fn ff [.pt o 1 0 0] ∧ st'.hp o = .live false sz [cs] ∧ cs.all pureB = true) → ∃ v, (∀ tmps : Array Value, (∀ t, tmps.getD t undef = E' t) → (results fn tmps).run P w' = .ok v w') ∧
   ∃ C' J' E', Sm w mp ⟨fun _ => .no, obS [], 0⟩ C' J' E' w' ∧ ∃ b u F, v = .func (.func ff) #[] #[.pointer (some ⟨b, 0, none⟩)] ∧ own u = some b ∧ ResM 0 C' J' w' [.dt true sz [cs]] [u] F ∧ Loose w mp C' w' F ∧ ∀ k ∈ F, ¬ J' k := by
  rintro ⟨t, o, e1, e2, e3, e4⟩
  obtain ⟨cc, c1, c2⟩ := hm.obj o false sz [cs] e3
  obtain ⟨vs, g1, g2, g3⟩ := (RetL.tmp (P := P) (st := st') (a := .fn ff [.pt o 1 0 0]) e2 .nil).spec hm
  obtain ⟨v, vs2, rfl, hv, hnil⟩ := g1
  have hnil : vs2 = [] := hnil
  subst hnil
  obtain ⟨us1, rfl, x1, xs1, rfl, hv, hnil⟩ := hv
  have hnil : xs1 = [] := hnil
  subst hnil
  obtain ⟨b, q, rfl, hlt, hcc⟩ := hv
  obtain ⟨_, hq2⟩ := hcc cc c1
  obtain ⟨hown, hq0⟩ := hq2 c2.len
  have hq0 : q = 0 := by omega
  subst hq0
  have hrv : RV st'.nx C1 Im w' (.sl o 1 0 1) cc.hv := RV.slNew c2 c1 hlt
  have hO : OutM 0 st'.hp [.sl o 1 0 1] [.dt true sz [cs]] (updA st'.hp o .dead) := .cell rfl (.mv e3 rfl rfl (by simpa using e4) .nil) rfl .nil
  obtain ⟨C2, F, k1, k2, k3, k4, k5⟩ := hO.spec (st := st') (H := []) (show Sm w mp ⟨st'.E, st'.hp, st'.nx⟩ C1 Im E' w' from hm) ⟨cc.hv, [], rfl, hrv, rfl⟩ Loose.nil
  rw [List.append_nil] at k3
  rw [← e1] at g2 g3
  refine ⟨.func (.func ff) #[] #[.pointer (some ⟨b, 0, none⟩)], fun tmps ht => results_run (vs := [.func (.func ff) #[] #[.pointer (some ⟨b, 0, none⟩)]]) g2 g3 tmps ht, fun _ => none, Im, E', ⟨k1.tch, k1.im, fun t => trivial, fun o ho => rfl, (fun o l sz xs ho => by have : Ob.dead = Ob.live l sz xs := ho; cases this), fun o ho => rfl, (fun o o' c c' hoo hc hc' => by cases hc), k1.imJ, fun p hp => RV.cut (fun o ho cc hc => by cases hc) _ _ (RV.bnd _ _ (hS0.gst p hp)) (k1.gst p hp)⟩, b, cc.hv, F, rfl, hown, hO.bnd (fun o ho => absurd ho (Nat.not_lt_zero _)) k2, ⟨k3.nd, k3.ge, k3.wb, (fun o c hc => by cases hc)⟩, k4⟩
 cases e with
 | normal => exact key hq
 | ret => exact key hq
 | _ => exact hq.elim
section
variable {n : Nat} {w0 : World} {MP : Fr} {Q : Exit → St → Prop} {st : St} {lb : Bool} {ops : Array Oper} {os : List Oper} {d : Option Tmp} {ty : TypeId} {pos : String} {af : Array Edge} {g : Option (Nat × Bool)}
theorem Sm.calledF {C : Nat → Option Conc} {Im : Nat → Prop} {E : Env} {w : World} (hm : Sm w0 MP st C Im E w) {bs cs : List AV} {sz : Nat} {ff f : FuncId} {us : List Value} (hc : AMF P ff f bs sz cs) (hr : RVL 0 (Cc [] C) Im w bs us) (hcs : cs.all pureB = true) (d : Option Tmp) :
  Run P f us w fun v w' => Later w w' ∧ Sim w0 MP (putA ⟨st.E, updA st.hp st.nx (.live false sz [cs]), st.nx + 1⟩ d (.fn ff [.pt st.nx 1 0 0])) (G.put E d v) w' := by
 have hI : ∀ k, Im k → Im k := fun _ h => h
 have hJ : ∀ k, Im k → k < w.heap.size ∧ k ∉ blsOf C [] := fun k hk => ⟨hm.im k hk, by simp [blsOf]⟩
 refine (hc w _ _ E us (hm.give (ρ := []) (obs := []) List.nodup_nil .nil hI hJ E) hr).mono fun v w' ⟨C', J', E', hb, b, u, F, e, hu, hR, hL, hF⟩ => ?_
 subst e
 obtain ⟨hS, hle, hfo⟩ := hm.back (ρ := []) (obs := []) (obs' := []) List.nodup_nil .nil hI hJ rfl rfl (.inl ownO.nil) hb
 obtain ⟨hL2, hF2⟩ := hfo F hL hF
 have hres := hR.ren (N := st.nx) (C2 := upsA (zipF C' [] 0) C) (I2 := Im2 Im J' w (blsOf C [])) (vw := true) (ρ := []) rfl (fun o ho => by cases ho) (fun i o hi => by simp at hi) (fun _ k hk => by
  rcases hb.imJ k hk with h | h
  ·exact .inl h
  ·exact .inr ⟨hk, h⟩) (by simp [renRB, renB, hcs])
 have ht : ThwM st.nx ([AV.dt true sz [cs]].map (renR [])) [.sl st.nx 1 0 1] [(sz, [cs])] := .cell rfl (.ow rfl .nil) .nil
 obtain ⟨C3, g1, g2, g3⟩ := ht.spec (st := ⟨st.E, upsA (zipO [] []) st.hp, st.nx⟩) rfl hS hres hL2 hF2
 refine ⟨Later.ofTouched hb.tch, putS g1 d ?_⟩
 obtain ⟨v2, vs2, e2, g4, _⟩ := g2
 simp only [List.cons.injEq] at e2
 obtain ⟨rfl, _⟩ := e2
 obtain ⟨cc, c1, c2⟩ := g1.obj st.nx false sz [cs] (updA_same ..)
 obtain ⟨p, c, q1, q2, q3, q4, q5⟩ := g4
 obtain ⟨_, q6⟩ := q5 cc c1
 obtain ⟨_, q7, _⟩ := q6 c2.len
 have q8 := q7 rfl (by rw [c2.len]; rfl)
 refine ⟨[.pointer (some ⟨b, 0, none⟩)], rfl, _, [], rfl, ?_, rfl⟩
 refine ⟨b, 0, rfl, by simp, fun cc' hc' => ?_⟩
 rw [c1] at hc'
 cases hc'
 exact ⟨by rw [c2.len]; exact Nat.le_refl 1, fun _ => ⟨by rw [← q8]; exact hu, by omega⟩⟩
theorem R.callF {ff f : FuncId} {args : Array Operand} {ats : Array TypeId} {bs cs : List AV} {sz : Nat} [hf : IsFn P f] (hc : AMF P ff f bs sz cs) (hs : RenL (fun _ => .dead) [] (args.toList.map (evA st)) bs) (hcs : cs.all pureB = true) (hw : awant n ops ⟨d, .call ⟨.value (.func f), args, ats⟩, ty, pos, af, g⟩ st.E true = true) (hd : fits n d = true)
  (h : ARg P n w0 MP lb ops os Q (putA ⟨st.E, updA st.hp st.nx (.live false sz [cs]), st.nx + 1⟩ d (.fn ff [.pt st.nx 1 0 0]))) : ARg P n w0 MP lb ops (⟨d, .call ⟨.value (.func f), args, ats⟩, ty, pos, af, g⟩ :: os) Q st := fun E w ⟨C, Im, hm⟩ => by
 have hr := hs.spec (w0 := w0) (MP := MP) (N := st.nx) (C := C) (Im := Im) (J := Im) (fun k hk => hk) (fun o l sz xs ho => by cases ho) (hm.evL _)
 refine G.Rg.call (hm.calledF hc hr hcs d) rfl (awant_spec hm hw) hd ?_
 rintro v w' ⟨hl, hS⟩
 exact (h _ _ hS).mono fun e E2 w2 hq => ⟨fun hb => hl.trans (hq.1 hb), hq.2⟩
variable {E : Nat → AV} {hp : Nat → Ob} {nx : Nat}
theorem F.pf {ff f : FuncId} {args : Array Operand} {ats : Array TypeId} {bs cs : List AV} {sz : Nat} [hf : IsFn P f] (hc : AMF P ff f bs sz cs) (h : ARg P n w0 MP lb ops os Q ⟨putE E d (.fn ff [.pt nx 1 0 0]), updA hp nx (.live false sz [cs]), nx + 1⟩)
  (hs : RenL (fun _ => .dead) [] (args.toList.map (evA ⟨E, hp, nx⟩)) bs := by
   (repeat' first
    | exact RenL.nil
    | refine RenL.agg ?_ ?_
    | refine RenL.sn (by (repeat' first | exact SnapL.nil | refine SnapL.i ?_ | refine SnapL.bo ?_ | refine SnapL.dt ?_ | refine SnapL.nd ?_ | refine SnapL.ed ?_ | refine SnapL.nl ?_ | refine SnapL.agg ?_ ?_ | refine SnapL.fn ?_ ?_ | refine SnapL.ip ?_) <;> fail) ?_) <;> fail)
  (hcs : cs.all pureB = true := by exact rfl) (hw : awant n ops ⟨d, .call ⟨.value (.func f), args, ats⟩, ty, pos, af, g⟩ E true = true := by exact rfl) (hd : fits n d = true := by exact rfl) : ARg P n w0 MP lb ops (⟨d, .call ⟨.value (.func f), args, ats⟩, ty, pos, af, g⟩ :: os) Q ⟨E, hp, nx⟩ :=
 R.callF (st := ⟨E, hp, nx⟩) hc hs hcs hw hd (by rw [putA_eq]; exact h)
end
end Go.Proofs.Ytoilkinagffhiaa.V
namespace Go.Proofs.Ytoilkinagffhiaa.V
open Go.RowKit G D
set_option linter.unusedVariables false
set_option linter.unusedSimpArgs false
set_option maxHeartbeats 4000000
set_option maxRecDepth 4000
attribute [local irreducible] AW ARg ARA ARet MRet ASil AC AM
theorem boxes_f (l : List Int) : AMF Try.prog 66 40 [ar false l] 1 [.dt false 1 (E false l)] := by
 refine AMF.go Try.func40 Try.ntmps40 rfl rfl fun w0 mp hw => ?_
 simp [WfL, WfA, E_length, Enc.enc, In64] at hw
 repeat' first | refine s1 ?_ | fail
 exact ⟨2, 0, rfl, rfl, rfl, rfl⟩
theorem full_lt {n c j : Nat} (h : j < n) (hf : full c j) (h4 : c / 5 ^ j % 5 ≠ 4) (hc : c < 5 ^ n) : c + 1 < 5 ^ n := by
 have hp : 0 < 5 ^ j := Nat.pow_pos (by omega)
 by_cases e : c + 1 = 5 ^ n
 ·exfalso
  unfold full at hf
  rw [hf, show n = j + ((n - j - 1) + 1) by omega, Nat.pow_add, Nat.pow_succ] at e
  have := Nat.eq_of_mul_eq_mul_left hp e
  omega
 ·omega
theorem boxX (n : Nat) (hn : 1 ≤ n ∧ n ≤ 5) (l : Nat) : ∃ fn c0 Y XB, Try.prog.funcs[66]? = some fn ∧ fn.body = some (Code.seq c0 (.block 0 (.loop ((Code.seq Y (.cond (.tmp 10) .skip (.exit 0))).seq XB)))) ∧
  ∀ (c : Nat), c < 5 ^ n → ∀ w0 mp (hp : Nat → Ob) (Q : Exit → St → Prop) [ANoPan Q],
   (∀ st', c + 1 < 5 ^ n → Fit (2 :: (List.range 40).drop 4) [] [(5, .live false 1 (E true (dgD n (c + 1))))] ⟨updA (updA (updA (fun t => [.q (fun v => v = .func (.yield l) #[] #[]), .pt 4 1 0 0, .no, .sl 5 n 0 n].getD t .no) 8 (.q (fun v => v = .func (.yield l) #[] #[]))) 9 (.sl 5 n 0 n)) 10 (.b true), upsA [(4, .live false 1 [[.dt false 1 (E false (List.replicate n (4 : Int)))]]), (5, .live false 1 (E true (dgD n c)))] hp, 6⟩ st' → Q .normal st') →
   (∀ st' (l' : List Int), c = 5 ^ n - 1 → Fit (2 :: (List.range 40).drop 4) [] [(5, .live false 1 (E true l'))] ⟨updA (updA (updA (fun t => [.q (fun v => v = .func (.yield l) #[] #[]), .pt 4 1 0 0, .no, .sl 5 n 0 n].getD t .no) 8 (.q (fun v => v = .func (.yield l) #[] #[]))) 9 (.sl 5 n 0 n)) 10 (.b true), upsA [(4, .live false 1 [[.dt false 1 (E false (List.replicate n (4 : Int)))]]), (5, .live false 1 (E true (dgD n c)))] hp, 6⟩ st' → Q .ret st') →
   AW Try.prog 40 w0 mp XB Q ⟨updA (updA (updA (fun t => [.q (fun v => v = .func (.yield l) #[] #[]), .pt 4 1 0 0, .no, .sl 5 n 0 n].getD t .no) 8 (.q (fun v => v = .func (.yield l) #[] #[]))) 9 (.sl 5 n 0 n)) 10 (.b true), upsA [(4, .live false 1 [[.dt false 1 (E false (List.replicate n (4 : Int)))]]), (5, .live false 1 (E true (dgD n c)))] hp, 6⟩ := by
 refine ⟨_, _, _, _, Try.func66, rfl, ?_⟩
 intro c hc w0 mp hp Q hQ qn qr
 repeat' first | refine s1 ?_ | fail
 refine F.loop (σ := Nat) [4, 14, 15, 16, 17, 18, 19, 20, 21, 22, 23, 24, 25, 26, 27, 28, 29, 30, 31] (fun j => [(4, .i ((n : Int) - 1 - j))]) (fun j => [(5, .live false 1 (E true (zJ n c j)))]) (fun j => j ≤ n ∧ full c j) (fun j => n - j) 0 ⟨iE (by omega), trivial⟩ ⟨obE (by rw [zJ_zero]), trivial⟩ ⟨Nat.zero_le _, full_zero c⟩ ?_
 rintro j ⟨j1, j2⟩
 have hzl := zJ_len n c j
 have hrl : (List.replicate n (4 : Int)).length = n := by simp
 by_cases hj : j < n
 ·obtain ⟨v, hv⟩ : ∃ v : Nat, n - 1 - j = v := ⟨_, rfl⟩
  have hg := zJ_get (n := n) (c := c) (j := j) (v := v) (by omega)
  rw [if_neg (by omega), show n - 1 - v = j by omega] at hg
  have h4 : (List.replicate n (4 : Int)).getD v default = 4 := by
   rw [List.getD_eq_getElem?_getD, List.getElem?_replicate, if_pos (by omega)]
   rfl
  have hz := zJ_set (c := c) hj
  have hx := zJ_next (c := c) hj j2
  have hcn := full_end (n := n) (c := c)
  rw [hv] at hz hx
  rw [show (n : Int) - 1 - j = (v : Int) by omega]
  generalize List.replicate n (4 : Int) = M at hrl h4 qn ⊢
  by_cases hd : c / 5 ^ j % 5 = 4
  ·have hE : (zJ n c j).getD (0 + v) default = M.getD v default := by rw [Nat.zero_add, hg, h4, hd]; rfl
   generalize zJ n c j = X at hzl hg hz hE ⊢
   repeat' first | refine s1 ?_ | fail
   refine AW.draw 13 G.mixed (by kernel_rfl) ?_
   refine dP 0 ?_
   refine dP 1 ?_
   refine dP 2 ?_
   first | refine dT 16 rfl (by first | assumption | rfl | (simp only [decide_eq_true_eq, Bool.not_eq_true', decide_eq_false_iff_not, Bool.and_eq_true, Bool.or_eq_true]; omega)) ?_ | refine dF 16 rfl (by first | assumption | rfl | (simp only [decide_eq_false_iff_not, Bool.not_eq_false', decide_eq_true_eq, Bool.and_eq_false_iff, Bool.or_eq_false_iff]; omega)) ?_ | (refine dD 16 rfl ?_ ?_ <;> intro hc <;> (try simp only [decide_eq_true_eq, decide_eq_false_iff_not, Bool.not_eq_true', Bool.not_eq_false'] at hc)) | skip
   all_goals
    first | refine dK 3 ?_ | refine dP 3 ?_
    first | refine dK 4 ?_ | refine dP 4 ?_
    first | refine dK 5 ?_ | refine dP 5 ?_
    first | refine dK 6 ?_ | refine dL 6 ?_
    first | refine dK 7 ?_ | refine dL 7 ?_
    first | refine dK 8 ?_ | refine dP 8 ?_
    first | refine dK 9 ?_ | refine dP 9 ?_
    first | refine dK 10 ?_ | refine dL 10 ?_
    first | refine dK 11 ?_ | refine dP 11 ?_
    refine dP 12 ?_
    refine dN ?_
   all_goals
    repeat' first | refine s1 ?_ | fail
    exact ⟨j + 1, F.fit ⟨iE (by omega), trivial⟩ ⟨obE (by rw [← hz]; try rw [Nat.zero_add]), trivial⟩, ⟨by omega, full_succ j2 hd⟩, by omega⟩
  ·have hE : ¬ (zJ n c j).getD (0 + v) default = M.getD v default := by rw [Nat.zero_add, hg, h4]; omega
   have hx := hx hd
   have hc1 := full_lt (n := n) hj j2 hd hc
   have i1 : In64 ((zJ n c j).getD (0 + v) default + 1) := by rw [Nat.zero_add, hg]; unfold In64; omega
   generalize zJ n c j = X at hzl hg hx hE i1 ⊢
   repeat' first | refine s1 ?_ | fail
   refine AW.draw 13 G.mixed (by kernel_rfl) ?_
   refine dP 0 ?_
   refine dP 1 ?_
   refine dP 2 ?_
   first | refine dT 16 rfl (by first | assumption | rfl | (simp only [decide_eq_true_eq, Bool.not_eq_true', decide_eq_false_iff_not, Bool.and_eq_true, Bool.or_eq_true]; omega)) ?_ | refine dF 16 rfl (by first | assumption | rfl | (simp only [decide_eq_false_iff_not, Bool.not_eq_false', decide_eq_true_eq, Bool.and_eq_false_iff, Bool.or_eq_false_iff]; omega)) ?_ | (refine dD 16 rfl ?_ ?_ <;> intro hc <;> (try simp only [decide_eq_true_eq, decide_eq_false_iff_not, Bool.not_eq_true', Bool.not_eq_false'] at hc)) | skip
   all_goals
    first | refine dK 3 ?_ | refine dP 3 ?_
    first | refine dK 4 ?_ | refine dP 4 ?_
    first | refine dK 5 ?_ | refine dP 5 ?_
    first | refine dK 6 ?_ | refine dL 6 ?_
    first | refine dK 7 ?_ | refine dL 7 ?_
    first | refine dK 8 ?_ | refine dP 8 ?_
    first | refine dK 9 ?_ | refine dP 9 ?_
    first | refine dK 10 ?_ | refine dL 10 ?_
    first | refine dK 11 ?_ | refine dP 11 ?_
    refine dP 12 ?_
    refine dN ?_
   all_goals
    repeat' first | refine s1 ?_ | fail
    exact qn _ hc1 (F.fit trivial ⟨obE (by rw [← hx]; simp only [Nat.zero_add]), trivial⟩)
 ·obtain rfl : j = n := by omega
  have hcn := full_end j2 hc
  generalize zJ j c j = X at hzl ⊢
  rw [show (j : Int) - 1 - j = -1 by omega]
  repeat' first | refine s1 ?_ | fail
  refine AW.draw 13 G.mixed (by kernel_rfl) ?_
  refine dP 0 ?_
  refine dP 1 ?_
  refine dP 2 ?_
  first | refine dT 16 rfl (by first | assumption | rfl | (simp only [decide_eq_true_eq, Bool.not_eq_true', decide_eq_false_iff_not, Bool.and_eq_true, Bool.or_eq_true]; omega)) ?_ | refine dF 16 rfl (by first | assumption | rfl | (simp only [decide_eq_false_iff_not, Bool.not_eq_false', decide_eq_true_eq, Bool.and_eq_false_iff, Bool.or_eq_false_iff]; omega)) ?_ | (refine dD 16 rfl ?_ ?_ <;> intro hc <;> (try simp only [decide_eq_true_eq, decide_eq_false_iff_not, Bool.not_eq_true', Bool.not_eq_false'] at hc)) | skip
  all_goals
   first | refine dK 3 ?_ | refine dP 3 ?_
   first | refine dK 4 ?_ | refine dP 4 ?_
   first | refine dK 5 ?_ | refine dP 5 ?_
   first | refine dK 6 ?_ | refine dL 6 ?_
   first | refine dK 7 ?_ | refine dL 7 ?_
   first | refine dK 8 ?_ | refine dP 8 ?_
   first | refine dK 9 ?_ | refine dP 9 ?_
   first | refine dK 10 ?_ | refine dL 10 ?_
   first | refine dK 11 ?_ | refine dP 11 ?_
   refine dP 12 ?_
   refine dN ?_
  all_goals
   repeat' first | refine s1 ?_ | fail
   exact qr _ X hcn (F.fit trivial ⟨rfl, trivial⟩)
end Go.Proofs.Ytoilkinagffhiaa.V
