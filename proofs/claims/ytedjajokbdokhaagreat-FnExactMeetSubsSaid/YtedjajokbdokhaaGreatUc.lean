/- Abstract values: calls, steps, data of the program, ghosts (several texts joined). Over any program; nothing is claimed of the given one. -/
import Derived.Test.YtedjajokbdokhaaGreatUb
import Derived.Test.YtedjajokbdokhaaGreatUa
import Derived.Lib.AppendZeros
/- Calls, and what a function returns, by abstract states. Over any program; nothing is claimed of the given one. -/
namespace Go.Proofs.YtedjajokbdokhaaGreat.V
open Go.RowKit G
set_option linter.unusedVariables false
set_option linter.unusedSimpArgs false

def noC : Nat → Option Conc := fun _ => none
/-- arguments as the callee sees them: nothing of what is there already is written -/
def RVs (w : World) (bs : List AV) (us : List Value) : Prop := RVL 0 noC (fun k => k < w.heap.size) w bs us
/-- results, in memory of their own -/
inductive ResL (w : World) : List AV → List Value → List Nat → Prop
  | nil : ResL w [] [] []
  | cell {a : AV} {v : Value} {rs : List AV} {vs : List Value} {F G : List Nat} : OwnC (fun _ => False) w [a] [v] F → ResL w rs vs G → ResL w (a :: rs) (v :: vs) (F ++ G)
  | agg {cs : List AV} {us : List Value} {rs : List AV} {vs : List Value} {F G : List Nat} : OwnC (fun _ => False) w cs us F → ResL w rs vs G → ResL w (.agg cs :: rs) (.agg us.toArray :: vs) (F ++ G)
def tupV : List Value → Value
  | [v] => v
  | vs => .tuple vs.toArray
def tupA : List AV → AV
  | [a] => a
  | as => .tu as
/-- what a call comes to, for whatever world: arguments, results -/
def AC (P : Program) (f : FuncId) (bs rs : List AV) : Prop := ∀ (w : World) (us : List Value), RVs w bs us → Run P f us w fun v w' => Later w w' ∧ ∃ vs F, v = tupV vs ∧ ResL w' rs vs F ∧ F.Nodup ∧ ∀ k ∈ F, w.heap.size ≤ k

/-! ### arguments -/
inductive SnapL (hp : Nat → Ob) : List AV → List AV → Prop
  | nil : SnapL hp [] []
  | i {n : Int} {as bs : List AV} : SnapL hp as bs → SnapL hp (.i n :: as) (.i n :: bs)
  | bo {x : Bool} {as bs : List AV} : SnapL hp as bs → SnapL hp (.b x :: as) (.b x :: bs)
  | dt {sz : Nat} {xs : List (List AV)} {as bs : List AV} : SnapL hp as bs → SnapL hp (.dt false sz xs :: as) (.dt false sz xs :: bs)
  | nl {as bs : List AV} : SnapL hp as bs → SnapL hp (.nl :: as) (.nl :: bs)
  | nd {α : Type} [Enc α] {as bs : List AV} : SnapL hp as bs → SnapL hp (.nl :: as) (.dt false (Enc.nc α) (V.E false ([] : List α)) :: bs)
  | ed {α : Type} [Enc α] {as bs : List AV} : SnapL hp as bs → SnapL hp (.em :: as) (.dt false (Enc.nc α) (V.E false ([] : List α)) :: bs)
  | no {a : AV} {as bs : List AV} : SnapL hp as bs → SnapL hp (a :: as) (.no :: bs)
  | slE {α : Type} [Enc α] {o n sz : Nat} {l oo : Bool} {ls : List α} {as bs : List AV} : hp o = .live l sz (V.E oo ls) → ls.length = n → SnapL hp as bs → SnapL hp (.sl o n 0 n :: as) (.dt false sz (V.E false ls) :: bs)
  | slV {α : Type} [Enc α] {o n off m sz : Nat} {l oo : Bool} {ls : List α} {as bs : List AV} : hp o = .live l sz (V.E oo ls) → ls.length = n → SnapL hp as bs → SnapL hp (.sl o n off m :: as) (.dt false sz (V.E false ((ls.drop off).take m)) :: bs)
  | slR {o n sz : Nat} {l : Bool} {xs ys : List (List AV)} {as bs : List AV} : hp o = .live l sz xs → xs.length = n → xs.flatten.all cellB = true → SnapL hp xs.flatten ys.flatten → ys.length = n → (∀ y ∈ ys, y.length = sz) → ys.flatten.all pureB = true → SnapL hp as bs → SnapL hp (.sl o n 0 n :: as) (.dt false sz ys :: bs)
  | fn {f : Nat} {cs ds as bs : List AV} : SnapL hp cs ds → SnapL hp as bs → SnapL hp (.fn f cs :: as) (.fn f ds :: bs)
  | agg {cs ds as bs : List AV} : SnapL hp cs ds → SnapL hp as bs → SnapL hp (.agg cs :: as) (.agg ds :: bs)
  | pt {o n k j sz : Nat} {l : Bool} {xs : List (List AV)} {c ds as bs : List AV} : hp o = .live l sz xs → xs.length = n → xs[k]? = some c → c.all cellB = true → SnapL hp (c.drop j) ds → ds.all pureB = true → SnapL hp as bs → SnapL hp (.pt o n k j :: as) (.ip ds :: bs)
  | ip {cs as bs : List AV} : SnapL hp as bs → SnapL hp (.ip cs :: as) (.ip cs :: bs)
section
variable {w0 w w' : World} {MP : Fr} {st : St} {C : Nat → Option Conc} {Im : Nat → Prop} {E : Env} {N : Nat}
theorem LayC.rvl {cs : List AV} {us : List Value} {F : List Nat} (h : LayC N C Im w cs us F) (hc : cs.all cellB = true) : RVL N C Im w cs us := by
  induction h with
  | nil => rfl
  | at1 h1 _ _ ih =>
    rw [List.all_cons, Bool.and_eq_true] at hc
    exact ⟨_, _, rfl, h1, ih hc.2⟩
  | ow _ _ _ => rw [List.all_cons, Bool.and_eq_true] at hc; cases hc.1
theorem RVL.pure : ∀ {cs : List AV} {us : List Value}, RVL N C Im w cs us → cs.all pureB = true → Imm Im w cs us
  | [], us, h, _ => by subst h; exact .nil
  | a :: cs, us, ⟨v, vs, h1, h2, h3⟩, hc => by
    subst h1
    rw [List.all_cons, Bool.and_eq_true] at hc
    simpa using (h2.pure hc.1).append (RVL.pure h3 hc.2)
theorem RVL.append : ∀ {cs ds : List AV} {us vs : List Value}, RVL N C Im w cs us → RVL N C Im w ds vs → RVL N C Im w (cs ++ ds) (us ++ vs)
  | [], ds, us, vs, h, k => by subst h; exact k
  | a :: cs, ds, us, vs, ⟨v, us', h1, h2, h3⟩, k => by subst h1; exact ⟨v, _, rfl, h2, RVL.append h3 k⟩
/-- a part of an object, as what does not change -/
theorem OR.view {J : Nat → Prop} {o n off m sz : Nat} {l : Bool} {xs ys : List (List AV)} {v : Value} {cc : Conc} (hcc : C o = some cc) (hO : OR w0 MP N C Im w l sz xs cc) (hI : ∀ k, Im k → J k) (hJ : ∀ k ∈ blks cc, J k) (hn : xs.length = n) (hv : RV N C Im w (.sl o n off m) v) (hp : xs.flatten.all pureB = true) (hys : frzLL ((xs.drop off).take m) = ys) :
    Imm J w [.dt false sz ys] [v] := by
  subst hys
  obtain ⟨p, c, h1, h2, h3, h4, h5⟩ := hv
  obtain ⟨s1, s2, s3⟩ := (h5 cc hcc).2 (by rw [hO.len, hn])
  have hle : off + m ≤ xs.length := by rw [← hO.len]; exact s1
  have hlen : ((xs.drop off).take m).length = m := by rw [List.length_take, List.length_drop]; omega
  have hsz : ∀ x ∈ xs, x.length = sz := fun x hx => by rw [hO.lens x hx, hO.esz]
  have hfl : xs.flatten = (xs.take off).flatten ++ (((xs.drop off).take m).flatten ++ (xs.drop (off + m)).flatten) := by
    rw [← List.flatten_append, ← List.flatten_append, ← List.drop_drop, List.take_append_drop, List.take_append_drop]
  by_cases h0 : m = 0
  · subst h0
    rw [h1, List.take_zero]
    exact .sl0 h3 .nil
  obtain ⟨b, c', f1, f2⟩ := s3 h0
  have hl := hO.lay
  rw [hfl] at hl hp
  obtain ⟨u1, v2, F1, G2, e1, e2, q1, q⟩ := hl.split
  obtain ⟨u2, u3, F2, F3, rfl, rfl, q2, q3⟩ := q.split
  rw [List.all_append, Bool.and_eq_true, List.all_append, Bool.and_eq_true] at hp
  have l1 := q1.length
  rw [flatten_take hsz (by omega)] at l1
  have hF : ∀ k ∈ F2, J k := fun k hk => hJ k (by simp [blks, e2, hk])
  have hI2 := (q2.pure hp.2.1).frz (Im' := J) hI hF
  rw [← frzLL_flatten] at hI2
  have e3 : m = (frzLL ((xs.drop off).take m)).length := by rw [frzLL_length, hlen]
  rw [f2]
  rw [h1] at f2
  simp only [Value.slice.injEq, true_and] at f2
  have hcc' : c' = c := f2.2.symm
  have key := Imm.sl (Im := J) (w := w) (b := b) (o := off * cc.sz) (c := c') (sz := sz) (xs := frzLL ((xs.drop off).take m)) (us := u2) (by rw [← e3, hcc']; exact h2) (by rw [hcc']; exact h3) (hJ b (by simp [blks, mem_ownL, f1])) (fun i u hu => by
    refine hO.cell f1 ?_
    rw [hO.esz, e1, List.getElem?_append_right (by omega), l1, Nat.add_sub_cancel_left, List.getElem?_append_left (List.getElem?_eq_some_iff.1 hu).1, hu]) hI2 (fun x hx => by
    rw [frzLL_map] at hx
    obtain ⟨y, hy, rfl⟩ := List.mem_map.1 hx
    rw [frzL_map, List.length_map]
    exact hsz y (List.mem_of_mem_drop (List.mem_of_mem_take hy))) .nil
  rw [← e3] at key
  exact key
theorem SnapL.specJ {J : Nat → Prop} {hk : Nat → Ob} {as bs : List AV} (h : SnapL hk as bs) (hI : ∀ k, Im k → J k) (hobj : ∀ o l sz xs, hk o = .live l sz xs → ∃ cc, C o = some cc ∧ OR w0 MP N C Im w l sz xs cc ∧ ∀ k ∈ blks cc, J k) : ∀ {us : List Value}, RVL N C Im w as us → RVL 0 noC J w bs us := by
  induction h with
  | nil => exact fun h => h
  | i _ ih => exact fun ⟨v, vs, h1, h2, h3⟩ => ⟨v, vs, h1, h2, ih h3⟩
  | bo _ ih => exact fun ⟨v, vs, h1, h2, h3⟩ => ⟨v, vs, h1, h2, ih h3⟩
  | dt _ ih => exact fun ⟨v, vs, h1, h2, h3⟩ => ⟨v, vs, h1, ⟨h2.1, h2.2.mono hI (fun _ _ => rfl)⟩, ih h3⟩
  | nl _ ih => exact fun ⟨v, vs, h1, h2, h3⟩ => ⟨v, vs, h1, h2, ih h3⟩
  | nd _ ih => exact fun ⟨v, vs, h1, h2, h3⟩ => ⟨v, vs, h1, ⟨rfl, by have : v = .slice Option.none 0 0 := h2; rw [this]; exact .sl0 (Nat.zero_le _) .nil⟩, ih h3⟩
  | ed _ ih => exact fun ⟨v, vs, h1, h2, h3⟩ => ⟨v, vs, h1, ⟨rfl, by obtain ⟨p, rfl⟩ := h2; exact .sl0 (Nat.zero_le _) .nil⟩, ih h3⟩
  | no _ ih => exact fun ⟨v, vs, h1, h2, h3⟩ => ⟨v, vs, h1, trivial, ih h3⟩
  | slE ho hn _ ih =>
    rintro us ⟨v, vs, h1, h2, h3⟩
    obtain ⟨cc, hcc, hO, hJ⟩ := hobj _ _ _ _ ho
    exact ⟨v, vs, h1, ⟨rfl, hO.view hcc hI hJ (by rw [E_length, hn]) h2 (E_pure _ _) (by rw [List.drop_zero, List.take_of_length_le (by rw [E_length, hn]; exact Nat.le_refl _), E_frz])⟩, ih h3⟩
  | slV ho hn _ ih =>
    rintro us ⟨v, vs, h1, h2, h3⟩
    obtain ⟨cc, hcc, hO, hJ⟩ := hobj _ _ _ _ ho
    exact ⟨v, vs, h1, ⟨rfl, hO.view hcc hI hJ (by rw [E_length, hn]) h2 (E_pure _ _) (by rw [E_drop, E_take, E_frz])⟩, ih h3⟩
  | @slR o n sz l xs ys as bs ho hn hc _ hyl hys hyp _ ih1 ih2 =>
    rintro us ⟨v, vs, h1, h2, h3⟩
    refine ⟨v, vs, h1, ⟨rfl, ?_⟩, ih2 h3⟩
    obtain ⟨cc, hcc, hO, hJ⟩ := hobj _ _ _ _ ho
    obtain ⟨p, c, g1, g2, g3, g4, g5⟩ := h2
    obtain ⟨s1, s2, s3⟩ := (g5 cc hcc).2 (by rw [hO.len, hn])
    have key := RVL.pure (ih1 (hO.lay.rvl hc)) hyp
    by_cases h0 : n = 0
    · subst h0
      have : ys = [] := List.eq_nil_of_length_eq_zero hyl
      subst this
      rw [g1]; exact .sl0 g3 .nil
    · obtain ⟨b, c', f1, f2⟩ := s3 h0
      rw [f2]
      rw [g1] at f2
      simp only [Value.slice.injEq, true_and] at f2
      obtain ⟨_, rfl⟩ := f2
      rw [Nat.zero_mul]
      subst hyl
      exact .sl g2 g3 (hJ b (by simp [blks, mem_ownL, f1])) (fun i u hu => by rw [Nat.zero_add]; exact hO.cell f1 hu) key hys .nil
  | fn _ _ ih1 ih2 => exact fun ⟨v, vs, h1, ⟨us, g1, g2⟩, h3⟩ => ⟨v, vs, h1, ⟨us, g1, ih1 g2⟩, ih2 h3⟩
  | agg _ _ ih1 ih2 => exact fun ⟨v, vs, h1, ⟨us, g1, g2⟩, h3⟩ => ⟨v, vs, h1, ⟨us, g1, ih1 g2⟩, ih2 h3⟩
  | @pt o n k j sz l xs c ds as bs ho hn hk hc _ hds _ ih1 ih2 =>
    rintro us ⟨v, vs, h1, h2, h3⟩
    refine ⟨v, vs, h1, ?_, ih2 h3⟩
    obtain ⟨cc, hcc, hO, hJ⟩ := hobj _ _ _ _ ho
    obtain ⟨b, q, p1, p2, p3⟩ := h2
    obtain ⟨f1, rfl⟩ := (p3 cc hcc).2 (by rw [hO.len, hn])
    have hsz : ∀ x ∈ xs, x.length = sz := fun x hx => by rw [hO.lens x hx, hO.esz]
    have hl := hO.lay
    have hfl : xs.flatten = (xs.take k).flatten ++ (c.take j ++ (c.drop j ++ (xs.drop (k + 1)).flatten)) := by
      rw [flatten_cut hk, ← List.append_assoc (c.take j), List.take_append_drop]
    rw [hfl] at hl
    obtain ⟨u1, v2, F1, G2, e1, e2, q1, q⟩ := hl.split
    obtain ⟨u2, v3, F2, F3, rfl, rfl, q2, q⟩ := q.split
    obtain ⟨u3, u4, F3, F4, rfl, rfl, q3, q4⟩ := q.split
    have l1 := q1.length
    rw [flatten_take hsz (by have := (List.getElem?_eq_some_iff.1 hk).1; omega)] at l1
    have l2 := q2.length
    have hcj : (c.drop j).all cellB = true := List.all_eq_true.2 fun a ha => List.all_eq_true.1 hc a (List.mem_of_mem_drop ha)
    refine ⟨b, _, u3, p1, hJ b (by simp [blks, mem_ownL, f1]), fun i u hu => ?_, RVL.pure (ih1 (q3.rvl hcj)) hds⟩
    by_cases hjl : j ≤ c.length
    · rw [List.length_take, Nat.min_eq_left hjl] at l2
      refine hO.cell f1 ?_
      rw [hO.esz, e1, List.getElem?_append_right (by omega), l1, List.getElem?_append_right (by omega), l2, List.getElem?_append_left (by have := (List.getElem?_eq_some_iff.1 hu).1; omega), ← hu]
      congr 1; omega
    · have : c.drop j = [] := List.drop_of_length_le (by omega)
      have h3 := q3.length
      rw [this] at h3
      have : u3 = [] := List.eq_nil_of_length_eq_zero h3
      subst this; simp at hu
  | ip _ ih => exact fun ⟨v, vs, h1, ⟨b, o, us, g1, g2, g3, g4⟩, h3⟩ => ⟨v, vs, h1, ⟨b, o, us, g1, hI _ g2, g3, g4.mono hI (fun _ _ => rfl)⟩, ih h3⟩
theorem SnapL.spec {as bs : List AV} (h : SnapL st.hp as bs) (hm : Sm w0 MP st C Im E w) : ∀ {us : List Value}, RVL st.nx C Im w as us → RVs w bs us :=
  h.specJ hm.im fun o l sz xs ho => by
    obtain ⟨cc, hcc, hO⟩ := hm.obj o l sz xs ho
    exact ⟨cc, hcc, hO, fun k hk => (hO.wb k hk).lt⟩

/-! ### results of a call -/
def addO (hp : Nat → Ob) : Nat → List (Nat × List (List AV)) → Nat → Ob
  | _, [] => hp
  | N, (sz, xs) :: os => addO (updA hp N (.live false sz xs)) (N + 1) os
inductive Thw : Nat → List AV → List AV → List (Nat × List (List AV)) → Prop
  | nil {N : Nat} : Thw N [] [] []
  | at1 {N : Nat} {a : AV} {cs ds : List AV} {os : List (Nat × List (List AV))} : (pureB a && shr a) = true → Thw N cs ds os → Thw N (a :: cs) (a :: ds) os
  | ow {N n sz : Nat} {xs : List (List AV)} {cs ds : List AV} {os : List (Nat × List (List AV))} : xs.length = n → Thw (N + 1) cs ds os → Thw N (.dt true sz xs :: cs) (.sl N n 0 n :: ds) ((sz, xs) :: os)
theorem CLe.trans {C1 C2 C3 : Nat → Option Conc} {N M : Nat} (h : CLe N C1 C2) (k : CLe M C2 C3) (hN : N ≤ M) : CLe N C1 C3 := fun o ho c3 h3 => by
  obtain ⟨c2, h2, r2⟩ := k o (Nat.lt_of_lt_of_le ho hN) c3 h3
  obtain ⟨c1, h1, r1⟩ := h o ho c2 h2
  refine ⟨c1, h1, ?_⟩
  rcases r1 with ⟨a1, a2, a3⟩ | r1 <;> rcases r2 with ⟨b1, b2, b3⟩ | r2
  · exact .inl ⟨a1.trans b1, a2.trans b2, a3.trans b3⟩
  · exact .inr (by omega)
  · exact .inr (by omega)
  · exact .inr (by omega)
theorem Thw.spec {N : Nat} {cs ds : List AV} {os : List (Nat × List (List AV))} (h : Thw N cs ds os) : ∀ {st : St} {C : Nat → Option Conc} {us : List Value} {F H : List Nat}, st.nx = N → Sm w0 MP st C Im E w → OwnC (fun _ => False) w cs us F → Loose w0 MP C w (F ++ H) → (∀ k ∈ F ++ H, ¬ Im k) →
    ∃ C', Sm w0 MP ⟨st.E, addO st.hp st.nx os, st.nx + os.length⟩ C' Im E w ∧ RVL (st.nx + os.length) C' Im w ds us ∧ Loose w0 MP C' w H ∧ CLe st.nx C C' := by
  induction h with
  | nil =>
    intro st C us F H hN hm ho hL hi
    cases ho
    exact ⟨C, hm, rfl, by simpa using hL, CLe.refl _ _⟩
  | @at1 N a cs ds os ha _ ih =>
    intro st C us F H hN hm ho hL hi
    cases ho with
    | @at1 _ v _ vs _ h1 h2 =>
      obtain ⟨C', g1, g2, g3, g4⟩ := ih hN hm h2 hL hi
      exact ⟨C', g1, ⟨v, vs, rfl, RV.imm (h1.mono (fun _ h => h.elim) (fun _ h => h.elim)), g2⟩, g3, g4⟩
    | ow _ _ _ _ => cases ha
  | @ow N n sz xs cs ds os hn _ ih =>
    intro st C us F H hN hm ho hL hi
    cases ho with
    | at1 h1 h2 => cases h1
    | @ow _ _ v us2 G _ vs F2 h1 h2 h3 h4 =>
      let cc : Conc := ⟨v, xs.length, sz, us2, G⟩
      rw [List.append_assoc] at hL hi
      obtain ⟨n1, n2, n3⟩ := List.nodup_append.1 hL.nd
      have hmem : ∀ k ∈ blks cc, k ∈ ownL v ++ G ++ (F2 ++ H) := fun k hk => List.mem_append_left _ hk
      have hO : OR w0 MP st.nx C Im w false sz xs cc := ⟨rfl, rfl, h1, LayC.own (h2.mono (fun _ h => h.elim) (fun _ h => h.elim) (fun _ _ => rfl)), h3, n1, fun k hk => hL.ge k (hmem k hk), fun b hb => hi b (hmem b (by simp [blks, cc, mem_ownL, hb])), fun k hk => ⟨fun h => absurd h (hi k (hmem k (by simp [blks, cc, show k ∈ G from hk]))), fun h => by cases h⟩⟩
      have hS := hm.new hO fun o c hc k hk => hL.off o c hc k (hmem k hk)
      have hle : CLe st.nx C (updA C st.nx (some cc)) := fun o ho c hc => ⟨c, by rwa [updA_ne _ _ (by omega)] at hc, .inl ⟨rfl, rfl, rfl⟩⟩
      obtain ⟨C', g1, g2, g3, g4⟩ := ih (st := ⟨st.E, updA st.hp st.nx (.live false sz xs), st.nx + 1⟩) (by simp [hN]) hS h4 (H := H) ⟨n2, fun k hk => hL.ge k (List.mem_append_right _ hk), fun k hk => hL.wb k (List.mem_append_right _ hk), fun o c hc k hk => by
        by_cases e : o = st.nx
        · subst e
          rw [updA_same] at hc
          cases hc
          exact fun hk' => n3 k hk' k hk rfl
        · rw [updA_ne _ _ e] at hc
          exact hL.off o c hc k (List.mem_append_right _ hk)⟩ fun k hk => hi k (List.mem_append_right _ hk)
      have hrv : RV (st.nx + 1) (updA C st.nx (some cc)) Im w (.sl st.nx n 0 n) v := by
        obtain ⟨c2, q1, q2⟩ := hS.obj st.nx false sz xs (updA_same ..)
        have := RV.slNew q2 q1 (Nat.lt_succ_self _)
        rw [updA_same] at q1
        cases q1
        rw [← hn]; exact this
      have e1 : st.nx + 1 + os.length = st.nx + ((sz, xs) :: os).length := by simp; omega
      simp only at g1 g2 g4
      rw [e1] at g1 g2
      refine ⟨C', g1, ⟨v, vs, rfl, ?_, g2⟩, g3, hle.trans g4 (Nat.le_succ _)⟩
      rw [← hN]
      exact RV.mono (fun _ h => h) (fun _ _ => rfl) (by simp) g4 _ _ hrv
inductive ThwR : Nat → List AV → List AV → List (Nat × List (List AV)) → Prop
  | nil {N : Nat} : ThwR N [] [] []
  | cell {N : Nat} {a a' : AV} {rs as : List AV} {os os' : List (Nat × List (List AV))} : Thw N [a] [a'] os → ThwR (N + os.length) rs as os' → ThwR N (a :: rs) (a' :: as) (os ++ os')
  | agg {N : Nat} {cs ds : List AV} {rs as : List AV} {os os' : List (Nat × List (List AV))} : Thw N cs ds os → ThwR (N + os.length) rs as os' → ThwR N (.agg cs :: rs) (.agg ds :: as) (os ++ os')
theorem addO_append (os os' : List (Nat × List (List AV))) : ∀ (hp : Nat → Ob) (N : Nat), addO hp N (os ++ os') = addO (addO hp N os) (N + os.length) os' := by
  induction os with
  | nil => intros; rfl
  | cons x os ih => intro hp N; obtain ⟨sz, xs⟩ := x; simp only [List.cons_append, addO, List.length_cons]; rw [ih]; congr 1; omega
theorem ThwR.spec {N : Nat} {rs as : List AV} {os : List (Nat × List (List AV))} (h : ThwR N rs as os) : ∀ {st : St} {C : Nat → Option Conc} {vs : List Value} {F : List Nat}, st.nx = N → Sm w0 MP st C Im E w → ResL w rs vs F → Loose w0 MP C w F → (∀ k ∈ F, ¬ Im k) →
    ∃ C', Sm w0 MP ⟨st.E, addO st.hp st.nx os, st.nx + os.length⟩ C' Im E w ∧ RVL (st.nx + os.length) C' Im w as vs ∧ CLe st.nx C C' := by
  induction h with
  | nil =>
    intro st C us F hN hm ho hL hi
    cases ho
    exact ⟨C, hm, rfl, CLe.refl _ _⟩
  | @cell N a a' rs as os os' ht _ ih =>
    intro st C vs F hN hm ho hL hi
    cases ho with
    | @cell _ v _ vs' F1 F2 h1 h2 =>
      obtain ⟨C1, g1, g2, g3, g4⟩ := ht.spec hN hm h1 hL hi
      obtain ⟨C2, k1, k2, k3⟩ := ih (st := ⟨st.E, addO st.hp st.nx os, st.nx + os.length⟩) (by simp [hN]) g1 h2 g3 fun k hk => hi k (List.mem_append_right _ hk)
      have e1 : st.nx + os.length + os'.length = st.nx + (os ++ os').length := by simp; omega
      simp only at k1 k2 k3
      rw [← addO_append, e1] at k1
      rw [e1] at k2
      obtain ⟨v', vs2, q1, q2, q3⟩ := g2
      simp only [List.cons.injEq] at q1
      obtain ⟨rfl, _⟩ := q1
      exact ⟨C2, k1, ⟨v, vs', rfl, RV.mono (fun _ h => h) (fun _ _ => rfl) (by simp) k3 _ _ q2, k2⟩, g4.trans k3 (by omega)⟩
    | agg h1 h2 => cases ht with | at1 h _ => cases h
  | @agg N cs ds rs as os os' ht _ ih =>
    intro st C vs F hN hm ho hL hi
    cases ho with
    | cell h1 h2 => cases h1 with | at1 h _ => cases h
    | @agg _ us _ vs' F1 F2 h1 h2 =>
      obtain ⟨C1, g1, g2, g3, g4⟩ := ht.spec hN hm h1 hL hi
      obtain ⟨C2, k1, k2, k3⟩ := ih (st := ⟨st.E, addO st.hp st.nx os, st.nx + os.length⟩) (by simp [hN]) g1 h2 g3 fun k hk => hi k (List.mem_append_right _ hk)
      have e1 : st.nx + os.length + os'.length = st.nx + (os ++ os').length := by simp; omega
      simp only at k1 k2 k3
      rw [← addO_append, e1] at k1
      rw [e1] at k2
      exact ⟨C2, k1, ⟨_, vs', rfl, ⟨us, rfl, RVL.mono (fun _ h => h) (fun _ _ => rfl) (by simp) k3 _ _ g2⟩, k2⟩, g4.trans k3 (by omega)⟩
end
section
variable {P : Program} {n : Nat} {w0 : World} {MP : Fr} {Q : Exit → St → Prop} {st : St} {lb : Bool} {ops : Array Oper} {os : List Oper} {d : Option Tmp} {ty : TypeId} {pos : String} {af : Array Edge} {g : Option (Nat × Bool)} {x y : Operand}
theorem tup_rv {N : Nat} {C : Nat → Option Conc} {Im : Nat → Prop} {w : World} : ∀ {as : List AV} {vs : List Value}, RVL N C Im w as vs → RV N C Im w (tupA as) (tupV vs)
  | [], vs, h => by have : vs = [] := h; subst this; exact ⟨[], rfl, rfl⟩
  | [a], vs, ⟨v, us, h1, h2, h3⟩ => by have : us = [] := h3; subst this; subst h1; exact h2
  | a :: b :: as, vs, ⟨v, us, h1, h2, h3⟩ => by
    obtain ⟨v2, us2, g1, g2, g3⟩ := h3
    subst g1; subst h1
    exact ⟨_, rfl, v, _, rfl, h2, v2, us2, rfl, g2, g3⟩
/-- the state behind a call -/
def callS (st : St) (ob : List (Nat × List (List AV))) (d : Option Tmp) (as : List AV) : St := putA ⟨st.E, addO st.hp st.nx ob, st.nx + ob.length⟩ d (tupA as)
theorem Sm.called {C : Nat → Option Conc} {Im : Nat → Prop} {E : Env} {w w' : World} (hm : Sm w0 MP st C Im E w) {rs as : List AV} {ob : List (Nat × List (List AV))} (ht : ThwR st.nx rs as ob) {v : Value} (hl : Later w w') (hr : ∃ vs F, v = tupV vs ∧ ResL w' rs vs F ∧ F.Nodup ∧ ∀ k ∈ F, w.heap.size ≤ k) : Sim w0 MP (callS st ob d as) (G.put E d v) w' := by
  obtain ⟨vs, F, rfl, h1, h2, h3⟩ := hr
  have hm' := hm.later hl
  have hsz := hm.tch.size
  have hL : Loose w0 MP C w' F := ⟨h2, fun k hk => .inl (by have := h3 k hk; omega), fun k hk => by
    clear h2 h3 ht
    induction h1 with
    | nil => cases hk
    | cell h _ ih => exact (List.mem_append.1 hk).elim (h.wb k) ih
    | agg h _ ih => exact (List.mem_append.1 hk).elim (h.wb k) ih, fun o c hc k hk hk' => by
    obtain ⟨_, _, _, _, hO⟩ := hm.objOf hc
    have := (hO.wb k hk').lt; have := h3 k hk; omega⟩
  obtain ⟨C', g1, g2, _⟩ := ht.spec rfl hm' h1 hL fun k hk hi => by have := hm.im k hi; have := h3 k hk; omega
  exact putS g1 d (tup_rv g2)
theorem R.call {f : FuncId} {args : Array Operand} {ats : Array TypeId} {bs rs as : List AV} {ob : List (Nat × List (List AV))} [hf : IsFn P f] (hc : AC P f bs rs) (hs : SnapL st.hp (args.toList.map (evA st)) bs) (ht : ThwR st.nx rs as ob)
    (hw : awant n ops ⟨d, .call ⟨.value (.func f), args, ats⟩, ty, pos, af, g⟩ st.E true = true) (hd : fits n d = true) (h : ARg P n w0 MP lb ops os Q (callS st ob d as)) : ARg P n w0 MP lb ops (⟨d, .call ⟨.value (.func f), args, ats⟩, ty, pos, af, g⟩ :: os) Q st := fun E w ⟨C, Im, hm⟩ => by
  refine G.Rg.call (hc w _ (hs.spec hm (hm.evL _))) rfl (awant_spec hm hw) hd ?_
  rintro v w' ⟨hl, hr⟩
  exact (h _ _ (hm.called (d := d) ht hl hr)).mono fun e E2 w2 hq => ⟨fun hb => hl.trans (hq.1 hb), hq.2⟩
theorem R.callV {f : FuncId} {args : Array Operand} {ats : Array TypeId} {bs rs as caps : List AV} {ob : List (Nat × List (List AV))} [hf : IsFn P f] (hx : evA st x = .fn f caps) (hc : AC P f bs rs) (hs : SnapL st.hp (args.toList.map (evA st) ++ caps) bs) (ht : ThwR st.nx rs as ob)
    (hw : awant n ops ⟨d, .call ⟨.value x, args, ats⟩, ty, pos, af, g⟩ st.E true = true) (hd : fits n d = true) (h : ARg P n w0 MP lb ops os Q (callS st ob d as)) : ARg P n w0 MP lb ops (⟨d, .call ⟨.value x, args, ats⟩, ty, pos, af, g⟩ :: os) Q st := fun E w ⟨C, Im, hm⟩ => by
  have hv := hm.ev x
  rw [hx] at hv
  obtain ⟨us, h1, h2⟩ := hv
  refine G.Rg.callV h1 (hc w _ (hs.spec hm ((hm.evL _).append h2))) rfl (awant_spec hm hw) hd ?_
  rintro v w' ⟨hl, hr⟩
  exact (h _ _ (hm.called (d := d) ht hl hr)).mono fun e E2 w2 hq => ⟨fun hb => hl.trans (hq.1 hb), hq.2⟩

/-! ### what a function returns -/
inductive RetL (P : Program) (st : St) : List ResultVar → List AV → Prop
  | nil : RetL P st [] []
  | tmp {t : Nat} {a : AV} {rs : List ResultVar} {as : List AV} : st.E t = a → RetL P st rs as → RetL P st (.tmp t :: rs) (a :: as)
  | agg {t ty o sz esz bys : Nat} {zz : Value} {l : Bool} {c : List AV} {rs : List ResultVar} {as : List AV} [h1 : Agg P ty] [hi : HasI P ty sz bys zz] : st.E t = .pt o 1 0 0 → st.hp o = .live l esz [c] → c.length = sz → c.all cellB = true → RetL P st rs as → RetL P st (.cell t ty :: rs) (.agg c :: as)
  | one {t ty o esz : Nat} {l : Bool} {a : AV} {rs : List ResultVar} {as : List AV} [h1 : One P ty] : st.E t = .pt o 1 0 0 → st.hp o = .live l esz [[a]] → cellB a = true → RetL P st rs as → RetL P st (.cell t ty :: rs) (a :: as)
theorem RetL.spec {C : Nat → Option Conc} {Im : Nat → Prop} {E : Env} {w : World} (hm : Sm w0 MP st C Im E w) {rs : List ResultVar} {as : List AV} (h : RetL P st rs as) :
    ∃ vs, RVL st.nx C Im w as vs ∧ vs.length = rs.length ∧ ∀ (i : Nat) r v, rs[i]? = some r → vs[i]? = some v → Res P E w r v := by
  induction h with
  | nil => exact ⟨[], rfl, rfl, fun i r v h => by simp at h⟩
  | @tmp t a rs as ht _ ih =>
    obtain ⟨vs, h1, h2, h3⟩ := ih
    refine ⟨E t :: vs, ⟨_, _, rfl, ht ▸ hm.slot t, h1⟩, by simp [h2], fun i r v hr hv => ?_⟩
    cases i with
    | zero =>
      simp only [List.getElem?_cons_zero, Option.some.injEq] at hr hv
      subst hr; subst hv; exact Res.val
    | succ i => exact h3 i r v (by simpa using hr) (by simpa using hv)
  | @agg t ty o sz esz bys zz l c rs as ha hi ht ho hl hc _ ih =>
    obtain ⟨vs, h1, h2, h3⟩ := ih
    have hv := hm.slot t
    rw [ht] at hv
    obtain ⟨b, q, p1, p2, p3⟩ := hv
    obtain ⟨cc, hcc, hO⟩ := hm.obj o l esz [c] ho
    obtain ⟨f1, rfl⟩ := (p3 cc hcc).2 (by rw [hO.len]; rfl)
    have hlay := hO.lay
    simp only [List.flatten_cons, List.flatten_nil, List.append_nil] at hlay
    refine ⟨.agg cc.us.toArray :: vs, ⟨_, _, rfl, ⟨cc.us, rfl, hlay.rvl hc⟩, h1⟩, by simp [h2], fun i r v hr hv => ?_⟩
    cases i with
    | zero =>
      simp only [List.getElem?_cons_zero, Option.some.injEq] at hr hv
      subst hr; subst hv
      exact Res.agg p1 (fun i u hu => by rw [Nat.zero_mul, Nat.zero_add]; exact hO.cell f1 (by simpa using hu)) (by rw [hlay.length, hl])
    | succ i => exact h3 i r v (by simpa using hr) (by simpa using hv)
  | @one t ty o esz l a rs as ha ht ho hc _ ih =>
    obtain ⟨vs, h1, h2, h3⟩ := ih
    have hv := hm.slot t
    rw [ht] at hv
    obtain ⟨b, q, p1, p2, p3⟩ := hv
    obtain ⟨cc, hcc, hO⟩ := hm.obj o l esz [[a]] ho
    obtain ⟨f1, rfl⟩ := (p3 cc hcc).2 (by rw [hO.len]; rfl)
    have hlay := hO.lay
    simp only [List.flatten_cons, List.flatten_nil, List.append_nil] at hlay
    obtain ⟨u, hu, hr⟩ := hlay.get (i := 0) rfl (fun sz xs e => by subst e; cases hc)
    refine ⟨u :: vs, ⟨_, _, rfl, hr, h1⟩, by simp [h2], fun i r v hr hv => ?_⟩
    cases i with
    | zero =>
      simp only [List.getElem?_cons_zero, Option.some.injEq] at hr hv
      subst hr; subst hv
      exact Res.one p1 (by rw [Nat.zero_mul, Nat.zero_add]; exact hO.cell f1 hu)
    | succ i => exact h3 i r v (by simpa using hr) (by simpa using hv)
/-- results are taken along -/
inductive OutL : (Nat → Ob) → List AV → List AV → Prop
  | nil {hp : Nat → Ob} : OutL hp [] []
  | cell {hp hp' : Nat → Ob} {a r : AV} {as rs : List AV} : cellB a = true → Mv true hp [a] [r] hp' → ownA r = true → pureB r = true → OutL hp' as rs → OutL hp (a :: as) (r :: rs)
  | agg {hp hp' : Nat → Ob} {cs ds as rs : List AV} : cs.all cellB = true → Mv true hp cs ds hp' → ownL' ds = true → ds.all pureB = true → OutL hp' as rs → OutL hp (.agg cs :: as) (.agg ds :: rs)
theorem OwnC.own {Im : Nat → Prop} {w : World} {cs : List AV} {us : List Value} {F : List Nat} (h : OwnC Im w cs us F) (ho : ownL' cs = true) : OwnC (fun _ => False) w cs us F := by
  induction h with
  | nil => exact .nil
  | @at1 a v cs vs F h1 _ ih =>
    rw [ownL', Bool.and_eq_true] at ho
    refine .at1 ?_ (ih ho.2)
    cases h1 with
    | int h _ => exact .int h .nil
    | bool _ => exact .bool .nil
    | no _ _ => cases ho.1
    | sl0 _ _ => cases ho.1
    | sl _ _ _ _ _ _ _ => cases ho.1
  | ow h1 _ h3 _ ih1 ih2 =>
    rw [ownL', Bool.and_eq_true] at ho
    refine .ow h1 (ih1 ?_) h3 (ih2 ho.2)
    have := ho.1
    rw [ownA, ownLL_all] at this
    rw [ownL'_all]; exact this
theorem Loose.split {C : Nat → Option Conc} {w : World} {F G' : List Nat} (h : Loose w0 MP C w (F ++ G')) : Loose w0 MP C w F ∧ ∀ k ∈ F, k ∉ G' := by
  obtain ⟨n1, n2, n3⟩ := List.nodup_append.1 h.nd
  exact ⟨⟨n1, fun k hk => h.ge k (List.mem_append_left _ hk), fun k hk => h.wb k (List.mem_append_left _ hk), fun o c hc k hk => h.off o c hc k (List.mem_append_left _ hk)⟩, fun k hk hk' => n3 k hk k hk' rfl⟩
theorem OutL.spec {Im : Nat → Prop} {E : Env} {w : World} {hp : Nat → Ob} {as rs : List AV} (h : OutL hp as rs) : ∀ {C : Nat → Option Conc} {vs : List Value} {H : List Nat}, Sm w0 MP ⟨st.E, hp, st.nx⟩ C Im E w → RVL st.nx C Im w as vs → Loose w0 MP C w H → ∃ F, ResL w rs vs F ∧ (F ++ H).Nodup ∧ ∀ k ∈ F, w0.heap.size ≤ k ∨ k ∈ MP.bl := by
  induction h with
  | nil =>
    intro C vs H hm hv hL
    have : vs = [] := hv
    subst this
    exact ⟨[], .nil, hL.nd, fun k hk => by cases hk⟩
  | @cell hp hp' a r as rs hc hmv ho hp1 _ ih =>
    rintro C vs H hm ⟨v, vs', rfl, h2, h3⟩ hL
    obtain ⟨C1, G, f3, m1, l1, L1, le1⟩ := hmv.lay (F := []) (H := H) hm (.at1 h2 (h2.one hc) .nil) (by simpa using hL) (fun h => by cases h)
    have h3' := RVL.mono (Im' := Im) (w' := w) (M := st.nx) (fun _ h => h) (fun _ _ => rfl) (Nat.le_refl _) (fun o _ c hc => ⟨c, le1 o c hc, .inl ⟨rfl, rfl, rfl⟩⟩) _ _ h3
    obtain ⟨F, g1, g2, g3⟩ := ih m1 h3' L1
    have hO := (l1.pure (by simpa using hp1)).own (by simp [ownL', ho])
    refine ⟨G ++ F, .cell hO g1, ?_, fun k hk => (List.mem_append.1 hk).elim (fun hk => L1.ge k (List.mem_append_left _ hk)) (g3 k)⟩
    have hp : (F ++ (G ++ H)).Perm (G ++ F ++ H) := by
      rw [← List.append_assoc]; exact List.Perm.append_right _ List.perm_append_comm
    exact hp.nodup g2
  | @agg hp hp' cs ds as rs hc hmv ho hp1 _ ih =>
    rintro C vs H hm ⟨v, vs', rfl, h2, h3⟩ hL
    obtain ⟨us, rfl, h2⟩ := h2
    obtain ⟨C1, G, f3, m1, l1, L1, le1⟩ := hmv.lay (F := []) (H := H) hm (LayC.cells h2 hc) (by simpa using hL) (fun h => by cases h)
    have h3' := RVL.mono (Im' := Im) (w' := w) (M := st.nx) (fun _ h => h) (fun _ _ => rfl) (Nat.le_refl _) (fun o _ c hc => ⟨c, le1 o c hc, .inl ⟨rfl, rfl, rfl⟩⟩) _ _ h3
    obtain ⟨F, g1, g2, g3⟩ := ih m1 h3' L1
    refine ⟨G ++ F, .agg ((l1.pure hp1).own ho) g1, ?_, fun k hk => (List.mem_append.1 hk).elim (fun hk => L1.ge k (List.mem_append_left _ hk)) (g3 k)⟩
    have hp : (F ++ (G ++ H)).Perm (G ++ F ++ H) := by
      rw [← List.append_assoc]; exact List.Perm.append_right _ List.perm_append_comm
    exact hp.nodup g2
def ARet (P : Program) (res : List ResultVar) (rs : List AV) : Exit → St → Prop
  | .ret, st | .normal, st => ∃ as, RetL P st res as ∧ OutL st.hp as rs
  | _, _ => False
instance (P : Program) (res : List ResultVar) (rs : List AV) : ANoPan (ARet P res rs) := ⟨fun _ _ h => h⟩
theorem results_run {fn : Func} {vs : List Value} {E : Env} {w : World} (hl : vs.length = fn.results.toList.length) (hr : ∀ (i : Nat) r v, fn.results.toList[i]? = some r → vs[i]? = some v → Res P E w r v) (tmps : Array Value) (ht : ∀ t, tmps.getD t undef = E t) : (results fn tmps).run P w = .ok (tupV vs) w := by
  rw [results_eq]
  have key : ∀ (rs : List ResultVar) (vs : List Value), vs.length = rs.length → (∀ (i : Nat) r v, rs[i]? = some r → vs[i]? = some v → Res P E w r v) → (rs.mapM (resOf tmps)).run P w = .ok vs w := by
    intro rs
    induction rs with
    | nil => intro vs hl _; have : vs = [] := List.eq_nil_of_length_eq_zero hl; subst this; rfl
    | cons r rs ih =>
      intro vs hl hr
      cases vs with
      | nil => simp at hl
      | cons v vs =>
        have e1 := (hr 0 r v rfl rfl).run tmps ht
        have e2 := ih vs (by simpa using hl) (fun i r v h1 h2 => hr (i + 1) r v (by simpa using h1) (by simpa using h2))
        simp only [List.mapM_cons, Sem.run_bind, e1, Result.andThen_ok, e2, Sem.run_pure]
  have e := key fn.results.toList vs hl hr
  have e' : (fn.results.mapM (resOf tmps)).run P w = .ok vs.toArray w := by
    rw [← Array.toArray_toList (xs := fn.results), List.mapM_toArray, Sem.run_map, e]; rfl
  simp only [Sem.run_bind, e', Result.andThen_ok, Sem.run_pure]
  congr 1
  match vs with
  | [] => rfl
  | [v] => rfl
  | v :: u :: vs => simp [tupV]
mutual
/-- what is known of arguments: numbers and lengths fit -/
def WfA : AV → Prop
  | .i n => In64 n
  | .dt _ _ xs => xs.length ≤ 9223372036854775807
  | .ip cs => WfL cs
  | .agg cs => WfL cs
  | _ => True
def WfL : List AV → Prop
  | [] => True
  | a :: l => WfA a ∧ WfL l
end
theorem Imm.wf {Im : Nat → Prop} {w : World} {cs : List AV} {us : List Value} (h : Imm Im w cs us) : WfL cs := by
  induction h with
  | nil => trivial
  | int h _ ih => exact ⟨h, ih⟩
  | bool _ ih => exact ⟨trivial, ih⟩
  | no _ _ ih => exact ⟨trivial, ih⟩
  | sl0 _ _ ih => exact ⟨Nat.zero_le _, ih⟩
  | sl h1 h2 _ _ _ _ _ _ ih => exact ⟨Nat.le_trans h1 h2, ih⟩
mutual
theorem RV.wf {N : Nat} {C : Nat → Option Conc} {Im : Nat → Prop} {w : World} : ∀ (a : AV) (v : Value), RV N C Im w a v → WfA a
  | .i n, v, h => h.2
  | .b x, v, _ => trivial
  | .dt o sz xs, v, ⟨_, h⟩ => h.wf.1
  | .sl o n off m, v, _ => trivial
  | .pt o n k j, v, _ => trivial
  | .ip cs, v, ⟨b, o, us, h1, h2, h3, h4⟩ => h4.wf
  | .fn f cs, v, _ => trivial
  | .agg cs, v, ⟨us, h1, h2⟩ => RVL.wf cs us h2
  | .tu cs, v, _ => trivial
  | .nl, v, _ => trivial
  | .em, v, _ => trivial
  | .no, v, _ => trivial
theorem RVL.wf {N : Nat} {C : Nat → Option Conc} {Im : Nat → Prop} {w : World} : ∀ (cs : List AV) (us : List Value), RVL N C Im w cs us → WfL cs
  | [], us, _ => trivial
  | a :: cs, us, ⟨v, vs, h1, h2, h3⟩ => ⟨RV.wf a v h2, RVL.wf cs vs h3⟩
end
/-- a call that writes nothing of what is there -/
def Fr0 (w : World) : Fr := ⟨[], fun k => k < w.heap.size, []⟩
theorem AC.go {f : FuncId} {fn : Func} {n : Nat} {c : Code} {bs rs : List AV} (hf : P.funcs[f]? = some fn) (hn : fn.ntmps = n) (hb : fn.body = some c) (ha : Nat.ble bs.length n = true)
    (h : ∀ w0, WfL bs → AW P n w0 (Fr0 w0) c (ARet P fn.results.toList rs) ⟨fun t => bs.getD t .no, fun _ => .dead, 0⟩) : AC P f bs rs := fun w us hus => by
  have hul := RVL.length hus
  refine Run.go hf hn hb (by rw [hul]; exact ha) ?_
  have hS : Sim w (Fr0 w) ⟨fun t => bs.getD t .no, fun _ => .dead, 0⟩ (fr us) w := by
    refine ⟨noC, fun k => k < w.heap.size, ⟨fun _ _ _ => rfl, Nat.le_refl _, rfl, rfl, rfl⟩, fun _ h => h, fun t => ?_, fun _ _ => rfl, (fun o l sz xs h => by cases h), fun _ _ => rfl, (fun o o' cc cc' _ h => by cases h), fun k hk => .inl hk, fun p hp => by cases hp⟩
    simp only [fr]
    by_cases ht : t < bs.length
    · obtain ⟨v, h1, h2⟩ := RVL.get hus (i := t) (a := bs[t]) (by simp [ht])
      rw [List.getD_eq_getElem?_getD, List.getD_eq_getElem?_getD, h1]
      simpa [ht] using h2
    · have : bs.getD t .no = .no := by simp [Nat.le_of_not_lt ht]
      rw [this]; trivial
  refine (h w (RVL.wf _ _ hus) _ _ hS).mono fun e E' w' ⟨st', ⟨C, Im, hm⟩, hq⟩ => ?_
  have key : (∃ as, RetL P st' fn.results.toList as ∧ OutL st'.hp as rs) → ∃ v, (∀ tmps : Array Value, (∀ t, tmps.getD t undef = E' t) → (results fn tmps).run P w' = .ok v w') ∧ (Later w w' ∧ ∃ vs F, v = tupV vs ∧ ResL w' rs vs F ∧ F.Nodup ∧ ∀ k ∈ F, w.heap.size ≤ k) := by
    rintro ⟨as, h1, h2⟩
    obtain ⟨vs, g1, g2, g3⟩ := h1.spec hm
    obtain ⟨F, k1, k2, k3⟩ := h2.spec (st := st') (H := []) (show Sm w (Fr0 w) ⟨st'.E, st'.hp, st'.nx⟩ C Im E' w' from hm) g1 Loose.nil
    exact ⟨tupV vs, fun tmps ht => results_run g2 g3 tmps ht, hm.tch.below (Nat.le_refl _) (fun k hk => by cases hk), vs, F, rfl, k1, by simpa using k2, fun k hk => (k3 k hk).elim id fun h => by cases h⟩
  cases e with
  | normal => exact key hq
  | ret => exact key hq
  | _ => exact hq.elim
end
end Go.Proofs.YtedjajokbdokhaaGreat.V

/- The walk's steps: each operation by its kind, the next step found by trying the rules in turn. Over any program; nothing is claimed of the given one. -/
namespace Go.Proofs.YtedjajokbdokhaaGreat.V
open V.Enc (enc)
open Go.RowKit G
set_option linter.unusedVariables false
set_option linter.unusedSimpArgs false

def putE (E : Nat → AV) (d : Option Tmp) (a : AV) : Nat → AV := match d with | some d => updA E d a | none => E
theorem putA_eq (st : St) (d : Option Tmp) (a : AV) : putA st d a = ⟨putE st.E d a, st.hp, st.nx⟩ := by cases d <;> rfl
section
variable {P : Program} {n : Nat} {w0 : World} {MP : Fr} {Q : Exit → St → Prop} {E : Nat → AV} {hp : Nat → Ob} {nx : Nat} {lb : Bool} {ops : Array Oper} {os : List Oper} {d : Option Tmp} {ty : TypeId} {pos : String} {af : Array Edge} {g : Option (Nat × Bool)} {x y z : Operand}
theorem F.sil {pu : Bool} {op : Op} {a : AV} (hs : ASil pu P w0 MP ⟨E, hp, nx⟩ ⟨d, op, ty, pos, af, g⟩ a) (hw : awant n ops ⟨d, op, ty, pos, af, g⟩ E true = true) (hd : fits n d = true) (h : ARg P n w0 MP lb ops os Q ⟨putE E d a, hp, nx⟩) : ARg P n w0 MP lb ops (⟨d, op, ty, pos, af, g⟩ :: os) Q ⟨E, hp, nx⟩ :=
  ARg.sil hs hw hd (by rw [putA_eq]; exact h)
theorem F.skip {op : Op} (hw : awant n ops ⟨d, op, ty, pos, af, g⟩ E false = true) (hd : fits n d = true) (h : ARg P n w0 MP lb ops os Q ⟨putE E d (.tu []), hp, nx⟩) : ARg P n w0 MP lb ops (⟨d, op, ty, pos, af, g⟩ :: os) Q ⟨E, hp, nx⟩ :=
  ARg.skip hw hd (by rw [putA_eq]; exact h)
theorem F.boxG {e : TypeId} {cs : List AV} {sz : Nat} (hx : evA ⟨E, hp, nx⟩ x = .agg cs) (hl : cs.length = sz) (hc : cs.all cellB = true) (hw : awant n ops ⟨d, .box e x, ty, pos, af, g⟩ E true = true) (hd : fits n d = true)
    (h : ARg P n w0 MP lb ops os Q ⟨putE E d (.pt nx 1 0 0), updA hp nx (.live false sz [cs]), nx + 1⟩) : ARg P n w0 MP lb ops (⟨d, .box e x, ty, pos, af, g⟩ :: os) Q ⟨E, hp, nx⟩ := by
  subst hl; exact R.boxG hx hc hw hd (by rw [putA_eq]; exact h)
theorem F.boxC {e : TypeId} {a : AV} (hx : evA ⟨E, hp, nx⟩ x = a) (hc : cellB a = true) (hw : awant n ops ⟨d, .box e x, ty, pos, af, g⟩ E true = true) (hd : fits n d = true)
    (h : ARg P n w0 MP lb ops os Q ⟨putE E d (.pt nx 1 0 0), updA hp nx (.live false 1 [[a]]), nx + 1⟩) : ARg P n w0 MP lb ops (⟨d, .box e x, ty, pos, af, g⟩ :: os) Q ⟨E, hp, nx⟩ :=
  R.boxC hx hc hw hd (by rw [putA_eq]; exact h)
theorem F.alloc {e sz : Nat} {cs : List AV} [hz : HasZ P e sz cs] (hw : awant n ops ⟨d, .alloc e, ty, pos, af, g⟩ E true = true) (hd : fits n d = true)
    (h : ARg P n w0 MP lb ops os Q ⟨putE E d (.pt nx 1 0 0), updA hp nx (.live false sz [cs]), nx + 1⟩) : ARg P n w0 MP lb ops (⟨d, .alloc e, ty, pos, af, g⟩ :: os) Q ⟨E, hp, nx⟩ :=
  R.alloc hw hd (by rw [putA_eq]; exact h)
theorem F.mk {t e m : Nat} {l : Int} (α : Type) [Enc α] {z : α} [hu : HasU P t (.slice e)] [hz : ZeroE P e α z] (hx : evA ⟨E, hp, nx⟩ x = .i l) (hy : evA ⟨E, hp, nx⟩ y = .i l) (hl : l = (m : Int)) (hb : ∀ sz bys zz, HasI P e sz bys zz → bys * m ≤ 281474976710656) (hmx : m ≤ 9223372036854775807)
    (hw : awant n ops ⟨d, .makeSlice t x y, ty, pos, af, g⟩ E true = true) (hd : fits n d = true)
    (h : ARg P n w0 MP lb ops os Q ⟨putE E d (.sl nx m 0 m), updA hp nx (.live false (Enc.nc α) (V.E true (List.replicate m z))), nx + 1⟩) : ARg P n w0 MP lb ops (⟨d, .makeSlice t x y, ty, pos, af, g⟩ :: os) Q ⟨E, hp, nx⟩ :=
  R.mk α hx hy hl hb hmx hw hd (by rw [putA_eq]; exact h)
theorem F.lit0 {t e sz bys : Nat} {zz : Value} [hu : HasU P t (.slice e)] [hi : HasI P e sz bys zz] (hw : awant n ops ⟨d, .buildSlice t 0 #[], ty, pos, af, g⟩ E true = true) (hd : fits n d = true)
    (h : ARg P n w0 MP lb ops os Q ⟨putE E d .em, hp, nx⟩) : ARg P n w0 MP lb ops (⟨d, .buildSlice t 0 #[], ty, pos, af, g⟩ :: os) Q ⟨E, hp, nx⟩ :=
  R.lit0 hw hd (by rw [putA_eq]; exact h)
theorem F.lit1G {t e sz bys : Nat} {zz : Value} {cs : List AV} [hu : HasU P t (.slice e)] [hi : HasI P e sz bys zz] (hx : evA ⟨E, hp, nx⟩ x = .agg cs) (hc : (cs.all cellB && Nat.beq cs.length sz) = true) (hsz : Nat.ble sz 16777216 = true) (hs0 : Nat.blt 0 sz = true) (hw : awant n ops ⟨d, .buildSlice t 1 #[(0, x)], ty, pos, af, g⟩ E true = true) (hd : fits n d = true)
    (h : ARg P n w0 MP lb ops os Q ⟨putE E d (.sl nx 1 0 1), updA hp nx (.live false sz [cs]), nx + 1⟩) : ARg P n w0 MP lb ops (⟨d, .buildSlice t 1 #[(0, x)], ty, pos, af, g⟩ :: os) Q ⟨E, hp, nx⟩ :=
  R.lit (xs := [cs]) (by simp [hx, cellsA]) rfl rfl (by simpa using hsz) hs0 (by simpa [hx, cellsA] using hc) hw hd (by rw [putA_eq]; exact h)
theorem F.lit1C {t e bys : Nat} {zz : Value} {a : AV} [hu : HasU P t (.slice e)] [hi : HasI P e 1 bys zz] (hx : evA ⟨E, hp, nx⟩ x = a) (hc : cellB a = true) (hw : awant n ops ⟨d, .buildSlice t 1 #[(0, x)], ty, pos, af, g⟩ E true = true) (hd : fits n d = true)
    (h : ARg P n w0 MP lb ops os Q ⟨putE E d (.sl nx 1 0 1), updA hp nx (.live false 1 [[a]]), nx + 1⟩) : ARg P n w0 MP lb ops (⟨d, .buildSlice t 1 #[(0, x)], ty, pos, af, g⟩ :: os) Q ⟨E, hp, nx⟩ := by
  have e : cellsA a = [a] := by cases a <;> first | rfl | cases hc
  exact R.lit (xs := [[a]]) (by simp [hx, e]) rfl rfl rfl rfl (by simp [hx, e, hc]) hw hd (by rw [putA_eq]; exact h)
theorem F.litN {t e sz bys len : Nat} {zz : Value} {ps : Array (Nat × Operand)} [hu : HasU P t (.slice e)] [hi : HasI P e sz bys zz] {xs : List (List AV)} (hxs : (ps.toList.map fun p => cellsA (evA ⟨E, hp, nx⟩ p.2)) = xs) (hk : ps.toList.map (·.1) = List.range' 0 ps.toList.length) (hlen : ps.toList.length = len) (hsz : Nat.ble (len * sz) 16777216 = true) (hs0 : Nat.blt 0 sz = true)
    (hc : (ps.toList.all fun p => (cellsA (evA ⟨E, hp, nx⟩ p.2)).all cellB && Nat.beq (cellsA (evA ⟨E, hp, nx⟩ p.2)).length sz) = true)
    (hw : awant n ops ⟨d, .buildSlice t len ps, ty, pos, af, g⟩ E true = true) (hd : fits n d = true)
    (h : ARg P n w0 MP lb ops os Q ⟨putE E d (.sl nx len 0 len), updA hp nx (.live false sz xs), nx + 1⟩) : ARg P n w0 MP lb ops (⟨d, .buildSlice t len ps, ty, pos, af, g⟩ :: os) Q ⟨E, hp, nx⟩ :=
  R.lit hxs hk hlen hsz hs0 hc hw hd (by rw [putA_eq]; exact h)
theorem F.app1 {α : Type} [Enc α] {t e bys o n' m : Nat} {zz : Value} {lt l oo : Bool} {ls : List α} {a : α} {c ds : List AV} {o2 : Nat} {hp3 : Nat → Ob} [hu : HasU P t (.slice e)] [hi : HasI P e (Enc.nc α) bys zz]
    (hx : evA ⟨E, hp, nx⟩ x = .sl o m 0 m) (ho : hp o = .live lt (Enc.nc α) (V.E oo ls)) (hy : evA ⟨E, hp, nx⟩ y = .sl o2 1 0 1) (hm : ls.length = m) (ho2 : hp o2 = .live l (Enc.nc α) [c]) (hll : (l || lt) = lt) (hmv : Mv lt (updA hp o2 .dead) c ds hp3) (ho3 : hp3 o = .live lt (Enc.nc α) (V.E oo ls)) (hds : enc oo a = ds) (hn' : m + 1 = n')
    (hby : n' * bys ≤ 140737488355328) (hmx : n' ≤ 9223372036854775807) (hz : zz.cells.size = Enc.nc α) (hs0 : Nat.blt 0 (Enc.nc α) = true)
    (hw : awant n ops ⟨d, .call ⟨.builtin .append, #[x, y], #[t, t]⟩, ty, pos, af, g⟩ E true = true) (hd : fits n d = true) (hlb : lb = false)
    (h : ARg P n w0 MP lb ops os Q ⟨putE E d (.sl o n' 0 n'), updA hp3 o (.live lt (Enc.nc α) (V.E oo (ls ++ [a]))), nx⟩) : ARg P n w0 MP lb ops (⟨d, .call ⟨.builtin .append, #[x, y], #[t, t]⟩, ty, pos, af, g⟩ :: os) Q ⟨E, hp, nx⟩ :=
  R.app1 hx hy ho hm ho2 hll hmv ho3 hds hn' hby hmx hz hs0 hw hd hlb (by rw [putA_eq]; exact h)
theorem F.appL {α : Type} [Enc α] {t e bys o n' m : Nat} {zz : Value} {lt oo : Bool} {ls ls2 : List α} {b : AV} {hp2 : Nat → Ob} [hu : HasU P t (.slice e)] [hi : HasI P e (Enc.nc α) bys zz]
    (hx : evA ⟨E, hp, nx⟩ x = .sl o m 0 m) (ho : hp o = .live lt (Enc.nc α) (V.E oo ls)) (hm : ls.length = m) (hy : evA ⟨E, hp, nx⟩ y = b) (hsrc : SrcA lt hp b (V.E oo ls2) (Enc.nc α) hp2) (ho3 : hp2 o = .live lt (Enc.nc α) (V.E oo ls)) (hn' : m + ls2.length = n')
    (hby : n' * bys ≤ 140737488355328) (hmx : n' ≤ 9223372036854775807) (hz : zz.cells.size = Enc.nc α) (hs0 : Nat.blt 0 (Enc.nc α) = true)
    (hw : awant n ops ⟨d, .call ⟨.builtin .append, #[x, y], #[t, t]⟩, ty, pos, af, g⟩ E true = true) (hd : fits n d = true) (hlb : lb = false)
    (h : ARg P n w0 MP lb ops os Q ⟨putE E d (.sl o n' 0 n'), updA hp2 o (.live lt (Enc.nc α) (V.E oo (ls ++ ls2))), nx⟩) : ARg P n w0 MP lb ops (⟨d, .call ⟨.builtin .append, #[x, y], #[t, t]⟩, ty, pos, af, g⟩ :: os) Q ⟨E, hp, nx⟩ :=
  R.appL hx ho hm (by rw [hy]; exact hsrc) ho3 hn' hby hmx hz hs0 hw hd hlb (by rw [putA_eq]; exact h)
theorem F.appLN {α : Type} [Enc α] {t e bys n' : Nat} {zz : Value} {oo : Bool} {ls2 : List α} {b : AV} {hp2 : Nat → Ob} [hu : HasU P t (.slice e)] [hi : HasI P e (Enc.nc α) bys zz]
    (hx : evA ⟨E, hp, nx⟩ x = .nl ∨ evA ⟨E, hp, nx⟩ x = .em) (hy : evA ⟨E, hp, nx⟩ y = b) (hsrc : SrcA false (updA hp nx (.live false (Enc.nc α) [])) b (V.E oo ls2) (Enc.nc α) hp2) (ho3 : hp2 nx = .live false (Enc.nc α) []) (hn' : ls2.length = n')
    (hby : n' * bys ≤ 140737488355328) (hmx : n' ≤ 9223372036854775807) (hz : zz.cells.size = Enc.nc α) (hs0 : Nat.blt 0 (Enc.nc α) = true)
    (hw : awant n ops ⟨d, .call ⟨.builtin .append, #[x, y], #[t, t]⟩, ty, pos, af, g⟩ E true = true) (hd : fits n d = true)
    (h : ARg P n w0 MP lb ops os Q ⟨putE E d (.sl nx n' 0 n'), updA hp2 nx (.live false (Enc.nc α) (V.E oo ls2)), nx + 1⟩) : ARg P n w0 MP lb ops (⟨d, .call ⟨.builtin .append, #[x, y], #[t, t]⟩, ty, pos, af, g⟩ :: os) Q ⟨E, hp, nx⟩ :=
  R.appLN hx (by rw [hy]; exact hsrc) ho3 hn' hby hmx hz hs0 hw hd (by rw [putA_eq]; exact h)
/-- to an object that is known to be empty -/
theorem F.stR {t bys o nn k j sz : Nat} {zz : Value} {l : Bool} {xs : List (List AV)} {c : List AV} {a : AV} [hi : HasI P t 1 bys zz] (hx : evA ⟨E, hp, nx⟩ x = .pt o nn k j) (hy : evA ⟨E, hp, nx⟩ y = a) (hca : cellB a = true) (hh : hp o = .live l sz xs) (hn : xs.length = nn) (hk : xs[k]? = some c) (hj : Nat.blt j c.length = true)
    (hw : awant n ops ⟨d, .store t x y, ty, pos, af, g⟩ E true = true) (hd : fits n d = true) (hlb : lb = false)
    (h : ARg P n w0 MP lb ops os Q ⟨putE E d .no, updA hp o (.live l sz (xs.set k (c.set j a))), nx⟩) : ARg P n w0 MP lb ops (⟨d, .store t x y, ty, pos, af, g⟩ :: os) Q ⟨E, hp, nx⟩ :=
  R.stR hx hy hca hh hn hk hj hw hd hlb (by rw [putA_eq]; exact h)
/-- one variable -/
theorem F.stV {t bys o sz : Nat} {zz : Value} {l : Bool} {c a : AV} [hi : HasI P t 1 bys zz] (hx : evA ⟨E, hp, nx⟩ x = .pt o 1 0 0) (hy : evA ⟨E, hp, nx⟩ y = a) (hca : cellB a = true) (hh : hp o = .live l sz [[c]])
    (hw : awant n ops ⟨d, .store t x y, ty, pos, af, g⟩ E true = true) (hd : fits n d = true) (hlb : lb = false)
    (h : ARg P n w0 MP lb ops os Q ⟨putE E d .no, updA hp o (.live l sz [[a]]), nx⟩) : ARg P n w0 MP lb ops (⟨d, .store t x y, ty, pos, af, g⟩ :: os) Q ⟨E, hp, nx⟩ :=
  R.stR hx hy hca hh rfl rfl rfl hw hd hlb (by rw [putA_eq]; exact h)
theorem F.stI {t bys o nn k sz : Nat} {zz : Value} {l oo : Bool} {ls : List Int} {v : Int} [hi : HasI P t 1 bys zz] (hx : evA ⟨E, hp, nx⟩ x = .pt o nn k 0) (hy : evA ⟨E, hp, nx⟩ y = .i v) (hh : hp o = .live l sz (V.E oo ls)) (hn : ls.length = nn) (hk : k < ls.length)
    (hw : awant n ops ⟨d, .store t x y, ty, pos, af, g⟩ E true = true) (hd : fits n d = true) (hlb : lb = false)
    (h : ARg P n w0 MP lb ops os Q ⟨putE E d .no, updA hp o (.live l sz (V.E oo (ls.set k v))), nx⟩) : ARg P n w0 MP lb ops (⟨d, .store t x y, ty, pos, af, g⟩ :: os) Q ⟨E, hp, nx⟩ :=
  R.stI hx hy hh hn hk hw hd hlb (by rw [putA_eq]; exact h)
theorem F.stE {α : Type} [Enc α] [Inhabited α] {t bys o nn k j sz : Nat} {zz : Value} {l oo : Bool} {ls : List α} (v : α) {a a' : AV} {hp' : Nat → Ob} [hi : HasI P t 1 bys zz] (hx : evA ⟨E, hp, nx⟩ x = .pt o nn k j) (hh : hp o = .live l sz (V.E oo ls)) (hy : evA ⟨E, hp, nx⟩ y = a) (hca : cellB a = true) (hn : ls.length = nn) (hk : k < ls.length) (hj : Nat.blt j (Enc.nc α) = true)
    (hmv : Mv l hp [a] [a'] hp') (hh' : hp' o = .live l sz (V.E oo ls)) (he : (enc oo (ls.getD k default)).set j a' = enc oo v) (hw : awant n ops ⟨d, .store t x y, ty, pos, af, g⟩ E true = true) (hd : fits n d = true) (hlb : lb = false)
    (h : ARg P n w0 MP lb ops os Q ⟨putE E d .no, updA hp' o (.live l sz (V.E oo (ls.set k v))), nx⟩) : ARg P n w0 MP lb ops (⟨d, .store t x y, ty, pos, af, g⟩ :: os) Q ⟨E, hp, nx⟩ :=
  R.stE hx hy hca hh hn hk hj hmv hh' he hw hd hlb (by rw [putA_eq]; exact h)
theorem F.stGW {t sz bys o esz : Nat} {zz : Value} {l : Bool} {c cs : List AV} [hi : HasI P t sz bys zz] (hx : evA ⟨E, hp, nx⟩ x = .pt o 1 0 0) (hy : evA ⟨E, hp, nx⟩ y = .agg cs) (hca : cs.all cellB = true) (hcl : cs.length = sz) (hh : hp o = .live l esz [c]) (hl : c.length = cs.length)
    (hw : awant n ops ⟨d, .store t x y, ty, pos, af, g⟩ E true = true) (hd : fits n d = true) (hlb : lb = false)
    (h : ARg P n w0 MP lb ops os Q ⟨putE E d .no, updA hp o (.live l esz [cs]), nx⟩) : ARg P n w0 MP lb ops (⟨d, .store t x y, ty, pos, af, g⟩ :: os) Q ⟨E, hp, nx⟩ :=
  R.stGW hx hy hca hcl hh hl hw hd hlb (by rw [putA_eq]; exact h)
/-- a struct that is a field of a variable -/
theorem F.stGF {t sz bys o esz j : Nat} {zz : Value} {l : Bool} {c cs c' : List AV} [hi : HasI P t sz bys zz] (hx : evA ⟨E, hp, nx⟩ x = .pt o 1 0 j) (hy : evA ⟨E, hp, nx⟩ y = .agg cs) (hca : cs.all cellB = true) (hcl : cs.length = sz) (hh : hp o = .live l esz [c]) (hj : Nat.ble (j + cs.length) c.length = true) (hc : c.take j ++ cs ++ c.drop (j + cs.length) = c')
    (hw : awant n ops ⟨d, .store t x y, ty, pos, af, g⟩ E true = true) (hd : fits n d = true) (hlb : lb = false)
    (h : ARg P n w0 MP lb ops os Q ⟨putE E d .no, updA hp o (.live l esz [c']), nx⟩) : ARg P n w0 MP lb ops (⟨d, .store t x y, ty, pos, af, g⟩ :: os) Q ⟨E, hp, nx⟩ := by
  subst hc
  have hat : ∀ {cs : List AV}, cs.all cellB = true → Mv l hp cs cs hp := by
    intro cs
    induction cs with
    | nil => intro _; exact .nil
    | cons a cs ih => intro h; rw [List.all_cons, Bool.and_eq_true] at h; exact .at1 h.1 (ih h.2)
  exact R.stG hx hy hca hcl hh rfl (c := c) rfl (ds := cs) hj (hat hca) hh hw hd hlb (by rw [putA_eq]; exact h)
theorem F.stGE {α : Type} [Enc α] [Inhabited α] {t bys o nn k : Nat} {zz : Value} {l oo : Bool} {ls : List α} {v : α} {cs ds : List AV} {hp' : Nat → Ob} {esz : Nat} [hi : HasI P t (Enc.nc α) bys zz] (hx : evA ⟨E, hp, nx⟩ x = .pt o nn k 0) (hh : hp o = .live l esz (V.E oo ls)) (hy : evA ⟨E, hp, nx⟩ y = .agg cs) (hca : cs.all cellB = true) (hcl : cs.length = Enc.nc α) (hn : ls.length = nn) (hk : k < ls.length)
    (hmv : Mv l hp cs ds hp') (hh' : hp' o = .live l esz (V.E oo ls)) (he : enc oo v = ds) (hw : awant n ops ⟨d, .store t x y, ty, pos, af, g⟩ E true = true) (hd : fits n d = true) (hlb : lb = false)
    (h : ARg P n w0 MP lb ops os Q ⟨putE E d .no, updA hp' o (.live l esz (V.E oo (ls.set k v))), nx⟩) : ARg P n w0 MP lb ops (⟨d, .store t x y, ty, pos, af, g⟩ :: os) Q ⟨E, hp, nx⟩ :=
  R.stGE hx hy hca hcl hh hn hk hmv hh' he hw hd hlb (by rw [putA_eq]; exact h)
theorem F.call {f : FuncId} {args : Array Operand} {ats : Array TypeId} {bs rs as : List AV} {a : AV} {ob : List (Nat × List (List AV))} [hf : IsFn P f] (hc : AC P f bs rs) (hs : SnapL hp (args.toList.map (evA ⟨E, hp, nx⟩)) bs) (ht : ThwR nx rs as ob) (ha : tupA as = a)
    (hw : awant n ops ⟨d, .call ⟨.value (.func f), args, ats⟩, ty, pos, af, g⟩ E true = true) (hd : fits n d = true) (h : ARg P n w0 MP lb ops os Q ⟨putE E d a, addO hp nx ob, nx + ob.length⟩) : ARg P n w0 MP lb ops (⟨d, .call ⟨.value (.func f), args, ats⟩, ty, pos, af, g⟩ :: os) Q ⟨E, hp, nx⟩ := by
  subst ha; exact R.call hc hs ht hw hd (by unfold callS; rw [putA_eq]; exact h)
theorem F.callV {f : FuncId} {args : Array Operand} {ats : Array TypeId} {bs rs as caps : List AV} {a : AV} {ob : List (Nat × List (List AV))} [hf : IsFn P f] (hx : evA ⟨E, hp, nx⟩ x = .fn f caps) (hc : AC P f bs rs) (hs : SnapL hp (args.toList.map (evA ⟨E, hp, nx⟩) ++ caps) bs) (ht : ThwR nx rs as ob) (ha : tupA as = a)
    (hw : awant n ops ⟨d, .call ⟨.value x, args, ats⟩, ty, pos, af, g⟩ E true = true) (hd : fits n d = true) (h : ARg P n w0 MP lb ops os Q ⟨putE E d a, addO hp nx ob, nx + ob.length⟩) : ARg P n w0 MP lb ops (⟨d, .call ⟨.value x, args, ats⟩, ty, pos, af, g⟩ :: os) Q ⟨E, hp, nx⟩ := by
  subst ha; exact R.callV hx hc hs ht hw hd (by unfold callS; rw [putA_eq]; exact h)
/-- is a slice nil? -/
theorem run_eqNil {E : Env} {w : World} {t t' e l c : Nat} {p : Option Addr} [hu : HasU P t (.slice e)] (h : G.ev E x = .slice p l c) : (execOp (G.ev E) ⟨d, .binOp .eql t x (.const (.slice none 0 0)) t', ty, pos, af, g⟩).run P w = .ok (.value (.bool p.isNone)) w := by
  have h1 := Lib.run_eql_slice_nil (P := P) w t e p l c 0 0 hu.u
  have hc : G.ev E (.const (.slice none 0 0)) = .slice none 0 0 := rfl
  simp [execOp, h, hc, eqGuard, h1]
theorem A.eqN {t t' e : Nat} [hu : HasU P t (.slice e)] (hx : evA ⟨E, hp, nx⟩ x = .nl) : ASil true P w0 MP ⟨E, hp, nx⟩ ⟨d, .binOp .eql t x (.const (.slice none 0 0)) t', ty, pos, af, g⟩ (.b true) := fun C Im E w hm => by
  have h := hm.ev x
  rw [hx] at h
  refine ⟨.bool true, fun w' => ?_, rfl⟩
  unfold Sil
  exact fun w2 _ => run_eqNil h
theorem F.eqD {t t' e sz : Nat} {o : Bool} {xs : List (List AV)} [hu : HasU P t (.slice e)] (hx : evA ⟨E, hp, nx⟩ x = .dt o sz xs) (hw : awant n ops ⟨d, .binOp .eql t x (.const (.slice none 0 0)) t', ty, pos, af, g⟩ E true = true) (hd : fits n d = true)
    (h : ∀ b : Bool, (b = true → xs.length = 0) → ARg P n w0 MP lb ops os Q ⟨putE E d (.b b), hp, nx⟩) : ARg P n w0 MP lb ops (⟨d, .binOp .eql t x (.const (.slice none 0 0)) t', ty, pos, af, g⟩ :: os) Q ⟨E, hp, nx⟩ := fun E' w ⟨C, Im, hm⟩ => by
  have hv := hm.ev x
  rw [hx] at hv
  obtain ⟨p, c, h1, h2, h3, h4⟩ := hv.2.sl_inv
  refine G.Rg.val (awant_spec hm hw) (run_eqNil h1) hd ?_
  have := h p.isNone (fun hb => by
    rcases h4 with h4 | ⟨b, q, us, h5, _⟩
    · rw [h4]; rfl
    · rw [h5] at hb; cases hb)
  have hm' := hm.put d (a := .b p.isNone) (v := .bool p.isNone) rfl
  rw [putA_eq] at hm'
  exact this _ _ ⟨C, Im, hm'⟩
theorem run_sliceB {P : Program} {w : World} (a : Int) (y : Nat) (c : BoundsCode) (h : 0 ≤ a ∧ a ≤ (y : Int)) : (Instr.sliceBound (.int .i64 a) y c).run P w = .ok a.toNat w := by
  simp [Instr.sliceBound, asIntOf, h]
def bndV (E : Env) (o : Option Operand) (dflt v : Nat) : Prop := match o with | none => v = dflt | some y => G.ev E y = .int .i64 (v : Int)
theorem run_slc {E : Env} {w : World} {t e sz bys l c lo hi' : Nat} {zz : Value} {p : Option Addr} {ol oh : Option Operand} [hu : HasU P t (.slice e)] [hi : HasI P e sz bys zz] (hx : G.ev E x = .slice p l c)
    (hl : bndV E ol 0 lo) (hh : bndV E oh l hi') (h1 : lo ≤ hi') (h2 : hi' ≤ c) :
    (execOp (G.ev E) ⟨d, .slice t x ol oh none, ty, pos, af, g⟩).run P w = .ok (.value (.slice (if c = lo then p else p.map (·.add (lo * sz))) (hi' - lo) (c - lo))) w := by
  have u := hu.und w
  have s := hi.sizeOf w
  cases ol with
  | none =>
    simp only [bndV] at hl
    subst hl
    cases oh with
    | none => simp only [bndV] at hh; subst hh; simp [execOp, Instr.sliceAt, Instr.slice, u, s, hx, Instr.sliceBounds]
    | some y =>
      simp only [bndV] at hh
      have b := fun w => run_sliceB (P := P) (w := w) (hi' : Int) c .sliceAcap ⟨by omega, by omega⟩
      simp [execOp, Instr.sliceAt, Instr.slice, u, s, hx, hh, Instr.sliceBounds, b]
  | some z =>
    simp only [bndV] at hl
    cases oh with
    | none =>
      simp only [bndV] at hh; subst hh
      have b := fun w => run_sliceB (P := P) (w := w) (lo : Int) hi' .sliceB ⟨by omega, by omega⟩
      simp [execOp, Instr.sliceAt, Instr.slice, u, s, hx, hl, Instr.sliceBounds, b]
    | some y =>
      simp only [bndV] at hh
      have b := fun w => run_sliceB (P := P) (w := w) (hi' : Int) c .sliceAcap ⟨by omega, by omega⟩
      have b2 := fun w => run_sliceB (P := P) (w := w) (lo : Int) hi' .sliceB ⟨by omega, by omega⟩
      simp [execOp, Instr.sliceAt, Instr.slice, u, s, hx, hl, hh, Instr.sliceBounds, b, b2]
def bndA (st : St) (o : Option Operand) (dflt v : Nat) : Prop := match o with | none => v = dflt | some y => evA st y = .i (v : Int)
theorem Sm.bnd {w0 : World} {MP : Fr} {st : St} {C : Nat → Option Conc} {Im : Nat → Prop} {E : Env} {w : World} (hm : Sm w0 MP st C Im E w) {o : Option Operand} {dflt v : Nat} (h : bndA st o dflt v) : bndV E o dflt v := by
  cases o with
  | none => exact h
  | some y => exact (hm.evI (show evA st y = .i (v : Int) from h)).1
theorem A.slcS {t e sz bys o k off m lo hi' : Nat} {zz : Value} {ol oh : Option Operand} {l : Bool} {xs : List (List AV)} [hu : HasU P t (.slice e)] [hi : HasI P e sz bys zz] (hx : evA ⟨E, hp, nx⟩ x = .sl o k off m) (hh : hp o = .live l sz xs) (hn : xs.length = k) (hl : bndA ⟨E, hp, nx⟩ ol 0 lo) (hr : bndA ⟨E, hp, nx⟩ oh m hi') (h1 : lo ≤ hi') (h2 : hi' ≤ m) :
    ASil true P w0 MP ⟨E, hp, nx⟩ ⟨d, .slice t x ol oh none, ty, pos, af, g⟩ (.sl o k (off + lo) (hi' - lo)) := fun C Im E w hm => by
  have hv := hm.ev x
  rw [hx] at hv
  obtain ⟨p, c, g1, g2, g3, g4, g5⟩ := hv
  obtain ⟨cc, hcc, hO⟩ := hm.obj o l sz xs hh
  obtain ⟨s1, s2, s3⟩ := (g5 cc hcc).2 (by rw [hO.len, hn])
  refine ⟨.slice (if c = lo then p else p.map (·.add (lo * sz))) (hi' - lo) (c - lo), fun w' => ?_, ?_⟩
  · unfold Sil
    exact fun w2 _ => run_slc g1 (hm.bnd hl) (hm.bnd hr) h1 (by omega)
  · refine ⟨_, _, rfl, by omega, by omega, g4, fun cc' hc' => ⟨(g5 cc' hc').1, fun hl' => ?_⟩⟩
    rw [hcc] at hc'
    cases hc'
    refine ⟨by omega, fun e1 e2 => ?_, fun hne => ?_⟩
    · have e3 : off = 0 := by omega
      have e4 : lo = 0 := by omega
      subst e3; subst e4
      have e5 : m = cc.len := by omega
      have e6 : hi' = m := by omega
      subst e6
      rw [← s2 rfl e5, g1]
      have e7 : (if c = 0 then p else p.map (·.add (0 * sz))) = p := by
        split
        · rfl
        · cases p <;> simp [Addr.add]
      rw [e7]; rfl
    · obtain ⟨b, c', f1, f2⟩ := s3 (by omega)
      rw [g1] at f2
      simp only [Value.slice.injEq, true_and] at f2
      obtain ⟨rfl, rfl⟩ := f2
      refine ⟨b, c - lo, f1, ?_⟩
      have hne' : c ≠ lo := by omega
      rw [if_neg hne']
      simp only [Option.map_some, G.add_none, hO.esz, Nat.add_mul]
theorem A.slcD {α : Type} [Enc α] {t e bys lo hi' : Nat} {zz : Value} {ol oh : Option Operand} {o oo : Bool} {ls : List α} [hu : HasU P t (.slice e)] [hi : HasI P e (Enc.nc α) bys zz] (hx : evA ⟨E, hp, nx⟩ x = .dt o (Enc.nc α) (V.E oo ls)) (hl : bndA ⟨E, hp, nx⟩ ol 0 lo) (hr : bndA ⟨E, hp, nx⟩ oh ls.length hi') (h1 : lo ≤ hi') (h2 : hi' ≤ ls.length) :
    ASil true P w0 MP ⟨E, hp, nx⟩ ⟨d, .slice t x ol oh none, ty, pos, af, g⟩ (.dt false (Enc.nc α) (V.E oo ((ls.take hi').drop lo))) := fun C Im E w hm => by
  have hv := hm.ev x
  rw [hx] at hv
  obtain ⟨p, c, g1, g2, g3, g4⟩ := hv.2.sl_inv
  rw [E_length] at g1 g2
  refine ⟨.slice (if c = lo then p else p.map (·.add (lo * Enc.nc α))) (hi' - lo) (c - lo), fun w' => ?_, rfl, ?_⟩
  · unfold Sil
    exact fun w2 _ => run_slc g1 (hm.bnd hl) (hm.bnd hr) h1 (by omega)
  · have hlen : (V.E oo ((ls.take hi').drop lo)).length = hi' - lo := by rw [E_length, List.length_drop, List.length_take]; omega
    have key : ∀ q k, hi' - lo ≤ k → k ≤ maxLen → (hi' - lo = 0 ∨ ∃ b o us, q = some ⟨b, o, none⟩ ∧ Im b ∧ Cells w b o us ∧ Imm Im w (V.E oo ((ls.take hi').drop lo)).flatten us) → Imm Im w [.dt false (Enc.nc α) (V.E oo ((ls.take hi').drop lo))] [.slice q (hi' - lo) k] := by
      rintro q k k1 k2 (h0 | ⟨b, o, us, rfl, f1, f2, f3⟩)
      · have : (ls.take hi').drop lo = [] := List.eq_nil_of_length_eq_zero (by rw [E_length] at hlen; omega)
        rw [this, h0]; exact .sl0 k2 .nil
      · rw [← hlen] at k1 ⊢
        exact .sl k1 k2 f1 f2 f3 (E_len _ _) .nil
    refine key _ _ (by omega) (by omega) ?_
    by_cases h0 : hi' - lo = 0
    · exact .inl h0
    · rcases g4 with g4 | ⟨b, q, us, rfl, f1, f2, f3, f4⟩
      · have := E_length oo ls
        rw [g4, List.length_nil] at this; omega
      · refine .inr ?_
        have hne : c ≠ lo := by omega
        rw [if_neg hne]
        have e1 : V.E oo ls = V.E oo (ls.take lo) ++ (V.E oo ((ls.take hi').drop lo) ++ V.E oo (ls.drop hi')) := by
          rw [← E_append, ← E_append]; congr 1
          have e2 : ls.take lo = (ls.take hi').take lo := by rw [List.take_take, Nat.min_eq_left h1]
          rw [e2, ← List.append_assoc, List.take_append_drop, List.take_append_drop]
        rw [e1, List.flatten_append, List.flatten_append] at f3
        obtain ⟨v1, v2, rfl, k1, k2⟩ := f3.split
        obtain ⟨v3, v4, rfl, k3, k4⟩ := k2.split
        have l1 := k1.length
        rw [flatten_len (sz := Enc.nc α) (fun x hx => E_len _ _ x hx), E_length, List.length_take, Nat.min_eq_left (by omega)] at l1
        have h7 := f2.drop
        rw [l1] at h7
        exact ⟨b, q + lo * Enc.nc α, v3, by simp [G.add_none], f1, h7.take, k3⟩
theorem A.slcN {t e sz bys lo hi' : Nat} {zz : Value} {ol oh : Option Operand} [hu : HasU P t (.slice e)] [hi : HasI P e sz bys zz] (hx : evA ⟨E, hp, nx⟩ x = .nl) (hl : bndA ⟨E, hp, nx⟩ ol 0 lo) (hr : bndA ⟨E, hp, nx⟩ oh 0 hi') (h1 : lo ≤ hi') (h2 : hi' = 0) :
    ASil true P w0 MP ⟨E, hp, nx⟩ ⟨d, .slice t x ol oh none, ty, pos, af, g⟩ .nl := fun C Im E w hm => by
  have hv := hm.ev x
  rw [hx] at hv
  subst h2
  obtain rfl : lo = 0 := by omega
  refine ⟨.slice none 0 0, fun w' => ?_, rfl⟩
  unfold Sil
  intro w2 _
  have := run_slc (P := P) (w := w2) (d := d) (ty := ty) (pos := pos) (af := af) (g := g) (t := t) (show G.ev E x = .slice none 0 0 from hv) (hm.bnd hl) (hm.bnd hr) (Nat.le_refl _) (Nat.le_refl _)
  simpa using this

/-! ### struct literals -/
/-- where the fields of a struct lie: offset and cells -/
class HasP (P : Program) (t : Nat) (pl : outParam (List (Nat × Nat))) : Prop where
  h : ∃ fields : Array Field, P.underlying t = some (.struct fields) ∧ ∀ w, (fields.mapM fun (f : Field) => Functor.map (Prod.mk f.offset) (sizeOf f.type)).run P w = .ok pl.toArray w
def lay1 (cs : List AV) (o : Nat) (ds : List AV) : List AV := cs.take o ++ ds ++ cs.drop (o + ds.length)
def fillA (pl : List (Nat × Nat)) : List AV → List (Nat × List AV) → Option (List AV)
  | cs, [] => some cs
  | cs, (i, ds) :: ps => match pl[i]? with
    | some (o, s) => bif Nat.beq ds.length s && Nat.ble (o + ds.length) cs.length then fillA pl (lay1 cs o ds) ps else none
    | none => none
theorem RVL.lay1 {N : Nat} {C : Nat → Option Conc} {Im : Nat → Prop} {w : World} {cs ds : List AV} {us vs : List Value} (h : RVL N C Im w cs us) (k : RVL N C Im w ds vs) (o : Nat) : RVL N C Im w (V.lay1 cs o ds) (us.take o ++ vs ++ us.drop (o + vs.length)) := by
  have tk : ∀ {cs : List AV} {us : List Value} (o : Nat), RVL N C Im w cs us → RVL N C Im w (cs.take o) (us.take o) ∧ RVL N C Im w (cs.drop o) (us.drop o) := by
    intro cs
    induction cs with
    | nil => intro us o h; have : us = [] := h; subst this; simp; exact rfl
    | cons a cs ih =>
      rintro us o ⟨v, us', rfl, h2, h3⟩
      cases o with
      | zero => exact ⟨rfl, v, us', rfl, h2, h3⟩
      | succ o => exact ⟨⟨v, _, rfl, h2, (ih o h3).1⟩, (ih o h3).2⟩
  have hl := RVL.length k
  unfold V.lay1
  rw [← hl]
  exact ((tk o h).1.append k).append (tk _ h).2
theorem fill_spec {N : Nat} {C : Nat → Option Conc} {Im : Nat → Prop} {w : World} {pl : List (Nat × Nat)} : ∀ {ps : List (Nat × List AV)} {vs : List (Nat × Value)} {cs rs : List AV} {us : List Value}, fillA pl cs ps = some rs → RVL N C Im w cs us → ps.length = vs.length →
    (∀ (j i i' : Nat) ds v, ps[j]? = some (i, ds) → vs[j]? = some (i', v) → i = i' ∧ ∃ ws, v.cells = ws.toArray ∧ RVL N C Im w ds ws) → ∃ xs, Instr.fill (pl.toArray[·]?) us.toArray vs = some xs.toArray ∧ RVL N C Im w rs xs
  | [], [], cs, rs, us, h, hr, _, _ => by
    simp only [fillA, Option.some.injEq] at h
    subst h
    exact ⟨us, rfl, hr⟩
  | (i, ds) :: ps, (i', v) :: vs, cs, rs, us, h, hr, hl, hp => by
    obtain ⟨rfl, ws, h1, h2⟩ := hp 0 i i' ds v rfl rfl
    simp only [fillA] at h
    cases hpl : pl[i]? with
    | none => rw [hpl] at h; cases h
    | some p =>
      obtain ⟨o, s⟩ := p
      rw [hpl] at h
      simp only at h
      cases hb : (Nat.beq ds.length s && Nat.ble (o + ds.length) cs.length) with
      | false => rw [hb] at h; cases h
      | true =>
        rw [hb] at h
        rw [Bool.and_eq_true] at hb
        have b1 := Nat.eq_of_beq_eq_true hb.1
        have b2 := leB hb.2
        have lw := RVL.length h2
        have lu := RVL.length hr
        simp only [cond_true] at h
        obtain ⟨xs, g1, g2⟩ := fill_spec (ps := ps) (vs := vs) h (hr.lay1 h2 o) (by simpa using hl) (fun j i i' ds v h1 h2 => hp (j + 1) i i' ds v (by simpa using h1) (by simpa using h2))
        refine ⟨xs, ?_, g2⟩
        have e1 : pl.toArray[i]? = some (o, s) := by simpa using hpl
        simp only [Instr.fill, e1, h1, List.size_toArray]
        rw [if_neg (by simp; omega)]
        have hov := overlay ws o 0 us (by simp; omega)
        have e : (ws.toArray.zipIdx.foldl (fun (cs : Array Value) x => match x with | (c, j) => cs.setIfInBounds (o + j) c) us.toArray) = (us.take o ++ ws ++ us.drop (o + ws.length)).toArray := by
          rw [← Array.foldl_toList, Array.toList_zipIdx]
          exact hov.trans (by simp)
        rw [e]; exact g1
theorem A.bld {t sz : Nat} {pl : List (Nat × Nat)} {ps : Array (Nat × Operand)} {cs rs : List AV} {qs : List (Nat × List AV)} [hz : HasZ P t sz cs] [hpl : HasP P t pl] (hq : (ps.toList.map fun p => (p.1, cellsA (evA ⟨E, hp, nx⟩ p.2))) = qs) (hc : (ps.toList.all fun p => (cellsA (evA ⟨E, hp, nx⟩ p.2)).all cellB) = true) (hf : fillA pl cs qs = some rs) :
    ASil true P w0 MP ⟨E, hp, nx⟩ ⟨d, .build t ps, ty, pos, af, g⟩ (.agg rs) := fun C Im E w hm => by
  subst hq
  obtain ⟨bys, zz, us, hi, z1, z2, z3, z4⟩ := hz.h
  obtain ⟨fields, f1, f2⟩ := hpl.h
  have hz' : RVL nx C Im w cs us := by rw [← z2]; exact RVL.cst1 us
  have hp' : ∃ vs, (ps.toList.map fun p => (p.1, G.ev E p.2)) = vs := ⟨_, rfl⟩
  obtain ⟨xs, x1, x2⟩ := fill_spec (vs := ps.toList.map fun p => (p.1, G.ev E p.2)) hf hz' (by simp) (fun j i i' ds v h1 h2 => by
    rw [List.getElem?_map] at h1 h2
    obtain ⟨p, hp1, hp2⟩ := Option.map_eq_some_iff.1 h1
    rw [hp1] at h2
    simp only [Option.map_some, Option.some.injEq, Prod.mk.injEq] at h2 hp2
    obtain ⟨rfl, rfl⟩ := h2
    obtain ⟨rfl, rfl⟩ := hp2
    exact ⟨rfl, (hm.ev p.2).cells (List.all_eq_true.1 hc p (List.mem_of_getElem? hp1))⟩)
  refine ⟨.agg xs.toArray, fun w' => ?_, xs, rfl, x2⟩
  unfold Sil
  intro w2 _
  have h1 := hi.zeroV w2
  have h2 := f2 w2
  have h3 := run_underlying (P := P) (w := w2) f1
  have e1 : (Array.map (fun x : Nat × Operand => match x with | (i, x) => (i, G.ev E x)) ps).toList = ps.toList.map fun p => (p.1, G.ev E p.2) := by simp
  simp only [List.getElem?_toArray] at x1
  simp [execOp, Instr.build, h1, h3, h2, z1, x1]
inductive Bq (st : St) : List (Nat × Operand) → List (Nat × List AV) → Prop
  | nil : Bq st [] []
  | cons {i : Nat} {x : Operand} {a : AV} {ps : List (Nat × Operand)} {qs : List (Nat × List AV)} : evA st x = a → (cellsA a).all cellB = true → Bq st ps qs → Bq st ((i, x) :: ps) ((i, cellsA a) :: qs)
theorem Bq.spec {st : St} {ps : List (Nat × Operand)} {qs : List (Nat × List AV)} (h : Bq st ps qs) : (ps.map fun p => (p.1, cellsA (evA st p.2))) = qs ∧ (ps.all fun p => (cellsA (evA st p.2)).all cellB) = true := by
  induction h with
  | nil => exact ⟨rfl, rfl⟩
  | cons hx hc _ ih => exact ⟨by rw [List.map_cons, ih.1, hx], by rw [List.all_cons, ih.2, hx, hc]; rfl⟩
theorem A.bl {t sz : Nat} {pl : List (Nat × Nat)} {ps : Array (Nat × Operand)} {cs rs : List AV} {qs : List (Nat × List AV)} [hz : HasZ P t sz cs] [hpl : HasP P t pl] (hq : Bq ⟨E, hp, nx⟩ ps.toList qs) (hf : fillA pl cs qs = some rs) : ASil true P w0 MP ⟨E, hp, nx⟩ ⟨d, .build t ps, ty, pos, af, g⟩ (.agg rs) := A.bld hq.spec.1 hq.spec.2 hf
theorem F.litQ {t e sz bys len : Nat} {zz : Value} {ps : Array (Nat × Operand)} {qs : List (Nat × List AV)} {xs : List (List AV)} [hu : HasU P t (.slice e)] [hi : HasI P e sz bys zz] (hq : Bq ⟨E, hp, nx⟩ ps.toList qs) (hxs : qs.map (·.2) = xs) (hk : ps.toList.map (·.1) = List.range' 0 ps.toList.length) (hlen : ps.toList.length = len) (hsz : Nat.ble (len * sz) 16777216 = true) (hs0 : Nat.blt 0 sz = true)
    (hc : (xs.all fun x => Nat.beq x.length sz) = true) (hw : awant n ops ⟨d, .buildSlice t len ps, ty, pos, af, g⟩ E true = true) (hd : fits n d = true)
    (h : ARg P n w0 MP lb ops os Q ⟨putE E d (.sl nx len 0 len), updA hp nx (.live false sz xs), nx + 1⟩) : ARg P n w0 MP lb ops (⟨d, .buildSlice t len ps, ty, pos, af, g⟩ :: os) Q ⟨E, hp, nx⟩ := by
  obtain ⟨h1, h2⟩ := hq.spec
  have e : (ps.toList.map fun p => cellsA (evA ⟨E, hp, nx⟩ p.2)) = xs := by rw [← hxs, ← h1, List.map_map]; rfl
  refine F.litN e hk hlen hsz hs0 ?_ hw hd h
  rw [List.all_eq_true] at h2 hc ⊢
  intro p hp
  rw [Bool.and_eq_true]
  exact ⟨h2 p hp, hc _ (by rw [← e]; exact List.mem_map.2 ⟨p, hp, rfl⟩)⟩
end
end Go.Proofs.YtedjajokbdokhaaGreat.V

/- The walk's next step, found by trying the rules in turn (as default proofs of a rule's condition); data of the program. Over any program; nothing is claimed of the given one. -/
namespace Go.Proofs.YtedjajokbdokhaaGreat.V
open V.Enc (enc)
open Go.RowKit G
set_option linter.unusedVariables false
set_option linter.unusedSimpArgs false
section
variable {P : Program} {n : Nat} {w0 : World} {MP : Fr} {Q : Exit → St → Prop} {st : St} {lb : Bool} {ops : Array Oper} {os : List Oper} {d : Option Tmp} {ty t t' i m : Nat} {pos : String} {af : Array Edge} {g : Option (Nat × Bool)} {x y z : Operand} {bo : BinOp} {uo : UnOp} {ps : Array (Nat × Operand)} {fn : Fn} {fs cs args : Array Operand} {ats : Array TypeId} {bi : Builtin} {ol oh om : Option Operand}
theorem kR (h : ARg P n w0 MP lb ops os Q st) : ARg P n w0 MP lb ops os Q st := h
theorem kW {c : Code} (h : AW P n w0 MP c Q st) : AW P n w0 MP c Q st := h
theorem kT {K : St → Prop} {e : Exit} (h : ATh K Q e st) : ATh K Q e st := h
theorem kB {id : Nat} {e : Exit} (h : ABk id Q e st) : ABk id Q e st := h
theorem kD {c : Operand} {x y : Code} (h : AW P n w0 MP (.cond c x y) Q st) : AW P n w0 MP (.cond c x y) Q st := h
theorem jM (h : ARg P n w0 MP lb ops (⟨d, .move x, ty, pos, af, g⟩ :: os) Q st) : ARg P n w0 MP lb ops (⟨d, .move x, ty, pos, af, g⟩ :: os) Q st := h
theorem jA (h : ARg P n w0 MP lb ops (⟨d, .assign x, ty, pos, af, g⟩ :: os) Q st) : ARg P n w0 MP lb ops (⟨d, .assign x, ty, pos, af, g⟩ :: os) Q st := h
theorem jP (h : ARg P n w0 MP lb ops (⟨d, .pick x y z, ty, pos, af, g⟩ :: os) Q st) : ARg P n w0 MP lb ops (⟨d, .pick x y z, ty, pos, af, g⟩ :: os) Q st := h
theorem jB (h : ARg P n w0 MP lb ops (⟨d, .binOp bo t x y t', ty, pos, af, g⟩ :: os) Q st) : ARg P n w0 MP lb ops (⟨d, .binOp bo t x y t', ty, pos, af, g⟩ :: os) Q st := h
theorem jU (h : ARg P n w0 MP lb ops (⟨d, .unOp uo t x, ty, pos, af, g⟩ :: os) Q st) : ARg P n w0 MP lb ops (⟨d, .unOp uo t x, ty, pos, af, g⟩ :: os) Q st := h
theorem jF (h : ARg P n w0 MP lb ops (⟨d, .fieldAddr t x i, ty, pos, af, g⟩ :: os) Q st) : ARg P n w0 MP lb ops (⟨d, .fieldAddr t x i, ty, pos, af, g⟩ :: os) Q st := h
theorem jI (h : ARg P n w0 MP lb ops (⟨d, .indexAddr t x y, ty, pos, af, g⟩ :: os) Q st) : ARg P n w0 MP lb ops (⟨d, .indexAddr t x y, ty, pos, af, g⟩ :: os) Q st := h
theorem jL (h : ARg P n w0 MP lb ops (⟨d, .load t x, ty, pos, af, g⟩ :: os) Q st) : ARg P n w0 MP lb ops (⟨d, .load t x, ty, pos, af, g⟩ :: os) Q st := h
theorem jS (h : ARg P n w0 MP lb ops (⟨d, .store t x y, ty, pos, af, g⟩ :: os) Q st) : ARg P n w0 MP lb ops (⟨d, .store t x y, ty, pos, af, g⟩ :: os) Q st := h
theorem jX (h : ARg P n w0 MP lb ops (⟨d, .box t x, ty, pos, af, g⟩ :: os) Q st) : ARg P n w0 MP lb ops (⟨d, .box t x, ty, pos, af, g⟩ :: os) Q st := h
theorem jN (h : ARg P n w0 MP lb ops (⟨d, .alloc t, ty, pos, af, g⟩ :: os) Q st) : ARg P n w0 MP lb ops (⟨d, .alloc t, ty, pos, af, g⟩ :: os) Q st := h
theorem jY (h : ARg P n w0 MP lb ops (⟨d, .buildSlice t m ps, ty, pos, af, g⟩ :: os) Q st) : ARg P n w0 MP lb ops (⟨d, .buildSlice t m ps, ty, pos, af, g⟩ :: os) Q st := h
theorem jZ (h : ARg P n w0 MP lb ops (⟨d, .build t ps, ty, pos, af, g⟩ :: os) Q st) : ARg P n w0 MP lb ops (⟨d, .build t ps, ty, pos, af, g⟩ :: os) Q st := h
theorem jE (h : ARg P n w0 MP lb ops (⟨d, .extract x i, ty, pos, af, g⟩ :: os) Q st) : ARg P n w0 MP lb ops (⟨d, .extract x i, ty, pos, af, g⟩ :: os) Q st := h
theorem jK (h : ARg P n w0 MP lb ops (⟨d, .makeFunc fn fs cs, ty, pos, af, g⟩ :: os) Q st) : ARg P n w0 MP lb ops (⟨d, .makeFunc fn fs cs, ty, pos, af, g⟩ :: os) Q st := h
theorem jT (h : ARg P n w0 MP lb ops (⟨d, .slice t x ol oh om, ty, pos, af, g⟩ :: os) Q st) : ARg P n w0 MP lb ops (⟨d, .slice t x ol oh om, ty, pos, af, g⟩ :: os) Q st := h
theorem jD (h : ARg P n w0 MP lb ops (⟨d, .call ⟨.builtin bi, args, ats⟩, ty, pos, af, g⟩ :: os) Q st) : ARg P n w0 MP lb ops (⟨d, .call ⟨.builtin bi, args, ats⟩, ty, pos, af, g⟩ :: os) Q st := h
variable {E : Nat → AV} {hp : Nat → Ob} {nx : Nat}
theorem ARg.gT {x : Option Tmp} {op : Op} {j : Nat} {c : Bool} {d : Nat} {b : Bool} (hj : (ops[j]?).bind (·.dst) = some d) (hE : E d = .b b) (hb : b = true) (h : ARg P n w0 MP lb ops (⟨x, op, ty, pos, af, some (j, c)⟩ :: os) Q ⟨updA E d (.b true), hp, nx⟩) : ARg P n w0 MP lb ops (⟨x, op, ty, pos, af, some (j, c)⟩ :: os) Q ⟨E, hp, nx⟩ := ARg.split hj hE (fun _ => h) (fun hn => by rw [hb] at hn; cases hn)
theorem ARg.gF {x : Option Tmp} {op : Op} {j : Nat} {c : Bool} {d : Nat} {b : Bool} (hj : (ops[j]?).bind (·.dst) = some d) (hE : E d = .b b) (hb : b = false) (h : ARg P n w0 MP lb ops (⟨x, op, ty, pos, af, some (j, c)⟩ :: os) Q ⟨updA E d (.b false), hp, nx⟩) : ARg P n w0 MP lb ops (⟨x, op, ty, pos, af, some (j, c)⟩ :: os) Q ⟨E, hp, nx⟩ := ARg.split hj hE (fun hn => by rw [hb] at hn; cases hn) (fun _ => h)
theorem F.sp {x : Option Tmp} {op : Op} {j : Nat} {c : Bool} {d : Nat} {b : Bool} (hj : (ops[j]?).bind (·.dst) = some d) (hE : E d = .b b) (ht : b = true → ARg P n w0 MP lb ops (⟨x, op, ty, pos, af, some (j, c)⟩ :: os) Q ⟨updA E d (.b true), hp, nx⟩) (hf : b = false → ARg P n w0 MP lb ops (⟨x, op, ty, pos, af, some (j, c)⟩ :: os) Q ⟨updA E d (.b false), hp, nx⟩) : ARg P n w0 MP lb ops (⟨x, op, ty, pos, af, some (j, c)⟩ :: os) Q ⟨E, hp, nx⟩ := ARg.split hj hE ht hf
theorem jCf (f : Nat) (h : ARg P n w0 MP lb ops (⟨d, .call ⟨.value (.func f), args, ats⟩, ty, pos, af, g⟩ :: os) Q ⟨E, hp, nx⟩) : ARg P n w0 MP lb ops (⟨d, .call ⟨.value (.func f), args, ats⟩, ty, pos, af, g⟩ :: os) Q ⟨E, hp, nx⟩ := h
/-- a call, by its contract -/
theorem F.c {f : FuncId} {bs rs as : List AV} {a : AV} {ob : List (Nat × List (List AV))} [hf : IsFn P f] (hc : AC P f bs rs) (h : ARg P n w0 MP lb ops os Q ⟨putE E d a, addO hp nx ob, nx + ob.length⟩) (hs : SnapL hp (args.toList.map (evA ⟨E, hp, nx⟩)) bs := by (repeat' first | exact SnapL.nil | exact hcs _ | refine SnapL.i ?_ | refine SnapL.bo ?_ | refine SnapL.dt ?_ | refine SnapL.slE rfl (by first | rfl | omega | (simp; done) | (simp; omega)) ?_ | refine SnapL.slV rfl (by first | rfl | omega | (simp; done) | (simp; omega)) ?_ | refine SnapL.nd ?_ | refine SnapL.ed ?_ | refine SnapL.nl ?_ | refine SnapL.agg ?_ ?_ | refine SnapL.fn ?_ ?_ | refine SnapL.ip ?_ | refine SnapL.pt rfl rfl rfl rfl ?_ rfl ?_) <;> fail)
    (ht : ThwR nx rs as ob := by (repeat' first | exact ThwR.nil | apply ThwR.agg | apply ThwR.cell | exact Thw.nil | apply Thw.at1 rfl | apply Thw.ow (E_length _ _) | apply Thw.ow rfl) <;> fail) (ha : tupA as = a := by exact rfl) (hw : awant n ops ⟨d, .call ⟨.value (.func f), args, ats⟩, ty, pos, af, g⟩ E true = true := by exact rfl) (hd : fits n d = true := by exact rfl) : ARg P n w0 MP lb ops (⟨d, .call ⟨.value (.func f), args, ats⟩, ty, pos, af, g⟩ :: os) Q ⟨E, hp, nx⟩ := F.call hc hs ht ha hw hd h
theorem F.cv {f : FuncId} {bs rs as caps : List AV} {a : AV} {ob : List (Nat × List (List AV))} [hf : IsFn P f] (hc : AC P f bs rs) (h : ARg P n w0 MP lb ops os Q ⟨putE E d a, addO hp nx ob, nx + ob.length⟩) (hx : evA ⟨E, hp, nx⟩ x = .fn f caps := by exact rfl) (hs : SnapL hp (args.toList.map (evA ⟨E, hp, nx⟩) ++ caps) bs := by (repeat' first | exact SnapL.nil | exact hcs _ | refine SnapL.i ?_ | refine SnapL.bo ?_ | refine SnapL.dt ?_ | refine SnapL.slE rfl (by first | rfl | omega | (simp; done) | (simp; omega)) ?_ | refine SnapL.slV rfl (by first | rfl | omega | (simp; done) | (simp; omega)) ?_ | refine SnapL.nd ?_ | refine SnapL.ed ?_ | refine SnapL.nl ?_ | refine SnapL.agg ?_ ?_ | refine SnapL.fn ?_ ?_ | refine SnapL.ip ?_ | refine SnapL.pt rfl rfl rfl rfl ?_ rfl ?_) <;> fail)
    (ht : ThwR nx rs as ob := by (repeat' first | exact ThwR.nil | apply ThwR.agg | apply ThwR.cell | exact Thw.nil | apply Thw.at1 rfl | apply Thw.ow (E_length _ _) | apply Thw.ow rfl) <;> fail) (ha : tupA as = a := by exact rfl) (hw : awant n ops ⟨d, .call ⟨.value x, args, ats⟩, ty, pos, af, g⟩ E true = true := by exact rfl) (hd : fits n d = true := by exact rfl) : ARg P n w0 MP lb ops (⟨d, .call ⟨.value x, args, ats⟩, ty, pos, af, g⟩ :: os) Q ⟨E, hp, nx⟩ := F.callV hx hc hs ht ha hw hd h
/-- one element of a type is appended -/
theorem F.a1 (α : Type) [Enc α] {t e bys o n' m : Nat} {zz : Value} {lt l oo : Bool} {ls : List α} {a : α} {c ds : List AV} {o2 : Nat} {hp3 : Nat → Ob} [hu : HasU P t (.slice e)] [hi : HasI P e (Enc.nc α) bys zz]
    (h : ARg P n w0 MP lb ops os Q ⟨putE E d (.sl o n' 0 n'), updA hp3 o (.live lt (Enc.nc α) (V.E oo (ls ++ [a]))), nx⟩)
    (hx : evA ⟨E, hp, nx⟩ x = .sl o m 0 m := by exact rfl) (ho : hp o = .live lt (Enc.nc α) (V.E oo ls) := by exact rfl) (hy : evA ⟨E, hp, nx⟩ y = .sl o2 1 0 1 := by exact rfl) (hm : ls.length = m := by first | rfl | omega | (simp; done) | (simp; omega)) (ho2 : hp o2 = .live l (Enc.nc α) [c] := by exact rfl) (hll : (l || lt) = lt := by exact rfl)
    (hmv : Mv lt (updA hp o2 .dead) c ds hp3 := by repeat' first | exact Mv.nil | apply Mv.mv rfl (by simp) (by first | rfl | exact E_length _ _ | (simp [E_length]; done) | (simp [E_length]; omega)) (by first | exact E_pure _ _ | rfl) | apply Mv.nl _ | apply Mv.em _ | apply Mv.at1 rfl)
    (ho3 : hp3 o = .live lt (Enc.nc α) (V.E oo ls) := by exact rfl) (hds : enc oo a = ds := by exact rfl) (hn' : m + 1 = n' := by exact rfl)
    (hby : n' * bys ≤ 140737488355328 := by omega) (hmx : n' ≤ 9223372036854775807 := by omega) (hz : zz.cells.size = Enc.nc α := by exact rfl) (hs0 : Nat.blt 0 (Enc.nc α) = true := by exact rfl)
    (hw : awant n ops ⟨d, .call ⟨.builtin .append, #[x, y], #[t, t]⟩, ty, pos, af, g⟩ E true = true := by exact rfl) (hd : fits n d = true := by exact rfl) (hlb : lb = false := by exact rfl) : ARg P n w0 MP lb ops (⟨d, .call ⟨.builtin .append, #[x, y], #[t, t]⟩, ty, pos, af, g⟩ :: os) Q ⟨E, hp, nx⟩ :=
  F.app1 hx ho hy hm ho2 hll hmv ho3 hds hn' hby hmx hz hs0 hw hd hlb h
/-- what does not change is appended -/
theorem F.aL (α : Type) [Enc α] {t e bys o n' m : Nat} {zz : Value} {lt oo : Bool} {ls ls2 : List α} {b : AV} {hp2 : Nat → Ob} [hu : HasU P t (.slice e)] [hi : HasI P e (Enc.nc α) bys zz]
    (h : ARg P n w0 MP lb ops os Q ⟨putE E d (.sl o n' 0 n'), updA hp2 o (.live lt (Enc.nc α) (V.E oo (ls ++ ls2))), nx⟩)
    (hx : evA ⟨E, hp, nx⟩ x = .sl o m 0 m := by exact rfl) (ho : hp o = .live lt (Enc.nc α) (V.E oo ls) := by exact rfl) (hm : ls.length = m := by first | rfl | omega | (simp; done) | (simp; omega)) (hy : evA ⟨E, hp, nx⟩ y = b := by exact rfl) (hsrc : SrcA lt hp b (V.E oo ls2) (Enc.nc α) hp2 := by exact .imm) (ho3 : hp2 o = .live lt (Enc.nc α) (V.E oo ls) := by exact rfl) (hn' : m + ls2.length = n' := by exact rfl)
    (hby : n' * bys ≤ 140737488355328 := by first | omega | (simp only [List.length_append, List.length_drop, List.length_take, List.length_replicate]; omega) | (simp; omega)) (hmx : n' ≤ 9223372036854775807 := by first | omega | (simp only [List.length_append, List.length_drop, List.length_take, List.length_replicate]; omega) | (simp; omega)) (hz : zz.cells.size = Enc.nc α := by exact rfl) (hs0 : Nat.blt 0 (Enc.nc α) = true := by exact rfl)
    (hw : awant n ops ⟨d, .call ⟨.builtin .append, #[x, y], #[t, t]⟩, ty, pos, af, g⟩ E true = true := by exact rfl) (hd : fits n d = true := by exact rfl) (hlb : lb = false := by exact rfl) : ARg P n w0 MP lb ops (⟨d, .call ⟨.builtin .append, #[x, y], #[t, t]⟩, ty, pos, af, g⟩ :: os) Q ⟨E, hp, nx⟩ :=
  F.appL hx ho hm hy hsrc ho3 hn' hby hmx hz hs0 hw hd hlb h
theorem F.aLN (α : Type) [Enc α] {t e bys n' : Nat} {zz : Value} {oo : Bool} {ls2 : List α} {b : AV} {hp2 : Nat → Ob} [hu : HasU P t (.slice e)] [hi : HasI P e (Enc.nc α) bys zz]
    (h : ARg P n w0 MP lb ops os Q ⟨putE E d (.sl nx n' 0 n'), updA hp2 nx (.live false (Enc.nc α) (V.E oo ls2)), nx + 1⟩)
    (hx : evA ⟨E, hp, nx⟩ x = .nl ∨ evA ⟨E, hp, nx⟩ x = .em := by first | exact .inl rfl | exact .inr rfl) (hy : evA ⟨E, hp, nx⟩ y = b := by exact rfl) (hsrc : SrcA false (updA hp nx (.live false (Enc.nc α) [])) b (V.E oo ls2) (Enc.nc α) hp2 := by exact .imm) (ho3 : hp2 nx = .live false (Enc.nc α) [] := by exact rfl) (hn' : ls2.length = n' := by exact rfl)
    (hby : n' * bys ≤ 140737488355328 := by first | omega | (simp only [List.length_append, List.length_drop, List.length_take, List.length_replicate]; omega) | (simp; omega)) (hmx : n' ≤ 9223372036854775807 := by first | omega | (simp only [List.length_append, List.length_drop, List.length_take, List.length_replicate]; omega) | (simp; omega)) (hz : zz.cells.size = Enc.nc α := by exact rfl) (hs0 : Nat.blt 0 (Enc.nc α) = true := by exact rfl)
    (hw : awant n ops ⟨d, .call ⟨.builtin .append, #[x, y], #[t, t]⟩, ty, pos, af, g⟩ E true = true := by exact rfl) (hd : fits n d = true := by exact rfl) : ARg P n w0 MP lb ops (⟨d, .call ⟨.builtin .append, #[x, y], #[t, t]⟩, ty, pos, af, g⟩ :: os) Q ⟨E, hp, nx⟩ :=
  F.appLN hx hy hsrc ho3 hn' hby hmx hz hs0 hw hd h
/-- the end -/
theorem F.ret {res : List ResultVar} {as rs rs' : List AV} (he : rs' = rs)
    (h1 : RetL P ⟨E, hp, nx⟩ res as := by repeat' first | exact RetL.nil | apply RetL.tmp (a := .i _) rfl | apply RetL.tmp (a := .b _) rfl | apply RetL.tmp (a := .sl _ _ _ _) rfl | apply RetL.tmp (a := .nl) rfl | apply RetL.tmp (a := .em) rfl | apply RetL.tmp (a := .agg _) rfl | apply RetL.tmp (a := .dt _ _ _) rfl | apply RetL.agg rfl rfl rfl rfl | apply RetL.one rfl rfl rfl)
    (h2 : OutL hp as rs' := by
      repeat' first
        | exact OutL.nil
        | apply OutL.agg rfl
        | exact Enc.own _
        | exact Enc.pure _ _
        | (simp [ownL', ownA, E_own, ownLL]; done)
        | exact rfl
        | apply OutL.cell rfl (Mv.at1 rfl .nil) rfl rfl
        | apply OutL.cell rfl (Mv.mv rfl (by simp) (by first | rfl | exact E_length _ _ | (simp [E_length]; done) | (simp [E_length]; omega)) (by first | exact E_pure _ _ | rfl) .nil) (by simp [ownA, E_own, ownLL]) rfl
        | apply OutL.cell rfl (Mv.nl _ .nil) rfl rfl
        | apply OutL.cell rfl (Mv.em _ .nil) rfl rfl
        | exact Mv.nil | apply Mv.at1 rfl | apply Mv.mv rfl (by simp) (by first | rfl | exact E_length _ _ | (simp [E_length]; done) | (simp [E_length]; omega)) (by first | exact E_pure _ _ | rfl) | apply Mv.nl _ | apply Mv.em _) : ARet P res rs .ret ⟨E, hp, nx⟩ := by subst he; exact ⟨as, h1, h2⟩
end
theorem gm {α : Type} {l : List α} {k : Nat} {d : α} (h : k < l.length) : l.getD k d ∈ l := by simp [h]
theorem AgrA.refl {S : List Nat} {E : Nat → AV} : AgrA S E E := fun _ _ => rfl
theorem AgrA.put {S : List Nat} {E' E : Nat → AV} {d : Option Nat} {v : AV} (hd : memO S d = true) (h : AgrA S E' E) : AgrA S (putE E' d v) E := fun t ht => by
  cases d with
  | none => exact h t ht
  | some d =>
    by_cases e : t = d
    · subst e; have : mem S t = true := hd; rw [this] at ht; cases ht
    · exact (updA_ne _ _ e).trans (h t ht)
theorem AgrA.upd {S : List Nat} {E' E : Nat → AV} {d : Nat} {v : AV} (hd : mem S d = true) (h : AgrA S E' E) : AgrA S (updA E' d v) E := fun t ht => by
  by_cases e : t = d
  · subst e; rw [hd] at ht; cases ht
  · exact (updA_ne _ _ e).trans (h t ht)
theorem mem_all {S S' : List Nat} (h : S'.all (mem S) = true) {t : Nat} (ht : mem S t = false) : mem S' t = false := by
  induction S' with
  | nil => rfl
  | cons a l ih =>
    rw [List.all_cons, Bool.and_eq_true] at h
    simp only [mem]
    cases hb : Nat.beq t a with
    | true => have := Nat.eq_of_beq_eq_true hb; subst this; rw [h.1] at ht; cases ht
    | false => exact ih h.2
theorem AgrA.head {S S' : List Nat} {l : List (Nat × AV)} {E' E : Nat → AV} (hs : S'.all (mem S) = true) (hl : (keys l).all (mem S) = true) (h : AgrA S E' E) : AgrA S (upsA l (noS S' E')) E := fun t ht => by
  rw [upsA_out t (mem_all hl ht)]
  unfold noS
  rw [mem_all hs ht]
  exact h t ht
theorem AgrH.refl {m : Nat} {l : List (Nat × Ob)} {h : Nat → Ob} : AgrH m l h h := fun _ _ _ => rfl
theorem AgrH.upd {m o : Nat} {l : List (Nat × Ob)} {h' h : Nat → Ob} {x : Ob} (ho : (mem (keys l) o || Nat.ble m o) = true) (hh : AgrH m l h' h) : AgrH m l (updA h' o x) h := fun t ht hk => by
  by_cases e : t = o
  · subst e
    rw [hk, Bool.false_or] at ho
    have := leB ho; omega
  · exact (updA_ne _ _ e).trans (hh t ht hk)
theorem AgrH.addO {m : Nat} {l : List (Nat × Ob)} {h : Nat → Ob} : ∀ {os : List (Nat × List (List AV))} {h' : Nat → Ob} {N : Nat}, m ≤ N → AgrH m l h' h → AgrH m l (V.addO h' N os) h
  | [], h', N, _, hh => hh
  | (sz, xs) :: os, h', N, hN, hh => AgrH.addO (os := os) (by omega) (AgrH.upd (by rw [Bool.or_eq_true]; exact .inr (by rw [Nat.ble_eq]; exact hN)) hh)
theorem AgrH.head {m : Nat} {l l' : List (Nat × Ob)} {h' h : Nat → Ob} (hl : ((keys l').all fun o => mem (keys l) o || Nat.ble m o) = true) (hh : AgrH m l h' h) : AgrH m l (upsA l' h') h := fun t ht hk => by
  have : mem (keys l') t = false := by
    generalize keys l' = ks at hl
    induction ks with
    | nil => rfl
    | cons a ks ih =>
      rw [List.all_cons, Bool.and_eq_true] at hl
      simp only [mem]
      cases hb : Nat.beq t a with
      | true =>
        have := Nat.eq_of_beq_eq_true hb; subst this
        have h1 := hl.1
        rw [hk, Bool.false_or] at h1
        have := leB h1; omega
      | false => exact ih hl.2
  rw [upsA_out t this]; exact hh t ht hk
section
variable {P : Program} {n : Nat} {w0 : World} {MP : Fr} {Q : Exit → St → Prop} {E E' : Nat → AV} {hp hp' : Nat → Ob} {nx nx' : Nat}
theorem BndH.one {m o : Nat} {x : Ob} {l : List (Nat × Ob)} (ho : Nat.blt o m = true) (hx : BndO m x) (hl : BndH m l) : BndH m ((o, x) :: l) := ⟨ltB ho, hx, hl⟩
theorem BndO.raw {m sz : Nat} {l : Bool} {xs : List (List AV)} (h : BndL m xs.flatten) : BndO m (.live l sz xs) := h
theorem F.loop {σ : Type} (S : List Nat) (sl : σ → List (Nat × AV)) (ob : σ → List (Nat × Ob)) (I : σ → Prop) (μ : σ → Nat) (s0 : σ) {c : Code} (h1 : AtA E (sl s0)) (h2 : AtA hp (ob s0)) (h0 : I s0)
    (round : ∀ s, I s → AW P n w0 MP c (ATh (fun st' => ∃ s', Fit S (sl s') (ob s') ⟨E, hp, nx⟩ st' ∧ I s' ∧ μ s' < μ s) Q) ⟨upsA (sl s) (noS S E), upsA (ob s) hp, nx⟩)
    (hb : ∀ s, BndS nx (sl s) ∧ BndH nx (ob s) := by
      intro s
      refine ⟨by simp [BndS, Bnd, BndL], ?_⟩
      repeat' first | exact trivial | refine BndH.one rfl ?_ ?_ | exact BndO.E _ _ _ _ _ | refine BndO.raw ?_ | (simp [BndL, Bnd]; done)) : AW P n w0 MP (.loop c) Q ⟨E, hp, nx⟩ :=
  AW.loop S sl ob I μ s0 h1 h2 h0 hb round
theorem F.cut {σ : Type} (S : List Nat) (sl : σ → List (Nat × AV)) (ob : σ → List (Nat × Ob)) (I : σ → Prop) {x : Code} {K : St → Prop}
    (hx : AW P n w0 MP x (ATh (fun st' => ∃ s', Fit S (sl s') (ob s') ⟨E, hp, nx⟩ st' ∧ I s') Q) ⟨E, hp, nx⟩)
    (hy : ∀ s, I s → K ⟨upsA (sl s) (noS S E), upsA (ob s) hp, nx⟩)
    (hb : ∀ s, BndS nx (sl s) ∧ BndH nx (ob s) := by
      intro s
      refine ⟨by simp [BndS, Bnd, BndL], ?_⟩
      repeat' first | exact trivial | refine BndH.one rfl ?_ ?_ | exact BndO.E _ _ _ _ _ | refine BndO.raw ?_ | (simp [BndL, Bnd]; done)) : AW P n w0 MP x (ATh K Q) ⟨E, hp, nx⟩ :=
  AW.cutK S sl ob I hb hx hy
theorem F.fit {S : List Nat} {l : List (Nat × AV)} {h : List (Nat × Ob)} (h1 : AtA E' l) (h2 : AtA hp' h)
    (ha : AgrA S E' E := by repeat first | exact AgrA.refl | refine AgrA.put rfl ?_ | refine AgrA.upd rfl ?_ | refine AgrA.head rfl rfl ?_)
    (hh : AgrH nx h hp' hp := by repeat first | exact AgrH.refl | refine AgrH.upd rfl ?_ | refine AgrH.head rfl ?_ | refine AgrH.addO (by simp <;> omega) ?_)
    (hn : nx ≤ nx' := by first | exact Nat.le_refl _ | (simp; done) | (simp; omega)) : Fit S l h ⟨E, hp, nx⟩ ⟨E', hp', nx'⟩ := ⟨h1, ha, h2, hh, hn⟩
end
/-! ### regions whose order is drawn: one operation -/
section
variable {P : Program} {n : Nat} {w0 : World} {MP : Fr} {Q : Exit → St → Prop} {E : Nat → AV} {hp : Nat → Ob} {nx m fuel : Nat} {ops : Array Oper} {listed : Array Bool} {d : Option Tmp} {op : Op} {ty : Nat} {pos : String} {af : Array Edge} {g : Option (Nat × Bool)}
theorem dP [ANoPan Q] (i : Nat) {a : AV} (h : ARA P n w0 MP m ops fuel (listed.setIfInBounds i true) Q ⟨putE E d a, hp, nx⟩) (ho : ops[i]? = some ⟨d, op, ty, pos, af, g⟩ := by exact rfl) (hc : (Region.free .any ops listed i && (Region.ready .any ops listed).contains i) = true := by kernel_rfl)
    (hs : ASil true P w0 MP ⟨E, hp, nx⟩ ⟨d, op, ty, pos, af, g⟩ a := by
      first
        | exact A.mov (a := .i _) rfl | exact A.mov (a := .b _) rfl | exact A.mov (a := .sl _ _ _ _) rfl | exact A.mov (a := .dt _ _ _) rfl | exact A.mov (a := .agg _) rfl | exact A.mov (a := .nl) rfl | exact A.mov (a := .em) rfl | exact A.mov (a := .pt _ _ _ _) rfl | exact A.mov (a := .ip _) rfl | exact A.mov (a := .fn _ _) rfl | exact A.mov (a := .tu _) rfl | exact A.mov rfl | exact A.asg (a := .i _) rfl | exact A.asg (a := .b _) rfl | exact A.asg (a := .sl _ _ _ _) rfl | exact A.asg (a := .dt _ _ _) rfl | exact A.asg (a := .agg _) rfl | exact A.asg (a := .nl) rfl | exact A.asg (a := .em) rfl | exact A.asg (a := .pt _ _ _ _) rfl | exact A.asg (a := .ip _) rfl | exact A.asg (a := .fn _ _) rfl | exact A.asg (a := .tu _) rfl | exact A.asg rfl | exact A.fldP rfl | exact A.fldI rfl rfl | exact A.lss rfl rfl | exact A.add rfl rfl (by first | assumption | exact In64.mk (by omega)) | exact A.sub rfl rfl (by first | assumption | exact In64.mk (by omega)) | exact A.eql rfl rfl | exact A.neq rfl rfl | exact A.leq rfl rfl | exact A.gtr rfl rfl | exact A.geq rfl rfl | exact A.mul rfl rfl (by first | assumption | exact In64.mk (by omega)) | exact A.remP rfl rfl (by omega) (by omega) | exact A.quoP rfl rfl (by omega) (by omega) | exact A.eqN rfl | exact A.idxE (k := 0) rfl rfl rfl (by first | rfl | omega | (simp; done) | (simp; omega)) rfl (by first | omega | (simp; omega)) | exact A.idxF (k := 0) rfl rfl rfl (by first | omega | (simp; omega)) | exact A.idxS (k := 0) rfl rfl rfl rfl rfl (by first | omega | (simp; omega)) | exact A.idxD (k := 0) rfl rfl rfl rfl | exact A.idxE (k := 1) rfl rfl rfl (by first | rfl | omega | (simp; done) | (simp; omega)) rfl (by first | omega | (simp; omega)) | exact A.idxF (k := 1) rfl rfl rfl (by first | omega | (simp; omega)) | exact A.idxS (k := 1) rfl rfl rfl rfl rfl (by first | omega | (simp; omega)) | exact A.idxD (k := 1) rfl rfl rfl rfl | exact A.idxE rfl rfl rfl (by first | rfl | omega | (simp; done) | (simp; omega)) rfl (by first | omega | (simp; omega)) | exact A.idxF rfl rfl rfl (by first | omega | (simp; omega)) | exact A.idxE rfl rfl rfl (by first | rfl | omega | (simp; done) | (simp; omega)) (Int.toNat_of_nonneg (by omega)).symm (by first | omega | (simp; omega)) | exact A.idxF rfl rfl (Int.toNat_of_nonneg (by omega)).symm (by first | omega | (simp; omega)) | exact A.idxS rfl rfl rfl rfl rfl (by first | omega | (simp; omega)) | exact A.notT rfl | exact A.notF rfl | exact A.not rfl | exact A.neg rfl (by first | assumption | exact In64.mk (by omega)) | exact A.pickT (a := .b _) rfl rfl | exact A.pickF (a := .b _) rfl rfl | exact A.pickT (a := .i _) rfl rfl | exact A.pickF (a := .i _) rfl rfl | exact A.pickT (a := .sl _ _ _ _) rfl rfl | exact A.pickF (a := .sl _ _ _ _) rfl rfl | exact A.pickT (a := .dt _ _ _) rfl rfl | exact A.pickF (a := .dt _ _ _) rfl rfl | exact A.pickT (a := .agg _) rfl rfl | exact A.pickF (a := .agg _) rfl rfl | exact A.ext rfl rfl | exact A.mkF rfl | exact A.addW rfl rfl | exact A.subW rfl rfl | exact A.mulW rfl rfl | exact A.lenS rfl | exact A.lenE rfl | exact A.lenN rfl | exact A.lenM rfl | exact A.lenD rfl | exact A.slcS rfl rfl rfl rfl rfl (by first | omega | (simp; omega)) (by first | omega | (simp; omega)) | exact A.slcD rfl rfl rfl (by first | omega | (simp; omega)) (by first | omega | (simp; omega)) | exact A.bl (rs := [_, _, _]) (by repeat' first | exact Bq.nil | apply Bq.cons (a := .i _) rfl rfl | apply Bq.cons (a := .sl _ _ _ _) rfl rfl | apply Bq.cons (a := .dt _ _ _) rfl rfl | apply Bq.cons (a := .b _) rfl rfl | apply Bq.cons (a := .nl) rfl rfl | apply Bq.cons (a := .em) rfl rfl | apply Bq.cons (a := .agg _) rfl rfl) rfl | exact A.bl (rs := [_, _]) (by repeat' first | exact Bq.nil | apply Bq.cons (a := .i _) rfl rfl | apply Bq.cons (a := .sl _ _ _ _) rfl rfl | apply Bq.cons (a := .dt _ _ _) rfl rfl | apply Bq.cons (a := .b _) rfl rfl | apply Bq.cons (a := .nl) rfl rfl | apply Bq.cons (a := .em) rfl rfl | apply Bq.cons (a := .agg _) rfl rfl) rfl | exact A.bl (rs := [_, _, _, _, _, _]) (by repeat' first | exact Bq.nil | apply Bq.cons (a := .i _) rfl rfl | apply Bq.cons (a := .sl _ _ _ _) rfl rfl | apply Bq.cons (a := .dt _ _ _) rfl rfl | apply Bq.cons (a := .b _) rfl rfl | apply Bq.cons (a := .nl) rfl rfl | apply Bq.cons (a := .em) rfl rfl | apply Bq.cons (a := .agg _) rfl rfl) rfl) (hw : awant n ops ⟨d, op, ty, pos, af, g⟩ E true = true := by exact rfl) (hd : fits n d = true := by exact rfl) : ARA P n w0 MP m ops (fuel + 1) listed Q ⟨E, hp, nx⟩ :=
  ARA.pure i ho hc hs hw hd (by rw [putA_eq]; exact h)
theorem dL [ANoPan Q] (i : Nat) {a : AV} (h : ARA P n w0 MP m ops fuel (listed.setIfInBounds i true) Q ⟨putE E d a, hp, nx⟩) (ho : ops[i]? = some ⟨d, op, ty, pos, af, g⟩ := by exact rfl) (hc : (Nat.blt i m && isLoad ops i && Region.free .any ops listed i && (Region.ready .any ops listed).contains i) = true := by kernel_rfl)
    (hs : ASil false P w0 MP ⟨E, hp, nx⟩ ⟨d, op, ty, pos, af, g⟩ a := by
      first
        | exact A.ldI rfl | exact A.ldR rfl rfl rfl rfl rfl rfl | exact A.ldE rfl rfl (by first | rfl | omega | (simp; done) | (simp; omega)) (by first | omega | (simp; omega)) rfl rfl | exact A.ldF rfl rfl (by first | rfl | omega | (simp; done) | (simp; omega)) (by first | omega | (simp; omega)) rfl | exact A.ldG rfl rfl rfl | exact A.ldRG rfl rfl rfl rfl rfl rfl rfl | exact A.ldEG rfl rfl (by first | rfl | omega | (simp; done) | (simp; omega)) (by first | omega | (simp; omega)) rfl rfl | exact A.ldFG rfl rfl (by first | rfl | omega | (simp; done) | (simp; omega)) (by first | omega | (simp; omega)) rfl) (hw : awant n ops ⟨d, op, ty, pos, af, g⟩ E true = true := by exact rfl) (hd : fits n d = true := by exact rfl) : ARA P n w0 MP m ops (fuel + 1) listed Q ⟨E, hp, nx⟩ :=
  ARA.take i ho hc hs hw hd (by rw [putA_eq]; exact h)
theorem dK [ANoPan Q] (i : Nat) (h : ARA P n w0 MP m ops fuel (listed.setIfInBounds i true) Q ⟨putE E d (.tu []), hp, nx⟩) (ho : ops[i]? = some ⟨d, op, ty, pos, af, g⟩ := by exact rfl) (hc : (Region.free .any ops listed i && (Region.ready .any ops listed).contains i) = true := by kernel_rfl)
    (hw : awant n ops ⟨d, op, ty, pos, af, g⟩ E false = true := by exact rfl) (hd : fits n d = true := by exact rfl) : ARA P n w0 MP m ops (fuel + 1) listed Q ⟨E, hp, nx⟩ :=
  ARA.skip i ho hc hw hd (by rw [putA_eq]; exact h)
/-- by a given rule for the value -/
theorem dO (i : Nat) (lb : Bool) {o : Oper} (h : ARg P n w0 MP lb ops [o] (ATh (ARA P n w0 MP m ops fuel (listed.setIfInBounds i true) Q) Q) ⟨E, hp, nx⟩) (ho : ops[i]? = some o := by exact rfl) (hr : Region.ready .any ops listed = [i] := by kernel_rfl) (hl : (lb || Nat.ble m i) = true := by exact rfl) : ARA P n w0 MP m ops (fuel + 1) listed Q ⟨E, hp, nx⟩ := ARA.only i lb ho hr hl h
theorem dN (h : Q .normal ⟨E, hp, nx⟩) (hr : Region.ready .any ops listed = [] := by kernel_rfl) : ARA P n w0 MP m ops fuel listed Q ⟨E, hp, nx⟩ := ARA.nil hr h
theorem dD (d : Nat) {b : Bool} (hE : E d = .b b) (ht : b = true → ARA P n w0 MP m ops fuel listed Q ⟨updA E d (.b true), hp, nx⟩) (hf : b = false → ARA P n w0 MP m ops fuel listed Q ⟨updA E d (.b false), hp, nx⟩) : ARA P n w0 MP m ops fuel listed Q ⟨E, hp, nx⟩ := ARA.split d hE ht hf
theorem dT (d : Nat) {b : Bool} (hE : E d = .b b) (hb : b = true) (h : ARA P n w0 MP m ops fuel listed Q ⟨updA E d (.b true), hp, nx⟩) : ARA P n w0 MP m ops fuel listed Q ⟨E, hp, nx⟩ := ARA.split d hE (fun _ => h) (fun hn => by rw [hb] at hn; cases hn)
theorem dF (d : Nat) {b : Bool} (hE : E d = .b b) (hb : b = false) (h : ARA P n w0 MP m ops fuel listed Q ⟨updA E d (.b false), hp, nx⟩) : ARA P n w0 MP m ops fuel listed Q ⟨E, hp, nx⟩ := ARA.split d hE (fun hn => by rw [hb] at hn; cases hn) (fun _ => h)
end
/-- one step with one goal behind it -/
theorem s1 {p p' : Prop} (h : p') (hs : p' → p := by
  intro h
  first
    | (refine kR ?_; first
      | exact ARg.nil h
      | (refine jM ?_; first | exact F.sil (A.mov (a := .i _) rfl) rfl rfl h | exact F.sil (A.mov (a := .b _) rfl) rfl rfl h | exact F.sil (A.mov (a := .sl _ _ _ _) rfl) rfl rfl h | exact F.sil (A.mov (a := .dt _ _ _) rfl) rfl rfl h | exact F.sil (A.mov (a := .agg _) rfl) rfl rfl h | exact F.sil (A.mov (a := .nl) rfl) rfl rfl h | exact F.sil (A.mov (a := .em) rfl) rfl rfl h | exact F.sil (A.mov (a := .pt _ _ _ _) rfl) rfl rfl h | exact F.sil (A.mov (a := .ip _) rfl) rfl rfl h | exact F.sil (A.mov (a := .fn _ _) rfl) rfl rfl h | exact F.sil (A.mov (a := .tu _) rfl) rfl rfl h | exact F.sil (A.mov rfl) rfl rfl h | exact F.skip rfl rfl h)
      | (refine jA ?_; first | exact F.sil (A.asg (a := .i _) rfl) rfl rfl h | exact F.sil (A.asg (a := .b _) rfl) rfl rfl h | exact F.sil (A.asg (a := .sl _ _ _ _) rfl) rfl rfl h | exact F.sil (A.asg (a := .dt _ _ _) rfl) rfl rfl h | exact F.sil (A.asg (a := .agg _) rfl) rfl rfl h | exact F.sil (A.asg (a := .nl) rfl) rfl rfl h | exact F.sil (A.asg (a := .em) rfl) rfl rfl h | exact F.sil (A.asg (a := .pt _ _ _ _) rfl) rfl rfl h | exact F.sil (A.asg (a := .ip _) rfl) rfl rfl h | exact F.sil (A.asg (a := .fn _ _) rfl) rfl rfl h | exact F.sil (A.asg (a := .tu _) rfl) rfl rfl h | exact F.sil (A.asg rfl) rfl rfl h | exact F.skip rfl rfl h)
      | (refine jL ?_; first | exact F.sil (A.ldI rfl) rfl rfl h | exact F.sil (A.ldR rfl rfl rfl rfl rfl rfl) rfl rfl h | exact F.sil (A.ldE rfl rfl (by first | rfl | omega | (simp; done) | (simp; omega)) (by first | omega | (simp; omega)) rfl rfl) rfl rfl h | exact F.sil (A.ldF rfl rfl (by first | rfl | omega | (simp; done) | (simp; omega)) (by first | omega | (simp; omega)) rfl) rfl rfl h | exact F.sil (A.ldG rfl rfl rfl) rfl rfl h | exact F.sil (A.ldRG rfl rfl rfl rfl rfl rfl rfl) rfl rfl h | exact F.sil (A.ldEG rfl rfl (by first | rfl | omega | (simp; done) | (simp; omega)) (by first | omega | (simp; omega)) rfl rfl) rfl rfl h | exact F.sil (A.ldFG rfl rfl (by first | rfl | omega | (simp; done) | (simp; omega)) (by first | omega | (simp; omega)) rfl) rfl rfl h | exact F.skip rfl rfl h)
      | (refine jF ?_; first | exact F.sil (A.fldP rfl) rfl rfl h | exact F.sil (A.fldI rfl rfl) rfl rfl h | exact F.skip rfl rfl h)
      | (refine jB ?_; first | exact F.sil (A.lss rfl rfl) rfl rfl h | exact F.sil (A.add rfl rfl (by first | assumption | exact In64.mk (by omega))) rfl rfl h | exact F.sil (A.sub rfl rfl (by first | assumption | exact In64.mk (by omega))) rfl rfl h | exact F.sil (A.eql rfl rfl) rfl rfl h | exact F.sil (A.neq rfl rfl) rfl rfl h | exact F.sil (A.leq rfl rfl) rfl rfl h | exact F.sil (A.gtr rfl rfl) rfl rfl h | exact F.sil (A.geq rfl rfl) rfl rfl h | exact F.sil (A.mul rfl rfl (by first | assumption | exact In64.mk (by omega))) rfl rfl h | exact F.sil (A.remP rfl rfl (by omega) (by omega)) rfl rfl h | exact F.sil (A.quoP rfl rfl (by omega) (by omega)) rfl rfl h | exact F.sil (A.eqN rfl) rfl rfl h | exact F.sil (A.addW rfl rfl) rfl rfl h | exact F.sil (A.subW rfl rfl) rfl rfl h | exact F.sil (A.mulW rfl rfl) rfl rfl h | exact F.skip rfl rfl h)
      | (refine jI ?_; first | exact F.sil (A.idxE (k := 0) rfl rfl rfl (by first | rfl | omega | (simp; done) | (simp; omega)) rfl (by first | omega | (simp; omega))) rfl rfl h | exact F.sil (A.idxF (k := 0) rfl rfl rfl (by first | omega | (simp; omega))) rfl rfl h | exact F.sil (A.idxS (k := 0) rfl rfl rfl rfl rfl (by first | omega | (simp; omega))) rfl rfl h | exact F.sil (A.idxD (k := 0) rfl rfl rfl rfl) rfl rfl h | exact F.sil (A.idxE (k := 1) rfl rfl rfl (by first | rfl | omega | (simp; done) | (simp; omega)) rfl (by first | omega | (simp; omega))) rfl rfl h | exact F.sil (A.idxF (k := 1) rfl rfl rfl (by first | omega | (simp; omega))) rfl rfl h | exact F.sil (A.idxS (k := 1) rfl rfl rfl rfl rfl (by first | omega | (simp; omega))) rfl rfl h | exact F.sil (A.idxD (k := 1) rfl rfl rfl rfl) rfl rfl h | exact F.sil (A.idxE rfl rfl rfl (by first | rfl | omega | (simp; done) | (simp; omega)) rfl (by first | omega | (simp; omega))) rfl rfl h | exact F.sil (A.idxF rfl rfl rfl (by first | omega | (simp; omega))) rfl rfl h | exact F.sil (A.idxE rfl rfl rfl (by first | rfl | omega | (simp; done) | (simp; omega)) (Int.toNat_of_nonneg (by omega)).symm (by first | omega | (simp; omega))) rfl rfl h | exact F.sil (A.idxF rfl rfl (Int.toNat_of_nonneg (by omega)).symm (by first | omega | (simp; omega))) rfl rfl h | exact F.sil (A.idxS rfl rfl rfl rfl rfl (by first | omega | (simp; omega))) rfl rfl h | exact F.skip rfl rfl h)
      | (refine jU ?_; first | exact F.sil (A.notT rfl) rfl rfl h | exact F.sil (A.notF rfl) rfl rfl h | exact F.sil (A.not rfl) rfl rfl h | exact F.sil (A.neg rfl (by first | assumption | exact In64.mk (by omega))) rfl rfl h | exact F.skip rfl rfl h)
      | (refine jP ?_; first | exact F.sil (A.pickT (a := .b _) rfl rfl) rfl rfl h | exact F.sil (A.pickF (a := .b _) rfl rfl) rfl rfl h | exact F.sil (A.pickT (a := .i _) rfl rfl) rfl rfl h | exact F.sil (A.pickF (a := .i _) rfl rfl) rfl rfl h | exact F.sil (A.pickT (a := .sl _ _ _ _) rfl rfl) rfl rfl h | exact F.sil (A.pickF (a := .sl _ _ _ _) rfl rfl) rfl rfl h | exact F.sil (A.pickT (a := .dt _ _ _) rfl rfl) rfl rfl h | exact F.sil (A.pickF (a := .dt _ _ _) rfl rfl) rfl rfl h | exact F.sil (A.pickT (a := .agg _) rfl rfl) rfl rfl h | exact F.sil (A.pickF (a := .agg _) rfl rfl) rfl rfl h)
      | (refine jE ?_; first | exact F.sil (A.ext rfl rfl) rfl rfl h)
      | (refine jK ?_; first | exact F.sil (A.mkF rfl) rfl rfl h)
      | (refine jD ?_; first | exact F.sil (A.lenS rfl) rfl rfl h | exact F.sil (A.lenE rfl) rfl rfl h | exact F.sil (A.lenN rfl) rfl rfl h | exact F.sil (A.lenM rfl) rfl rfl h | exact F.sil (A.lenD rfl) rfl rfl h | exact F.skip rfl rfl h)
      | (refine jX ?_; first | exact F.boxG rfl rfl rfl rfl rfl h | exact F.boxC (a := .i _) rfl rfl rfl rfl h | exact F.boxC (a := .b _) rfl rfl rfl rfl h | exact F.boxC (a := .sl _ _ _ _) rfl rfl rfl rfl h | exact F.boxC (a := .dt _ _ _) rfl rfl rfl rfl h | exact F.boxC (a := .nl) rfl rfl rfl rfl h | exact F.boxC (a := .em) rfl rfl rfl rfl h | exact F.boxC (a := .fn _ _) rfl rfl rfl rfl h)
      | (refine jN ?_; exact F.alloc rfl rfl h)
      | (refine jY ?_; first | exact F.lit0 rfl rfl h | exact F.lit1G rfl rfl rfl rfl rfl rfl h | exact F.lit1C (a := .i _) rfl rfl rfl rfl h | exact F.lit1C (a := .sl _ _ _ _) rfl rfl rfl rfl h | exact F.lit1C (a := .dt _ _ _) rfl rfl rfl rfl h | exact F.lit1C (a := .nl) rfl rfl rfl rfl h | exact F.lit1C (a := .em) rfl rfl rfl rfl h | exact F.litQ (xs := [_, _]) (by repeat' first | exact Bq.nil | apply Bq.cons (a := .i _) rfl rfl | apply Bq.cons (a := .sl _ _ _ _) rfl rfl | apply Bq.cons (a := .dt _ _ _) rfl rfl | apply Bq.cons (a := .b _) rfl rfl | apply Bq.cons (a := .nl) rfl rfl | apply Bq.cons (a := .em) rfl rfl | apply Bq.cons (a := .agg _) rfl rfl) rfl rfl rfl rfl rfl rfl rfl rfl h | exact F.litQ (xs := [_, _, _]) (by repeat' first | exact Bq.nil | apply Bq.cons (a := .i _) rfl rfl | apply Bq.cons (a := .sl _ _ _ _) rfl rfl | apply Bq.cons (a := .dt _ _ _) rfl rfl | apply Bq.cons (a := .b _) rfl rfl | apply Bq.cons (a := .nl) rfl rfl | apply Bq.cons (a := .em) rfl rfl | apply Bq.cons (a := .agg _) rfl rfl) rfl rfl rfl rfl rfl rfl rfl rfl h | exact F.skip rfl rfl h)
      | (refine jS ?_; first | exact F.stV (a := .i _) rfl rfl rfl rfl rfl rfl rfl h | exact F.stV (a := .b _) rfl rfl rfl rfl rfl rfl rfl h | exact F.stV (a := .sl _ _ _ _) rfl rfl rfl rfl rfl rfl rfl h | exact F.stV rfl rfl rfl rfl rfl rfl rfl h | exact F.stI rfl rfl rfl (by first | rfl | omega | (simp; done) | (simp; omega)) (by first | omega | (simp; omega)) rfl rfl rfl h | exact F.stGW rfl rfl rfl rfl rfl rfl rfl rfl rfl h | exact F.stGF rfl rfl rfl rfl rfl rfl rfl rfl rfl rfl h | exact F.stR rfl rfl rfl rfl rfl rfl rfl rfl rfl rfl h)
      | exact F.skip rfl rfl h
      | (refine jT ?_; first | exact F.sil (A.slcS rfl rfl rfl rfl rfl (by first | omega | (simp; omega)) (by first | omega | (simp; omega))) rfl rfl h | exact F.sil (A.slcD rfl rfl rfl (by first | omega | (simp; omega)) (by first | omega | (simp; omega))) rfl rfl h)
      | (refine jZ ?_; first | exact F.sil (A.bl (rs := [_, _, _]) (by repeat' first | exact Bq.nil | apply Bq.cons (a := .i _) rfl rfl | apply Bq.cons (a := .sl _ _ _ _) rfl rfl | apply Bq.cons (a := .dt _ _ _) rfl rfl | apply Bq.cons (a := .b _) rfl rfl | apply Bq.cons (a := .nl) rfl rfl | apply Bq.cons (a := .em) rfl rfl | apply Bq.cons (a := .agg _) rfl rfl) rfl) rfl rfl h | exact F.sil (A.bl (rs := [_, _]) (by repeat' first | exact Bq.nil | apply Bq.cons (a := .i _) rfl rfl | apply Bq.cons (a := .sl _ _ _ _) rfl rfl | apply Bq.cons (a := .dt _ _ _) rfl rfl | apply Bq.cons (a := .b _) rfl rfl | apply Bq.cons (a := .nl) rfl rfl | apply Bq.cons (a := .em) rfl rfl | apply Bq.cons (a := .agg _) rfl rfl) rfl) rfl rfl h | exact F.sil (A.bl (rs := [_, _, _, _, _, _]) (by repeat' first | exact Bq.nil | apply Bq.cons (a := .i _) rfl rfl | apply Bq.cons (a := .sl _ _ _ _) rfl rfl | apply Bq.cons (a := .dt _ _ _) rfl rfl | apply Bq.cons (a := .b _) rfl rfl | apply Bq.cons (a := .nl) rfl rfl | apply Bq.cons (a := .em) rfl rfl | apply Bq.cons (a := .agg _) rfl rfl) rfl) rfl rfl h)
      | exact ARg.gT rfl rfl (by first | assumption | (simp only [decide_eq_true_eq, Bool.not_eq_true', decide_eq_false_iff_not, Bool.and_eq_true, Bool.or_eq_true]; omega)) h
      | exact ARg.gF rfl rfl (by first | assumption | (simp only [decide_eq_false_iff_not, Bool.not_eq_false', decide_eq_true_eq, Bool.and_eq_false_iff, Bool.or_eq_false_iff]; omega)) h)
    | (refine kW ?_; first | exact AW.seq h | exact AW.region h | exact AW.block h | exact AW.ret h | exact AW.exit h | exact AW.skip h | exact AW.yes rfl h | exact AW.no rfl h | exact AW.condT rfl (by first | assumption | (simp only [decide_eq_true_eq, Bool.not_eq_true', decide_eq_false_iff_not, Bool.and_eq_true, Bool.or_eq_true]; omega)) h | exact AW.condF rfl (by first | assumption | (simp only [decide_eq_false_iff_not, Bool.not_eq_false', decide_eq_true_eq, Bool.and_eq_false_iff, Bool.or_eq_false_iff]; omega)) h)
    | (refine kT ?_; first | exact ATh.normal h | exact ATh.exit h | exact ATh.ret h)
    | (refine kB ?_; first | exact ABk.normal h | exact ABk.here rfl h | exact ABk.far rfl h | exact ABk.ret h)) : p := hs h
/-- one with two -/
theorem s2 {p p1 p2 : Prop} (h1 : p1) (h2 : p2) (hs : p1 → p2 → p := by
  intro h1 h2
  first
    | (refine kD ?_; exact AW.cond rfl h1 h2)
    | (refine kR ?_; exact F.sp rfl rfl h1 h2)) : p := hs h1 h2
end Go.Proofs.YtedjajokbdokhaaGreat.V

/- The program's data, as Lean's own and as abstract cells. No program is spoken of. -/
namespace Go.Proofs.YtedjajokbdokhaaGreat.V
open Go.RowKit G D
set_option linter.unusedVariables false
set_option linter.unusedSimpArgs false

/-- a matrix: rows, columns, cells -/
structure Mat where
  r : Int
  c : Int
  m : List Int
/-- a space: the size, the basis -/
structure Spc where
  n : Int
  b : List (List Int)
/-- a path: the start, the arrows -/
structure Pth where
  s : Int
  a : List Int
/-- a representation: the prime, the quiver, the dimensions, the maps -/
structure Rep where
  p : Int
  q : Quiv
  d : List Int
  m : List Mat
instance : Inhabited Mat := ⟨⟨0, 0, []⟩⟩
instance : Inhabited Spc := ⟨⟨0, []⟩⟩
instance : Inhabited Pth := ⟨⟨0, []⟩⟩
instance : Inhabited Quiv := ⟨⟨0, [], []⟩⟩
instance : Inhabited Rep := ⟨⟨0, default, [], []⟩⟩
/-- a list's cell -/
abbrev ar {α : Type} [Enc α] (o : Bool) (l : List α) : AV := .dt o (Enc.nc α) (E o l)
instance : Enc Mat := ⟨fun o x => [.i x.r, .i x.c, .dt o (Enc.nc Int) (E o x.m)], 3, fun _ _ => rfl, fun o x => by simp [frzL, frz, E_frz], fun _ _ => rfl, fun x => by simp [ownL', ownA, E_own]⟩
instance : Enc Spc := ⟨fun o x => [.i x.n, .dt o (Enc.nc (List Int)) (E o x.b)], 2, fun _ _ => rfl, fun o x => by simp [frzL, frz, E_frz], fun _ _ => rfl, fun x => by simp [ownL', ownA, E_own]⟩
instance : Enc Pth := ⟨fun o x => [.i x.s, .dt o (Enc.nc Int) (E o x.a)], 2, fun _ _ => rfl, fun o x => by simp [frzL, frz, E_frz], fun _ _ => rfl, fun x => by simp [ownL', ownA, E_own]⟩
instance : Enc Quiv := ⟨fun o x => [.i x.n, .dt o (Enc.nc Int) (E o x.fr), .dt o (Enc.nc Int) (E o x.to)], 3, fun _ _ => rfl, fun o x => by simp [frzL, frz, E_frz], fun _ _ => rfl, fun x => by simp [ownL', ownA, E_own]⟩
instance : Enc Rep := ⟨fun o x => [.i x.p, .i x.q.n, .dt o (Enc.nc Int) (E o x.q.fr), .dt o (Enc.nc Int) (E o x.q.to), .dt o (Enc.nc Int) (E o x.d), .dt o (Enc.nc Mat) (E o x.m)], 6, fun _ _ => rfl, fun o x => by simp [frzL, frz, E_frz], fun _ _ => rfl, fun x => by simp [ownL', ownA, E_own]⟩
theorem ZeroE.int {P : Program} {e bys : Nat} (h : HasI P e 1 bys (.int .i64 0)) : ZeroE P e Int 0 :=
  ⟨bys, _, [.int .i64 0], h, rfl, by simp, rfl, fun Im w => .at1 (.int ⟨by omega, by omega⟩ .nil) .nil⟩
theorem OwnC.nil1 {α : Type} [Enc α] (Im : Nat → Prop) (w : World) : OwnC Im w [ar true ([] : List α)] [.slice none 0 0] [] :=
  OwnC.ow (Im := Im) (w := w) (sz := Enc.nc α) (xs := E true ([] : List α)) (us := []) (G := []) (F := []) ⟨0, Buf.nil w 0 _⟩ .nil (fun x hx => by cases hx) .nil
theorem ZeroE.lst {P : Program} {e bys : Nat} {α : Type} [Enc α] (h : HasI P e 1 bys (.slice none 0 0)) : ZeroE P e (List α) [] :=
  ⟨bys, _, [.slice none 0 0], h, rfl, by simp, rfl, fun Im w => OwnC.nil1 Im w⟩
theorem OwnC.int1 {Im : Nat → Prop} {w : World} {n : Int} (h : In64 n) : OwnC Im w [.i n] [.int .i64 n] [] := .at1 (.int h .nil) .nil
theorem ZeroE.mat {P : Program} {e bys : Nat} (h : HasI P e 3 bys (.agg #[.int .i64 0, .int .i64 0, .slice none 0 0])) : ZeroE P e Mat ⟨0, 0, []⟩ :=
  ⟨bys, _, [.int .i64 0, .int .i64 0, .slice none 0 0], h, rfl, by simp, rfl, fun Im w => ((OwnC.int1 (n := 0) ⟨by omega, by omega⟩).append (OwnC.int1 (n := 0) ⟨by omega, by omega⟩)).append (OwnC.nil1 (α := Int) Im w)⟩
theorem ZeroE.spc {P : Program} {e bys : Nat} (h : HasI P e 2 bys (.agg #[.int .i64 0, .slice none 0 0])) : ZeroE P e Spc ⟨0, []⟩ :=
  ⟨bys, _, [.int .i64 0, .slice none 0 0], h, rfl, by simp, rfl, fun Im w => (OwnC.int1 (n := 0) ⟨by omega, by omega⟩).append (OwnC.nil1 (α := List Int) Im w)⟩
theorem ZeroE.pth {P : Program} {e bys : Nat} (h : HasI P e 2 bys (.agg #[.int .i64 0, .slice none 0 0])) : ZeroE P e Pth ⟨0, []⟩ :=
  ⟨bys, _, [.int .i64 0, .slice none 0 0], h, rfl, by simp, rfl, fun Im w => (OwnC.int1 (n := 0) ⟨by omega, by omega⟩).append (OwnC.nil1 (α := Int) Im w)⟩
theorem ZeroE.rep {P : Program} {e bys : Nat} (h : HasI P e 6 bys (.agg #[.int .i64 0, .int .i64 0, .slice none 0 0, .slice none 0 0, .slice none 0 0, .slice none 0 0])) : ZeroE P e Rep ⟨0, ⟨0, [], []⟩, [], []⟩ :=
  ⟨bys, _, [.int .i64 0, .int .i64 0, .slice none 0 0, .slice none 0 0, .slice none 0 0, .slice none 0 0], h, rfl, by simp, rfl, fun Im w => ((((((OwnC.int1 (n := 0) ⟨by omega, by omega⟩).append (OwnC.int1 (n := 0) ⟨by omega, by omega⟩)).append (OwnC.nil1 (α := Int) Im w)).append (OwnC.nil1 (α := Int) Im w)).append (OwnC.nil1 (α := Int) Im w)).append (OwnC.nil1 (α := Mat) Im w))⟩
end Go.Proofs.YtedjajokbdokhaaGreat.V

/- Slices cut short, and appended zeros (slices.Grow, slices.DeleteFunc). Over any program; nothing is claimed of the given one. -/
namespace Go.Proofs.YtedjajokbdokhaaGreat.V
open Go.RowKit G
set_option linter.unusedVariables false
set_option linter.unusedSimpArgs false
section
variable {P : Program} {n : Nat} {w0 : World} {MP : Fr} {Q : Exit → St → Prop} {st : St} {lb : Bool} {ops : Array Oper} {os : List Oper} {d : Option Tmp} {ty : TypeId} {pos : String} {af : Array Edge} {g : Option (Nat × Bool)} {x y : Operand}
/-- the object of the first k elements -/
theorem Sm.cut {C : Nat → Option Conc} {Im : Nat → Prop} {E : Env} {w : World} (hm : Sm w0 MP st C Im E w) {o sz k : Nat} {l : Bool} {xs : List (List AV)} {cc : Conc} (hh : st.hp o = .live l sz xs) (hcc : C o = some cc) (hk : k ≤ xs.length) {v : Value}
    (hv : ∃ p c, cc.hv = .slice p xs.length c ∧ v = .slice p k c) :
    ∃ C', Sm w0 MP ⟨st.E, updA (updA st.hp o .dead) st.nx (.live l sz (xs.take k)), st.nx + 1⟩ C' Im E w ∧ RV (st.nx + 1) C' Im w (.sl st.nx k 0 k) v := by
  obtain ⟨cc1, hcc1, hO⟩ := hm.obj o l sz xs hh
  rw [hcc] at hcc1
  cases hcc1
  obtain ⟨p, c, h1, rfl⟩ := hv
  have hlen := hO.len
  have hxt : (xs.take k).length = k := by rw [List.length_take]; omega
  have hlay := hO.lay
  rw [← List.take_append_drop k xs, List.flatten_append] at hlay
  obtain ⟨v1, v2, F1, F2, e1, e2, L1, L2⟩ := hlay.split
  have hv1 : v1.length = k * cc.sz := by
    rw [L1.length]
    exact flatten_take hO.lens hk
  have hown : ∀ b, own (.slice p k c) = some b → own cc.hv = some b := fun b hb => by
    rw [h1]
    cases p <;> cases c <;> simp_all [own]
  have hsub : ∀ b, b ∈ ownL (.slice p k c) ++ F1 → b ∈ blks cc := fun b hb => by
    rcases List.mem_append.1 hb with hb | hb
    · exact List.mem_append.2 (.inl (mem_ownL.2 (hown b (mem_ownL.1 hb))))
    · exact List.mem_append.2 (.inr (by rw [e2]; exact List.mem_append.2 (.inl hb)))
  have hownE : ownL (.slice p k c) = ownL cc.hv := by
    unfold ownL; rw [h1]; cases p <;> cases c <;> rfl
  let cc2 : Conc := ⟨.slice p k c, k, cc.sz, v1, F1⟩
  have hle : CLe st.nx C (updA C o Option.none) := fun o1 ho1 c1 hc => by
    by_cases e : o1 = o
    · subst e; rw [updA_same] at hc; cases hc
    · rw [updA_ne _ _ e] at hc; exact ⟨c1, hc, .inl ⟨rfl, rfl, rfl⟩⟩
  have hB : Buf' w cc.sz (.slice p k c) k v1 := by
    obtain ⟨e0, hB1, hB2⟩ := hO.buf
    refine ⟨e0, hv1, ?_⟩
    rcases hB2 with ⟨h0, q, hq⟩ | ⟨b, c', cur, hq, q2, q3, q4, q5, q6⟩
    · rw [h1] at hq
      injection hq with hq1 hq2 hq3
      have : k = 0 := by omega
      subst this
      subst hq3
      exact .inl ⟨rfl, _, rfl⟩
    · rw [h1] at hq
      injection hq with hq1 hq2 hq3
      subst hq1
      subst hq3
      refine .inr ⟨b, c', cur, rfl, q2, by omega, q4, q5, ?_⟩
      have : v1 = cc.us.take (k * cc.sz) := by rw [e1, ← hv1, List.take_left]
      rw [this, ← q6, List.take_take]
      congr 1
      have := Nat.mul_le_mul_right cc.sz hk
      rw [← hlen] at this
      omega
  have hO2 : OR w0 MP st.nx (updA C o Option.none) Im w l sz (xs.take k) cc2 := by
    refine ⟨hO.esz, hxt.symm, hB, L1.mono (fun _ h => h) (fun _ _ => rfl) (Nat.le_refl _) hle (fun _ _ => rfl), fun x hx => hO.lens x (List.mem_of_mem_take hx), ?_, fun b hb => hO.ge b (hsub b hb), fun b hb => hO.nim b (hown b hb), fun b hb => hO.lent b (by rw [e2]; exact List.mem_append.2 (.inl hb))⟩
    have := hO.nd
    unfold blks at this ⊢
    rw [e2, ← List.append_assoc] at this
    have h3 := (List.nodup_append.1 this).1
    show (ownL (.slice p k c) ++ F1).Nodup
    rw [hownE]; exact h3
  have hS := (hm.kill o).new hO2 (fun o1 c1 hc1 b hb hb1 => by
    by_cases e : o1 = o
    · subst e; rw [updA_same] at hc1; cases hc1
    · rw [updA_ne _ _ e] at hc1
      exact hm.dis o o1 cc c1 (Ne.symm e) hcc hc1 b (hsub b hb) hb1)
  refine ⟨_, hS, ?_⟩
  obtain ⟨c2, q1, q2⟩ := hS.obj st.nx l sz (xs.take k) (updA_same ..)
  have := RV.slNew q2 q1 (Nat.lt_succ_self _)
  rw [updA_same] at q1
  cases q1
  rw [hxt] at this
  exact this
theorem A.capN {t e : TypeId} [hu : HasU P t (.slice e)] (hx : evA st x = .nl) : ASil true P w0 MP st ⟨d, .call ⟨.builtin .cap, #[x], #[t]⟩, ty, pos, af, g⟩ (.i 0) := fun C Im E w hm => by
  have h := hm.ev x
  rw [hx] at h
  exact ⟨_, fun w' => Sil.cap (show G.ev E x = .slice none 0 0 from h), rfl, by decide, by decide⟩
/-- x[:k], where x is not used any more -/
theorem F.slcut {E : Nat → AV} {hp : Nat → Ob} {nx : Nat} {t e sz bys o m k : Nat} {zz : Value} {l : Bool} {xs ys : List (List AV)} {oh : Option Operand} [hu : HasU P t (.slice e)] [hi : HasI P e sz bys zz] (hx : evA ⟨E, hp, nx⟩ x = .sl o m 0 m) (hh : hp o = .live l sz xs) (hn : xs.length = m) (hr : bndA ⟨E, hp, nx⟩ oh m k) (hk : k ≤ m) (hy : xs.take k = ys)
    (hw : awant n ops ⟨d, .slice t x none oh none, ty, pos, af, g⟩ E true = true) (hd : fits n d = true)
    (h : ARg P n w0 MP lb ops os Q ⟨putE E d (.sl nx k 0 k), updA (updA hp o .dead) nx (.live l sz ys), nx + 1⟩) : ARg P n w0 MP lb ops (⟨d, .slice t x none oh none, ty, pos, af, g⟩ :: os) Q ⟨E, hp, nx⟩ :=
  ARg.val (st' := putA ⟨E, updA (updA hp o .dead) nx (.live l sz ys), nx + 1⟩ d (.sl nx k 0 k)) hw hd (fun C Im E' w hm => by
    subst hy
    have hv := hm.ev x
    rw [hx] at hv
    obtain ⟨p, c, g1, g2, g3, g4, g5⟩ := hv
    obtain ⟨cc, hcc, hO⟩ := hm.obj o l sz xs hh
    obtain ⟨s1, s2, s3⟩ := (g5 cc hcc).2 (by rw [hO.len, hn])
    have hval : G.ev E' x = cc.hv := s2 rfl (by rw [hO.len, hn])
    refine ⟨_, w, run_slc g1 (lo := 0) (rfl : bndV E' none 0 0) (hm.bnd hr) (Nat.zero_le _) (by omega), fun _ => Later.refl _, ?_⟩
    have hval2 : (Value.slice (if c = 0 then p else p.map (·.add (0 * sz))) (k - 0) (c - 0)) = .slice p k c := by
      cases c with
      | zero => rfl
      | succ c =>
        cases p with
        | none => rfl
        | some a => obtain ⟨b, of, sp⟩ := a; cases sp <;> simp [Addr.add]
    rw [hval2]
    obtain ⟨C', q1, q2⟩ := hm.cut hh hcc (k := k) (v := .slice p k c) (by omega) ⟨p, c, by rw [← hval, g1, hn], rfl⟩
    exact putS q1 d q2) (by rw [putA_eq]; exact h)
theorem mkB {e sz0 bys0 m b : Nat} {z0 : Value} [h0 : HasI P e sz0 bys0 z0] (h : bys0 * m ≤ b) : ∀ sz bys zz, HasI P e sz bys zz → bys * m ≤ b := fun sz bys zz h1 => by
  obtain ⟨i, i1, _, _, i4⟩ := h0.ex
  obtain ⟨j, j1, _, _, j4⟩ := h1.ex
  rw [i1] at j1
  cases j1
  rw [← j4, i4]; exact h
theorem zeroCells_one (z : Value) (n : Nat) : Builtin.zeroCells #[z] n = (List.replicate n z).toArray := by
  apply Array.ext'
  simp only [Builtin.zeroCells, Array.toList_map, Array.toList_range]
  apply List.ext_getElem
  · simp
  · intro i h1 h2
    simp [Nat.mod_one]
/-- append(nil, make([]int, m)...) -/
theorem F.appZ {E : Nat → AV} {hp : Nat → Ob} {nx : Nat} {t tn e m : Nat} {kn : IntKind} {l : Int} (α : Type) [Enc α] {z : α} (h1c : Enc.nc α = 1) [hu : HasU P t (.slice e)] [hun : HasU P tn (.int kn)] [hz : ZeroE P e α z] (hx : evA ⟨E, hp, nx⟩ x = .nl) (hy : evA ⟨E, hp, nx⟩ y = .i l) (hl : l = (m : Int)) (h0 : 0 < m) (hb : ∀ sz bys zz, HasI P e sz bys zz → bys * m ≤ 281474976710656) (hmx : m ≤ 9223372036854775807)
    (hw : awant n ops ⟨d, .call ⟨.builtin .append, #[x, y], #[t, tn]⟩, ty, pos, af, g⟩ E true = true) (hd : fits n d = true)
    (h : ARg P n w0 MP lb ops os Q ⟨putE E d (.sl nx m 0 m), updA hp nx (.live false (Enc.nc α) (V.E true (List.replicate m z))), nx + 1⟩) : ARg P n w0 MP lb ops (⟨d, .call ⟨.builtin .append, #[x, y], #[t, tn]⟩, ty, pos, af, g⟩ :: os) Q ⟨E, hp, nx⟩ :=
  ARg.val (st' := putA (newS ⟨E, hp, nx⟩ (Enc.nc α) (V.E true (List.replicate m z))) d (.sl nx m 0 m)) hw hd (fun C Im E' w hm => by
    subst hl
    obtain ⟨bys, zz, us, hi, h1, h2, h3, h4⟩ := hz.h
    have hbb := hb _ _ _ hi
    obtain ⟨i, i1, i2, i3, i4⟩ := hi.ex
    have hvx : G.ev E' x = .slice none 0 0 := by have := hm.ev x; rw [hx] at this; exact this
    have hvy := (hm.evI hy).1
    have hus : 0 < us.length := List.length_pos_iff.2 h2
    have hr := Lib.run_append_nil_zeros (P := P) w t tn ty e i zz .i64 kn hu.u hun.u i1 i2 m h0 (by rw [i3]; omega) (by omega) (by rw [i4, Nat.mul_comm]; exact hbb)
    rw [← hvx, ← hvy] at hr
    refine ⟨.slice (some ⟨w.heap.size, 0, none⟩) m (grownCap w m 0 e), w.drew.alloc (.cells (Builtin.zeroCells zz.cells m ++ Builtin.zeroCells zz.cells (grownCap w m 0 e - m)) e), (by simp [execOp, resolve, invoke, builtin, hr]), fun _ => (Later.refl w).drew.trans (Later.alloc _ _), ?_⟩
    obtain ⟨u, rfl⟩ : ∃ u, us = [u] := by
      match us, h3.trans h1c with
      | [u], _ => exact ⟨u, rfl⟩
    have hge := grownCap_ge w m 0 e
    have hcm : grownCap w m 0 e ≤ maxLen := grownCap_le_maxLen w m 0 e (by simp only [maxLen]; omega)
    obtain ⟨gc, hgc⟩ : ∃ gc, grownCap w m 0 e = gc + 1 := ⟨grownCap w m 0 e - 1, by omega⟩
    rw [hgc] at hge hcm ⊢
    rw [h1, show ([u].toArray) = #[u] from rfl, zeroCells_one, zeroCells_one, show (List.replicate m u).toArray ++ (List.replicate (gc + 1 - m) u).toArray = (List.replicate m u ++ List.replicate (gc + 1 - m) u).toArray by simp]
    have hll : Later w (w.drew.alloc (.cells (List.replicate m u ++ List.replicate (gc + 1 - m) u).toArray e)) := (Later.refl w).drew.trans (Later.alloc _ _)
    have hlen : (V.E true (List.replicate m z)).length = m := by simp [E_length]
    have hfl : (List.replicate m [u]).flatten = List.replicate m u := by simp [List.flatten_replicate_singleton]
    have hlay := (h4 Im (w.drew.alloc (.cells (List.replicate m u ++ List.replicate (gc + 1 - m) u).toArray e))).rep m
    rw [hfl] at hlay
    let cc : Conc := ⟨.slice (some ⟨w.heap.size, 0, none⟩) m (gc + 1), m, 1, List.replicate m u, []⟩
    have hS := hm.fresh hll (cc := cc) (sz := Enc.nc α) (xs := V.E true (List.replicate m z)) h1c.symm hlen.symm ⟨e, by simp [cc], .inr ⟨w.heap.size, gc, _, rfl, Blk.new w.drew _ e, hge, hcm, by show _ = (gc + 1) * 1; simp; omega, by simp [cc]⟩⟩ (LayC.own hlay) (fun x hx => by rw [E_len true _ x hx, h1c])
      (by simp [blks, ownL, own, cc]) (fun k hk => by simp [blks, ownL, own, cc] at hk; omega)
    obtain ⟨c2, q1, q2⟩ := hS.obj nx false (Enc.nc α) _ (updA_same ..)
    have hrv := RV.slNew q2 q1 (Nat.lt_succ_self _)
    rw [updA_same] at q1
    cases q1
    rw [hlen] at hrv
    exact putS hS d hrv) (by rw [putA_eq]; exact h)
end
theorem iE {a b : Int} (h : a = b) : AV.i a = AV.i b := by rw [h]
theorem slE {o a b : Nat} (h : a = b) : AV.sl o a 0 a = AV.sl o b 0 b := by rw [h]
theorem obE {l : Bool} {sz : Nat} {xs ys : List (List AV)} (h : xs = ys) : Ob.live l sz xs = Ob.live l sz ys := by rw [h]
end Go.Proofs.YtedjajokbdokhaaGreat.V

/- What a law's parameter is read as, as abstract cells. Over any program; nothing is claimed of the given one. -/
namespace Go.Proofs.YtedjajokbdokhaaGreat.V
open V.Enc (enc)
open Go.RowKit G D
set_option linter.unusedVariables false
set_option linter.unusedSimpArgs false
class RdE {α : Type} [Enc α] (R : Rp α) : Prop where
  nc : R.nc = Enc.nc α
  h : ∀ {w x vs F}, R.V w x vs F → Imm (fun k => k < w.heap.size) w (enc false x) vs
instance : RdE intR := ⟨rfl, fun h => by obtain ⟨rfl, _, hi⟩ := h; exact .int hi .nil⟩
theorem RdE.elems {α : Type} [Enc α] {R : Rp α} [hr : RdE R] {w : World} {b : Nat} : ∀ (l : List α) (o : Nat), (∀ k x, l[k]? = some x → ∃ vs F, Cells w b (o + k * R.nc) vs ∧ R.V w x vs F) → ∃ us, Cells w b o us ∧ Imm (fun k => k < w.heap.size) w (V.E false l).flatten us
  | [], o, _ => ⟨[], fun i v h => by simp at h, .nil⟩
  | a :: l, o, h => by
    obtain ⟨v1, F1, h1, h2⟩ := h 0 a rfl
    obtain ⟨us, h3, h4⟩ := RdE.elems l (o + R.nc) (fun k x hk => by
      obtain ⟨vs, F, g1, g2⟩ := h (k + 1) x (by simpa using hk)
      exact ⟨vs, F, by rw [show o + R.nc + k * R.nc = o + (k + 1) * R.nc by rw [Nat.succ_mul]; omega]; exact g1, g2⟩)
    have hl := R.len h2
    refine ⟨v1 ++ us, fun i v hv => ?_, ?_⟩
    · rcases Nat.lt_or_ge i v1.length with hi | hi
      · rw [List.getElem?_append_left hi] at hv
        have := h1 i v hv
        rw [Nat.zero_mul, Nat.add_zero] at this; exact this
      · rw [List.getElem?_append_right hi] at hv
        have := h3 _ v hv
        rw [show o + R.nc + (i - v1.length) = o + i by omega] at this; exact this
    · have := (hr.h h2).append h4
      simpa [V.E] using this
instance {α : Type} [Enc α] {R : Rp α} [hr : RdE R] : RdE (listR R) := ⟨rfl, fun {w x vs F} h => by
  obtain ⟨p, c, rfl, h1, h2, h3⟩ := h
  rcases h3 with ⟨rfl, _⟩ | ⟨b, o, Fs, rfl, rfl, ht, hlen, he⟩
  · exact .sl0 h2 .nil
  · obtain ⟨us, g1, g2⟩ := RdE.elems (R := R) (w := w) (b := b) x o (fun k y hk => by obtain ⟨vs, q1, q2⟩ := he k y hk; exact ⟨vs, _, q1, q2⟩)
    have e : x.length = (V.E false x).length := (E_length _ _).symm
    show Imm _ w [.dt false (Enc.nc α) (V.E false x)] _
    rw [e]
    exact .sl (by rw [E_length]; exact h1) h2 ht.lt g1 g2 (E_len false x) .nil⟩
theorem RVs.nil (w : World) : RVs w [] [] := rfl
theorem RVs.cons {w : World} {a : AV} {v : Value} {bs : List AV} {us : List Value} (h : Imm (fun k => k < w.heap.size) w [a] [v]) (hs : RVs w bs us) : RVs w (a :: bs) (v :: us) := ⟨v, us, rfl, RV.imm h, hs⟩
theorem RVs.int {w : World} {n : Int} {bs : List AV} {us : List Value} (h : In64 n) (hs : RVs w bs us) : RVs w (.i n :: bs) (.int .i64 n :: us) := ⟨_, us, rfl, ⟨rfl, h⟩, hs⟩
theorem RVL.ofImm {N : Nat} {C : Nat → Option Conc} {Im : Nat → Prop} {w : World} : ∀ {cs : List AV} {vs : List Value}, Imm Im w cs vs → RVL N C Im w cs vs
  | [], vs, h => by cases h; rfl
  | a :: cs, [], h => by cases h
  | a :: cs, v :: vs, h => by
    obtain ⟨v1, v2, e, h1, h2⟩ := Imm.split (cs := [a]) (ds := cs) h
    have hl := h1.length
    match v1, hl with
    | [u], _ =>
      injection e with e1 e2
      subst e1; subst e2
      exact ⟨_, _, rfl, RV.imm h1, RVL.ofImm h2⟩
theorem RVs.agg {w : World} {cs : List AV} {vs : List Value} {bs : List AV} {us : List Value} (h : Imm (fun k => k < w.heap.size) w cs vs) (hs : RVs w bs us) : RVs w (.agg cs :: bs) (.agg vs.toArray :: us) := ⟨_, us, rfl, ⟨vs, rfl, RVL.ofImm h⟩, hs⟩
/-- a law that returns true -/
theorem AC.law {P : Program} {f : FuncId} {bs : List AV} (h : AC P f bs [.b true]) {w : World} {us : List Value} (hs : RVs w bs us) : Run P f us w fun v w' => v = .bool true ∧ Later w w' :=
  (h w us hs).mono fun v w' ⟨h1, vs, F, e, h2, _, _⟩ => by
    cases h2 with
    | cell h3 h4 =>
      cases h4
      cases h3 with
      | at1 h5 h6 => cases h6; cases h5; exact ⟨e, h1⟩
end Go.Proofs.YtedjajokbdokhaaGreat.V

/- Calls that write what they are given, or return parts of it, by abstract states. Over any program; nothing is claimed of the given one. -/
namespace Go.Proofs.YtedjajokbdokhaaGreat.V
open Go.RowKit G
set_option linter.unusedVariables false
set_option linter.unusedSimpArgs false

/-! ### the objects that a call is given -/
theorem addO_lt : ∀ (os : List (Nat × List (List AV))) {hp : Nat → Ob} {N o : Nat}, o < N → addO hp N os o = hp o
  | [], _, _, _, _ => rfl
  | (sz, xs) :: os, hp, N, o, h => by rw [addO, addO_lt os (by omega), updA_ne _ _ (by omega)]
theorem addO_at : ∀ {os : List (Nat × List (List AV))} {hp : Nat → Ob} {N i : Nat} {p : Nat × List (List AV)}, os[i]? = some p → addO hp N os (N + i) = .live false p.1 p.2
  | [], _, _, i, p, h => by simp at h
  | (sz, xs) :: os, hp, N, 0, p, h => by
    simp only [List.getElem?_cons_zero, Option.some.injEq] at h
    subst h
    rw [addO, addO_lt os (by omega)]; exact updA_same ..
  | (sz, xs) :: os, hp, N, i + 1, p, h => by
    rw [addO, show N + (i + 1) = N + 1 + i by omega]
    exact addO_at (by simpa using h)
theorem addO_out : ∀ (os : List (Nat × List (List AV))) {hp : Nat → Ob} {N o : Nat}, N + os.length ≤ o → addO hp N os o = hp o
  | [], _, _, _, _ => rfl
  | (sz, xs) :: os, hp, N, o, h => by
    rw [List.length_cons] at h
    rw [addO, addO_out os (by omega), updA_ne _ _ (by omega)]
def obS (obs : List (Nat × List (List AV))) : Nat → Ob := addO (fun _ => .dead) 0 obs
theorem obS_at {obs : List (Nat × List (List AV))} {i : Nat} {p : Nat × List (List AV)} (h : obs[i]? = some p) : obS obs i = .live false p.1 p.2 := by
  have := addO_at (hp := fun _ => Ob.dead) (N := 0) h
  rwa [Nat.zero_add] at this
theorem obS_out {obs : List (Nat × List (List AV))} {o : Nat} (h : obs.length ≤ o) : obS obs o = .dead := addO_out obs (by omega)
theorem obS_inv {obs : List (Nat × List (List AV))} {o : Nat} {l : Bool} {sz : Nat} {xs : List (List AV)} (h : obS obs o = .live l sz xs) : l = false ∧ obs[o]? = some (sz, xs) := by
  rcases Nat.lt_or_ge o obs.length with hl | hl
  · obtain ⟨p, hp⟩ : ∃ p, obs[o]? = some p := ⟨obs[o], by simp [hl]⟩
    rw [obS_at hp] at h
    cases h
    exact ⟨rfl, hp⟩
  · rw [obS_out hl] at h; cases h
theorem obS_dead {obs : List (Nat × List (List AV))} {o : Nat} (h : obS obs o = .dead) : obs.length ≤ o := by
  rcases Nat.lt_or_ge o obs.length with hl | hl
  · obtain ⟨p, hp⟩ : ∃ p, obs[o]? = some p := ⟨obs[o], by simp [hl]⟩
    rw [obS_at hp] at h; cases h
  · exact hl

/-! ### what a call comes to -/
inductive ResM (N : Nat) (C : Nat → Option Conc) (Im : Nat → Prop) (w : World) : List AV → List Value → List Nat → Prop
  | nil : ResM N C Im w [] [] []
  | cell {a : AV} {v : Value} {rs : List AV} {vs : List Value} {F G : List Nat} : LayC N C Im w [a] [v] F → ResM N C Im w rs vs G → ResM N C Im w (a :: rs) (v :: vs) (F ++ G)
  | agg {cs : List AV} {us : List Value} {rs : List AV} {vs : List Value} {F G : List Nat} : LayC N C Im w cs us F → ResM N C Im w rs vs G → ResM N C Im w (.agg cs :: rs) (.agg us.toArray :: vs) (F ++ G)
/-- what a call comes to that is given objects 0, 1, .. of its caller: arguments, objects, results, objects behind it -/
def AM (P : Program) (f : FuncId) (bs : List AV) (obs : List (Nat × List (List AV))) (rs : List AV) (obs' : List (Nat × List (List AV))) : Prop :=
  ∀ (w : World) (mp : Fr) (C : Nat → Option Conc) (E0 : Env) (us : List Value), Sm w mp ⟨fun _ => .no, obS obs, obs.length⟩ C mp.J E0 w → RVL obs.length C mp.J w bs us →
    Run P f us w fun v w' => ∃ C' J' E', Sm w mp ⟨fun _ => .no, obS obs', obs.length⟩ C' J' E' w' ∧ ∃ vs F, v = tupV vs ∧ ResM obs.length C' J' w' rs vs F ∧ Loose w mp C' w' F ∧ ∀ k ∈ F, ¬ J' k
def refB (K : Nat) : AV → Bool
  | .sl o _ _ _ => Nat.blt o K
  | .pt o _ _ _ => Nat.blt o K
  | a => pureB a
theorem refB_bnd {K : Nat} {a : AV} (h : refB K a = true) : Bnd K a := by
  cases a with
  | sl o n off m => exact ltB h
  | pt o n k j => exact ltB h
  | _ => first | trivial | cases h
theorem refB_bndL {K : Nat} : ∀ {l : List AV}, l.all (refB K) = true → BndL K l
  | [], _ => trivial
  | a :: l, h => by rw [List.all_cons, Bool.and_eq_true] at h; exact ⟨refB_bnd h.1, refB_bndL h.2⟩
/-- results: what is the call's own is taken along -/
inductive OutM (K : Nat) : (Nat → Ob) → List AV → List AV → (Nat → Ob) → Prop
  | nil {hp : Nat → Ob} : OutM K hp [] [] hp
  | cell {hp hp' hp'' : Nat → Ob} {a r : AV} {as rs : List AV} : cellB a = true → Mv false hp [a] [r] hp' → refB K r = true → OutM K hp' as rs hp'' → OutM K hp (a :: as) (r :: rs) hp''
  | agg {hp hp' hp'' : Nat → Ob} {cs ds as rs : List AV} : cs.all cellB = true → Mv false hp cs ds hp' → ds.all (refB K) = true → OutM K hp' as rs hp'' → OutM K hp (.agg cs :: as) (.agg ds :: rs) hp''
theorem OutM.ref {K : Nat} {hp hp'' : Nat → Ob} {o n off m : Nat} {as rs : List AV} (ho : Nat.blt o K = true) (h : OutM K hp as rs hp'') : OutM K hp (.sl o n off m :: as) (.sl o n off m :: rs) hp'' := .cell rfl (.at1 rfl .nil) ho h
section
variable {w0 w w' : World} {MP : Fr} {st : St} {C : Nat → Option Conc} {Im : Nat → Prop} {E : Env} {N : Nat}
theorem Loose.perm {F G : List Nat} (hp : F.Perm G) (h : Loose w0 MP C w F) : Loose w0 MP C w G := ⟨hp.nodup h.nd, fun k hk => h.ge k (hp.mem_iff.2 hk), fun k hk => h.wb k (hp.mem_iff.2 hk), fun o c hc k hk => h.off o c hc k (hp.mem_iff.2 hk)⟩
theorem sub_cle {N : Nat} {C C' : Nat → Option Conc} (h : ∀ o c, C' o = some c → C o = some c) : CLe N C C' := fun o _ c hc => ⟨c, h o c hc, .inl ⟨rfl, rfl, rfl⟩⟩
theorem perm3 (G F H : List Nat) : (F ++ (G ++ H)).Perm (G ++ F ++ H) := by
  rw [← List.append_assoc]; exact List.Perm.append_right _ List.perm_append_comm
theorem OutM.spec {K : Nat} {hp hp' : Nat → Ob} {as rs : List AV} (h : OutM K hp as rs hp') : ∀ {C : Nat → Option Conc} {vs : List Value} {H : List Nat}, Sm w0 MP ⟨st.E, hp, st.nx⟩ C Im E w → RVL st.nx C Im w as vs → Loose w0 MP C w H →
    ∃ C' F, Sm w0 MP ⟨st.E, hp', st.nx⟩ C' Im E w ∧ ResM st.nx C' Im w rs vs F ∧ Loose w0 MP C' w (F ++ H) ∧ (∀ k ∈ F, ¬ Im k) ∧ ∀ o c, C' o = some c → C o = some c := by
  induction h with
  | nil =>
    intro C vs H hm hv hL
    have : vs = [] := hv
    subst this
    exact ⟨C, [], hm, .nil, hL, (fun k hk => by cases hk), fun _ _ h => h⟩
  | @cell hp hp' hp'' a r as rs hc hmv _ _ ih =>
    rintro C vs H hm ⟨v, vs', rfl, h2, h3⟩ hL
    obtain ⟨C1, G, f3, m1, l1, L1, le1⟩ := hmv.lay (F := []) (H := H) hm (.at1 h2 (h2.one hc) .nil) (by simpa using hL) (fun _ k hk => by cases hk)
    have h3' := RVL.mono (Im' := Im) (w' := w) (M := st.nx) (fun _ h => h) (fun _ _ => rfl) (Nat.le_refl _) (sub_cle le1) _ _ h3
    obtain ⟨C2, F, g1, g2, g3, g4, g5⟩ := ih m1 h3' L1
    exact ⟨C2, G ++ F, g1, .cell (l1.mono (fun _ h => h) (fun _ _ => rfl) (Nat.le_refl _) (sub_cle g5) (fun _ _ => rfl)) g2, g3.perm (perm3 G F H), fun k hk => (List.mem_append.1 hk).elim (f3 rfl k) (g4 k), fun o c h => le1 o c (g5 o c h)⟩
  | @agg hp hp' hp'' cs ds as rs hc hmv _ _ ih =>
    rintro C vs H hm ⟨v, vs', rfl, h2, h3⟩ hL
    obtain ⟨us, rfl, h2⟩ := h2
    obtain ⟨C1, G, f3, m1, l1, L1, le1⟩ := hmv.lay (F := []) (H := H) hm (LayC.cells h2 hc) (by simpa using hL) (fun _ k hk => by cases hk)
    have h3' := RVL.mono (Im' := Im) (w' := w) (M := st.nx) (fun _ h => h) (fun _ _ => rfl) (Nat.le_refl _) (sub_cle le1) _ _ h3
    obtain ⟨C2, F, g1, g2, g3, g4, g5⟩ := ih m1 h3' L1
    exact ⟨C2, G ++ F, g1, .agg (l1.mono (fun _ h => h) (fun _ _ => rfl) (Nat.le_refl _) (sub_cle g5) (fun _ _ => rfl)) g2, g3.perm (perm3 G F H), fun k hk => (List.mem_append.1 hk).elim (f3 rfl k) (g4 k), fun o c h => le1 o c (g5 o c h)⟩
theorem OutM.bnd {K : Nat} {hp hp' : Nat → Ob} {as rs : List AV} (h : OutM K hp as rs hp') : ∀ {N : Nat} {C C' : Nat → Option Conc} {vs : List Value} {F : List Nat}, (∀ o, o < K → ∀ cc, C' o = some cc → C o = some cc) → ResM N C Im w rs vs F → ResM K C' Im w rs vs F := by
  induction h with
  | nil => intro N C C' vs F _ h; cases h; exact .nil
  | cell hc hmv hr _ ih =>
    intro N C C' vs F hC h
    cases h with
    | cell h1 h2 => exact .cell (h1.cutN hC ⟨refB_bnd hr, trivial⟩) (ih hC h2)
    | agg h1 h2 => cases hr
  | agg hc hmv hr _ ih =>
    intro N C C' vs F hC h
    cases h with
    | cell h1 h2 => cases h1 with | at1 h3 h4 _ => obtain ⟨us, rfl, _⟩ := h3; cases h4
    | agg h1 h2 => exact .agg (h1.cutN hC (refB_bndL hr)) (ih hC h2)
def pureO (obs : List (Nat × List (List AV))) : Prop := ∀ p ∈ obs, p.2.flatten.all pureB = true
theorem pureO.nil : pureO [] := fun p hp => by cases hp
theorem pureO.cons {sz : Nat} {xs : List (List AV)} {obs : List (Nat × List (List AV))} (h : xs.flatten.all pureB = true) (hs : pureO obs) : pureO ((sz, xs) :: obs) := fun p hp => by
  rcases List.mem_cons.1 hp with rfl | hp
  · exact h
  · exact hs p hp
/-- what a body must come to -/
def MRet (P : Program) (K : Nat) (res : List ResultVar) (rs : List AV) (obs' : List (Nat × List (List AV))) : Exit → St → Prop
  | .ret, st | .normal, st => ∃ as hp', RetL P st res as ∧ OutM K st.hp as rs hp' ∧ obs'.length = K ∧ (∀ o, o < K → hp' o = obS obs' o) ∧ K ≤ st.nx ∧ pureO obs'
  | _, _ => False
instance (P : Program) (K : Nat) (res : List ResultVar) (rs : List AV) (obs' : List (Nat × List (List AV))) : ANoPan (MRet P K res rs obs') := ⟨fun _ _ h => h⟩
variable {P : Program}
theorem AM.go {f : FuncId} {fn : Func} {n : Nat} {c : Code} {bs rs : List AV} {obs obs' : List (Nat × List (List AV))} (hf : P.funcs[f]? = some fn) (hn : fn.ntmps = n) (hb : fn.body = some c) (ha : Nat.ble bs.length n = true)
    (h : ∀ w0 mp, WfL bs → AW P n w0 mp c (MRet P obs.length fn.results.toList rs obs') ⟨fun t => bs.getD t .no, obS obs, obs.length⟩) : AM P f bs obs rs obs' := fun w mp C E0 us hS0 hus => by
  have hul := RVL.length hus
  refine Run.go hf hn hb (by rw [hul]; exact ha) ?_
  have hS : Sim w mp ⟨fun t => bs.getD t .no, obS obs, obs.length⟩ (fr us) w := by
    refine ⟨C, mp.J, hS0.tch, hS0.im, fun t => ?_, hS0.nod, hS0.obj, hS0.lt, hS0.dis, hS0.imJ, hS0.gst⟩
    simp only [fr]
    by_cases ht : t < bs.length
    · obtain ⟨v, h1, h2⟩ := RVL.get hus (i := t) (a := bs[t]) (by simp [ht])
      rw [List.getD_eq_getElem?_getD, List.getD_eq_getElem?_getD, h1]
      simpa [ht] using h2
    · have : bs.getD t .no = .no := by simp [Nat.le_of_not_lt ht]
      rw [this]; trivial
  refine (h w mp (RVL.wf _ _ hus) _ _ hS).mono fun e E' w' ⟨st', ⟨C1, Im, hm⟩, hq⟩ => ?_
  have key : (∃ as hp', RetL P st' fn.results.toList as ∧ OutM obs.length st'.hp as rs hp' ∧ obs'.length = obs.length ∧ (∀ o, o < obs.length → hp' o = obS obs' o) ∧ obs.length ≤ st'.nx ∧ pureO obs') → ∃ v, (∀ tmps : Array Value, (∀ t, tmps.getD t undef = E' t) → (results fn tmps).run P w' = .ok v w') ∧
      ∃ C' J' E', Sm w mp ⟨fun _ => .no, obS obs', obs.length⟩ C' J' E' w' ∧ ∃ vs F, v = tupV vs ∧ ResM obs.length C' J' w' rs vs F ∧ Loose w mp C' w' F ∧ ∀ k ∈ F, ¬ J' k := by
    rintro ⟨as, hp', h1, h2, h3, h4, h5, h6⟩
    obtain ⟨vs, g1, g2, g3⟩ := h1.spec hm
    obtain ⟨C2, F, k1, k2, k3, k4, k5⟩ := h2.spec (st := st') (H := []) (show Sm w mp ⟨st'.E, st'.hp, st'.nx⟩ C1 Im E' w' from hm) g1 Loose.nil
    rw [List.append_nil] at k3
    let D : Nat → Option Conc := fun o => bif Nat.blt o obs.length then C2 o else none
    have hD : ∀ o, o < obs.length → ∀ cc, D o = some cc → C2 o = some cc := fun o ho cc hc => by
      have : Nat.blt o obs.length = true := by rw [Nat.blt_eq]; exact ho
      simpa [D, this] using hc
    have hDo : ∀ o, o < obs.length → D o = C2 o := fun o ho => by
      have : Nat.blt o obs.length = true := by rw [Nat.blt_eq]; exact ho
      simp [D, this]
    have hDs : ∀ o cc, D o = some cc → o < obs.length ∧ C2 o = some cc := fun o cc hc => by
      cases hb : Nat.blt o obs.length with
      | true => rw [Nat.blt_eq] at hb; exact ⟨hb, hD o hb cc hc⟩
      | false => simp [D, hb] at hc
    refine ⟨tupV vs, fun tmps ht => results_run g2 g3 tmps ht, D, Im, E', ⟨k1.tch, k1.im, fun t => trivial, fun o ho => ?_, fun o l sz xs ho => ?_, fun o ho => obS_out (by rw [h3]; exact ho), fun o o' c c' hoo hc hc' => k1.dis o o' c c' hoo (hDs o c hc).2 (hDs o' c' hc').2, k1.imJ, fun p hp => RV.cut hD _ _ (RV.bnd _ _ (hS0.gst p hp)) (k1.gst p hp)⟩, vs, F, rfl, h2.bnd hD k2, ⟨k3.nd, k3.ge, k3.wb, fun o c hc => k3.off o c (hDs o c hc).2⟩, k4⟩
    · have := obS_dead ho
      have : Nat.blt o obs.length = false := by rw [← Bool.not_eq_true, Nat.blt_eq]; omega
      simp [D, this]
    · obtain ⟨rfl, hp⟩ := obS_inv ho
      have hlt : o < obs.length := by rw [← h3]; exact (List.getElem?_eq_some_iff.1 hp).1
      obtain ⟨cc, q1, q2⟩ := k1.obj o false sz xs ((h4 o hlt).trans ho)
      have hpu := h6 _ (List.mem_of_getElem? hp)
      exact ⟨cc, (hDo o hlt).trans q1, q2.esz, q2.len, q2.buf, q2.lay.cutN hD (BndL.of_mem fun a ha => Bnd.pure (List.all_eq_true.1 hpu a ha) _), q2.lens, q2.nd, q2.ge, q2.nim, q2.lent⟩
  cases e with
  | normal => exact key hq
  | ret => exact key hq
  | _ => exact hq.elim

/-! ### the caller -/
def killL : List Nat → (Nat → Ob) → Nat → Ob
  | [], hp => hp
  | o :: l, hp => killL l (updA hp o .dead)
theorem killL_live : ∀ {l : List Nat} {hp : Nat → Ob} {o : Nat} {b : Bool} {sz : Nat} {xs : List (List AV)}, killL l hp o = .live b sz xs → o ∉ l ∧ hp o = .live b sz xs
  | [], _, _, _, _, _, h => ⟨by simp, h⟩
  | a :: l, hp, o, b, sz, xs, h => by
    obtain ⟨h1, h2⟩ := killL_live (l := l) h
    by_cases e : o = a
    · subst e; rw [updA_same] at h2; cases h2
    · rw [updA_ne _ _ e] at h2
      exact ⟨by simp [e, h1], h2⟩
/-- arguments as the callee sees them -/
inductive RenL (hk : Nat → Ob) (ρ : List Nat) : List AV → List AV → Prop
  | nil : RenL hk ρ [] []
  | sl {i o n off m : Nat} {as bs : List AV} : ρ[i]? = some o → RenL hk ρ as bs → RenL hk ρ (.sl o n off m :: as) (.sl i n off m :: bs)
  | agg {cs ds as bs : List AV} : RenL hk ρ cs ds → RenL hk ρ as bs → RenL hk ρ (.agg cs :: as) (.agg ds :: bs)
  | sn {a b : AV} {as bs : List AV} : SnapL hk [a] [b] → RenL hk ρ as bs → RenL hk ρ (a :: as) (b :: bs)
def Cc (ρ : List Nat) (C : Nat → Option Conc) (i : Nat) : Option Conc := (ρ[i]?).bind C
theorem RenL.spec {J : Nat → Prop} {ρ : List Nat} {hk : Nat → Ob} {as bs : List AV} (h : RenL hk ρ as bs) (hI : ∀ k, Im k → J k) (hobj : ∀ o l sz xs, hk o = .live l sz xs → ∃ cc, C o = some cc ∧ OR w0 MP N C Im w l sz xs cc ∧ ∀ k ∈ blks cc, J k) : ∀ {us : List Value}, RVL N C Im w as us → RVL ρ.length (Cc ρ C) J w bs us := by
  induction h with
  | nil => exact fun h => h
  | @sl i o n off m as bs hi _ ih =>
    rintro us ⟨v, vs, h1, h2, h3⟩
    obtain ⟨p, c, g1, g2, g3, g4, g5⟩ := h2
    refine ⟨v, vs, h1, ⟨p, c, g1, g2, g3, (List.getElem?_eq_some_iff.1 hi).1, fun cc hc => g5 cc ?_⟩, ih h3⟩
    unfold Cc at hc
    rwa [hi] at hc
  | agg _ _ ih1 ih2 => exact fun ⟨v, vs, h1, ⟨us, g1, g2⟩, h3⟩ => ⟨v, vs, h1, ⟨us, g1, ih1 g2⟩, ih2 h3⟩
  | sn hs _ ih =>
    rintro us ⟨v, vs, h1, h2, h3⟩
    obtain ⟨v', vs', q1, q2, q3⟩ := hs.specJ hI hobj (us := [v]) ⟨v, [], rfl, h2, rfl⟩
    simp only [List.cons.injEq] at q1
    obtain ⟨rfl, _⟩ := q1
    exact ⟨v, vs, h1, RV.mono (fun _ h => h) (fun _ _ => rfl) (Nat.zero_le _) (fun o ho => by omega) _ _ q2, ih h3⟩
/-- the objects that are given -/
inductive ObL (hp : Nat → Ob) : List Nat → List (Nat × List (List AV)) → Prop
  | nil : ObL hp [] []
  | cons {o sz : Nat} {xs : List (List AV)} {ρ : List Nat} {obs : List (Nat × List (List AV))} : hp o = .live false sz xs → xs.flatten.all pureB = true → ObL hp ρ obs → ObL hp (o :: ρ) ((sz, xs) :: obs)
theorem ObL.length {hp : Nat → Ob} {ρ : List Nat} {obs : List (Nat × List (List AV))} (h : ObL hp ρ obs) : ρ.length = obs.length := by
  induction h <;> simp_all
theorem ObL.at {hp : Nat → Ob} {ρ : List Nat} {obs : List (Nat × List (List AV))} (h : ObL hp ρ obs) : ∀ {i o : Nat}, ρ[i]? = some o → ∃ p, obs[i]? = some p ∧ hp o = .live false p.1 p.2 ∧ p.2.flatten.all pureB = true := by
  induction h with
  | nil => intro i o h; simp at h
  | @cons o' sz xs ρ obs h1 h2 _ ih =>
    intro i o h
    cases i with
    | zero =>
      simp only [List.getElem?_cons_zero, Option.some.injEq] at h
      subst h
      exact ⟨(sz, xs), rfl, h1, h2⟩
    | succ i => obtain ⟨p, q1, q2⟩ := ih (i := i) (by simpa using h); exact ⟨p, by simpa using q1, q2⟩
def blsOf (C : Nat → Option Conc) (ρ : List Nat) : List Nat := ρ.flatMap fun o => match C o with | some cc => blks cc | none => []
theorem mem_blsOf {C : Nat → Option Conc} {ρ : List Nat} {k : Nat} : k ∈ blsOf C ρ ↔ ∃ o cc, o ∈ ρ ∧ C o = some cc ∧ k ∈ blks cc := by
  unfold blsOf
  rw [List.mem_flatMap]
  refine ⟨fun ⟨o, ho, hk⟩ => ?_, fun ⟨o, cc, h1, h2, h3⟩ => ⟨o, h1, by rw [h2]; exact h3⟩⟩
  cases hc : C o with
  | none => rw [hc] at hk; cases hk
  | some cc => rw [hc] at hk; exact ⟨o, cc, ho, hc, hk⟩
def ghOf (C : Nat → Option Conc) (ρ : List Nat) : List (AV × Value) := (List.range ρ.length).filterMap fun i => match Cc ρ C i with | some cc => some (.sl i cc.len 0 cc.len, cc.hv) | none => none
theorem mem_ghOf {C : Nat → Option Conc} {ρ : List Nat} {p : AV × Value} : p ∈ ghOf C ρ ↔ ∃ i cc, i < ρ.length ∧ Cc ρ C i = some cc ∧ p = (.sl i cc.len 0 cc.len, cc.hv) := by
  unfold ghOf
  rw [List.mem_filterMap]
  refine ⟨fun ⟨i, hi, hp⟩ => ?_, fun ⟨i, cc, h1, h2, h3⟩ => ⟨i, by simpa using h1, by rw [h2, h3]⟩⟩
  cases hc : Cc ρ C i with
  | none => rw [hc] at hp; cases hp
  | some cc => rw [hc] at hp; exact ⟨i, cc, by simpa using hi, hc, by simpa using hp.symm⟩
theorem Cc_some {C : Nat → Option Conc} {ρ : List Nat} {i : Nat} {cc : Conc} (h : Cc ρ C i = some cc) : ∃ o, ρ[i]? = some o ∧ C o = some cc := by
  unfold Cc at h
  cases ho : ρ[i]? with
  | none => rw [ho] at h; cases h
  | some o => rw [ho] at h; exact ⟨o, rfl, h⟩
theorem nd_inj {ρ : List Nat} (h : ρ.Nodup) {i j o : Nat} (hi : ρ[i]? = some o) (hj : ρ[j]? = some o) : i = j :=
  (List.getElem?_inj (List.getElem?_eq_some_iff.1 hi).1 h).1 (hi.trans hj.symm)
/-- the callee's memory -/
theorem Sm.give (hm : Sm w0 MP st C Im E w) {ρ : List Nat} {obs : List (Nat × List (List AV))} (hn : ρ.Nodup) (hob : ObL st.hp ρ obs) {J : Nat → Prop} (hI : ∀ k, Im k → J k) (hJ : ∀ k, J k → k < w.heap.size ∧ k ∉ blsOf C ρ) (E0 : Env) :
    Sm w ⟨blsOf C ρ, J, ghOf C ρ⟩ ⟨fun _ => .no, obS obs, obs.length⟩ (Cc ρ C) J E0 w := by
  have hlen := hob.length
  refine ⟨⟨fun _ _ _ => rfl, Nat.le_refl _, rfl, rfl, rfl⟩, fun k hk => (hJ k hk).1, fun t => trivial, fun o ho => ?_, fun o l sz xs ho => ?_, fun o ho => obS_out ho, fun i i' c c' hii hc hc' => ?_, fun k hk => .inl hk, fun p hp => ?_⟩
  · have := obS_dead ho
    unfold Cc
    rw [List.getElem?_eq_none (by omega)]; rfl
  · obtain ⟨rfl, hp⟩ := obS_inv ho
    have hlt : o < ρ.length := by rw [hlen]; exact (List.getElem?_eq_some_iff.1 hp).1
    have ho' : ρ[o]? = some ρ[o] := by simp [hlt]
    obtain ⟨p, q1, q2, q3⟩ := hob.at ho'
    rw [hp] at q1
    cases q1
    obtain ⟨cc, hcc, hO⟩ := hm.obj _ _ _ _ q2
    have hb : ∀ k ∈ blks cc, k ∈ blsOf C ρ := fun k hk => mem_blsOf.2 ⟨_, cc, List.mem_of_getElem? ho', hcc, hk⟩
    refine ⟨cc, by unfold Cc; rw [ho']; exact hcc, hO.esz, hO.len, hO.buf, LayC.own ((hO.lay.pure q3).mono hI (fun _ _ => rfl) (fun _ _ => rfl)), hO.lens, hO.nd, fun k hk => .inr (hb k hk), fun b hb' hj => (hJ b hj).2 (hb b (by simp [blks, mem_ownL, hb'])), fun k hk => ⟨fun hj => absurd (hb k (by simp [blks, hk])) (hJ k hj).2, fun h => by cases h⟩⟩
  · obtain ⟨o, h1, h2⟩ := Cc_some hc
    obtain ⟨o', h1', h2'⟩ := Cc_some hc'
    exact hm.dis o o' c c' (fun e => hii (nd_inj hn h1 (e ▸ h1'))) h2 h2'
  · obtain ⟨i, cc, hi, hc, rfl⟩ := mem_ghOf.1 hp
    obtain ⟨o, h1, h2⟩ := Cc_some hc
    obtain ⟨p, q1, q2, q3⟩ := hob.at h1
    obtain ⟨cc', hcc, hO⟩ := hm.obj _ _ _ _ q2
    rw [h2] at hcc
    cases hcc
    have := RV.slNew hO h2 (show o < st.nx from by
      rcases Nat.lt_or_ge o st.nx with h | h
      · exact h
      · have := hm.lt o h; rw [q2] at this; cases this)
    obtain ⟨p', c, g1, g2, g3, g4, g5⟩ := this
    rw [← hO.len] at g1 g2 g5
    exact ⟨p', c, g1, g2, g3, by rw [← hlen]; exact hi, fun c1 hc1 => g5 c1 (by rw [← hc1, hc, h2])⟩
def zipF {β : Type} (f : Nat → β) : List Nat → Nat → List (Nat × β)
  | [], _ => []
  | o :: ρ, i => (o, f i) :: zipF f ρ (i + 1)
theorem zipF_at {β : Type} {f F : Nat → β} : ∀ {ρ : List Nat} {j i o : Nat}, ρ.Nodup → ρ[i]? = some o → upsA (zipF f ρ j) F o = f (j + i)
  | [], _, i, o, _, h => by simp at h
  | a :: ρ, j, 0, o, _, h => by
    simp only [List.getElem?_cons_zero, Option.some.injEq] at h
    subst h; exact updA_same ..
  | a :: ρ, j, i + 1, o, hn, h => by
    have h' : ρ[i]? = some o := by simpa using h
    obtain ⟨n1, n2⟩ := List.nodup_cons.1 hn
    have : o ≠ a := fun e => n1 (e ▸ List.mem_of_getElem? h')
    simp only [zipF, upsA]
    rw [updA_ne _ _ this, zipF_at (j := j + 1) n2 h']
    congr 1; omega
theorem zipF_out {β : Type} {f F : Nat → β} : ∀ {ρ : List Nat} {j o : Nat}, o ∉ ρ → upsA (zipF f ρ j) F o = F o
  | [], _, o, _ => rfl
  | a :: ρ, j, o, h => by
    simp only [List.mem_cons, not_or] at h
    simp only [zipF, upsA]
    rw [updA_ne _ _ h.1, zipF_out h.2]
def zipO : List Nat → List (Nat × List (List AV)) → List (Nat × Ob)
  | o :: ρ, (sz, xs) :: os => (o, .live false sz xs) :: zipO ρ os
  | _, _ => []
theorem zipO_eq {F : Nat → Ob} : ∀ (ρ : List Nat) (obs : List (Nat × List (List AV))) {hp : Nat → Ob} {N : Nat}, ρ.length = obs.length → upsA (zipO ρ obs) F = upsA (zipF (addO hp N obs) ρ N) F
  | [], os, hp, N, h => by cases os <;> first | rfl | cases h
  | o :: ρ, (sz, xs) :: os, hp, N, h => by
    simp only [zipO, zipF, upsA]
    rw [zipO_eq ρ os (hp := updA hp N (.live false sz xs)) (N := N + 1) (by simpa using h), addO, addO_lt os (Nat.lt_succ_self N), updA_same]
def szO (obs obs' : List (Nat × List (List AV))) : Prop := obs.map (·.1) = obs'.map (·.1)
def ownO (obs : List (Nat × List (List AV))) : Prop := ∀ p ∈ obs, ownLL p.2 = true ∧ p.2.flatten.all pureB = true
theorem ownO.nil : ownO [] := fun p hp => by cases hp
theorem ownO.cons {sz : Nat} {xs : List (List AV)} {obs : List (Nat × List (List AV))} (h : ownLL xs = true) (h' : xs.flatten.all pureB = true) (hs : ownO obs) : ownO ((sz, xs) :: obs) := fun p hp => by
  rcases List.mem_cons.1 hp with rfl | hp
  · exact ⟨h, h'⟩
  · exact hs p hp
theorem ref_or (ρ : List Nat) (o : Nat) : (∃ i : Nat, ρ[i]? = some o) ∨ o ∉ ρ := by
  by_cases h : o ∈ ρ
  · exact .inl (List.mem_iff_getElem?.1 h)
  · exact .inr h
/-- more blocks that are not written, behind a call -/
def Im2 (Im J' : Nat → Prop) (w : World) (bl : List Nat) (k : Nat) : Prop := Im k ∨ (J' k ∧ (w.heap.size ≤ k ∨ k ∈ bl))
theorem Sm.back (hm : Sm w0 MP st C Im E w) {ρ : List Nat} {obs obs' : List (Nat × List (List AV))} (hn : ρ.Nodup) (hob : ObL st.hp ρ obs) {J J' : Nat → Prop} (hI : ∀ k, Im k → J k) (hJ : ∀ k, J k → k < w.heap.size ∧ k ∉ blsOf C ρ)
    (hl' : obs'.length = obs.length) (hsz : szO obs obs') (hown : ownO obs') {C' : Nat → Option Conc} {E' : Env} (hb : Sm w ⟨blsOf C ρ, J, ghOf C ρ⟩ ⟨fun _ => .no, obS obs', obs.length⟩ C' J' E' w') :
    Sm w0 MP ⟨st.E, upsA (zipO ρ obs') st.hp, st.nx⟩ (upsA (zipF C' ρ 0) C) (Im2 Im J' w (blsOf C ρ)) E w' ∧ CLe st.nx C (upsA (zipF C' ρ 0) C) ∧
      ∀ F, Loose w ⟨blsOf C ρ, J, ghOf C ρ⟩ C' w' F → (∀ k ∈ F, ¬ J' k) → Loose w0 MP (upsA (zipF C' ρ 0) C) w' F ∧ ∀ k ∈ F, ¬ Im2 Im J' w (blsOf C ρ) k := by
  have hlen := hob.length
  have hhp : upsA (zipO ρ obs') st.hp = upsA (zipF (obS obs') ρ 0) st.hp := zipO_eq ρ obs' (by omega)
  have cAt : ∀ {i o}, ρ[i]? = some o → upsA (zipF C' ρ 0) C o = C' i := fun h => by rw [zipF_at hn h, Nat.zero_add]
  have cOut : ∀ {o}, o ∉ ρ → upsA (zipF C' ρ 0) C o = C o := fun h => zipF_out h
  have hAt : ∀ {i o}, ρ[i]? = some o → upsA (zipO ρ obs') st.hp o = obS obs' i := fun h => by rw [hhp, zipF_at hn h, Nat.zero_add]
  have hOut : ∀ {o}, o ∉ ρ → upsA (zipO ρ obs') st.hp o = st.hp o := fun h => by rw [hhp, zipF_out h]
  have hwz := hm.tch.size
  have hwz' := hb.tch.size
  -- blocks of the objects given, and others
  have bge : ∀ k ∈ blsOf C ρ, w0.heap.size ≤ k ∨ k ∈ MP.bl := fun k hk => by
    obtain ⟨o, cc, h1, h2, h3⟩ := mem_blsOf.1 hk
    obtain ⟨_, _, _, _, hO⟩ := hm.objOf h2
    exact hO.ge k h3
  have bge' : ∀ k, w.heap.size ≤ k ∨ k ∈ blsOf C ρ → w0.heap.size ≤ k ∨ k ∈ MP.bl := fun k hk => hk.elim (fun h => .inl (by omega)) (bge k)
  have hsame : ∀ k, k < w.heap.size → k ∉ blsOf C ρ → w'.heap[k]? = w.heap[k]? := fun k h1 h2 => hb.tch.same k h1 h2
  have hIs : ∀ k, Im k → w'.heap[k]? = w.heap[k]? := fun k hk => hsame k (hm.im k hk) (hJ k (hI k hk)).2
  have hoff : ∀ o c, o ∉ ρ → C o = some c → ∀ k ∈ blks c, k < w.heap.size ∧ k ∉ blsOf C ρ := fun o c ho hc k hk => by
    obtain ⟨_, _, _, _, hO⟩ := hm.objOf hc
    refine ⟨(hO.wb k hk).lt, fun hk' => ?_⟩
    obtain ⟨o', cc, h1, h2, h3⟩ := mem_blsOf.1 hk'
    exact hm.dis o o' c cc (fun e => ho (e ▸ h1)) hc h2 k hk h3
  have hIm2 : ∀ k, Im k → Im2 Im J' w (blsOf C ρ) k := fun k hk => .inl hk
  have nIm : ∀ k, w.heap.size ≤ k ∨ k ∈ blsOf C ρ → ¬ Im k := fun k hk hi => by
    have := hJ k (hI k hi)
    rcases hk with hk | hk
    · omega
    · exact this.2 hk
  -- what an object that was given has become
  have hobj : ∀ {i o}, ρ[i]? = some o → ∃ p' cc', obs'[i]? = some p' ∧ C' i = some cc' ∧ OR w ⟨blsOf C ρ, J, ghOf C ρ⟩ obs.length C' J' w' false p'.1 p'.2 cc' := fun {i o} h => by
    have hi : i < obs'.length := by have := (List.getElem?_eq_some_iff.1 h).1; omega
    have hp : obs'[i]? = some obs'[i] := by simp [hi]
    obtain ⟨cc', q1, q2⟩ := hb.obj i _ _ _ (obS_at hp)
    exact ⟨_, cc', hp, q1, q2⟩
  have hle : CLe st.nx C (upsA (zipF C' ρ 0) C) := fun o ho c' hc' => by
    rcases ref_or ρ o with ⟨i, hi⟩ | ho'
    · rw [cAt hi] at hc'
      obtain ⟨p, q1, q2, q3⟩ := hob.at hi
      obtain ⟨cc, hcc, hO⟩ := hm.obj _ _ _ _ q2
      have hcc2 : Cc ρ C i = some cc := by unfold Cc; rw [hi]; exact hcc
      have hilt : i < ρ.length := (List.getElem?_eq_some_iff.1 hi).1
      obtain ⟨_, _, _, _, _, _, g5⟩ := hb.gst _ (mem_ghOf.2 ⟨i, cc, hilt, hcc2, rfl⟩)
      obtain ⟨e1, e2⟩ := g5 c' hc'
      refine ⟨cc, hcc, ?_⟩
      rcases Nat.lt_or_ge cc.len c'.len with h | h
      · exact .inr h
      · have e3 : c'.len = cc.len := by omega
        obtain ⟨s1, s2, s3⟩ := e2 e3
        refine .inl ⟨e3.symm, s2 rfl e3.symm, ?_⟩
        obtain ⟨p', cc', r1, r2, r3⟩ := hobj hi
        rw [hc'] at r2
        cases r2
        rw [hO.esz, r3.esz]
        have := congrArg (fun l => l[i]?) hsz
        simp only [List.getElem?_map, q1, r1, Option.map_some, Option.some.injEq] at this
        exact this
    · rw [cOut ho'] at hc'
      exact ⟨c', hc', .inl ⟨rfl, rfl, rfl⟩⟩
  refine ⟨⟨⟨fun k hk hm' => (hb.tch.same k (by omega) fun hk' => (bge k hk').elim (by omega) (fun h => hm' h)).trans (hm.tch.same k hk hm'), by omega, hb.tch.os.trans hm.tch.os, hb.tch.tape.trans hm.tch.tape, hb.tch.output.trans hm.tch.output⟩, fun k hk => hk.elim (fun hk => by have := hm.im k hk; omega) (fun hk => hb.im k hk.1), fun t => RV.mono hIm2 hIs (Nat.le_refl _) hle _ _ (hm.slot t), fun o ho => ?_, fun o l sz xs ho => ?_, fun o ho => ?_, fun o o' c c' hoo hc hc' => ?_, fun k hk => hk.elim (hm.imJ k) fun hk => .inr (bge' k hk.2), fun p hp => RV.mono hIm2 hIs (Nat.le_refl _) hle _ _ (hm.gst p hp)⟩, hle, fun F hL hF => ⟨⟨hL.nd, fun k hk => bge' k (hL.ge k hk), hL.wb, fun o c hc k hk hk' => ?_⟩, fun k hk hi2 => hi2.elim (nIm k (hL.ge k hk)) fun hi2 => hF k hk hi2.1⟩⟩
  · dsimp only at ho
    rcases ref_or ρ o with ⟨i, hi⟩ | ho'
    · rw [hAt hi] at ho
      have := obS_dead ho
      have := (List.getElem?_eq_some_iff.1 hi).1
      omega
    · rw [hOut ho'] at ho
      rw [cOut ho']; exact hm.nod o ho
  · dsimp only at ho ⊢
    rcases ref_or ρ o with ⟨i, hi⟩ | ho'
    · rw [hAt hi] at ho
      obtain ⟨rfl, hp⟩ := obS_inv ho
      obtain ⟨p', cc', r1, r2, r3⟩ := hobj hi
      rw [hp] at r1
      cases r1
      obtain ⟨o1, o2⟩ := hown _ (List.mem_of_getElem? hp)
      rw [ownLL_all, ← ownL'_all] at o1
      refine ⟨cc', (cAt hi).trans r2, r3.esz, r3.len, r3.buf, LayC.own (((r3.lay.pure o2).own o1).mono (fun _ h => h.elim) (fun _ h => h.elim) (fun _ _ => rfl)), r3.lens, r3.nd, fun k hk => bge' k (r3.ge k hk), fun b hb' hi2 => ?_, fun k hk => ⟨fun hi2 => ?_, fun h => by cases h⟩⟩
      · rcases hi2 with hi2 | hi2
        · exact nIm b (r3.ge b (by simp [blks, mem_ownL, hb'])) hi2
        · exact r3.nim b hb' hi2.1
      · rcases hi2 with hi2 | hi2
        · exact absurd hi2 (nIm k (r3.ge k (by simp [blks, hk])))
        · exact (r3.lent k hk).1 hi2.1
    · rw [hOut ho'] at ho
      obtain ⟨c, g1, g2⟩ := hm.obj o l sz xs ho
      have ho2 := hoff o c ho' g1
      have hs2 : ∀ k ∈ blks c, w'.heap[k]? = w.heap[k]? := fun k hk => hsame k (ho2 k hk).1 (ho2 k hk).2
      refine ⟨c, (cOut ho').trans g1, g2.esz, g2.len, g2.buf.same fun b hb => hs2 b (by simp [blks, mem_ownL, hb]), g2.lay.mono hIm2 hIs (Nat.le_refl _) hle fun k hk => hs2 k (by simp [blks, hk]), g2.lens, g2.nd, g2.ge, fun b hb' hi2 => hi2.elim (g2.nim b hb') fun hi2 => ?_, fun k hk => ⟨fun hi2 => hi2.elim (g2.lent k hk).1 fun hi2 => ?_, fun h => .inl ((g2.lent k hk).2 h)⟩⟩
      · have := ho2 b (by simp [blks, mem_ownL, hb'])
        rcases hi2.2 with h | h
        · omega
        · exact this.2 h
      · have := ho2 k (by simp [blks, hk])
        rcases hi2.2 with h | h
        · omega
        · exact absurd h this.2
  · dsimp only at ho ⊢
    rcases ref_or ρ o with ⟨i, hi⟩ | ho'
    · obtain ⟨p, q1, q2, q3⟩ := hob.at hi
      have := hm.lt o ho
      rw [q2] at this; cases this
    · rw [hOut ho']; exact hm.lt o ho
  · rcases ref_or ρ o with ⟨i, hi⟩ | ho1 <;> rcases ref_or ρ o' with ⟨i', hi'⟩ | ho2
    · rw [cAt hi] at hc
      rw [cAt hi'] at hc'
      exact hb.dis i i' c c' (fun e => hoo (by subst e; rw [hi] at hi'; exact Option.some.inj hi')) hc hc'
    · rw [cAt hi] at hc
      rw [cOut ho2] at hc'
      intro k hk hk'
      obtain ⟨p', cc', r1, r2, r3⟩ := hobj hi
      rw [hc] at r2
      cases r2
      have h1 := hoff o' c' ho2 hc' k hk'
      rcases r3.ge k hk with h | h
      · omega
      · exact h1.2 h
    · rw [cOut ho1] at hc
      rw [cAt hi'] at hc'
      intro k hk hk'
      obtain ⟨p', cc', r1, r2, r3⟩ := hobj hi'
      rw [hc'] at r2
      cases r2
      have h1 := hoff o c ho1 hc k hk
      rcases r3.ge k hk' with h | h
      · omega
      · exact h1.2 h
    · rw [cOut ho1] at hc
      rw [cOut ho2] at hc'
      exact hm.dis o o' c c' hoo hc hc'
  · rcases ref_or ρ o with ⟨i, hi⟩ | ho'
    · rw [cAt hi] at hc
      exact hL.off i c hc k hk hk'
    · rw [cOut ho'] at hc
      have h1 := hoff o c ho' hc k hk'
      rcases hL.ge k hk with h | h
      · omega
      · exact h1.2 h
/-- a result as the caller sees it -/
def ren (ρ : List Nat) : AV → AV
  | .sl o n off m => .sl (ρ.getD o 0) n off m
  | .pt o n k j => .pt (ρ.getD o 0) n k j
  | a => a
def renB (vw : Bool) : AV → Bool
  | .i _ | .b _ | .nl | .em | .sl _ _ _ _ | .pt _ _ _ _ => true
  | .dt true _ xs => (ownLL xs || vw) && xs.flatten.all pureB
  | .dt false _ _ => vw
  | _ => false
theorem LayC.ren {K N : Nat} {C' C2 : Nat → Option Conc} {J' I2 : Nat → Prop} {w : World} {ρ : List Nat} {vw : Bool} (hK : K = ρ.length) (hρ : ∀ o ∈ ρ, o < N) (hC : ∀ i o, ρ[i]? = some o → C2 o = C' i) (hv : vw = true → ∀ k, J' k → I2 k) {cs : List AV} {us : List Value} {F : List Nat} (h : LayC K C' J' w cs us F) (hc : cs.all (renB vw) = true) : LayC N C2 I2 w (cs.map (V.ren ρ)) us F := by
  induction h with
  | nil => exact .nil
  | @at1 a v cs vs F h1 h2 _ ih =>
    rw [List.all_cons, Bool.and_eq_true] at hc
    refine .at1 ?_ h2 (ih hc.2)
    have hc1 := hc.1
    cases a with
    | i n => exact h1
    | b x => exact h1
    | nl => exact h1
    | em => exact h1
    | sl o n off m =>
      obtain ⟨p, c, g1, g2, g3, g4, g5⟩ := h1
      have ho : ρ[o]? = some (ρ.getD o 0) := by rw [hK] at g4; simp [g4]
      exact ⟨p, c, g1, g2, g3, hρ _ (List.mem_of_getElem? ho), fun cc hcc => g5 cc (by rw [← hC o _ ho]; exact hcc)⟩
    | pt o n k j =>
      obtain ⟨b, q, g1, g4, g5⟩ := h1
      have ho : ρ[o]? = some (ρ.getD o 0) := by rw [hK] at g4; simp [g4]
      exact ⟨b, q, g1, hρ _ (List.mem_of_getElem? ho), fun cc hcc => g5 cc (by rw [← hC o _ ho]; exact hcc)⟩
    | dt o sz xs =>
      obtain ⟨rfl, h1⟩ := h1
      have : vw = true := hc1
      exact ⟨rfl, h1.mono (hv this) (fun _ _ => rfl)⟩
    | _ => cases hc1
  | @ow sz xs v F1 cs vs F h1 h2 ih =>
    rw [List.all_cons, Bool.and_eq_true] at hc
    have hc1 := hc.1
    simp only [renB, Bool.and_eq_true, Bool.or_eq_true] at hc1
    rcases hc1.1 with ho | hvw
    · exact .ow ((h1.own (by simp [ownL', ownA, ho])).mono (fun _ h => h.elim) (fun _ h => h.elim) (fun _ _ => rfl)) (ih hc.2)
    · exact .ow (h1.mono (hv hvw) (fun _ _ => rfl) (fun _ _ => rfl)) (ih hc.2)
def renR (ρ : List Nat) : AV → AV
  | .agg cs => .agg (cs.map (V.ren ρ))
  | a => V.ren ρ a
def renRB (vw : Bool) : AV → Bool
  | .agg cs => cs.all (renB vw)
  | a => renB vw a
theorem ResM.ren {K N : Nat} {C' C2 : Nat → Option Conc} {J' I2 : Nat → Prop} {w : World} {ρ : List Nat} {vw : Bool} (hK : K = ρ.length) (hρ : ∀ o ∈ ρ, o < N) (hC : ∀ i o, ρ[i]? = some o → C2 o = C' i) (hv : vw = true → ∀ k, J' k → I2 k) {rs : List AV} {us : List Value} {F : List Nat} (h : ResM K C' J' w rs us F) (hc : rs.all (renRB vw) = true) : ResM N C2 I2 w (rs.map (renR ρ)) us F := by
  induction h with
  | nil => exact .nil
  | @cell a v rs vs F G h1 _ ih =>
    rw [List.all_cons, Bool.and_eq_true] at hc
    have ha : renR ρ a = V.ren ρ a ∧ renRB vw a = renB vw a := by
      cases a with
      | agg cs => cases h1 with | at1 h3 h4 _ => obtain ⟨us, rfl, _⟩ := h3; cases h4
      | _ => exact ⟨rfl, rfl⟩
    rw [List.map_cons, ha.1]
    exact .cell (h1.ren hK hρ hC hv (by rw [List.all_cons, ← ha.2, hc.1]; rfl)) (ih hc.2)
  | @agg cs us rs vs F G h1 _ ih =>
    rw [List.all_cons, Bool.and_eq_true] at hc
    exact .agg (h1.ren hK hρ hC hv hc.1) (ih hc.2)
/-- what is the callee's own becomes objects of the caller -/
inductive ThwC : Nat → List AV → List AV → List (Nat × List (List AV)) → Prop
  | nil {N : Nat} : ThwC N [] [] []
  | at1 {N : Nat} {a : AV} {cs ds : List AV} {os : List (Nat × List (List AV))} : shr a = true → ThwC N cs ds os → ThwC N (a :: cs) (a :: ds) os
  | ow {N n sz : Nat} {xs : List (List AV)} {cs ds : List AV} {os : List (Nat × List (List AV))} : xs.length = n → ThwC (N + 1) cs ds os → ThwC N (.dt true sz xs :: cs) (.sl N n 0 n :: ds) ((sz, xs) :: os)
theorem ThwC.spec {N : Nat} {cs ds : List AV} {os : List (Nat × List (List AV))} (h : ThwC N cs ds os) : ∀ {st : St} {C : Nat → Option Conc} {us : List Value} {F H : List Nat}, st.nx = N → Sm w0 MP st C Im E w → LayC st.nx C Im w cs us F → Loose w0 MP C w (F ++ H) → (∀ k ∈ F ++ H, ¬ Im k) →
    ∃ C', Sm w0 MP ⟨st.E, addO st.hp st.nx os, st.nx + os.length⟩ C' Im E w ∧ RVL (st.nx + os.length) C' Im w ds us ∧ Loose w0 MP C' w H ∧ CLe st.nx C C' := by
  induction h with
  | nil =>
    intro st C us F H hN hm ho hL hi
    cases ho
    exact ⟨C, hm, rfl, by simpa using hL, CLe.refl _ _⟩
  | @at1 N a cs ds os ha _ ih =>
    intro st C us F H hN hm ho hL hi
    cases ho with
    | @at1 _ v _ vs _ h1 h0 h2 =>
      obtain ⟨C', g1, g2, g3, g4⟩ := ih hN hm h2 hL hi
      exact ⟨C', g1, ⟨v, vs, rfl, RV.mono (fun _ h => h) (fun _ _ => rfl) (by simp) g4 _ _ h1, g2⟩, g3, g4⟩
    | ow _ _ => cases ha
  | @ow N n sz xs cs ds os hn _ ih =>
    intro st C us F H hN hm ho hL hi
    cases ho with
    | at1 h1 _ h2 => exact absurd h1.1 (by simp)
    | @ow _ _ v F1 _ vs F2 h1 h4 =>
      cases h1 with
      | at1 h1 h2 => cases h1
      | @ow _ _ _ us2 G _ vs' F3 h1 h2 h3 h5 =>
      cases h5
      let cc : Conc := ⟨v, xs.length, sz, us2, G⟩
      simp only [List.append_nil] at hL hi
      rw [List.append_assoc] at hL hi
      obtain ⟨n1, n2, n3⟩ := List.nodup_append.1 hL.nd
      have hmem : ∀ k ∈ blks cc, k ∈ ownL v ++ G ++ (F2 ++ H) := fun k hk => List.mem_append_left _ hk
      have hO : OR w0 MP st.nx C Im w false sz xs cc := ⟨rfl, rfl, h1, LayC.own h2, h3, n1, fun k hk => hL.ge k (hmem k hk), fun b hb => hi b (hmem b (by simp [blks, cc, mem_ownL, hb])), fun k hk => ⟨fun h => absurd h (hi k (hmem k (by simp [blks, cc, show k ∈ G from hk]))), fun h => by cases h⟩⟩
      have hS := hm.new hO fun o c hc k hk => hL.off o c hc k (hmem k hk)
      have hle : CLe st.nx C (updA C st.nx (some cc)) := fun o ho c hc => ⟨c, by rwa [updA_ne _ _ (by omega)] at hc, .inl ⟨rfl, rfl, rfl⟩⟩
      obtain ⟨C', g1, g2, g3, g4⟩ := ih (st := ⟨st.E, updA st.hp st.nx (.live false sz xs), st.nx + 1⟩) (by simp [hN]) hS (h4.mono (fun _ h => h) (fun _ _ => rfl) (Nat.le_succ _) hle (fun _ _ => rfl)) (H := H) ⟨n2, fun k hk => hL.ge k (List.mem_append_right _ hk), fun k hk => hL.wb k (List.mem_append_right _ hk), fun o c hc k hk => by
        by_cases e : o = st.nx
        · subst e
          rw [updA_same] at hc
          cases hc
          exact fun hk' => n3 k hk' k hk rfl
        · rw [updA_ne _ _ e] at hc
          exact hL.off o c hc k (List.mem_append_right _ hk)⟩ fun k hk => hi k (List.mem_append_right _ hk)
      have hrv : RV (st.nx + 1) (updA C st.nx (some cc)) Im w (.sl st.nx n 0 n) v := by
        obtain ⟨c2, q1, q2⟩ := hS.obj st.nx false sz xs (updA_same ..)
        have := RV.slNew q2 q1 (Nat.lt_succ_self _)
        rw [updA_same] at q1
        cases q1
        rw [← hn]; exact this
      have e1 : st.nx + 1 + os.length = st.nx + ((sz, xs) :: os).length := by simp; omega
      simp only at g1 g2 g4
      rw [e1] at g1 g2
      refine ⟨C', g1, ⟨v, vs, rfl, ?_, g2⟩, g3, hle.trans g4 (Nat.le_succ _)⟩
      rw [← hN]
      exact RV.mono (fun _ h => h) (fun _ _ => rfl) (by simp) g4 _ _ hrv
def nag : AV → Bool
  | .agg _ => false
  | _ => true
inductive ThwM : Nat → List AV → List AV → List (Nat × List (List AV)) → Prop
  | nil {N : Nat} : ThwM N [] [] []
  | cell {N : Nat} {a a' : AV} {rs as : List AV} {os os' : List (Nat × List (List AV))} : nag a = true → ThwC N [a] [a'] os → ThwM (N + os.length) rs as os' → ThwM N (a :: rs) (a' :: as) (os ++ os')
  | agg {N : Nat} {cs ds : List AV} {rs as : List AV} {os os' : List (Nat × List (List AV))} : ThwC N cs ds os → ThwM (N + os.length) rs as os' → ThwM N (.agg cs :: rs) (.agg ds :: as) (os ++ os')
theorem ResM.mono {M : Nat} {C' : Nat → Option Conc} (hN : N ≤ M) (hC : CLe N C C') {rs : List AV} {vs : List Value} {F : List Nat} (h : ResM N C Im w rs vs F) : ResM M C' Im w rs vs F := by
  induction h with
  | nil => exact .nil
  | cell h1 _ ih => exact .cell (h1.mono (fun _ h => h) (fun _ _ => rfl) hN hC (fun _ _ => rfl)) ih
  | agg h1 _ ih => exact .agg (h1.mono (fun _ h => h) (fun _ _ => rfl) hN hC (fun _ _ => rfl)) ih
theorem ThwM.spec {N : Nat} {rs as : List AV} {os : List (Nat × List (List AV))} (h : ThwM N rs as os) : ∀ {st : St} {C : Nat → Option Conc} {vs : List Value} {F : List Nat}, st.nx = N → Sm w0 MP st C Im E w → ResM st.nx C Im w rs vs F → Loose w0 MP C w F → (∀ k ∈ F, ¬ Im k) →
    ∃ C', Sm w0 MP ⟨st.E, addO st.hp st.nx os, st.nx + os.length⟩ C' Im E w ∧ RVL (st.nx + os.length) C' Im w as vs ∧ CLe st.nx C C' := by
  induction h with
  | nil =>
    intro st C us F hN hm ho hL hi
    cases ho
    exact ⟨C, hm, rfl, CLe.refl _ _⟩
  | @cell N a a' rs as os os' hna ht _ ih =>
    intro st C vs F hN hm ho hL hi
    cases ho with
    | @cell _ v _ vs' F1 F2 h1 h2 =>
      obtain ⟨C1, g1, g2, g3, g4⟩ := ht.spec hN hm h1 hL hi
      obtain ⟨C2, k1, k2, k3⟩ := ih (st := ⟨st.E, addO st.hp st.nx os, st.nx + os.length⟩) (by simp [hN]) g1 (h2.mono (by simp) g4) g3 fun k hk => hi k (List.mem_append_right _ hk)
      have e1 : st.nx + os.length + os'.length = st.nx + (os ++ os').length := by simp; omega
      simp only at k1 k2 k3
      rw [← addO_append, e1] at k1
      rw [e1] at k2
      obtain ⟨v', vs2, q1, q2, q3⟩ := g2
      simp only [List.cons.injEq] at q1
      obtain ⟨rfl, _⟩ := q1
      exact ⟨C2, k1, ⟨v, vs', rfl, RV.mono (fun _ h => h) (fun _ _ => rfl) (by simp) k3 _ _ q2, k2⟩, g4.trans k3 (by omega)⟩
    | agg h1 h2 => cases hna
  | @agg N cs ds rs as os os' ht _ ih =>
    intro st C vs F hN hm ho hL hi
    cases ho with
    | cell h1 h2 => cases h1 with | at1 h3 h4 _ => obtain ⟨us, rfl, _⟩ := h3; cases h4
    | @agg _ us _ vs' F1 F2 h1 h2 =>
      obtain ⟨C1, g1, g2, g3, g4⟩ := ht.spec hN hm h1 hL hi
      obtain ⟨C2, k1, k2, k3⟩ := ih (st := ⟨st.E, addO st.hp st.nx os, st.nx + os.length⟩) (by simp [hN]) g1 (h2.mono (by simp) g4) g3 fun k hk => hi k (List.mem_append_right _ hk)
      have e1 : st.nx + os.length + os'.length = st.nx + (os ++ os').length := by simp; omega
      simp only at k1 k2 k3
      rw [← addO_append, e1] at k1
      rw [e1] at k2
      exact ⟨C2, k1, ⟨_, vs', rfl, ⟨us, rfl, RVL.mono (fun _ h => h) (fun _ _ => rfl) (by simp) k3 _ _ g2⟩, k2⟩, g4.trans k3 (by omega)⟩
end
end Go.Proofs.YtedjajokbdokhaaGreat.V

/- Rules for calls that write what they are given, or return parts of it; parts of an object taken out and put back. Over any program; nothing is claimed of the given one. -/
namespace Go.Proofs.YtedjajokbdokhaaGreat.V
open V.Enc (enc)
open Go.RowKit G
set_option linter.unusedVariables false
set_option linter.unusedSimpArgs false

section
variable {P : Program} {n : Nat} {w0 : World} {MP : Fr} {Q : Exit → St → Prop} {st : St} {lb : Bool} {ops : Array Oper} {os : List Oper} {d : Option Tmp} {ty : TypeId} {pos : String} {af : Array Edge} {g : Option (Nat × Bool)} {x y : Operand}
theorem Later.ofTouched {w w' : World} (h : Touched [] w w') : Later w w' := h.below (Nat.le_refl _) (fun k hk => by cases hk)
theorem Sm.calledM {C : Nat → Option Conc} {Im J : Nat → Prop} {E : Env} {w : World} (hm : Sm w0 MP st C Im E w) {ρ : List Nat} {obs obs' ob : List (Nat × List (List AV))} {bs rs as : List AV} {f : FuncId} {us : List Value} {vw : Bool} (hc : AM P f bs obs rs obs') (hn : ρ.Nodup) (hob : ObL st.hp ρ obs)
    (hI : ∀ k, Im k → J k) (hJ : ∀ k, J k → k < w.heap.size ∧ k ∉ blsOf C ρ) (hr : RVL ρ.length (Cc ρ C) J w bs us) (hl : obs'.length = obs.length) (hsz : szO obs obs') (hown : ownO obs') (hvw : vw = true → ∀ k, J k → Im k) (hrb : rs.all (renRB vw) = true) (ht : ThwM st.nx (rs.map (renR ρ)) as ob) (d : Option Tmp) :
    Run P f us w fun v w' => (ρ = [] → Later w w') ∧ Sim w0 MP (putA ⟨st.E, addO (upsA (zipO ρ obs') st.hp) st.nx ob, st.nx + ob.length⟩ d (tupA as)) (G.put E d v) w' := by
  have hlen := hob.length
  rw [hlen] at hr
  refine (hc w _ _ E us (hm.give hn hob hI hJ E) hr).mono fun v w' ⟨C', J', E', hb, vs, F, e, hR, hL, hF⟩ => ?_
  subst e
  obtain ⟨hS, hle, hfo⟩ := hm.back hn hob hI hJ hl hsz hown hb
  obtain ⟨hL2, hF2⟩ := hfo F hL hF
  have hres := hR.ren (N := st.nx) (C2 := upsA (zipF C' ρ 0) C) (I2 := Im2 Im J' w (blsOf C ρ)) (vw := vw) hlen.symm (fun o ho => by
    obtain ⟨i, hi⟩ := List.mem_iff_getElem?.1 ho
    obtain ⟨p, q1, q2, q3⟩ := hob.at hi
    rcases Nat.lt_or_ge o st.nx with h | h
    · exact h
    · have := hm.lt o h; rw [q2] at this; cases this) (fun i o hi => by rw [zipF_at hn hi, Nat.zero_add]) (fun hv k hk => by
    rcases hb.imJ k hk with h | h
    · exact .inl (hvw hv k h)
    · exact .inr ⟨hk, h⟩) hrb
  obtain ⟨C3, g1, g2, g3⟩ := ht.spec (st := ⟨st.E, upsA (zipO ρ obs') st.hp, st.nx⟩) rfl hS hres hL2 hF2
  refine ⟨fun hρ => ?_, putS g1 d (tup_rv g2)⟩
  subst hρ
  exact Later.ofTouched hb.tch
/-- a call that writes objects -/
theorem R.callM {f : FuncId} {args : Array Operand} {ats : Array TypeId} {bs rs as : List AV} {obs obs' ob : List (Nat × List (List AV))} [hf : IsFn P f] (ρ : List Nat) (hc : AM P f bs obs rs obs') (hn : ρ.Nodup) (hob : ObL st.hp ρ obs) (hs : RenL (killL ρ st.hp) ρ (args.toList.map (evA st)) bs) (hl : obs'.length = obs.length) (hsz : szO obs obs') (hown : ownO obs')
    (hrb : rs.all (renRB false) = true) (ht : ThwM st.nx (rs.map (renR ρ)) as ob) (hw : awant n ops ⟨d, .call ⟨.value (.func f), args, ats⟩, ty, pos, af, g⟩ st.E true = true) (hd : fits n d = true) (hlb : lb = false)
    (h : ARg P n w0 MP lb ops os Q (putA ⟨st.E, addO (upsA (zipO ρ obs') st.hp) st.nx ob, st.nx + ob.length⟩ d (tupA as))) : ARg P n w0 MP lb ops (⟨d, .call ⟨.value (.func f), args, ats⟩, ty, pos, af, g⟩ :: os) Q st := fun E w ⟨C, Im, hm⟩ => by
  have hoff : ∀ k, Im k → k ∉ blsOf C ρ := fun k hk hk' => by
    obtain ⟨o, cc, h1, h2, h3⟩ := mem_blsOf.1 hk'
    obtain ⟨i, hi⟩ := List.mem_iff_getElem?.1 h1
    obtain ⟨p, q1, q2, q3⟩ := hob.at hi
    obtain ⟨cc', r1, r2⟩ := hm.obj _ _ _ _ q2
    rw [h2] at r1
    cases r1
    rcases List.mem_append.1 h3 with h3 | h3
    · exact r2.nim k (mem_ownL.1 h3) hk
    · cases (r2.lent k h3).1 hk
  have hr := hs.spec (w0 := w0) (MP := MP) (N := st.nx) (C := C) (Im := Im) (J := fun k => k < w.heap.size ∧ k ∉ blsOf C ρ) (fun k hk => ⟨hm.im k hk, hoff k hk⟩) (fun o l sz xs ho => by
    obtain ⟨h1, h2⟩ := killL_live ho
    obtain ⟨cc, r1, r2⟩ := hm.obj _ _ _ _ h2
    refine ⟨cc, r1, r2, fun k hk => ⟨(r2.wb k hk).lt, fun hk' => ?_⟩⟩
    obtain ⟨o', c', g1, g2, g3⟩ := mem_blsOf.1 hk'
    exact hm.dis o o' cc c' (fun e => h1 (e ▸ g1)) r1 g2 k hk g3) (hm.evL _)
  refine G.Rg.call (hm.calledM hc hn hob (fun k hk => ⟨hm.im k hk, hoff k hk⟩) (fun k hk => hk) hr hl hsz hown (vw := false) (fun h => by cases h) hrb ht d) rfl (awant_spec hm hw) hd ?_
  rintro v w' ⟨_, hS⟩
  exact (h _ _ hS).mono fun e E2 w2 hq => ⟨fun hb => (by rw [hlb] at hb; cases hb), hq.2⟩
/-- a call that returns parts of what does not change -/
theorem R.callW {f : FuncId} {args : Array Operand} {ats : Array TypeId} {bs rs as : List AV} {ob : List (Nat × List (List AV))} [hf : IsFn P f] (hc : AM P f bs [] rs []) (hs : RenL (fun _ => .dead) [] (args.toList.map (evA st)) bs)
    (hrb : rs.all (renRB true) = true) (ht : ThwM st.nx (rs.map (renR [])) as ob) (hw : awant n ops ⟨d, .call ⟨.value (.func f), args, ats⟩, ty, pos, af, g⟩ st.E true = true) (hd : fits n d = true)
    (h : ARg P n w0 MP lb ops os Q (putA ⟨st.E, addO st.hp st.nx ob, st.nx + ob.length⟩ d (tupA as))) : ARg P n w0 MP lb ops (⟨d, .call ⟨.value (.func f), args, ats⟩, ty, pos, af, g⟩ :: os) Q st := fun E w ⟨C, Im, hm⟩ => by
  have hr := hs.spec (w0 := w0) (MP := MP) (N := st.nx) (C := C) (Im := Im) (J := Im) (fun k hk => hk) (fun o l sz xs ho => by cases ho) (hm.evL _)
  refine G.Rg.call (hm.calledM (ρ := []) (J := Im) hc List.nodup_nil .nil (fun k hk => hk) (fun k hk => ⟨hm.im k hk, by simp [blsOf]⟩) hr rfl rfl ownO.nil (vw := true) (fun _ k hk => hk) hrb ht d) rfl (awant_spec hm hw) hd ?_
  rintro v w' ⟨hl, hS⟩
  exact (h _ _ hS).mono fun e E2 w2 hq => ⟨fun hb => (hl rfl).trans (hq.1 hb), hq.2⟩

/-! ### a part of an object is taken out, and put back -/
theorem AW.ghost {c : Code} {st' : St} (hs : ∀ E w, Sim w0 MP st E w → Sim w0 MP st' E w) (h : AW P n w0 MP c Q st') : AW P n w0 MP c Q st := fun E w hm => h E w (hs E w hm)
theorem ARg.ghost {st' : St} (hs : ∀ E w, Sim w0 MP st E w → Sim w0 MP st' E w) (h : ARg P n w0 MP lb ops os Q st') : ARg P n w0 MP lb ops os Q st := fun E w hm => h E w (hs E w hm)
theorem ARA.ghost {m fuel : Nat} {listed : Array Bool} {st' : St} (hs : ∀ E w, Sim w0 MP st E w → Sim w0 MP st' E w) (h : ARA P n w0 MP m ops fuel listed Q st') : ARA P n w0 MP m ops fuel listed Q st := fun E w hm => h E w (hs E w hm)
theorem set_len {xs : List (List AV)} {sz k : Nat} {c : List AV} (h : ∀ x ∈ xs, x.length = sz) (hc : c.length = sz) : ∀ x ∈ xs.set k c, x.length = sz := fun x hx => by
  rcases List.mem_or_eq_of_mem_set hx with h' | h'
  · exact h x h'
  · rw [h']; exact hc
/-- one cell of an object is told in other words -/
theorem Sm.recell {C : Nat → Option Conc} {Im : Nat → Prop} {E : Env} {w : World} (hm : Sm w0 MP st C Im E w) {o sz k j : Nat} {l : Bool} {xs : List (List AV)} {c : List AV} {a' : AV} {cc : Conc} {u1 u3 : List Value} {v : Value} {F1 F3 G : List Nat} (ho : st.hp o = .live l sz xs) (hcc : C o = some cc) (hk : xs[k]? = some c) (hj : j < c.length)
    (e1 : cc.us = u1 ++ ([v] ++ u3)) (hA : LayC st.nx C Im w ((xs.take k).flatten ++ c.take j) u1 F1) (hB : LayC st.nx C Im w (c.drop (j + 1) ++ (xs.drop (k + 1)).flatten) u3 F3) (hc : LayC st.nx C Im w [a'] [v] G)
    (hnd : (F1 ++ (G ++ F3)).Nodup) (hown : ∀ b, own cc.hv = some b → b ∉ F1 ++ (G ++ F3)) (hge : ∀ k ∈ F1 ++ (G ++ F3), w0.heap.size ≤ k ∨ k ∈ MP.bl) (hl : ∀ k ∈ F1 ++ (G ++ F3), Im k ↔ l = true) (hoff : ∀ o' c', o' ≠ o → C o' = some c' → ∀ k ∈ F1 ++ (G ++ F3), k ∉ blks c') :
    Sm w0 MP ⟨st.E, updA st.hp o (.live l sz (xs.set k (c.set j a'))), st.nx⟩ (updA C o (some ⟨cc.hv, cc.len, cc.sz, cc.us, F1 ++ (G ++ F3)⟩)) Im E w := by
  obtain ⟨cc1, hcc1, hO⟩ := hm.obj o l sz xs ho
  rw [hcc] at hcc1
  cases hcc1
  have hsz : ∀ x ∈ xs, x.length = sz := fun x hx => by rw [hO.lens x hx, hO.esz]
  have hcl : c.length = sz := hsz c (List.mem_of_getElem? hk)
  have hflat : (xs.set k (c.set j a')).flatten = ((xs.take k).flatten ++ c.take j) ++ ([a'] ++ (c.drop (j + 1) ++ (xs.drop (k + 1)).flatten)) := by
    rw [flatten_set hk, List.set_eq_take_append_cons_drop, if_pos hj]; simp
  refine hm.turn o ho hcc (.inl ⟨rfl, rfl, rfl⟩) hm.tch (Nat.le_refl _) (fun _ _ => rfl) (fun _ _ _ _ _ _ => rfl) ⟨hO.esz, by rw [List.length_set]; exact hO.len, hO.buf, ?_, fun x hx => by rw [set_len hsz (by rw [List.length_set]; exact hcl) x hx]; exact hO.esz.symm, ?_, fun k hk => ?_, hO.nim, hl⟩ fun o' c' ho' hc' k hk => ?_
  · rw [hflat, e1]
    exact hA.append (hc.append hB)
  · refine List.nodup_append.2 ⟨?_, hnd, fun a ha b hb e => ?_⟩
    · unfold ownL; cases own cc.hv <;> simp
    · subst e; exact hown a (mem_ownL.1 ha) hb
  · rcases List.mem_append.1 hk with hk | hk
    · exact hO.ge k (List.mem_append_left _ hk)
    · exact hge k hk
  · rcases List.mem_append.1 hk with hk | hk
    · exact hm.dis o o' cc c' (Ne.symm ho') hcc hc' k (List.mem_append_left _ hk)
    · exact hoff o' c' ho' hc' k hk
theorem flat_cell {xs : List (List AV)} {k j : Nat} {c : List AV} {a : AV} (hk : xs[k]? = some c) (hj : c[j]? = some a) : xs.flatten = ((xs.take k).flatten ++ c.take j) ++ ([a] ++ (c.drop (j + 1) ++ (xs.drop (k + 1)).flatten)) := by
  have hl : j < c.length := (List.getElem?_eq_some_iff.1 hj).1
  have := flat_parts (r := 1) (j := j) hk (by omega)
  rw [this]
  congr 2
  have e : (c.drop j).take 1 = [a] := by
    rw [List.drop_eq_getElem_cons hl, List.take_succ_cons, List.take_zero, (List.getElem?_eq_some_iff.1 hj).2]
  rw [e]
/-- a list below an object's cell becomes an object -/
theorem Sim.take {E : Env} {w : World} {o sz k j sz2 : Nat} {xs ys : List (List AV)} {c : List AV} (ho : st.hp o = .live false sz xs) (hk : xs[k]? = some c) (hj : c[j]? = some (.dt true sz2 ys)) (hs : Sim w0 MP st E w) :
    Sim w0 MP ⟨st.E, updA (updA st.hp o (.live false sz (xs.set k (c.set j (.sl st.nx ys.length 0 ys.length))))) st.nx (.live false sz2 ys), st.nx + 1⟩ E w ∧ ∀ b q, (∃ cc C Im, Sm w0 MP st C Im E w ∧ C o = some cc ∧ own cc.hv = some b ∧ q = k * cc.sz + j) →
      ∃ v C' Im', w.cell? ⟨b, q, none⟩ = some v ∧ v.oneCell' = true ∧ Sm w0 MP ⟨st.E, updA (updA st.hp o (.live false sz (xs.set k (c.set j (.sl st.nx ys.length 0 ys.length))))) st.nx (.live false sz2 ys), st.nx + 1⟩ C' Im' E w ∧ RV (st.nx + 1) C' Im' w (.sl st.nx ys.length 0 ys.length) v := by
  have key : ∀ C Im, Sm w0 MP st C Im E w → ∃ v C', Sm w0 MP ⟨st.E, updA (updA st.hp o (.live false sz (xs.set k (c.set j (.sl st.nx ys.length 0 ys.length))))) st.nx (.live false sz2 ys), st.nx + 1⟩ C' Im E w ∧ RV (st.nx + 1) C' Im w (.sl st.nx ys.length 0 ys.length) v ∧ v.oneCell' = true ∧
      ∀ cc, C o = some cc → ∀ b, own cc.hv = some b → w.cell? ⟨b, k * cc.sz + j, none⟩ = some v := by
    intro C Im hm
    obtain ⟨cc, hcc, hO⟩ := hm.obj o false sz xs ho
    have hjl : j < c.length := (List.getElem?_eq_some_iff.1 hj).1
    have hkl : k < xs.length := (List.getElem?_eq_some_iff.1 hk).1
    have hsz : ∀ x ∈ xs, x.length = sz := fun x hx => by rw [hO.lens x hx, hO.esz]
    have hcl : c.length = sz := hsz c (List.mem_of_getElem? hk)
    have hox : o < st.nx := by
      rcases Nat.lt_or_ge o st.nx with h | h
      · exact h
      · have := hm.lt o h; rw [ho] at this; cases this
    obtain ⟨u1, u2, u3, F1, F2, F3, e1, e2, l1, l2, q1, q2, q3⟩ := hO.lay.cut (flat_cell hk hj)
    have hnd := hO.nd
    unfold blks at hnd
    obtain ⟨n1, n2, n3⟩ := List.nodup_append.1 hnd
    rw [e2] at n2
    obtain ⟨m1, m2, m3⟩ := List.nodup_append.1 n2
    obtain ⟨m4, m5, m6⟩ := List.nodup_append.1 m2
    have sub : ∀ x, x ∈ F1 ++ ([] ++ F3) → x ∈ cc.F := fun x hx => by
      rw [e2]; simp only [List.nil_append, List.mem_append] at hx ⊢
      rcases hx with h | h
      · exact .inl h
      · exact .inr (.inr h)
    have subB : ∀ x, x ∈ cc.F → x ∈ blks cc := fun x hx => List.mem_append_right _ hx
    cases q2 with
    | at1 h _ _ => exact absurd h.1 (by simp)
    | @ow _ _ v G1 _ vs G2 h1 h2 =>
      cases h2
      have hone : v.oneCell' = true := h1.one _ (by simp)
      have hcell : ∀ b, own cc.hv = some b → w.cell? ⟨b, k * cc.sz + j, none⟩ = some v := fun b hb => by
        refine hO.cell hb ?_
        have hl1 : u1.length = k * cc.sz + j := by
          rw [l1, List.length_append, flatten_take hsz (by omega), List.length_take, Nat.min_eq_left (by omega), hO.esz]
        rw [e1, List.getElem?_append_right (by omega), hl1]; simp
      cases h1 with
      | at1 h _ => cases h
      | @ow _ _ _ us2 G _ vs' F4 g1 g2 g3 g4 =>
      cases g4
      simp only [List.append_nil] at e2 m2 m3 m4 m5 m6 n2
      have hA := Sm.recell hm (a' := .no) (v := v) (u1 := u1) (u3 := u3) (F1 := F1) (F3 := F3) (G := []) ho hcc hk hjl (by rw [e1]) q1 q3 (.at1 trivial hone .nil)
        (by
          rw [List.nil_append]
          exact List.nodup_append.2 ⟨m1, m5, fun a ha b hb => m3 a ha b (List.mem_append_right _ hb)⟩) (fun b hb hk' => n3 b (mem_ownL.2 hb) b (sub b hk') rfl) (fun x hx => hO.ge x (subB x (sub x hx))) (fun x hx => hO.lent x (sub x hx)) (fun o' c' ho' hc' x hx => hm.dis o o' cc c' (Ne.symm ho') hcc hc' x (subB x (sub x hx)))
      simp only [List.nil_append] at hA
      let cc1 : Conc := ⟨cc.hv, cc.len, cc.sz, cc.us, F1 ++ F3⟩
      let C1 := updA C o (some cc1)
      let cc2 : Conc := ⟨v, ys.length, sz2, us2, G⟩
      have hF : ∀ x ∈ blks cc2, x ∈ cc.F := fun x hx => by rw [e2]; exact List.mem_append_right _ (List.mem_append_left _ hx)
      have hle1 : CLe st.nx C C1 := fun o1 ho1 c1 hc1 => by
        by_cases e : o1 = o
        · subst e
          simp only [C1] at hc1
          rw [updA_same] at hc1
          cases hc1
          exact ⟨cc, hcc, .inl ⟨rfl, rfl, rfl⟩⟩
        · simp only [C1] at hc1
          rw [updA_ne _ _ e] at hc1
          exact ⟨c1, hc1, .inl ⟨rfl, rfl, rfl⟩⟩
      have hO2 : OR w0 MP st.nx C1 Im w false sz2 ys cc2 := ⟨rfl, rfl, g1, LayC.own g2, g3, m4, fun x hx => hO.ge x (subB x (hF x hx)), fun b hb hi => absurd ((hO.lent b (hF b (List.mem_append_left _ (mem_ownL.2 hb)))).1 hi) (by simp), fun x hx => hO.lent x (hF x (List.mem_append_right _ hx))⟩
      have hB := hA.new hO2 (fun o1 c1 hc1 x hx hx1 => by
        by_cases e : o1 = o
        · subst e
          rw [updA_same] at hc1
          cases hc1
          rcases List.mem_append.1 hx1 with hx1 | hx1
          · exact n3 x hx1 x (hF x hx) rfl
          · rcases List.mem_append.1 hx1 with hx1 | hx1
            · exact m3 x hx1 x (List.mem_append_left _ hx) rfl
            · exact m6 x hx x hx1 rfl
        · rw [updA_ne _ _ e] at hc1
          exact hm.dis o o1 cc c1 (Ne.symm e) hcc hc1 x (subB x (hF x hx)) hx1)
      dsimp only at hB
      have hrv : RV (st.nx + 1) (updA C1 st.nx (some cc2)) Im w (.sl st.nx ys.length 0 ys.length) v := by
        obtain ⟨c2, q1, q2⟩ := hB.obj st.nx false sz2 ys (updA_same ..)
        have := RV.slNew q2 q1 (Nat.lt_succ_self _)
        rw [updA_same] at q1
        cases q1
        exact this
      have hle2 : CLe st.nx C (updA C1 st.nx (some cc2)) := fun o1 ho1 c1 hc1 => by
        rw [updA_ne _ _ (by omega)] at hc1
        exact hle1 o1 ho1 c1 hc1
      have hoB : (updA (updA st.hp o (.live false sz (xs.set k (c.set j .no)))) st.nx (.live false sz2 ys)) o = .live false sz (xs.set k (c.set j .no)) := by rw [updA_ne _ _ (by omega), updA_same]
      have hkB : (xs.set k (c.set j .no))[k]? = some (c.set j .no) := by simp [hkl]
      have hC := Sm.recell hB (o := o) (k := k) (j := j) (c := c.set j .no) (a' := .sl st.nx ys.length 0 ys.length) (cc := cc1) (v := v) (u1 := u1) (u3 := u3) (F1 := F1) (F3 := F3) (G := []) hoB (by
          rw [updA_ne _ _ (by omega)]
          exact updA_same ..) hkB (by simpa using hjl) e1
        (by
          have := q1.mono (fun _ h => h) (fun _ _ => rfl) (Nat.le_succ _) hle2 (fun _ _ => rfl)
          rw [List.take_set_of_le (by omega), List.take_set_of_le (by omega)]
          exact this)
        (by
          have := q3.mono (fun _ h => h) (fun _ _ => rfl) (Nat.le_succ _) hle2 (fun _ _ => rfl)
          rw [List.drop_set_of_lt (by omega), List.drop_set_of_lt (by omega)]
          exact this) (.at1 hrv hone .nil)
        (by
          rw [List.nil_append]
          exact List.nodup_append.2 ⟨m1, m5, fun a ha b hb => m3 a ha b (List.mem_append_right _ hb)⟩) (fun b hb hk' => n3 b (mem_ownL.2 hb) b (sub b hk') rfl) (fun x hx => hO.ge x (subB x (sub x hx))) (fun x hx => hO.lent x (sub x hx)) (fun o' c' ho' hc' x hx hx1 => by
          by_cases e : o' = st.nx
          · subst e
            rw [updA_same] at hc'
            cases hc'
            rcases List.mem_append.1 hx with hx | hx
            · exact m3 x hx x (List.mem_append_left _ hx1) rfl
            · exact m6 x hx1 x hx rfl
          · rw [updA_ne _ _ e] at hc'
            have hc2 : updA C o (some cc1) o' = some c' := hc'
            rw [updA_ne _ _ ho'] at hc2
            replace hc' := hc2
            exact hm.dis o o' cc c' (Ne.symm ho') hcc hc' x (subB x (sub x hx)) hx1)
      refine ⟨v, updA (updA C1 st.nx (some cc2)) o (some ⟨cc1.hv, cc1.len, cc1.sz, cc1.us, F1 ++ ([] ++ F3)⟩), ?_, ?_, hone, fun cc' hc' b hb => by rw [hcc] at hc'; cases hc'; exact hcell b hb⟩
      · have e5 : ∀ (a : AV), (xs.set k (c.set j .no)).set k ((c.set j .no).set j a) = xs.set k (c.set j a) := fun a => by simp
        have e6 : updA (updA (updA st.hp o (.live false sz (xs.set k (c.set j .no)))) st.nx (.live false sz2 ys)) o (.live false sz ((xs.set k (c.set j .no)).set k ((c.set j .no).set j (.sl st.nx ys.length 0 ys.length)))) = updA (updA st.hp o (.live false sz (xs.set k (c.set j (.sl st.nx ys.length 0 ys.length))))) st.nx (.live false sz2 ys) := by
          rw [e5]
          funext t
          by_cases e : t = o
          · subst e
            rw [updA_same, updA_ne _ _ (by omega), updA_same]
          · rw [updA_ne _ _ e]
            by_cases e' : t = st.nx
            · subst e'; rw [updA_same, updA_same]
            · rw [updA_ne _ _ e', updA_ne _ _ e', updA_ne _ _ e, updA_ne _ _ e]
        rw [← e6]
        exact hC
      · refine RV.mono (fun _ h => h) (fun _ _ => rfl) (Nat.le_refl _) (fun o1 ho1 c1 hc1 => ?_) _ _ hrv
        by_cases e : o1 = o
        · subst e
          rw [updA_same] at hc1
          cases hc1
          exact ⟨cc1, by rw [updA_ne _ _ (by omega)]; exact updA_same .., .inl ⟨rfl, rfl, rfl⟩⟩
        · rw [updA_ne _ _ e] at hc1
          exact ⟨c1, hc1, .inl ⟨rfl, rfl, rfl⟩⟩
  obtain ⟨C, Im, hm⟩ := hs
  obtain ⟨v, C', h1, h2, h3, h4⟩ := key C Im hm
  refine ⟨⟨C', Im, h1⟩, fun b q ⟨cc, C, Im, hm, hcc, hb, hq⟩ => ?_⟩
  obtain ⟨v, C', h1, h2, h3, h4⟩ := key C Im hm
  subst hq
  exact ⟨v, C', Im, h4 cc hcc b hb, h3, h1, h2⟩
/-- a slice in an object's cell: its list goes along with the object -/
theorem Sim.put {E : Env} {w : World} {o sz k j : Nat} {l : Bool} {xs : List (List AV)} {c : List AV} {a a' : AV} {hp' : Nat → Ob} (ho : st.hp o = .live l sz xs) (hk : xs[k]? = some c) (hj : c[j]? = some a) (hca : cellB a = true) (hmv : Mv l st.hp [a] [a'] hp') (ho' : hp' o = .live l sz xs) (hs : Sim w0 MP st E w) :
    Sim w0 MP ⟨st.E, updA hp' o (.live l sz (xs.set k (c.set j a'))), st.nx⟩ E w := by
  obtain ⟨C, Im, hm⟩ := hs
  obtain ⟨cc, hcc, hO⟩ := hm.obj o l sz xs ho
  have hjl : j < c.length := (List.getElem?_eq_some_iff.1 hj).1
  obtain ⟨u1, u2, u3, F1, F2, F3, e1, e2, l1, l2, q1, q2, q3⟩ := hO.lay.cut (flat_cell hk hj)
  obtain ⟨v, rfl, rfl, hv⟩ := q2.get1 (fun sz xs e => by subst e; cases hca)
  have hone := hv.one hca
  obtain ⟨C1, Gb, f3, m1, y1, L1, le1⟩ := hmv.lay (H := []) (show Sm w0 MP ⟨st.E, st.hp, st.nx⟩ C Im E w from hm) (LayC.at1 hv hone .nil) Loose.nil (fun _ k hk => by cases hk)
  rw [List.append_nil] at L1
  obtain ⟨Im', hI, m4, hGl⟩ := m1.lendTo l L1 f3
  obtain ⟨cc1, hc1, hO4⟩ := m4.obj o l sz xs ho'
  have : cc1 = cc := by
    have := le1 o cc1 hc1
    rw [hcc] at this; exact (Option.some.inj this).symm
  subst this
  have hle : CLe st.nx C C1 := sub_cle le1
  have hnd := hO4.nd
  unfold blks at hnd
  obtain ⟨n1, n2, n3⟩ := List.nodup_append.1 hnd
  simp only [List.nil_append] at e2
  rw [e2] at n2
  obtain ⟨k1, k2, k3⟩ := List.nodup_append.1 n2
  have hF : ∀ x, x ∈ F1 ++ (Gb ++ F3) → x ∈ cc1.F ∨ x ∈ Gb := fun x hx => by
    rw [e2]; simp only [List.mem_append] at hx ⊢
    rcases hx with h | h | h
    · exact .inl (.inl h)
    · exact .inr h
    · exact .inl (.inr h)
  have hGo : ∀ x ∈ Gb, x ∉ blks cc1 := fun x hx => L1.off o cc1 hc1 x hx
  have key := Sm.recell m4 (a' := a') (v := v) (u1 := u1) (u3 := u3) (F1 := F1) (F3 := F3) (G := Gb) ho' hc1 hk hjl e1 (q1.mono hI (fun _ _ => rfl) (Nat.le_refl _) hle (fun _ _ => rfl)) (q3.mono hI (fun _ _ => rfl) (Nat.le_refl _) hle (fun _ _ => rfl)) (y1.mono hI (fun _ _ => rfl) (Nat.le_refl _) (CLe.refl _ _) (fun _ _ => rfl))
    (by
      refine List.nodup_append.2 ⟨k1, List.nodup_append.2 ⟨L1.nd, k2, fun a ha b hb e => ?_⟩, fun a ha b hb e => ?_⟩
      · subst e; exact hGo a ha (by simp [blks, e2, hb])
      · subst e
        rcases List.mem_append.1 hb with hb | hb
        · exact hGo a hb (by simp [blks, e2, ha])
        · exact k3 a ha a hb rfl)
    (fun b hb hx => (hF b hx).elim (fun h => n3 b (mem_ownL.2 hb) b h rfl) fun h => hGo b h (List.mem_append_left _ (mem_ownL.2 hb)))
    (fun x hx => (hF x hx).elim (fun h => hO4.ge x (by simp [blks, h])) (L1.ge x)) (fun x hx => (hF x hx).elim (hO4.lent x) (hGl x))
    (fun o1 c1 h1 hc' x hx => (hF x hx).elim (fun h => m4.dis o o1 cc1 c1 (Ne.symm h1) hc1 hc' x (by simp [blks, h])) fun h => L1.off o1 c1 hc' x h)
  exact ⟨_, Im', key⟩
end
section
variable {P : Program} {n : Nat} {w0 : World} {MP : Fr} {Q : Exit → St → Prop} {E : Nat → AV} {hp : Nat → Ob} {nx : Nat} {lb : Bool} {ops : Array Oper} {os : List Oper} {d : Option Tmp} {ty : TypeId} {pos : String} {af : Array Edge} {g : Option (Nat × Bool)} {x y : Operand}
theorem ndB {l : List Nat} (h : decide l.Nodup = true) : l.Nodup := of_decide_eq_true h
/-- a call that writes the objects ρ, by its contract -/
theorem F.m {f : FuncId} {args : Array Operand} {ats : Array TypeId} {bs rs as rs2 : List AV} {a : AV} {obs obs' ob : List (Nat × List (List AV))} [hf : IsFn P f] (ρ : List Nat) (hc : AM P f bs obs rs obs') (h : ARg P n w0 MP lb ops os Q ⟨putE E d a, addO (upsA (zipO ρ obs') hp) nx ob, nx + ob.length⟩)
    (hn : ρ.Nodup := by exact ndB rfl) (hob : ObL hp ρ obs := by (repeat' first | exact ObL.nil | refine ObL.cons rfl (by first | exact E_pure _ _ | rfl) ?_) <;> fail)
    (hs : RenL (killL ρ hp) ρ (args.toList.map (evA ⟨E, hp, nx⟩)) bs := by
      (repeat' first
        | exact RenL.nil
        | refine RenL.sl rfl ?_
        | refine RenL.agg ?_ ?_
        | refine RenL.sn (by (repeat' first | exact SnapL.nil | refine SnapL.i ?_ | refine SnapL.bo ?_ | refine SnapL.dt ?_ | refine SnapL.slE rfl (by first | rfl | omega | (simp; done) | (simp; omega)) ?_ | refine SnapL.slV rfl (by first | rfl | omega | (simp; done) | (simp; omega)) ?_ | refine SnapL.nd ?_ | refine SnapL.ed ?_ | refine SnapL.nl ?_ | refine SnapL.agg ?_ ?_ | refine SnapL.fn ?_ ?_ | refine SnapL.ip ?_ | refine SnapL.pt rfl rfl rfl rfl ?_ rfl ?_) <;> fail) ?_) <;> fail)
    (hl : obs'.length = obs.length := by exact rfl) (hsz : szO obs obs' := by exact rfl) (hown : ownO obs' := by repeat' first | exact ownO.nil | refine ownO.cons (by first | exact E_own _ | rfl) (by first | exact E_pure _ _ | rfl) ?_) (hrb : rs.all (renRB false) = true := by first | rfl | (simp only [renRB, renB, List.all_cons, List.all_nil, E_own, E_pure, Bool.or_true, Bool.true_or, Bool.true_and, Bool.and_true, Bool.and_self]; done) | (simp [renRB, renB, E_own, E_pure]; done))
    (hr : rs.map (renR ρ) = rs2 := by exact rfl) (ht : ThwM nx rs2 as ob := by (repeat' first | exact ThwM.nil | apply ThwM.agg | apply ThwM.cell rfl | exact ThwC.nil | apply ThwC.at1 rfl | apply ThwC.ow (E_length _ _) | apply ThwC.ow rfl) <;> fail) (ha : tupA as = a := by exact rfl)
    (hw : awant n ops ⟨d, .call ⟨.value (.func f), args, ats⟩, ty, pos, af, g⟩ E true = true := by exact rfl) (hd : fits n d = true := by exact rfl) (hlb : lb = false := by exact rfl) : ARg P n w0 MP lb ops (⟨d, .call ⟨.value (.func f), args, ats⟩, ty, pos, af, g⟩ :: os) Q ⟨E, hp, nx⟩ := by
  subst ha; subst hr; exact R.callM ρ hc hn hob hs hl hsz hown hrb ht hw hd hlb (by rw [putA_eq]; exact h)
/-- a call that returns parts of what does not change -/
theorem F.w {f : FuncId} {args : Array Operand} {ats : Array TypeId} {bs rs as rs2 : List AV} {a : AV} {ob : List (Nat × List (List AV))} [hf : IsFn P f] (hc : AM P f bs [] rs []) (h : ARg P n w0 MP lb ops os Q ⟨putE E d a, addO hp nx ob, nx + ob.length⟩)
    (hs : RenL (fun _ => .dead) [] (args.toList.map (evA ⟨E, hp, nx⟩)) bs := by
      (repeat' first
        | exact RenL.nil
        | refine RenL.agg ?_ ?_
        | refine RenL.sn (by (repeat' first | exact SnapL.nil | refine SnapL.i ?_ | refine SnapL.bo ?_ | refine SnapL.dt ?_ | refine SnapL.nd ?_ | refine SnapL.ed ?_ | refine SnapL.nl ?_ | refine SnapL.agg ?_ ?_ | refine SnapL.fn ?_ ?_ | refine SnapL.ip ?_) <;> fail) ?_) <;> fail)
    (hrb : rs.all (renRB true) = true := by first | rfl | (simp only [renRB, renB, List.all_cons, List.all_nil, E_own, E_pure, Bool.or_true, Bool.true_or, Bool.true_and, Bool.and_true, Bool.and_self]; done) | (simp [renRB, renB, E_own, E_pure]; done))
    (hr : rs.map (renR []) = rs2 := by exact rfl) (ht : ThwM nx rs2 as ob := by (repeat' first | exact ThwM.nil | apply ThwM.agg | apply ThwM.cell rfl | exact ThwC.nil | apply ThwC.at1 rfl | apply ThwC.ow (E_length _ _) | apply ThwC.ow rfl) <;> fail) (ha : tupA as = a := by exact rfl)
    (hw : awant n ops ⟨d, .call ⟨.value (.func f), args, ats⟩, ty, pos, af, g⟩ E true = true := by exact rfl) (hd : fits n d = true := by exact rfl) : ARg P n w0 MP lb ops (⟨d, .call ⟨.value (.func f), args, ats⟩, ty, pos, af, g⟩ :: os) Q ⟨E, hp, nx⟩ := by
  subst ha; subst hr; exact R.callW hc hs hrb ht hw hd (by rw [putA_eq]; exact h)
def ObE (hp : Nat → Ob) : Nat → List (Nat × List (List AV)) → Prop
  | _, [] => True
  | N, (sz, xs) :: os => hp N = .live false sz xs ∧ ObE hp (N + 1) os
theorem ObE.spec {hp : Nat → Ob} : ∀ {os : List (Nat × List (List AV))} {N : Nat}, ObE hp N os → ∀ i p, os[i]? = some p → hp (N + i) = .live false p.1 p.2
  | [], _, _, i, p, h => by simp at h
  | (sz, xs) :: os, N, ⟨h1, h2⟩, 0, p, h => by
    simp only [List.getElem?_cons_zero, Option.some.injEq] at h
    subst h; exact h1
  | (sz, xs) :: os, N, ⟨h1, h2⟩, i + 1, p, h => by
    rw [show N + (i + 1) = N + 1 + i by omega]
    exact ObE.spec h2 i p (by simpa using h)
/-- the end of a call that writes -/
theorem F.retM {K : Nat} {res : List ResultVar} {as rs rs' : List AV} {obs' : List (Nat × List (List AV))} {hp' : Nat → Ob} (he : rs' = rs) (ho : ObE hp' 0 obs')
    (h1 : RetL P ⟨E, hp, nx⟩ res as := by repeat' first | exact RetL.nil | apply RetL.tmp (a := .i _) rfl | apply RetL.tmp (a := .b _) rfl | apply RetL.tmp (a := .sl _ _ _ _) rfl | apply RetL.tmp (a := .nl) rfl | apply RetL.tmp (a := .em) rfl | apply RetL.tmp (a := .agg _) rfl | apply RetL.tmp (a := .dt _ _ _) rfl | apply RetL.agg rfl rfl rfl rfl | apply RetL.one rfl rfl rfl)
    (h2 : OutM K hp as rs' hp' := by
      repeat' first
        | exact OutM.nil
        | apply OutM.ref rfl
        | apply OutM.agg rfl
        | exact rfl
        | apply OutM.cell rfl (Mv.at1 rfl .nil) rfl
        | apply OutM.cell rfl (Mv.mv rfl rfl (by first | rfl | exact E_length _ _ | (simp [E_length]; done) | (simp [E_length]; omega)) (by first | exact E_pure _ _ | rfl) .nil) rfl
        | apply OutM.cell rfl (Mv.nl _ .nil) rfl
        | apply OutM.cell rfl (Mv.em _ .nil) rfl
        | exact Mv.nil | apply Mv.at1 rfl | apply Mv.mv rfl rfl (by first | rfl | exact E_length _ _ | (simp [E_length]; done) | (simp [E_length]; omega)) (by first | exact E_pure _ _ | rfl) | apply Mv.nl _ | apply Mv.em _)
    (hl : obs'.length = K := by exact rfl) (hk : K ≤ nx := by first | exact Nat.zero_le _ | (simp; done) | (simp; omega)) (hpu : pureO obs' := by repeat' first | exact pureO.nil | refine pureO.cons (by first | exact E_pure _ _ | rfl) ?_) : MRet P K res rs obs' .ret ⟨E, hp, nx⟩ := by
  subst he
  refine ⟨as, hp', h1, h2, hl, fun o hlt => ?_, hk, hpu⟩
  have hlt' : o < obs'.length := by omega
  have hg : obs'[o]? = some obs'[o] := by simp [hlt']
  have := ho.spec o _ hg
  rw [Nat.zero_add] at this
  rw [this, obS_at hg]
/-- a list below an object's cell is loaded to be written -/
theorem F.ldT {t : TypeId} [h1 : One P t] {o nn k j sz sz2 m : Nat} {xs ys : List (List AV)} {c : List AV} (hx : evA ⟨E, hp, nx⟩ x = .pt o nn k j) (hh : hp o = .live false sz xs) (hn : xs.length = nn) (hk : xs[k]? = some c) (hj : c[j]? = some (.dt true sz2 ys)) (hm : ys.length = m)
    (hw : awant n ops ⟨d, .load t x, ty, pos, af, g⟩ E true = true) (hd : fits n d = true)
    (h : ARg P n w0 MP lb ops os Q ⟨putE E d (.sl nx m 0 m), updA (updA hp o (.live false sz (xs.set k (c.set j (.sl nx m 0 m))))) nx (.live false sz2 ys), nx + 1⟩) : ARg P n w0 MP lb ops (⟨d, .load t x, ty, pos, af, g⟩ :: os) Q ⟨E, hp, nx⟩ := by
  subst hm
  refine ARg.val (st' := putA ⟨E, updA (updA hp o (.live false sz (xs.set k (c.set j (.sl nx ys.length 0 ys.length))))) nx (.live false sz2 ys), nx + 1⟩ d (.sl nx ys.length 0 ys.length)) hw hd (fun C Im E' w hm => ?_) (by rw [putA_eq]; exact h)
  have hv := hm.ev x
  rw [hx] at hv
  obtain ⟨b, q, p1, p2, p3⟩ := hv
  obtain ⟨cc, hcc, hO⟩ := hm.obj o false sz xs hh
  obtain ⟨f1, f2⟩ := (p3 cc hcc).2 (by rw [hO.len, hn])
  obtain ⟨v, C', Im', g1, g2, g3, g4⟩ := (Sim.take hh hk hj ⟨C, Im, hm⟩).2 b q ⟨cc, C, Im, hm, hcc, f1, f2⟩
  have hs := Sil.load (P := P) (d := d) (ty := ty) (pos := pos) (af := af) (g := g) (t := t) p1 g1
  unfold Sil at hs
  exact ⟨v, w, hs w (Later.refl w), fun _ => Later.refl w, putS g3 d g4⟩
theorem F.ldTE {α : Type} [Enc α] [Inhabited α] {t : TypeId} [h1 : One P t] {o nn k j sz sz2 m : Nat} {ls : List α} {ys : List (List AV)} (hx : evA ⟨E, hp, nx⟩ x = .pt o nn k j) (hh : hp o = .live false sz (V.E true ls)) (hn : ls.length = nn) (hk : k < ls.length) (hj : (enc true (ls.getD k default))[j]? = some (.dt true sz2 ys)) (hm : ys.length = m)
    (hw : awant n ops ⟨d, .load t x, ty, pos, af, g⟩ E true = true) (hd : fits n d = true)
    (h : ARg P n w0 MP lb ops os Q ⟨putE E d (.sl nx m 0 m), updA (updA hp o (.live false sz ((V.E true ls).set k ((enc true (ls.getD k default)).set j (.sl nx m 0 m))))) nx (.live false sz2 ys), nx + 1⟩) : ARg P n w0 MP lb ops (⟨d, .load t x, ty, pos, af, g⟩ :: os) Q ⟨E, hp, nx⟩ :=
  F.ldT hx hh (by rw [E_length, hn]) (E_get true ls hk) hj hm hw hd h
theorem Sim.ldPut {α : Type} [Enc α] {o k j sz sz2 m o2 : Nat} {ls : List α} {x v : α} {ys : List (List AV)} {E' : Env} {w : World} (ho : hp o = .live false sz ((V.E true ls).set k ((enc true x).set j (.sl o2 m 0 m)))) (ho2 : hp o2 = .live false sz2 ys) (hm : ys.length = m) (hpu : ys.flatten.all pureB = true) (hne : (updA hp o2 .dead) o = .live false sz ((V.E true ls).set k ((enc true x).set j (.sl o2 m 0 m)))) (hk : k < ls.length) (hj : Nat.blt j (Enc.nc α) = true) (he : (enc true x).set j (.dt true sz2 ys) = enc true v)
    (hs : Sim w0 MP ⟨E, hp, nx⟩ E' w) : Sim w0 MP ⟨E, updA (updA hp o2 .dead) o (.live false sz (V.E true (ls.set k v))), nx⟩ E' w := by
  have hl : j < (enc true x).length := by rw [Enc.len]; exact ltB hj
  have key := Sim.put (st := ⟨E, hp, nx⟩) ho (k := k) (c := (enc true x).set j (.sl o2 m 0 m)) (j := j) (a := .sl o2 m 0 m) (a' := .dt true sz2 ys) (by simp [E_length, hk]) (by simp [hl]) rfl (.mv ho2 rfl hm hpu .nil) hne hs
  have : ((V.E true ls).set k ((enc true x).set j (.sl o2 m 0 m))).set k (((enc true x).set j (.sl o2 m 0 m)).set j (.dt true sz2 ys)) = V.E true (ls.set k v) := by
    rw [List.set_set, List.set_set, he, E_set]
  simp only at key
  rw [this] at key; exact key
/-- a list that was taken out is put back -/
theorem AW.put {α : Type} [Enc α] {c : Code} {o k j sz sz2 m o2 : Nat} {ls : List α} {x v : α} {ys : List (List AV)} (ho : hp o = .live false sz ((V.E true ls).set k ((enc true x).set j (.sl o2 m 0 m)))) (ho2 : hp o2 = .live false sz2 ys) (hm : ys.length = m) (hpu : ys.flatten.all pureB = true) (hne : (updA hp o2 .dead) o = .live false sz ((V.E true ls).set k ((enc true x).set j (.sl o2 m 0 m)))) (hk : k < ls.length) (hj : Nat.blt j (Enc.nc α) = true) (he : (enc true x).set j (.dt true sz2 ys) = enc true v)
    (h : AW P n w0 MP c Q ⟨E, updA (updA hp o2 .dead) o (.live false sz (V.E true (ls.set k v))), nx⟩) : AW P n w0 MP c Q ⟨E, hp, nx⟩ :=
  AW.ghost (fun E' w hs => Sim.ldPut ho ho2 hm hpu hne hk hj he hs) h
theorem F.put {α : Type} [Enc α] {o k j sz sz2 m o2 : Nat} {ls : List α} {x v : α} {ys : List (List AV)} (ho : hp o = .live false sz ((V.E true ls).set k ((enc true x).set j (.sl o2 m 0 m)))) (ho2 : hp o2 = .live false sz2 ys) (hm : ys.length = m) (hpu : ys.flatten.all pureB = true) (hne : (updA hp o2 .dead) o = .live false sz ((V.E true ls).set k ((enc true x).set j (.sl o2 m 0 m)))) (hk : k < ls.length) (hj : Nat.blt j (Enc.nc α) = true) (he : (enc true x).set j (.dt true sz2 ys) = enc true v)
    (h : ARg P n w0 MP lb ops os Q ⟨E, updA (updA hp o2 .dead) o (.live false sz (V.E true (ls.set k v))), nx⟩) : ARg P n w0 MP lb ops os Q ⟨E, hp, nx⟩ :=
  ARg.ghost (fun E' w hs => Sim.ldPut ho ho2 hm hpu hne hk hj he hs) h
end
end Go.Proofs.YtedjajokbdokhaaGreat.V

/- An empty slice in a variable's field, to which may be appended. Over any program; nothing is claimed of the given one. -/
namespace Go.Proofs.YtedjajokbdokhaaGreat.V
open V.Enc (enc)
open Go.RowKit G
set_option linter.unusedVariables false
set_option linter.unusedSimpArgs false
section
variable {P : Program} {n : Nat} {w0 : World} {MP : Fr} {Q : Exit → St → Prop} {st : St}
theorem Sim.openC {E : Env} {w : World} {o sz k j : Nat} {l : Bool} {xs : List (List AV)} {c : List AV} {a : AV} (sz2 : Nat) (ho : st.hp o = .live l sz xs) (hk : xs[k]? = some c) (hj : c[j]? = some a) (ha : a = .nl ∨ a = .em) (hs : Sim w0 MP st E w) :
    Sim w0 MP ⟨st.E, updA (updA st.hp st.nx (.live false sz2 [])) o (.live l sz (xs.set k (c.set j (.sl st.nx 0 0 0)))), st.nx + 1⟩ E w := by
  obtain ⟨C, Im, hm⟩ := hs
  obtain ⟨cc, hcc, hO⟩ := hm.obj o l sz xs ho
  have hjl : j < c.length := (List.getElem?_eq_some_iff.1 hj).1
  have hox : o < st.nx := by
    rcases Nat.lt_or_ge o st.nx with h | h
    · exact h
    · have := hm.lt o h; rw [ho] at this; cases this
  obtain ⟨u1, u2, u3, F1, F2, F3, e1, e2, l1, l2, q1, q2, q3⟩ := hO.lay.cut (flat_cell hk hj)
  obtain ⟨v, rfl, rfl, hv⟩ := q2.get1 (fun sz xs e => by subst e; rcases ha with h | h <;> cases h)
  obtain ⟨p, rfl⟩ : ∃ p, v = .slice p 0 0 := by
    rcases ha with rfl | rfl
    · exact ⟨none, hv⟩
    · exact hv
  have hp : own (.slice p 0 0) = none := by cases p <;> rfl
  let c2 : Conc := ⟨.slice p 0 0, 0, sz2, [], []⟩
  have hS := hm.fresh (Later.refl w) (cc := c2) (sz := sz2) (xs := []) rfl rfl ⟨0, ⟨by simp [c2], .inl ⟨rfl, p, rfl⟩⟩⟩ .nil (fun x hx => by cases hx) (by simp [blks, c2, ownL, hp]) (fun k hk => by simp [blks, c2, ownL, hp] at hk)
  have hle : CLe st.nx C (updA C st.nx (some c2)) := fun o1 ho1 c1 hc1 => ⟨c1, by rwa [updA_ne _ _ (by omega)] at hc1, .inl ⟨rfl, rfl, rfl⟩⟩
  have hrv : RV (st.nx + 1) (updA C st.nx (some c2)) Im w (.sl st.nx 0 0 0) (.slice p 0 0) := by
    obtain ⟨c3, r1, r2⟩ := hS.obj st.nx false sz2 [] (updA_same ..)
    have := RV.slNew r2 r1 (Nat.lt_succ_self _)
    rw [updA_same] at r1
    cases r1
    exact this
  have ho1 : (updA st.hp st.nx (.live false sz2 [])) o = .live l sz xs := by rw [updA_ne _ _ (by omega)]; exact ho
  have hc1 : (updA C st.nx (some c2)) o = some cc := by rw [updA_ne _ _ (by omega)]; exact hcc
  obtain ⟨cc', g1, g2⟩ := hS.obj o l sz xs ho1
  rw [hc1] at g1
  cases g1
  have hnd := g2.nd
  unfold blks at hnd
  obtain ⟨n1, n2, n3⟩ := List.nodup_append.1 hnd
  simp only [List.nil_append] at e2
  have sub : ∀ x, x ∈ F1 ++ ([] ++ F3) → x ∈ cc.F := fun x hx => by rw [e2]; simpa using hx
  have key := Sm.recell hS (o := o) (k := k) (j := j) (c := c) (a' := .sl st.nx 0 0 0) (cc := cc) (v := .slice p 0 0) (u1 := u1) (u3 := u3) (F1 := F1) (F3 := F3) (G := []) ho1 hc1 hk hjl e1
    (q1.mono (fun _ h => h) (fun _ _ => rfl) (Nat.le_succ _) hle (fun _ _ => rfl)) (q3.mono (fun _ h => h) (fun _ _ => rfl) (Nat.le_succ _) hle (fun _ _ => rfl)) (.at1 hrv rfl .nil)
    (by rw [List.nil_append, ← e2]; exact n2) (fun b hb hx => n3 b (mem_ownL.2 hb) b (sub b hx) rfl) (fun x hx => g2.ge x (by simp [blks, sub x hx])) (fun x hx => g2.lent x (sub x hx)) (fun o' c' ho' hc' x hx => hS.dis o o' cc c' (Ne.symm ho') hc1 hc' x (by simp [blks, sub x hx]))
  exact ⟨_, Im, key⟩
end
section
variable {P : Program} {n : Nat} {w0 : World} {MP : Fr} {Q : Exit → St → Prop} {E : Nat → AV} {hp : Nat → Ob} {nx : Nat}
/-- a list below an object's cell is taken out -/
theorem AW.takeE {α : Type} [Enc α] [Inhabited α] {c : Code} {o k j sz sz2 m : Nat} {ls : List α} {ys : List (List AV)} (ho : hp o = .live false sz (V.E true ls)) (hk : k < ls.length) (hj : (enc true (ls.getD k default))[j]? = some (.dt true sz2 ys)) (hm : ys.length = m)
    (h : AW P n w0 MP c Q ⟨E, updA (updA hp o (.live false sz ((V.E true ls).set k ((enc true (ls.getD k default)).set j (.sl nx m 0 m))))) nx (.live false sz2 ys), nx + 1⟩) : AW P n w0 MP c Q ⟨E, hp, nx⟩ := by
  subst hm
  exact AW.ghost (fun E' w hs => (Sim.take (st := ⟨E, hp, nx⟩) ho (E_get true ls hk) hj hs).1) h
section
variable {d : Option Tmp} {ty t t' : TypeId} {pos : String} {af : Array Edge} {g : Option (Nat × Bool)} {x y : Operand}
/-- the cells of an element that was written -/
theorem A.ldS [h1 : One P t] {esz o n k k1 j : Nat} {l : Bool} {xs : List (List AV)} {c : List AV} {a : AV} (hx : evA ⟨E, hp, nx⟩ x = .pt o n k1 j) (hh : hp o = .live l esz (xs.set k c)) (hn : xs.length = n) (hk1 : k1 = k) (hk : k < xs.length) (hj : c[j]? = some a) (hs : shr a = true) :
    ASil false P w0 MP ⟨E, hp, nx⟩ ⟨d, .load t x, ty, pos, af, g⟩ a := by
  subst hk1; exact A.ldR hx hh (by rw [List.length_set, hn]) (by simp [hk]) hj hs
theorem A.idxT {t e sz bys : Nat} {zz : Value} [hu : HasU P t (.slice e)] [hi : HasI P e sz bys zz] {o n off m k k' : Nat} {i : Int} {l : Bool} {xs : List (List AV)} {c : List AV} (hx : evA ⟨E, hp, nx⟩ x = .sl o n off m) (hy : evA ⟨E, hp, nx⟩ y = .i i) (hh : hp o = .live l sz (xs.set k' c)) (hn : xs.length = n)
    (hk : i = (k : Int)) (hlt : k < m) : ASil true P w0 MP ⟨E, hp, nx⟩ ⟨d, .indexAddr t x y, ty, pos, af, g⟩ (.pt o n (off + k) 0) := A.idxS hx hy hh (by rw [List.length_set, hn]) hk hlt
end
/-- a variable's field -/
theorem AW.openV {c : Code} {o sz j : Nat} {l : Bool} {cs cs' : List AV} {a : AV} (sz2 : Nat) (ho : hp o = .live l sz [cs]) (hj : cs[j]? = some a) (ha : a = .nl ∨ a = .em) (hc : cs.set j (.sl nx 0 0 0) = cs')
    (h : AW P n w0 MP c Q ⟨E, updA (updA hp nx (.live false sz2 [])) o (.live l sz [cs']), nx + 1⟩) : AW P n w0 MP c Q ⟨E, hp, nx⟩ := by
  subst hc
  exact AW.ghost (fun E' w hs => Sim.openC (st := ⟨E, hp, nx⟩) sz2 ho (k := 0) rfl hj ha hs) h
theorem A.neqBB {d : Option Tmp} {ty : TypeId} {pos : String} {af : Array Edge} {g : Option (Nat × Bool)} {x y : Operand} {t t' : Nat} {a b : Bool} {st : St} [hu : HasU P t .bool] (hx : evA st x = .b a) (hy : evA st y = .b b) : ASil true P w0 MP st ⟨d, .binOp .neq t x y t', ty, pos, af, g⟩ (.b (a != b)) := fun C Im E w hm => by
  have h1 := hm.evB hx
  have h2 := hm.evB hy
  refine ⟨.bool (a != b), fun w' => ?_, rfl⟩
  unfold Sil
  intro w2 _
  have h3 := run_equalIn_bool (P := P) w2 9999 t a b hu.u
  have h4 : (binOp .neq t (.bool a) (.bool b)).run P w2 = .ok (.bool (a != b)) w2 := by
    simp only [binOp]
    simp [Op.equal, Op.maxDepth, h3]; cases a <;> cases b <;> rfl
  simp [execOp, h1, h2, eqGuard, h4]
theorem kZ {res : List ResultVar} {rs : List AV} {e : Exit} {st : St} (h : ARet P res rs e st) : ARet P res rs e st := h
theorem kM {K : Nat} {res : List ResultVar} {rs : List AV} {obs : List (Nat × List (List AV))} {e : Exit} {st : St} (h : MRet P K res rs obs e st) : MRet P K res rs obs e st := h
end
end Go.Proofs.YtedjajokbdokhaaGreat.V

/- What is only read from here on; objects that a call takes; clear. Over any program; nothing is claimed of the given one. -/
namespace Go.Proofs.YtedjajokbdokhaaGreat.V
open V.Enc (enc)
open Go.RowKit G
set_option linter.unusedVariables false
set_option linter.unusedSimpArgs false
section
variable {w0 w w' : World} {MP : Fr} {st : St} {C : Nat → Option Conc} {Im : Nat → Prop} {E : Env}
/-- a slice of an object becomes one of what is only read; the object is forgotten -/
theorem Sim.freeze {t o n off m sz : Nat} {l : Bool} {xs ys : List (List AV)} (ht : st.E t = .sl o n off m) (hh : st.hp o = .live l sz xs) (hn : xs.length = n) (hp : xs.flatten.all pureB = true) (hy : frzLL ((xs.drop off).take m) = ys) (hs : Sim w0 MP st E w) :
    Sim w0 MP ⟨updA st.E t (.dt false sz ys), updA st.hp o .dead, st.nx⟩ E w := by
  obtain ⟨C, Im, hm⟩ := hs
  obtain ⟨cc, hcc, hO⟩ := hm.obj o l sz xs hh
  have hv := hm.slot t
  rw [ht] at hv
  have hview := OR.view (J := fun k => Im k ∨ k ∈ blks cc) hcc hO (fun k hk => .inl hk) (fun k hk => .inr hk) hn hv hp hy
  have h1 := (hm.kill o).imAdd (blks cc) (fun k hk => (hO.wb k hk).lt) hO.ge (fun o' c' hc' k hk hk' => by
    by_cases e : o' = o
    · subst e; rw [updA_same] at hc'; cases hc'
    · rw [updA_ne _ _ e] at hc'; exact hm.dis o o' cc c' (Ne.symm e) hcc hc' k hk hk')
  have h2 := h1.upd t (RV.imm (N := st.nx) (C := updA C o Option.none) hview)
  rw [G.upd_eq_self rfl] at h2
  exact ⟨_, _, h2⟩
/-- the lists below an object are only read from here on, and may be held more than once -/
theorem Sim.share {α : Type} [Enc α] {o sz : Nat} {l : Bool} {ls : List α} (hh : st.hp o = .live l sz (V.E true ls)) (hs : Sim w0 MP st E w) : Sim w0 MP ⟨st.E, updA st.hp o (.live false sz (V.E false ls)), st.nx⟩ E w := by
  obtain ⟨C0, Im0, hm0⟩ := hs
  obtain ⟨Im, hm⟩ := hm0.lend o hh
  obtain ⟨cc, hcc, hO⟩ := hm.obj o true sz (V.E true ls) (updA_same ..)
  have hF : ∀ k ∈ cc.F, Im k := fun k hk => (hO.lent k hk).2 rfl
  have hlay : LayC st.nx C0 Im w (V.E false ls).flatten cc.us [] := by
    have h1 := (hO.lay.pure (E_pure true ls)).frz (Im' := Im) (fun _ h => h) hF
    have e : frzL (V.E true ls).flatten = (V.E false ls).flatten := by rw [← frzLL_flatten, E_frz]
    rw [e] at h1
    exact LayC.imm h1
  let cc' : Conc := ⟨cc.hv, cc.len, cc.sz, cc.us, []⟩
  have hO' : OR w0 MP st.nx C0 Im w false sz (V.E false ls) cc' := by
    refine ⟨hO.esz, ?_, hO.buf, hlay, fun x hx => ?_, ?_, fun k hk => hO.ge k ?_, hO.nim, fun k hk => by cases hk⟩
    · show cc.len = _
      rw [hO.len, E_length, E_length]
    · rw [E_len false ls x hx]
      have hl : ls ≠ [] := by rintro rfl; cases hx
      obtain ⟨a, ls', rfl⟩ := List.exists_cons_of_ne_nil hl
      have := hO.lens (enc true a) (List.mem_map.2 ⟨a, by simp, rfl⟩)
      rw [Enc.len] at this
      exact this
    · have := hO.nd
      unfold blks at this ⊢
      simp only [cc', List.append_nil]
      exact (List.nodup_append.1 this).1
    · unfold blks at hk ⊢
      simp only [cc', List.append_nil] at hk
      exact List.mem_append_left _ hk
  have hT := hm.turn o (l' := false) (xs' := V.E false ls) (cc' := cc') (updA_same ..) hcc (.inl ⟨rfl, rfl, rfl⟩) hm.tch (Nat.le_refl _) (fun _ _ => rfl) (fun _ _ _ _ _ _ => rfl) hO' (fun o' c ho' hc k hk hk' => by
    unfold blks at hk
    simp only [cc', List.append_nil] at hk
    exact hm.dis o o' cc c (Ne.symm ho') hcc hc k (List.mem_append_left _ hk) hk')
  have e : updA (updA st.hp o (.live true sz (V.E true ls))) o (.live false sz (V.E false ls)) = updA st.hp o (.live false sz (V.E false ls)) := by
    funext t
    by_cases h : t = o
    · subst h; rw [updA_same, updA_same]
    · rw [updA_ne _ _ h, updA_ne _ _ h, updA_ne _ _ h]
  dsimp only at hT
  rw [e] at hT
  exact ⟨_, Im, hT⟩

/-- a pointer to a variable becomes one to what is only read -/
theorem Sim.freezeP {α : Type} [Enc α] {t o sz : Nat} {l oo : Bool} {a : α} (ht : st.E t = .pt o 1 0 0) (hh : st.hp o = .live l sz [enc oo a]) (hs : Sim w0 MP st E w) : Sim w0 MP ⟨updA st.E t (.ip (enc false a)), updA st.hp o .dead, st.nx⟩ E w := by
  obtain ⟨C, Im, hm⟩ := hs
  obtain ⟨cc, hcc, hO⟩ := hm.obj o l sz _ hh
  have hv := hm.slot t
  rw [ht] at hv
  obtain ⟨b, q, e1, h4, h5⟩ := hv
  obtain ⟨f1, f2⟩ := (h5 cc hcc).2 (by rw [hO.len]; rfl)
  have f2' : q = 0 := by rw [f2]; omega
  subst f2'
  have h1 := (hm.kill o).imAdd (blks cc) (fun k hk => (hO.wb k hk).lt) hO.ge (fun o' c' hc' k hk hk' => by
    by_cases e : o' = o
    · subst e; rw [updA_same] at hc'; cases hc'
    · rw [updA_ne _ _ e] at hc'; exact hm.dis o o' cc c' (Ne.symm e) hcc hc' k hk hk')
  have hpu : ([enc oo a] : List (List AV)).flatten.all pureB = true := by simpa using Enc.pure oo a
  have hI2 := (hO.lay.pure hpu).frz (Im' := fun k => Im k ∨ k ∈ blks cc) (fun k hk => .inl hk) (fun k hk => .inr (by simp [blks, hk]))
  have e3 : frzL ([enc oo a] : List (List AV)).flatten = enc false a := by simp [Enc.frz]
  rw [e3] at hI2
  have h2 := h1.upd t (a := .ip (enc false a)) (v := E t) ⟨b, 0, cc.us, e1, .inr (by simp [blks, mem_ownL, f1]), fun i u hu => by rw [Nat.zero_add]; exact hO.cell f1 hu, hI2⟩
  rw [G.upd_eq_self rfl] at h2
  exact ⟨_, _, h2⟩
/-! ### calls that take objects -/
theorem OR.gh {bl : List Nat} {J : Nat → Prop} {g g' : List (AV × Value)} {N : Nat} {l : Bool} {sz : Nat} {xs : List (List AV)} {cc : Conc} (h : OR w0 ⟨bl, J, g⟩ N C Im w l sz xs cc) : OR w0 ⟨bl, J, g'⟩ N C Im w l sz xs cc := ⟨h.esz, h.len, h.buf, h.lay, h.lens, h.nd, h.ge, h.nim, h.lent⟩
theorem Sm.noGh {bl : List Nat} {J : Nat → Prop} {g : List (AV × Value)} (h : Sm w0 ⟨bl, J, g⟩ st C Im E w) : Sm w0 ⟨bl, J, []⟩ st C Im E w :=
  ⟨h.tch, h.im, h.slot, h.nod, fun o l sz xs ho => by obtain ⟨cc, h1, h2⟩ := h.obj o l sz xs ho; exact ⟨cc, h1, h2.gh⟩, h.lt, h.dis, h.imJ, fun p hp => by cases hp⟩
/-- what a call comes to that takes the objects 0, 1, .. of its caller: none of them is spoken of behind it -/
def AK (P : Program) (f : FuncId) (bs : List AV) (obs : List (Nat × List (List AV))) (rs : List AV) : Prop :=
  ∀ (w : World) (bl : List Nat) (J : Nat → Prop) (C : Nat → Option Conc) (E0 : Env) (us : List Value), Sm w ⟨bl, J, []⟩ ⟨fun _ => .no, obS obs, obs.length⟩ C J E0 w → RVL obs.length C J w bs us →
    Run P f us w fun v w' => ∃ J' E', Sm w ⟨bl, J, []⟩ ⟨fun _ => .no, fun _ => .dead, 0⟩ (fun _ => Option.none) J' E' w' ∧ ∃ vs F, v = tupV vs ∧ ResM 0 (fun _ => Option.none) J' w' rs vs F ∧ Loose w ⟨bl, J, []⟩ (fun _ => Option.none) w' F ∧ ∀ k ∈ F, ¬ J' k
def KRet (P : Program) (res : List ResultVar) (rs : List AV) : Exit → St → Prop
  | .ret, st | .normal, st => ∃ as hp', RetL P st res as ∧ OutM 0 st.hp as rs hp'
  | _, _ => False
instance (P : Program) (res : List ResultVar) (rs : List AV) : ANoPan (KRet P res rs) := ⟨fun _ _ h => h⟩
variable {P : Program}
theorem AK.go {f : FuncId} {fn : Func} {n : Nat} {c : Code} {bs rs : List AV} {obs : List (Nat × List (List AV))} (hf : P.funcs[f]? = some fn) (hn : fn.ntmps = n) (hb : fn.body = some c) (ha : Nat.ble bs.length n = true)
    (h : ∀ w0 bl J, WfL bs → AW P n w0 ⟨bl, J, []⟩ c (KRet P fn.results.toList rs) ⟨fun t => bs.getD t .no, obS obs, obs.length⟩) : AK P f bs obs rs := fun w bl J C E0 us hS0 hus => by
  have hul := RVL.length hus
  refine Run.go hf hn hb (by rw [hul]; exact ha) ?_
  have hS : Sim w ⟨bl, J, []⟩ ⟨fun t => bs.getD t .no, obS obs, obs.length⟩ (fr us) w := by
    refine ⟨C, J, hS0.tch, hS0.im, fun t => ?_, hS0.nod, hS0.obj, hS0.lt, hS0.dis, hS0.imJ, hS0.gst⟩
    simp only [fr]
    by_cases ht : t < bs.length
    · obtain ⟨v, h1, h2⟩ := RVL.get hus (i := t) (a := bs[t]) (by simp [ht])
      rw [List.getD_eq_getElem?_getD, List.getD_eq_getElem?_getD, h1]
      simpa [ht] using h2
    · have : bs.getD t .no = .no := by simp [Nat.le_of_not_lt ht]
      rw [this]; trivial
  refine (h w bl J (RVL.wf _ _ hus) _ _ hS).mono fun e E' w' ⟨st', ⟨C1, Im, hm⟩, hq⟩ => ?_
  have key : (∃ as hp', RetL P st' fn.results.toList as ∧ OutM 0 st'.hp as rs hp') → ∃ v, (∀ tmps : Array Value, (∀ t, tmps.getD t undef = E' t) → (results fn tmps).run P w' = .ok v w') ∧
      ∃ J' E', Sm w ⟨bl, J, []⟩ ⟨fun _ => .no, fun _ => .dead, 0⟩ (fun _ => Option.none) J' E' w' ∧ ∃ vs F, v = tupV vs ∧ ResM 0 (fun _ => Option.none) J' w' rs vs F ∧ Loose w ⟨bl, J, []⟩ (fun _ => Option.none) w' F ∧ ∀ k ∈ F, ¬ J' k := by
    rintro ⟨as, hp', h1, h2⟩
    obtain ⟨vs, g1, g2, g3⟩ := h1.spec hm
    obtain ⟨C2, F, k1, k2, k3, k4, k5⟩ := h2.spec (st := st') (H := []) (show Sm w ⟨bl, J, []⟩ ⟨st'.E, st'.hp, st'.nx⟩ C1 Im E' w' from hm) g1 Loose.nil
    rw [List.append_nil] at k3
    refine ⟨tupV vs, fun tmps ht => results_run g2 g3 tmps ht, Im, E', ⟨k1.tch, k1.im, (fun t => trivial), (fun o _ => rfl), (fun o l sz xs ho => by cases ho), (fun o _ => rfl), (fun o o' c c' _ hc _ => by cases hc), k1.imJ, (fun p hp => by cases hp)⟩, vs, F, rfl, h2.bnd (fun o ho => by omega) k2, ⟨k3.nd, k3.ge, k3.wb, (fun o c hc => by cases hc)⟩, k4⟩
  cases e with
  | normal => exact key hq
  | ret => exact key hq
  | _ => exact hq.elim
def kilC (ρ : List Nat) (C : Nat → Option Conc) : Nat → Option Conc := fun o => if o ∈ ρ then Option.none else C o
theorem killL_out : ∀ {l : List Nat} {hp : Nat → Ob} {o : Nat}, o ∉ l → killL l hp o = hp o
  | [], _, _, _ => rfl
  | a :: l, hp, o, h => by
    rw [killL, killL_out (fun hm => h (List.mem_cons_of_mem _ hm)), updA_ne _ _ (fun e => h (by rw [e]; exact List.mem_cons_self ..))]
theorem killL_in : ∀ {l : List Nat} {hp : Nat → Ob} {o : Nat}, o ∈ l → killL l hp o = .dead
  | a :: l, hp, o, h => by
    rw [killL]
    by_cases hm : o ∈ l
    · exact killL_in hm
    · rw [killL_out hm]
      rcases List.mem_cons.1 h with rfl | h
      · exact updA_same ..
      · exact absurd h hm
theorem Sm.backK (hm : Sm w0 MP st C Im E w) {ρ : List Nat} {J J' : Nat → Prop} (hI : ∀ k, Im k → J k) (hJ : ∀ k, J k → k < w.heap.size ∧ k ∉ blsOf C ρ) {E' : Env} (hb : Sm w ⟨blsOf C ρ, J, []⟩ ⟨fun _ => .no, fun _ => .dead, 0⟩ (fun _ => Option.none) J' E' w') :
    Sm w0 MP ⟨st.E, killL ρ st.hp, st.nx⟩ (kilC ρ C) (Im2 Im J' w (blsOf C ρ)) E w' ∧ CLe st.nx C (kilC ρ C) ∧
      ∀ F, Loose w ⟨blsOf C ρ, J, []⟩ (fun _ => Option.none) w' F → (∀ k ∈ F, ¬ J' k) → Loose w0 MP (kilC ρ C) w' F ∧ ∀ k ∈ F, ¬ Im2 Im J' w (blsOf C ρ) k := by
  have hwz := hm.tch.size
  have hwz' := hb.tch.size
  have cS : ∀ {o c}, kilC ρ C o = some c → o ∉ ρ ∧ C o = some c := fun {o c} h => by
    unfold kilC at h
    split at h
    · cases h
    · exact ⟨by assumption, h⟩
  have cOut : ∀ {o}, o ∉ ρ → kilC ρ C o = C o := fun h => if_neg h
  have bge : ∀ k ∈ blsOf C ρ, w0.heap.size ≤ k ∨ k ∈ MP.bl := fun k hk => by
    obtain ⟨o, cc, h1, h2, h3⟩ := mem_blsOf.1 hk
    obtain ⟨_, _, _, _, hO⟩ := hm.objOf h2
    exact hO.ge k h3
  have bge' : ∀ k, w.heap.size ≤ k ∨ k ∈ blsOf C ρ → w0.heap.size ≤ k ∨ k ∈ MP.bl := fun k hk => hk.elim (fun h => .inl (by omega)) (bge k)
  have hsame : ∀ k, k < w.heap.size → k ∉ blsOf C ρ → w'.heap[k]? = w.heap[k]? := fun k h1 h2 => hb.tch.same k h1 h2
  have hIs : ∀ k, Im k → w'.heap[k]? = w.heap[k]? := fun k hk => hsame k (hm.im k hk) (hJ k (hI k hk)).2
  have hoff : ∀ o c, o ∉ ρ → C o = some c → ∀ k ∈ blks c, k < w.heap.size ∧ k ∉ blsOf C ρ := fun o c ho hc k hk => by
    obtain ⟨_, _, _, _, hO⟩ := hm.objOf hc
    refine ⟨(hO.wb k hk).lt, fun hk' => ?_⟩
    obtain ⟨o', cc, h1, h2, h3⟩ := mem_blsOf.1 hk'
    exact hm.dis o o' c cc (fun e => ho (e ▸ h1)) hc h2 k hk h3
  have hIm2 : ∀ k, Im k → Im2 Im J' w (blsOf C ρ) k := fun k hk => .inl hk
  have nIm : ∀ k, w.heap.size ≤ k ∨ k ∈ blsOf C ρ → ¬ Im k := fun k hk hi => by
    have := hJ k (hI k hi)
    rcases hk with hk | hk
    · omega
    · exact this.2 hk
  have hle : CLe st.nx C (kilC ρ C) := fun o _ c' hc' => ⟨c', (cS hc').2, .inl ⟨rfl, rfl, rfl⟩⟩
  refine ⟨⟨⟨fun k hk hm' => (hb.tch.same k (by omega) fun hk' => (bge k hk').elim (by omega) (fun h => hm' h)).trans (hm.tch.same k hk hm'), by omega, hb.tch.os.trans hm.tch.os, hb.tch.tape.trans hm.tch.tape, hb.tch.output.trans hm.tch.output⟩, fun k hk => hk.elim (fun hk => by have := hm.im k hk; omega) (fun hk => hb.im k hk.1), fun t => RV.mono hIm2 hIs (Nat.le_refl _) hle _ _ (hm.slot t), fun o ho => ?_, fun o l sz xs ho => ?_, fun o ho => ?_, fun o o' c c' hoo hc hc' => hm.dis o o' c c' hoo (cS hc).2 (cS hc').2, fun k hk => hk.elim (hm.imJ k) fun hk => .inr (bge' k hk.2), fun p hp => RV.mono hIm2 hIs (Nat.le_refl _) hle _ _ (hm.gst p hp)⟩, hle, fun F hL hF => ⟨⟨hL.nd, fun k hk => bge' k (hL.ge k hk), hL.wb, fun o c hc k hk hk' => ?_⟩, fun k hk hi2 => hi2.elim (nIm k (hL.ge k hk)) fun hi2 => hF k hk hi2.1⟩⟩
  · by_cases h : o ∈ ρ
    · exact if_pos h
    · dsimp only at ho
      rw [killL_out h] at ho
      rw [cOut h]; exact hm.nod o ho
  · dsimp only at ho ⊢
    obtain ⟨h1, h2⟩ := killL_live ho
    obtain ⟨c, g1, g2⟩ := hm.obj o l sz xs h2
    have ho2 := hoff o c h1 g1
    have hs2 : ∀ k ∈ blks c, w'.heap[k]? = w.heap[k]? := fun k hk => hsame k (ho2 k hk).1 (ho2 k hk).2
    refine ⟨c, (cOut h1).trans g1, g2.esz, g2.len, g2.buf.same fun b hb => hs2 b (by simp [blks, mem_ownL, hb]), g2.lay.mono hIm2 hIs (Nat.le_refl _) hle fun k hk => hs2 k (by simp [blks, hk]), g2.lens, g2.nd, g2.ge, fun b hb' hi2 => hi2.elim (g2.nim b hb') fun hi2 => ?_, fun k hk => ⟨fun hi2 => hi2.elim (g2.lent k hk).1 fun hi2 => ?_, fun h => .inl ((g2.lent k hk).2 h)⟩⟩
    · have := ho2 b (by simp [blks, mem_ownL, hb'])
      rcases hi2.2 with h | h
      · omega
      · exact this.2 h
    · have := ho2 k (by simp [blks, hk])
      rcases hi2.2 with h | h
      · omega
      · exact absurd h this.2
  · dsimp only at ho ⊢
    by_cases h : o ∈ ρ
    · exact killL_in h
    · rw [killL_out h]; exact hm.lt o ho
  · have h1 := hoff o c (cS hc).1 (cS hc).2 k hk'
    rcases hL.ge k hk with h | h
    · omega
    · exact h1.2 h
end
section
variable {P : Program} {n : Nat} {w0 : World} {MP : Fr} {Q : Exit → St → Prop} {st : St} {lb : Bool} {ops : Array Oper} {os : List Oper} {d : Option Tmp} {ty : TypeId} {pos : String} {af : Array Edge} {g : Option (Nat × Bool)} {x y : Operand}
/-- a call that takes the objects ρ -/
theorem R.callK {f : FuncId} {args : Array Operand} {ats : Array TypeId} {bs rs as : List AV} {obs ob : List (Nat × List (List AV))} [hf : IsFn P f] (ρ : List Nat) (hc : AK P f bs obs rs) (hn : ρ.Nodup) (hob : ObL st.hp ρ obs) (hs : RenL (fun _ => .dead) ρ (args.toList.map (evA st)) bs)
    (hrb : rs.all (renRB true) = true) (hnr : rs.all (fun a => match a with | .sl _ _ _ _ => false | .pt _ _ _ _ => false | .agg _ => false | _ => true) = true) (ht : ThwM st.nx rs as ob) (hw : awant n ops ⟨d, .call ⟨.value (.func f), args, ats⟩, ty, pos, af, g⟩ st.E true = true) (hd : fits n d = true) (hlb : lb = false)
    (h : ARg P n w0 MP lb ops os Q (putA ⟨st.E, addO (killL ρ st.hp) st.nx ob, st.nx + ob.length⟩ d (tupA as))) : ARg P n w0 MP lb ops (⟨d, .call ⟨.value (.func f), args, ats⟩, ty, pos, af, g⟩ :: os) Q st := fun E w ⟨C, Im, hm⟩ => by
  have hoff : ∀ k, Im k → k ∉ blsOf C ρ := fun k hk hk' => by
    obtain ⟨o, cc, h1, h2, h3⟩ := mem_blsOf.1 hk'
    obtain ⟨i, hi⟩ := List.mem_iff_getElem?.1 h1
    obtain ⟨p, q1, q2, q3⟩ := hob.at hi
    obtain ⟨cc', r1, r2⟩ := hm.obj _ _ _ _ q2
    rw [h2] at r1
    cases r1
    rcases List.mem_append.1 h3 with h3 | h3
    · exact r2.nim k (mem_ownL.1 h3) hk
    · cases (r2.lent k h3).1 hk
  have hI : ∀ k, Im k → k < w.heap.size ∧ k ∉ blsOf C ρ := fun k hk => ⟨hm.im k hk, hoff k hk⟩
  have hr := hs.spec (w0 := w0) (MP := MP) (N := st.nx) (C := C) (Im := Im) (J := Im) (fun k hk => hk) (fun o l sz xs ho => by cases ho) (hm.evL _)
  rw [hob.length] at hr
  refine G.Rg.call (hc w _ _ _ E _ (hm.give hn hob (fun k hk => hk) hI E).noGh hr) rfl (awant_spec hm hw) hd ?_
  rintro v w' ⟨J', E', hb, vs, F, e, hR, hL, hF⟩
  subst e
  obtain ⟨hS, hle, hfo⟩ := hm.backK (fun k hk => hk) hI hb
  obtain ⟨hL2, hF2⟩ := hfo F hL hF
  have hres : ResM st.nx (kilC ρ C) (Im2 Im J' w (blsOf C ρ)) w' rs vs F := by
    have hv : ∀ k, J' k → Im2 Im J' w (blsOf C ρ) k := fun k hk => by
      rcases hb.imJ k hk with h | h
      · exact .inl h
      · exact .inr ⟨hk, h⟩
    have := hR.ren (N := st.nx) (C2 := kilC ρ C) (I2 := Im2 Im J' w (blsOf C ρ)) (ρ := []) (vw := true) rfl (fun o ho => by cases ho) (fun i o hi => by simp at hi) (fun _ => hv) hrb
    have e : rs.map (renR []) = rs := by
      conv => rhs; rw [← List.map_id rs]
      apply List.map_congr_left
      intro a ha
      have := List.all_eq_true.1 hnr a ha
      cases a <;> first | rfl | cases this
    rwa [e] at this
  obtain ⟨C3, g1, g2, g3⟩ := ht.spec (st := ⟨st.E, killL ρ st.hp, st.nx⟩) rfl hS hres hL2 hF2
  exact (h _ _ (putS g1 d (tup_rv g2))).mono fun e E2 w2 hq => ⟨fun hb => (by rw [hlb] at hb; cases hb), hq.2⟩
end
section
variable {P : Program} {n : Nat} {w0 : World} {MP : Fr} {Q : Exit → St → Prop} {E : Nat → AV} {hp : Nat → Ob} {nx : Nat} {lb : Bool} {ops : Array Oper} {os : List Oper} {d : Option Tmp} {ty : TypeId} {pos : String} {af : Array Edge} {g : Option (Nat × Bool)} {x y : Operand}
theorem F.k {f : FuncId} {args : Array Operand} {ats : Array TypeId} {bs rs as : List AV} {a : AV} {obs ob : List (Nat × List (List AV))} [hf : IsFn P f] (ρ : List Nat) (hc : AK P f bs obs rs) (h : ARg P n w0 MP lb ops os Q ⟨putE E d a, addO (killL ρ hp) nx ob, nx + ob.length⟩)
    (hn : ρ.Nodup := by exact ndB rfl) (hob : ObL hp ρ obs := by (repeat' first | exact ObL.nil | refine ObL.cons rfl (by first | exact E_pure _ _ | rfl) ?_) <;> fail)
    (hs : RenL (fun _ => .dead) ρ (args.toList.map (evA ⟨E, hp, nx⟩)) bs := by
      (repeat' first
        | exact RenL.nil
        | refine RenL.sl rfl ?_
        | refine RenL.agg ?_ ?_
        | refine RenL.sn (by (repeat' first | exact SnapL.nil | refine SnapL.i ?_ | refine SnapL.bo ?_ | refine SnapL.dt ?_ | refine SnapL.nd ?_ | refine SnapL.ed ?_ | refine SnapL.nl ?_ | refine SnapL.agg ?_ ?_ | refine SnapL.fn ?_ ?_ | refine SnapL.ip ?_) <;> fail) ?_) <;> fail)
    (hrb : rs.all (renRB true) = true := by first | rfl | (simp only [renRB, renB, List.all_cons, List.all_nil, E_own, E_pure, Bool.or_true, Bool.true_or, Bool.true_and, Bool.and_true, Bool.and_self]; done) | (simp [renRB, renB, E_own, E_pure]; done)) (hnr : rs.all (fun a => match a with | .sl _ _ _ _ => false | .pt _ _ _ _ => false | .agg _ => false | _ => true) = true := by exact rfl)
    (ht : ThwM nx rs as ob := by (repeat' first | exact ThwM.nil | apply ThwM.agg | apply ThwM.cell rfl | exact ThwC.nil | apply ThwC.at1 rfl | apply ThwC.ow (E_length _ _) | apply ThwC.ow rfl) <;> fail) (ha : tupA as = a := by exact rfl)
    (hw : awant n ops ⟨d, .call ⟨.value (.func f), args, ats⟩, ty, pos, af, g⟩ E true = true := by exact rfl) (hd : fits n d = true := by exact rfl) (hlb : lb = false := by exact rfl) : ARg P n w0 MP lb ops (⟨d, .call ⟨.value (.func f), args, ats⟩, ty, pos, af, g⟩ :: os) Q ⟨E, hp, nx⟩ := by
  subst ha; exact R.callK ρ hc hn hob hs hrb hnr ht hw hd hlb (by rw [putA_eq]; exact h)
theorem F.retK {res : List ResultVar} {as rs rs' : List AV} {hp' : Nat → Ob} (he : rs' = rs)
    (h1 : RetL P ⟨E, hp, nx⟩ res as := by repeat' first | exact RetL.nil | apply RetL.tmp (a := .i _) rfl | apply RetL.tmp (a := .b _) rfl | apply RetL.tmp (a := .dt _ _ _) rfl | apply RetL.tmp (a := .nl) rfl | apply RetL.tmp (a := .em) rfl)
    (h2 : OutM 0 hp as rs' hp' := by repeat' first | exact OutM.nil | apply OutM.cell rfl (Mv.at1 rfl .nil) rfl | apply OutM.cell rfl (Mv.nl _ .nil) rfl | apply OutM.cell rfl (Mv.em _ .nil) rfl) : KRet P res rs .ret ⟨E, hp, nx⟩ := by
  subst he; exact ⟨as, hp', h1, h2⟩
/-- ghosts: a slot's slice is only read from here on -/
theorem AW.freeze {α : Type} [Enc α] {c : Code} (t : Nat) {o m off k sz : Nat} {l oo : Bool} {ls : List α} (ht : E t = .sl o m off k) (hh : hp o = .live l sz (V.E oo ls)) (hn : ls.length = m) (h : AW P n w0 MP c Q ⟨updA E t (.dt false sz (V.E false ((ls.drop off).take k))), updA hp o .dead, nx⟩) : AW P n w0 MP c Q ⟨E, hp, nx⟩ :=
  AW.ghost (fun E' w hs => Sim.freeze (st := ⟨E, hp, nx⟩) ht hh (by rw [E_length, hn]) (E_pure oo ls) (by rw [E_drop, E_take, E_frz]) hs) h
theorem F.freeze {α : Type} [Enc α] (t : Nat) {o m off k sz : Nat} {l oo : Bool} {ls : List α} (ht : E t = .sl o m off k) (hh : hp o = .live l sz (V.E oo ls)) (hn : ls.length = m) (h : ARg P n w0 MP lb ops os Q ⟨updA E t (.dt false sz (V.E false ((ls.drop off).take k))), updA hp o .dead, nx⟩) : ARg P n w0 MP lb ops os Q ⟨E, hp, nx⟩ :=
  ARg.ghost (fun E' w hs => Sim.freeze (st := ⟨E, hp, nx⟩) ht hh (by rw [E_length, hn]) (E_pure oo ls) (by rw [E_drop, E_take, E_frz]) hs) h
theorem dz {α : Type} [Enc α] {m0 fuel : Nat} {listed : Array Bool} (t : Nat) {o m off k sz : Nat} {l oo : Bool} {ls : List α} (ht : E t = .sl o m off k) (hh : hp o = .live l sz (V.E oo ls)) (hn : ls.length = m) (h : ARA P n w0 MP m0 ops fuel listed Q ⟨updA E t (.dt false sz (V.E false ((ls.drop off).take k))), updA hp o .dead, nx⟩) : ARA P n w0 MP m0 ops fuel listed Q ⟨E, hp, nx⟩ :=
  ARA.ghost (fun E' w hs => Sim.freeze (st := ⟨E, hp, nx⟩) ht hh (by rw [E_length, hn]) (E_pure oo ls) (by rw [E_drop, E_take, E_frz]) hs) h
theorem AW.share {α : Type} [Enc α] {c : Code} (o : Nat) {sz : Nat} {l : Bool} {ls : List α} (hh : hp o = .live l sz (V.E true ls)) (h : AW P n w0 MP c Q ⟨E, updA hp o (.live false sz (V.E false ls)), nx⟩) : AW P n w0 MP c Q ⟨E, hp, nx⟩ :=
  AW.ghost (fun E' w hs => Sim.share (st := ⟨E, hp, nx⟩) hh hs) h
theorem F.share {α : Type} [Enc α] (o : Nat) {sz : Nat} {l : Bool} {ls : List α} (hh : hp o = .live l sz (V.E true ls)) (h : ARg P n w0 MP lb ops os Q ⟨E, updA hp o (.live false sz (V.E false ls)), nx⟩) : ARg P n w0 MP lb ops os Q ⟨E, hp, nx⟩ :=
  ARg.ghost (fun E' w hs => Sim.share (st := ⟨E, hp, nx⟩) hh hs) h
theorem take_all {α : Type} {ls : List α} {m : Nat} (h : ls.length = m) : (ls.drop 0).take m = ls := by rw [List.drop_zero, ← h, List.take_length]
/-- the same for all of an object -/
theorem AW.freezeA {α : Type} [Enc α] {c : Code} (t : Nat) {o m sz : Nat} {l oo : Bool} {ls : List α} (ht : E t = .sl o m 0 m) (hh : hp o = .live l sz (V.E oo ls)) (hn : ls.length = m) (h : AW P n w0 MP c Q ⟨updA E t (.dt false sz (V.E false ls)), updA hp o .dead, nx⟩) : AW P n w0 MP c Q ⟨E, hp, nx⟩ :=
  AW.freeze t ht hh hn (by rw [take_all hn]; exact h)
theorem F.freezeA {α : Type} [Enc α] (t : Nat) {o m sz : Nat} {l oo : Bool} {ls : List α} (ht : E t = .sl o m 0 m) (hh : hp o = .live l sz (V.E oo ls)) (hn : ls.length = m) (h : ARg P n w0 MP lb ops os Q ⟨updA E t (.dt false sz (V.E false ls)), updA hp o .dead, nx⟩) : ARg P n w0 MP lb ops os Q ⟨E, hp, nx⟩ :=
  F.freeze t ht hh hn (by rw [take_all hn]; exact h)
theorem dzA {α : Type} [Enc α] {m0 fuel : Nat} {listed : Array Bool} (t : Nat) {o m sz : Nat} {l oo : Bool} {ls : List α} (ht : E t = .sl o m 0 m) (hh : hp o = .live l sz (V.E oo ls)) (hn : ls.length = m) (h : ARA P n w0 MP m0 ops fuel listed Q ⟨updA E t (.dt false sz (V.E false ls)), updA hp o .dead, nx⟩) : ARA P n w0 MP m0 ops fuel listed Q ⟨E, hp, nx⟩ :=
  dz t ht hh hn (by rw [take_all hn]; exact h)
theorem AW.freezeP {α : Type} [Enc α] {c : Code} (a : α) (t : Nat) {o sz : Nat} {l oo : Bool} (ht : E t = .pt o 1 0 0) (hh : hp o = .live l sz [enc oo a]) (h : AW P n w0 MP c Q ⟨updA E t (.ip (enc false a)), updA hp o .dead, nx⟩) : AW P n w0 MP c Q ⟨E, hp, nx⟩ :=
  AW.ghost (fun E' w hs => Sim.freezeP (st := ⟨E, hp, nx⟩) ht hh hs) h
/-- clear(x[off:off+m]) -/
theorem F.clear {α : Type} [Enc α] {z : α} {t e o nn off m : Nat} {ls ls' : List α} [hu : HasU P t (.slice e)] [hz : ZeroE P e α z] (hx : evA ⟨E, hp, nx⟩ x = .sl o nn off m) (hh : hp o = .live false (Enc.nc α) (V.E false ls)) (hn : ls.length = nn) (he : ls.take off ++ (List.replicate m z ++ ls.drop (off + m)) = ls')
    (hw : awant n ops ⟨d, .call ⟨.builtin .clear, #[x], #[t]⟩, ty, pos, af, g⟩ E true = true) (hd : fits n d = true) (hlb : lb = false)
    (h : ARg P n w0 MP lb ops os Q ⟨putE E d .no, updA hp o (.live false (Enc.nc α) (V.E false ls')), nx⟩) : ARg P n w0 MP lb ops (⟨d, .call ⟨.builtin .clear, #[x], #[t]⟩, ty, pos, af, g⟩ :: os) Q ⟨E, hp, nx⟩ := by
  subst he
  refine ARg.val (st' := putA ⟨E, updA hp o (.live false (Enc.nc α) (V.E false (ls.take off ++ (List.replicate m z ++ ls.drop (off + m))))), nx⟩ d .no) hw hd (fun C Im E' w hm => ?_) (by rw [putA_eq]; exact h)
  have hv := hm.ev x
  rw [hx] at hv
  obtain ⟨p, c, g1, g2, g3, g4, g5⟩ := hv
  obtain ⟨cc, hcc, hO⟩ := hm.obj o false _ _ hh
  have hlen : cc.len = ls.length := by rw [hO.len, E_length]
  obtain ⟨s1, s2, s3⟩ := (g5 cc hcc).2 (by rw [hlen, hn])
  rw [hlen] at s1
  obtain ⟨bys, zz, us, hi, z1, z2, z3, z4⟩ := hz.h
  by_cases h0 : m = 0
  · subst h0
    have e0 : ls.take off ++ (List.replicate 0 z ++ ls.drop (off + 0)) = ls := by simp
    rw [e0]
    have e1 : updA hp o (.live false (Enc.nc α) (V.E false ls)) = hp := by
      funext t'
      by_cases ht : t' = o
      · subst ht; rw [updA_same]; exact hh.symm
      · rw [updA_ne _ _ ht]
    rw [e1]
    have hr : (execOp (ev E') ⟨d, .call ⟨.builtin .clear, #[x], #[t]⟩, ty, pos, af, g⟩).run P w = .ok (.value (.tuple #[])) w := by
      have := hu.und w
      cases p <;> simp [execOp, resolve, invoke, builtin, Builtin.clear_, g1, this]
    exact ⟨_, w, hr, (fun hl => by rw [hlb] at hl; cases hl), putS (show Sm w0 MP ⟨E, hp, nx⟩ C Im E' w from hm) d trivial⟩
  · obtain ⟨b, c', f1, f2⟩ := s3 h0
    obtain ⟨e', hB⟩ := hO.buf
    have hsz : cc.sz = Enc.nc α := hO.esz
    rcases hB.2 with ⟨_, p', hp'⟩ | ⟨b', cp, cur, hp', h2, h3, h4, h5, h6⟩
    · rw [hp'] at f1; cases p' <;> simp [own] at f1
    rw [hp'] at f1
    simp [own] at f1
    subst f1
    let vs := (List.replicate m us).flatten
    have hvl : vs.length = m * Enc.nc α := by
      show (List.replicate m us).flatten.length = _
      rw [flatten_len (sz := Enc.nc α) (fun x hx => by rw [(List.mem_replicate.1 hx).2]; exact z3), List.length_replicate]
    have hone : oneAll vs := by
      have h1 : oneAll us := (z4 (fun _ => False) w).one
      intro u hu'
      obtain ⟨x', hx', hu'⟩ := List.mem_flatten.1 hu'
      rw [(List.mem_replicate.1 hx').2] at hu'
      exact h1 u hu'
    have hfit : off * Enc.nc α + vs.length ≤ cur.length := by
      rw [hvl, h5, hsz, ← Nat.add_mul]
      exact Nat.mul_le_mul_right _ (by omega)
    have hst := run_storeCells_at P b' (off * Enc.nc α) e' vs 0 cur.toArray w h2 (by simpa using hfit) hone
    simp only [Nat.add_zero] at hst
    have hset := setRow_heap w b' cur.toArray (cur.take (off * Enc.nc α) ++ vs ++ cur.drop (off * Enc.nc α + vs.length)).toArray e' _ h2
    have hzc : (Builtin.zeroCells zz.cells m).toList = vs := by
      have := made_flat us z2 m
      rw [z1]
      simpa [Builtin.zeroCells, madeCells] using this
    obtain ⟨m', rfl⟩ : ∃ m', m = m' + 1 := ⟨m - 1, by omega⟩
    have hbo : off * cc.sz = off * Enc.nc α := by rw [hsz]
    have hr : (execOp (ev E') ⟨d, .call ⟨.builtin .clear, #[x], #[t]⟩, ty, pos, af, g⟩).run P w = .ok (.value (.tuple #[])) (w.setRow b' (cur.take (off * Enc.nc α) ++ vs ++ cur.drop (off * Enc.nc α + vs.length)).toArray) := by
      have h1 := hu.und w
      have h9 := hi.zeroV w
      rw [hbo] at f2
      simp [execOp, resolve, invoke, builtin, Builtin.clear_, f2, h1, h9, hzc, hst]
    have hzL : LayC nx C Im w (V.E false (List.replicate (m' + 1) z)).flatten vs [] := by
      have h1 := ((z4 Im w).rep (m' + 1)).frz (Im' := Im) (fun _ h => h) (fun k hk => by cases hk)
      rw [← frzLL_flatten, E_frz] at h1
      exact LayC.imm h1
    have hsp : ls = ls.take off ++ ((ls.drop off).take (m' + 1) ++ ls.drop (off + (m' + 1))) := by
      rw [← List.drop_drop, List.take_append_drop, List.take_append_drop]
    have hAl : (V.E false (ls.take off)).flatten.length = off * Enc.nc α := by
      rw [flatten_len (E_len false _), E_length, List.length_take, Nat.min_eq_left (by omega)]
    obtain ⟨cc', m5, _⟩ := Sm.store (w' := w.setRow b' (cur.take (off * Enc.nc α) ++ vs ++ cur.drop (off * Enc.nc α + vs.length)).toArray) (show Sm w0 MP ⟨E, hp, nx⟩ C Im E' w from hm) (xs' := V.E false (ls.take off ++ (List.replicate (m' + 1) z ++ ls.drop (off + (m' + 1)))))
      (A := (V.E false (ls.take off)).flatten) (B := (V.E false ((ls.drop off).take (m' + 1))).flatten) (B' := (V.E false (List.replicate (m' + 1) z)).flatten) (D := (V.E false (ls.drop (off + (m' + 1)))).flatten) hh hcc
      (by conv => lhs; rw [hsp, E_append, E_append, List.flatten_append, List.flatten_append]) (by rw [E_append, E_append, List.flatten_append, List.flatten_append])
      (by simp only [E_length, List.length_append, List.length_take, List.length_replicate, List.length_drop]; omega) (E_len false _)
      (by rw [flatten_len (E_len false _), flatten_len (E_len false _), E_length, E_length, List.length_replicate, List.length_take, List.length_drop]; congr 1; omega) (by rw [hp']; rfl) hzL Loose.nil (fun k hk => by cases hk)
      ⟨fun k hk => setRow_other w b' k _ hk, by simp, rfl, rfl, rfl⟩ (fun cur' e2 hB' => by
        unfold Blk at hB' h2
        rw [h2] at hB'
        simp only [Option.some.injEq, Obj.cells.injEq] at hB'
        have : cur = cur' := by simpa using congrArg Array.toList hB'.1
        subst this
        rw [hAl]; exact ⟨e', hset⟩)
    exact ⟨_, _, hr, (fun hl => by rw [hlb] at hl; cases hl), putS m5 d trivial⟩
end
end Go.Proofs.YtedjajokbdokhaaGreat.V

/- Shifts and the last bit. Over any program; nothing is claimed of the given one. -/
namespace Go.Proofs.YtedjajokbdokhaaGreat.V
open Go.RowKit G
set_option linter.unusedVariables false
set_option linter.unusedSimpArgs false
section
variable {P : Program} {w0 : World} {MP : Fr} {st : St} {d : Option Tmp} {ty t t' : TypeId} {pos : String} {af : Array Edge} {g : Option (Nat × Bool)} {x y : Operand}
theorem A.shl {a b : Int} {n : Nat} (hx : evA st x = .i a) (hy : evA st y = .i b) (hb : b = (n : Int)) (hn : n ≤ 62) (h : In64 (a * 2 ^ n)) : ASil true P w0 MP st ⟨d, .binOp .shl t x y t', ty, pos, af, g⟩ (.i (a * 2 ^ n)) := fun C Im E w hm => by
  have h1 := (hm.evI hx).1
  have h2 := (hm.evI hy).1
  subst hb
  refine ⟨.int .i64 (a * 2 ^ n), fun w' => ?_, rfl, h⟩
  unfold Sil
  intro w2 _
  have hm : min n 64 = n := by omega
  have hw : IntKind.wrap .i64 (a * 2 ^ n) = a * 2 ^ n := IntWalk.i64_in _ (by unfold In64 at h; omega)
  simp [execOp, h1, h2, eqGuard, binOp, Op.shift, IntKind.bits, hm, hw]
theorem A.shr {a b : Int} {n : Nat} (hx : evA st x = .i a) (hy : evA st y = .i b) (hb : b = (n : Int)) (hn : n ≤ 62) (ha : 0 ≤ a) : ASil true P w0 MP st ⟨d, .binOp .shr t x y t', ty, pos, af, g⟩ (.i (a / 2 ^ n)) := fun C Im E w hm => by
  have h1 := hm.evI hx
  have h2 := (hm.evI hy).1
  subst hb
  have hp : (0 : Int) < 2 ^ n := Int.pow_pos (by omega)
  have h3 : 0 ≤ a / 2 ^ n := Int.ediv_nonneg ha (by omega)
  have h4 : a / 2 ^ n ≤ a := Int.ediv_le_self _ ha
  refine ⟨.int .i64 (a / 2 ^ n), fun w' => ?_, rfl, ?_⟩
  · unfold Sil
    intro w2 _
    have hm : min n 64 = n := by omega
    have hf : a.fdiv (2 ^ n) = a / 2 ^ n := Int.fdiv_eq_ediv_of_nonneg _ (by omega)
    simp [execOp, h1.1, h2, eqGuard, binOp, Op.shift, IntKind.bits, hm, hf]
  · have := h1.2
    unfold In64 at *; omega
theorem A.and1 {a : Int} (hx : evA st x = .i a) (hy : evA st y = .i 1) (ha : 0 ≤ a) : ASil true P w0 MP st ⟨d, .binOp .and t x y t', ty, pos, af, g⟩ (.i (a % 2)) := fun C Im E w hm => by
  have h1 := hm.evI hx
  have h2 := (hm.evI hy).1
  refine ⟨.int .i64 (a % 2), fun w' => ?_, rfl, by unfold In64; omega⟩
  unfold Sil
  intro w2 _
  have h3 : ((BitVec.ofInt 64 a &&& BitVec.ofInt 64 1).toNat : Int) = a % 2 := by
    obtain ⟨n, rfl⟩ : ∃ n : Nat, a = n := ⟨a.toNat, by omega⟩
    have hn := h1.2
    unfold In64 at hn
    rw [BitVec.toNat_and, BitVec.toNat_ofInt, BitVec.toNat_ofInt]
    have e1 : ((n : Int) % (2 ^ 64 : Nat)).toNat = n := by omega
    have e2 : ((1 : Int) % (2 ^ 64 : Nat)).toNat = 1 := by decide
    rw [e1, e2, Nat.and_one_is_mod]; omega
  have hw : IntKind.wrap .i64 (a % 2) = a % 2 := IntWalk.i64_in _ (by omega)
  simp only [show (BitVec.ofInt 64 1) = 1#64 from rfl] at h3
  simp [execOp, h1.1, h2, eqGuard, binOp, Op.intBits, IntKind.bits]
  exact (congrArg (IntKind.wrap .i64) h3).trans hw
end
end Go.Proofs.YtedjajokbdokhaaGreat.V
