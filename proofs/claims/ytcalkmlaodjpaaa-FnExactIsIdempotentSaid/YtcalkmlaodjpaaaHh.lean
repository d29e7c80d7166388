/- Calls, and what a function returns, by abstract states. Over any program; nothing is claimed of the given one. -/
import Derived.Test.YtcalkmlaodjpaaaHg
namespace Go.Proofs.Ytcalkmlaodjpaaa.V
open Go.RowKit G
set_option linter.unusedVariables false
set_option linter.unusedSimpArgs false

def noC : Nat → Option Conc := fun _ => none
/-- arguments as the callee sees them: nothing of what is there already is written -/
def RVs (w : World) (bs : List AV) (us : List Value) : Prop := RVL 0 noC (fun k => k < w.heap.size) w bs us
/-- results, in memory of their own -/
inductive ResL (w : World) : List AV → List Value → List Nat → Prop
  | nil : ResL w [] [] []
  | cell {a : AV} {v : Value} {rs : List AV} {vs : List Value} {F G : List Nat} : OwnC (fun _ => False) w [a] [v] F → ResL w rs vs G → ResL w (a :: rs) (v :: vs) (F ++ G)
  | agg {cs : List AV} {us : List Value} {rs : List AV} {vs : List Value} {F G : List Nat} : OwnC (fun _ => False) w cs us F → ResL w rs vs G → ResL w (.agg cs :: rs) (.agg us.toArray :: vs) (F ++ G)
def tupV : List Value → Value
  | [v] => v
  | vs => .tuple vs.toArray
def tupA : List AV → AV
  | [a] => a
  | as => .tu as
/-- what a call comes to, for whatever world: arguments, results -/
def AC (P : Program) (f : FuncId) (bs rs : List AV) : Prop := ∀ (w : World) (us : List Value), RVs w bs us → Run P f us w fun v w' => Later w w' ∧ ∃ vs F, v = tupV vs ∧ ResL w' rs vs F ∧ F.Nodup ∧ ∀ k ∈ F, w.heap.size ≤ k

/-! ### arguments -/
inductive SnapL (hp : Nat → Ob) : List AV → List AV → Prop
  | nil : SnapL hp [] []
  | i {n : Int} {as bs : List AV} : SnapL hp as bs → SnapL hp (.i n :: as) (.i n :: bs)
  | bo {x : Bool} {as bs : List AV} : SnapL hp as bs → SnapL hp (.b x :: as) (.b x :: bs)
  | dt {sz : Nat} {xs : List (List AV)} {as bs : List AV} : SnapL hp as bs → SnapL hp (.dt false sz xs :: as) (.dt false sz xs :: bs)
  | nl {as bs : List AV} : SnapL hp as bs → SnapL hp (.nl :: as) (.nl :: bs)
  | nd {α : Type} [Enc α] {as bs : List AV} : SnapL hp as bs → SnapL hp (.nl :: as) (.dt false (Enc.nc α) (V.E false ([] : List α)) :: bs)
  | ed {α : Type} [Enc α] {as bs : List AV} : SnapL hp as bs → SnapL hp (.em :: as) (.dt false (Enc.nc α) (V.E false ([] : List α)) :: bs)
  | no {a : AV} {as bs : List AV} : SnapL hp as bs → SnapL hp (a :: as) (.no :: bs)
  | slE {α : Type} [Enc α] {o n sz : Nat} {l oo : Bool} {ls : List α} {as bs : List AV} : hp o = .live l sz (V.E oo ls) → ls.length = n → SnapL hp as bs → SnapL hp (.sl o n 0 n :: as) (.dt false sz (V.E false ls) :: bs)
  | slV {α : Type} [Enc α] {o n off m sz : Nat} {l oo : Bool} {ls : List α} {as bs : List AV} : hp o = .live l sz (V.E oo ls) → ls.length = n → SnapL hp as bs → SnapL hp (.sl o n off m :: as) (.dt false sz (V.E false ((ls.drop off).take m)) :: bs)
  | slR {o n sz : Nat} {l : Bool} {xs ys : List (List AV)} {as bs : List AV} : hp o = .live l sz xs → xs.length = n → xs.flatten.all cellB = true → SnapL hp xs.flatten ys.flatten → ys.length = n → (∀ y ∈ ys, y.length = sz) → ys.flatten.all pureB = true → SnapL hp as bs → SnapL hp (.sl o n 0 n :: as) (.dt false sz ys :: bs)
  | fn {f : Nat} {cs ds as bs : List AV} : SnapL hp cs ds → SnapL hp as bs → SnapL hp (.fn f cs :: as) (.fn f ds :: bs)
  | agg {cs ds as bs : List AV} : SnapL hp cs ds → SnapL hp as bs → SnapL hp (.agg cs :: as) (.agg ds :: bs)
  | pt {o n k j sz : Nat} {l : Bool} {xs : List (List AV)} {c ds as bs : List AV} : hp o = .live l sz xs → xs.length = n → xs[k]? = some c → c.all cellB = true → SnapL hp (c.drop j) ds → ds.all pureB = true → SnapL hp as bs → SnapL hp (.pt o n k j :: as) (.ip ds :: bs)
  | ip {cs as bs : List AV} : SnapL hp as bs → SnapL hp (.ip cs :: as) (.ip cs :: bs)
section
variable {w0 w w' : World} {MP : Fr} {st : St} {C : Nat → Option Conc} {Im : Nat → Prop} {E : Env} {N : Nat}
theorem LayC.rvl {cs : List AV} {us : List Value} {F : List Nat} (h : LayC N C Im w cs us F) (hc : cs.all cellB = true) : RVL N C Im w cs us := by
  induction h with
  | nil => rfl
  | at1 h1 _ _ ih =>
    rw [List.all_cons, Bool.and_eq_true] at hc
    exact ⟨_, _, rfl, h1, ih hc.2⟩
  | ow _ _ _ => rw [List.all_cons, Bool.and_eq_true] at hc; cases hc.1
theorem RVL.pure : ∀ {cs : List AV} {us : List Value}, RVL N C Im w cs us → cs.all pureB = true → Imm Im w cs us
  | [], us, h, _ => by subst h; exact .nil
  | a :: cs, us, ⟨v, vs, h1, h2, h3⟩, hc => by
    subst h1
    rw [List.all_cons, Bool.and_eq_true] at hc
    simpa using (h2.pure hc.1).append (RVL.pure h3 hc.2)
theorem RVL.append : ∀ {cs ds : List AV} {us vs : List Value}, RVL N C Im w cs us → RVL N C Im w ds vs → RVL N C Im w (cs ++ ds) (us ++ vs)
  | [], ds, us, vs, h, k => by subst h; exact k
  | a :: cs, ds, us, vs, ⟨v, us', h1, h2, h3⟩, k => by subst h1; exact ⟨v, _, rfl, h2, RVL.append h3 k⟩
/-- a part of an object, as what does not change -/
theorem OR.view {J : Nat → Prop} {o n off m sz : Nat} {l : Bool} {xs ys : List (List AV)} {v : Value} {cc : Conc} (hcc : C o = some cc) (hO : OR w0 MP N C Im w l sz xs cc) (hI : ∀ k, Im k → J k) (hJ : ∀ k ∈ blks cc, J k) (hn : xs.length = n) (hv : RV N C Im w (.sl o n off m) v) (hp : xs.flatten.all pureB = true) (hys : frzLL ((xs.drop off).take m) = ys) :
    Imm J w [.dt false sz ys] [v] := by
  subst hys
  obtain ⟨p, c, h1, h2, h3, h4, h5⟩ := hv
  obtain ⟨s1, s2, s3⟩ := (h5 cc hcc).2 (by rw [hO.len, hn])
  have hle : off + m ≤ xs.length := by rw [← hO.len]; exact s1
  have hlen : ((xs.drop off).take m).length = m := by rw [List.length_take, List.length_drop]; omega
  have hsz : ∀ x ∈ xs, x.length = sz := fun x hx => by rw [hO.lens x hx, hO.esz]
  have hfl : xs.flatten = (xs.take off).flatten ++ (((xs.drop off).take m).flatten ++ (xs.drop (off + m)).flatten) := by
    rw [← List.flatten_append, ← List.flatten_append, ← List.drop_drop, List.take_append_drop, List.take_append_drop]
  by_cases h0 : m = 0
  · subst h0
    rw [h1, List.take_zero]
    exact .sl0 h3 .nil
  obtain ⟨b, c', f1, f2⟩ := s3 h0
  have hl := hO.lay
  rw [hfl] at hl hp
  obtain ⟨u1, v2, F1, G2, e1, e2, q1, q⟩ := hl.split
  obtain ⟨u2, u3, F2, F3, rfl, rfl, q2, q3⟩ := q.split
  rw [List.all_append, Bool.and_eq_true, List.all_append, Bool.and_eq_true] at hp
  have l1 := q1.length
  rw [flatten_take hsz (by omega)] at l1
  have hF : ∀ k ∈ F2, J k := fun k hk => hJ k (by simp [blks, e2, hk])
  have hI2 := (q2.pure hp.2.1).frz (Im' := J) hI hF
  rw [← frzLL_flatten] at hI2
  have e3 : m = (frzLL ((xs.drop off).take m)).length := by rw [frzLL_length, hlen]
  rw [f2]
  rw [h1] at f2
  simp only [Value.slice.injEq, true_and] at f2
  have hcc' : c' = c := f2.2.symm
  have key := Imm.sl (Im := J) (w := w) (b := b) (o := off * cc.sz) (c := c') (sz := sz) (xs := frzLL ((xs.drop off).take m)) (us := u2) (by rw [← e3, hcc']; exact h2) (by rw [hcc']; exact h3) (hJ b (by simp [blks, mem_ownL, f1])) (fun i u hu => by
    refine hO.cell f1 ?_
    rw [hO.esz, e1, List.getElem?_append_right (by omega), l1, Nat.add_sub_cancel_left, List.getElem?_append_left (List.getElem?_eq_some_iff.1 hu).1, hu]) hI2 (fun x hx => by
    rw [frzLL_map] at hx
    obtain ⟨y, hy, rfl⟩ := List.mem_map.1 hx
    rw [frzL_map, List.length_map]
    exact hsz y (List.mem_of_mem_drop (List.mem_of_mem_take hy))) .nil
  rw [← e3] at key
  exact key
theorem SnapL.specJ {J : Nat → Prop} {hk : Nat → Ob} {as bs : List AV} (h : SnapL hk as bs) (hI : ∀ k, Im k → J k) (hobj : ∀ o l sz xs, hk o = .live l sz xs → ∃ cc, C o = some cc ∧ OR w0 MP N C Im w l sz xs cc ∧ ∀ k ∈ blks cc, J k) : ∀ {us : List Value}, RVL N C Im w as us → RVL 0 noC J w bs us := by
  induction h with
  | nil => exact fun h => h
  | i _ ih => exact fun ⟨v, vs, h1, h2, h3⟩ => ⟨v, vs, h1, h2, ih h3⟩
  | bo _ ih => exact fun ⟨v, vs, h1, h2, h3⟩ => ⟨v, vs, h1, h2, ih h3⟩
  | dt _ ih => exact fun ⟨v, vs, h1, h2, h3⟩ => ⟨v, vs, h1, ⟨h2.1, h2.2.mono hI (fun _ _ => rfl)⟩, ih h3⟩
  | nl _ ih => exact fun ⟨v, vs, h1, h2, h3⟩ => ⟨v, vs, h1, h2, ih h3⟩
  | nd _ ih => exact fun ⟨v, vs, h1, h2, h3⟩ => ⟨v, vs, h1, ⟨rfl, by have : v = .slice Option.none 0 0 := h2; rw [this]; exact .sl0 (Nat.zero_le _) .nil⟩, ih h3⟩
  | ed _ ih => exact fun ⟨v, vs, h1, h2, h3⟩ => ⟨v, vs, h1, ⟨rfl, by obtain ⟨p, rfl⟩ := h2; exact .sl0 (Nat.zero_le _) .nil⟩, ih h3⟩
  | no _ ih => exact fun ⟨v, vs, h1, h2, h3⟩ => ⟨v, vs, h1, trivial, ih h3⟩
  | slE ho hn _ ih =>
    rintro us ⟨v, vs, h1, h2, h3⟩
    obtain ⟨cc, hcc, hO, hJ⟩ := hobj _ _ _ _ ho
    exact ⟨v, vs, h1, ⟨rfl, hO.view hcc hI hJ (by rw [E_length, hn]) h2 (E_pure _ _) (by rw [List.drop_zero, List.take_of_length_le (by rw [E_length, hn]; exact Nat.le_refl _), E_frz])⟩, ih h3⟩
  | slV ho hn _ ih =>
    rintro us ⟨v, vs, h1, h2, h3⟩
    obtain ⟨cc, hcc, hO, hJ⟩ := hobj _ _ _ _ ho
    exact ⟨v, vs, h1, ⟨rfl, hO.view hcc hI hJ (by rw [E_length, hn]) h2 (E_pure _ _) (by rw [E_drop, E_take, E_frz])⟩, ih h3⟩
  | @slR o n sz l xs ys as bs ho hn hc _ hyl hys hyp _ ih1 ih2 =>
    rintro us ⟨v, vs, h1, h2, h3⟩
    refine ⟨v, vs, h1, ⟨rfl, ?_⟩, ih2 h3⟩
    obtain ⟨cc, hcc, hO, hJ⟩ := hobj _ _ _ _ ho
    obtain ⟨p, c, g1, g2, g3, g4, g5⟩ := h2
    obtain ⟨s1, s2, s3⟩ := (g5 cc hcc).2 (by rw [hO.len, hn])
    have key := RVL.pure (ih1 (hO.lay.rvl hc)) hyp
    by_cases h0 : n = 0
    · subst h0
      have : ys = [] := List.eq_nil_of_length_eq_zero hyl
      subst this
      rw [g1]; exact .sl0 g3 .nil
    · obtain ⟨b, c', f1, f2⟩ := s3 h0
      rw [f2]
      rw [g1] at f2
      simp only [Value.slice.injEq, true_and] at f2
      obtain ⟨_, rfl⟩ := f2
      rw [Nat.zero_mul]
      subst hyl
      exact .sl g2 g3 (hJ b (by simp [blks, mem_ownL, f1])) (fun i u hu => by rw [Nat.zero_add]; exact hO.cell f1 hu) key hys .nil
  | fn _ _ ih1 ih2 => exact fun ⟨v, vs, h1, ⟨us, g1, g2⟩, h3⟩ => ⟨v, vs, h1, ⟨us, g1, ih1 g2⟩, ih2 h3⟩
  | agg _ _ ih1 ih2 => exact fun ⟨v, vs, h1, ⟨us, g1, g2⟩, h3⟩ => ⟨v, vs, h1, ⟨us, g1, ih1 g2⟩, ih2 h3⟩
  | @pt o n k j sz l xs c ds as bs ho hn hk hc _ hds _ ih1 ih2 =>
    rintro us ⟨v, vs, h1, h2, h3⟩
    refine ⟨v, vs, h1, ?_, ih2 h3⟩
    obtain ⟨cc, hcc, hO, hJ⟩ := hobj _ _ _ _ ho
    obtain ⟨b, q, p1, p2, p3⟩ := h2
    obtain ⟨f1, rfl⟩ := (p3 cc hcc).2 (by rw [hO.len, hn])
    have hsz : ∀ x ∈ xs, x.length = sz := fun x hx => by rw [hO.lens x hx, hO.esz]
    have hl := hO.lay
    have hfl : xs.flatten = (xs.take k).flatten ++ (c.take j ++ (c.drop j ++ (xs.drop (k + 1)).flatten)) := by
      rw [flatten_cut hk, ← List.append_assoc (c.take j), List.take_append_drop]
    rw [hfl] at hl
    obtain ⟨u1, v2, F1, G2, e1, e2, q1, q⟩ := hl.split
    obtain ⟨u2, v3, F2, F3, rfl, rfl, q2, q⟩ := q.split
    obtain ⟨u3, u4, F3, F4, rfl, rfl, q3, q4⟩ := q.split
    have l1 := q1.length
    rw [flatten_take hsz (by have := (List.getElem?_eq_some_iff.1 hk).1; omega)] at l1
    have l2 := q2.length
    have hcj : (c.drop j).all cellB = true := List.all_eq_true.2 fun a ha => List.all_eq_true.1 hc a (List.mem_of_mem_drop ha)
    refine ⟨b, _, u3, p1, hJ b (by simp [blks, mem_ownL, f1]), fun i u hu => ?_, RVL.pure (ih1 (q3.rvl hcj)) hds⟩
    by_cases hjl : j ≤ c.length
    · rw [List.length_take, Nat.min_eq_left hjl] at l2
      refine hO.cell f1 ?_
      rw [hO.esz, e1, List.getElem?_append_right (by omega), l1, List.getElem?_append_right (by omega), l2, List.getElem?_append_left (by have := (List.getElem?_eq_some_iff.1 hu).1; omega), ← hu]
      congr 1; omega
    · have : c.drop j = [] := List.drop_of_length_le (by omega)
      have h3 := q3.length
      rw [this] at h3
      have : u3 = [] := List.eq_nil_of_length_eq_zero h3
      subst this; simp at hu
  | ip _ ih => exact fun ⟨v, vs, h1, ⟨b, o, us, g1, g2, g3, g4⟩, h3⟩ => ⟨v, vs, h1, ⟨b, o, us, g1, hI _ g2, g3, g4.mono hI (fun _ _ => rfl)⟩, ih h3⟩
theorem SnapL.spec {as bs : List AV} (h : SnapL st.hp as bs) (hm : Sm w0 MP st C Im E w) : ∀ {us : List Value}, RVL st.nx C Im w as us → RVs w bs us :=
  h.specJ hm.im fun o l sz xs ho => by
    obtain ⟨cc, hcc, hO⟩ := hm.obj o l sz xs ho
    exact ⟨cc, hcc, hO, fun k hk => (hO.wb k hk).lt⟩

/-! ### results of a call -/
def addO (hp : Nat → Ob) : Nat → List (Nat × List (List AV)) → Nat → Ob
  | _, [] => hp
  | N, (sz, xs) :: os => addO (updA hp N (.live false sz xs)) (N + 1) os
inductive Thw : Nat → List AV → List AV → List (Nat × List (List AV)) → Prop
  | nil {N : Nat} : Thw N [] [] []
  | at1 {N : Nat} {a : AV} {cs ds : List AV} {os : List (Nat × List (List AV))} : (pureB a && shr a) = true → Thw N cs ds os → Thw N (a :: cs) (a :: ds) os
  | ow {N n sz : Nat} {xs : List (List AV)} {cs ds : List AV} {os : List (Nat × List (List AV))} : xs.length = n → Thw (N + 1) cs ds os → Thw N (.dt true sz xs :: cs) (.sl N n 0 n :: ds) ((sz, xs) :: os)
theorem CLe.trans {C1 C2 C3 : Nat → Option Conc} {N M : Nat} (h : CLe N C1 C2) (k : CLe M C2 C3) (hN : N ≤ M) : CLe N C1 C3 := fun o ho c3 h3 => by
  obtain ⟨c2, h2, r2⟩ := k o (Nat.lt_of_lt_of_le ho hN) c3 h3
  obtain ⟨c1, h1, r1⟩ := h o ho c2 h2
  refine ⟨c1, h1, ?_⟩
  rcases r1 with ⟨a1, a2, a3⟩ | r1 <;> rcases r2 with ⟨b1, b2, b3⟩ | r2
  · exact .inl ⟨a1.trans b1, a2.trans b2, a3.trans b3⟩
  · exact .inr (by omega)
  · exact .inr (by omega)
  · exact .inr (by omega)
theorem Thw.spec {N : Nat} {cs ds : List AV} {os : List (Nat × List (List AV))} (h : Thw N cs ds os) : ∀ {st : St} {C : Nat → Option Conc} {us : List Value} {F H : List Nat}, st.nx = N → Sm w0 MP st C Im E w → OwnC (fun _ => False) w cs us F → Loose w0 MP C w (F ++ H) → (∀ k ∈ F ++ H, ¬ Im k) →
    ∃ C', Sm w0 MP ⟨st.E, addO st.hp st.nx os, st.nx + os.length⟩ C' Im E w ∧ RVL (st.nx + os.length) C' Im w ds us ∧ Loose w0 MP C' w H ∧ CLe st.nx C C' := by
  induction h with
  | nil =>
    intro st C us F H hN hm ho hL hi
    cases ho
    exact ⟨C, hm, rfl, by simpa using hL, CLe.refl _ _⟩
  | @at1 N a cs ds os ha _ ih =>
    intro st C us F H hN hm ho hL hi
    cases ho with
    | @at1 _ v _ vs _ h1 h2 =>
      obtain ⟨C', g1, g2, g3, g4⟩ := ih hN hm h2 hL hi
      exact ⟨C', g1, ⟨v, vs, rfl, RV.imm (h1.mono (fun _ h => h.elim) (fun _ h => h.elim)), g2⟩, g3, g4⟩
    | ow _ _ _ _ => cases ha
  | @ow N n sz xs cs ds os hn _ ih =>
    intro st C us F H hN hm ho hL hi
    cases ho with
    | at1 h1 h2 => cases h1
    | @ow _ _ v us2 G _ vs F2 h1 h2 h3 h4 =>
      let cc : Conc := ⟨v, xs.length, sz, us2, G⟩
      rw [List.append_assoc] at hL hi
      obtain ⟨n1, n2, n3⟩ := List.nodup_append.1 hL.nd
      have hmem : ∀ k ∈ blks cc, k ∈ ownL v ++ G ++ (F2 ++ H) := fun k hk => List.mem_append_left _ hk
      have hO : OR w0 MP st.nx C Im w false sz xs cc := ⟨rfl, rfl, h1, LayC.own (h2.mono (fun _ h => h.elim) (fun _ h => h.elim) (fun _ _ => rfl)), h3, n1, fun k hk => hL.ge k (hmem k hk), fun b hb => hi b (hmem b (by simp [blks, cc, mem_ownL, hb])), fun k hk => ⟨fun h => absurd h (hi k (hmem k (by simp [blks, cc, show k ∈ G from hk]))), fun h => by cases h⟩⟩
      have hS := hm.new hO fun o c hc k hk => hL.off o c hc k (hmem k hk)
      have hle : CLe st.nx C (updA C st.nx (some cc)) := fun o ho c hc => ⟨c, by rwa [updA_ne _ _ (by omega)] at hc, .inl ⟨rfl, rfl, rfl⟩⟩
      obtain ⟨C', g1, g2, g3, g4⟩ := ih (st := ⟨st.E, updA st.hp st.nx (.live false sz xs), st.nx + 1⟩) (by simp [hN]) hS h4 (H := H) ⟨n2, fun k hk => hL.ge k (List.mem_append_right _ hk), fun k hk => hL.wb k (List.mem_append_right _ hk), fun o c hc k hk => by
        by_cases e : o = st.nx
        · subst e
          rw [updA_same] at hc
          cases hc
          exact fun hk' => n3 k hk' k hk rfl
        · rw [updA_ne _ _ e] at hc
          exact hL.off o c hc k (List.mem_append_right _ hk)⟩ fun k hk => hi k (List.mem_append_right _ hk)
      have hrv : RV (st.nx + 1) (updA C st.nx (some cc)) Im w (.sl st.nx n 0 n) v := by
        obtain ⟨c2, q1, q2⟩ := hS.obj st.nx false sz xs (updA_same ..)
        have := RV.slNew q2 q1 (Nat.lt_succ_self _)
        rw [updA_same] at q1
        cases q1
        rw [← hn]; exact this
      have e1 : st.nx + 1 + os.length = st.nx + ((sz, xs) :: os).length := by simp; omega
      simp only at g1 g2 g4
      rw [e1] at g1 g2
      refine ⟨C', g1, ⟨v, vs, rfl, ?_, g2⟩, g3, hle.trans g4 (Nat.le_succ _)⟩
      rw [← hN]
      exact RV.mono (fun _ h => h) (fun _ _ => rfl) (by simp) g4 _ _ hrv
inductive ThwR : Nat → List AV → List AV → List (Nat × List (List AV)) → Prop
  | nil {N : Nat} : ThwR N [] [] []
  | cell {N : Nat} {a a' : AV} {rs as : List AV} {os os' : List (Nat × List (List AV))} : Thw N [a] [a'] os → ThwR (N + os.length) rs as os' → ThwR N (a :: rs) (a' :: as) (os ++ os')
  | agg {N : Nat} {cs ds : List AV} {rs as : List AV} {os os' : List (Nat × List (List AV))} : Thw N cs ds os → ThwR (N + os.length) rs as os' → ThwR N (.agg cs :: rs) (.agg ds :: as) (os ++ os')
theorem addO_append (os os' : List (Nat × List (List AV))) : ∀ (hp : Nat → Ob) (N : Nat), addO hp N (os ++ os') = addO (addO hp N os) (N + os.length) os' := by
  induction os with
  | nil => intros; rfl
  | cons x os ih => intro hp N; obtain ⟨sz, xs⟩ := x; simp only [List.cons_append, addO, List.length_cons]; rw [ih]; congr 1; omega
theorem ThwR.spec {N : Nat} {rs as : List AV} {os : List (Nat × List (List AV))} (h : ThwR N rs as os) : ∀ {st : St} {C : Nat → Option Conc} {vs : List Value} {F : List Nat}, st.nx = N → Sm w0 MP st C Im E w → ResL w rs vs F → Loose w0 MP C w F → (∀ k ∈ F, ¬ Im k) →
    ∃ C', Sm w0 MP ⟨st.E, addO st.hp st.nx os, st.nx + os.length⟩ C' Im E w ∧ RVL (st.nx + os.length) C' Im w as vs ∧ CLe st.nx C C' := by
  induction h with
  | nil =>
    intro st C us F hN hm ho hL hi
    cases ho
    exact ⟨C, hm, rfl, CLe.refl _ _⟩
  | @cell N a a' rs as os os' ht _ ih =>
    intro st C vs F hN hm ho hL hi
    cases ho with
    | @cell _ v _ vs' F1 F2 h1 h2 =>
      obtain ⟨C1, g1, g2, g3, g4⟩ := ht.spec hN hm h1 hL hi
      obtain ⟨C2, k1, k2, k3⟩ := ih (st := ⟨st.E, addO st.hp st.nx os, st.nx + os.length⟩) (by simp [hN]) g1 h2 g3 fun k hk => hi k (List.mem_append_right _ hk)
      have e1 : st.nx + os.length + os'.length = st.nx + (os ++ os').length := by simp; omega
      simp only at k1 k2 k3
      rw [← addO_append, e1] at k1
      rw [e1] at k2
      obtain ⟨v', vs2, q1, q2, q3⟩ := g2
      simp only [List.cons.injEq] at q1
      obtain ⟨rfl, _⟩ := q1
      exact ⟨C2, k1, ⟨v, vs', rfl, RV.mono (fun _ h => h) (fun _ _ => rfl) (by simp) k3 _ _ q2, k2⟩, g4.trans k3 (by omega)⟩
    | agg h1 h2 => cases ht with | at1 h _ => cases h
  | @agg N cs ds rs as os os' ht _ ih =>
    intro st C vs F hN hm ho hL hi
    cases ho with
    | cell h1 h2 => cases h1 with | at1 h _ => cases h
    | @agg _ us _ vs' F1 F2 h1 h2 =>
      obtain ⟨C1, g1, g2, g3, g4⟩ := ht.spec hN hm h1 hL hi
      obtain ⟨C2, k1, k2, k3⟩ := ih (st := ⟨st.E, addO st.hp st.nx os, st.nx + os.length⟩) (by simp [hN]) g1 h2 g3 fun k hk => hi k (List.mem_append_right _ hk)
      have e1 : st.nx + os.length + os'.length = st.nx + (os ++ os').length := by simp; omega
      simp only at k1 k2 k3
      rw [← addO_append, e1] at k1
      rw [e1] at k2
      exact ⟨C2, k1, ⟨_, vs', rfl, ⟨us, rfl, RVL.mono (fun _ h => h) (fun _ _ => rfl) (by simp) k3 _ _ g2⟩, k2⟩, g4.trans k3 (by omega)⟩
end
section
variable {P : Program} {n : Nat} {w0 : World} {MP : Fr} {Q : Exit → St → Prop} {st : St} {lb : Bool} {ops : Array Oper} {os : List Oper} {d : Option Tmp} {ty : TypeId} {pos : String} {af : Array Edge} {g : Option (Nat × Bool)} {x y : Operand}
theorem tup_rv {N : Nat} {C : Nat → Option Conc} {Im : Nat → Prop} {w : World} : ∀ {as : List AV} {vs : List Value}, RVL N C Im w as vs → RV N C Im w (tupA as) (tupV vs)
  | [], vs, h => by have : vs = [] := h; subst this; exact ⟨[], rfl, rfl⟩
  | [a], vs, ⟨v, us, h1, h2, h3⟩ => by have : us = [] := h3; subst this; subst h1; exact h2
  | a :: b :: as, vs, ⟨v, us, h1, h2, h3⟩ => by
    obtain ⟨v2, us2, g1, g2, g3⟩ := h3
    subst g1; subst h1
    exact ⟨_, rfl, v, _, rfl, h2, v2, us2, rfl, g2, g3⟩
/-- the state behind a call -/
def callS (st : St) (ob : List (Nat × List (List AV))) (d : Option Tmp) (as : List AV) : St := putA ⟨st.E, addO st.hp st.nx ob, st.nx + ob.length⟩ d (tupA as)
theorem Sm.called {C : Nat → Option Conc} {Im : Nat → Prop} {E : Env} {w w' : World} (hm : Sm w0 MP st C Im E w) {rs as : List AV} {ob : List (Nat × List (List AV))} (ht : ThwR st.nx rs as ob) {v : Value} (hl : Later w w') (hr : ∃ vs F, v = tupV vs ∧ ResL w' rs vs F ∧ F.Nodup ∧ ∀ k ∈ F, w.heap.size ≤ k) : Sim w0 MP (callS st ob d as) (G.put E d v) w' := by
  obtain ⟨vs, F, rfl, h1, h2, h3⟩ := hr
  have hm' := hm.later hl
  have hsz := hm.tch.size
  have hL : Loose w0 MP C w' F := ⟨h2, fun k hk => .inl (by have := h3 k hk; omega), fun k hk => by
    clear h2 h3 ht
    induction h1 with
    | nil => cases hk
    | cell h _ ih => exact (List.mem_append.1 hk).elim (h.wb k) ih
    | agg h _ ih => exact (List.mem_append.1 hk).elim (h.wb k) ih, fun o c hc k hk hk' => by
    obtain ⟨_, _, _, _, hO⟩ := hm.objOf hc
    have := (hO.wb k hk').lt; have := h3 k hk; omega⟩
  obtain ⟨C', g1, g2, _⟩ := ht.spec rfl hm' h1 hL fun k hk hi => by have := hm.im k hi; have := h3 k hk; omega
  exact putS g1 d (tup_rv g2)
theorem R.call {f : FuncId} {args : Array Operand} {ats : Array TypeId} {bs rs as : List AV} {ob : List (Nat × List (List AV))} [hf : IsFn P f] (hc : AC P f bs rs) (hs : SnapL st.hp (args.toList.map (evA st)) bs) (ht : ThwR st.nx rs as ob)
    (hw : awant n ops ⟨d, .call ⟨.value (.func f), args, ats⟩, ty, pos, af, g⟩ st.E true = true) (hd : fits n d = true) (h : ARg P n w0 MP lb ops os Q (callS st ob d as)) : ARg P n w0 MP lb ops (⟨d, .call ⟨.value (.func f), args, ats⟩, ty, pos, af, g⟩ :: os) Q st := fun E w ⟨C, Im, hm⟩ => by
  refine G.Rg.call (hc w _ (hs.spec hm (hm.evL _))) rfl (awant_spec hm hw) hd ?_
  rintro v w' ⟨hl, hr⟩
  exact (h _ _ (hm.called (d := d) ht hl hr)).mono fun e E2 w2 hq => ⟨fun hb => hl.trans (hq.1 hb), hq.2⟩
theorem R.callV {f : FuncId} {args : Array Operand} {ats : Array TypeId} {bs rs as caps : List AV} {ob : List (Nat × List (List AV))} [hf : IsFn P f] (hx : evA st x = .fn f caps) (hc : AC P f bs rs) (hs : SnapL st.hp (args.toList.map (evA st) ++ caps) bs) (ht : ThwR st.nx rs as ob)
    (hw : awant n ops ⟨d, .call ⟨.value x, args, ats⟩, ty, pos, af, g⟩ st.E true = true) (hd : fits n d = true) (h : ARg P n w0 MP lb ops os Q (callS st ob d as)) : ARg P n w0 MP lb ops (⟨d, .call ⟨.value x, args, ats⟩, ty, pos, af, g⟩ :: os) Q st := fun E w ⟨C, Im, hm⟩ => by
  have hv := hm.ev x
  rw [hx] at hv
  obtain ⟨us, h1, h2⟩ := hv
  refine G.Rg.callV h1 (hc w _ (hs.spec hm ((hm.evL _).append h2))) rfl (awant_spec hm hw) hd ?_
  rintro v w' ⟨hl, hr⟩
  exact (h _ _ (hm.called (d := d) ht hl hr)).mono fun e E2 w2 hq => ⟨fun hb => hl.trans (hq.1 hb), hq.2⟩

/-! ### what a function returns -/
inductive RetL (P : Program) (st : St) : List ResultVar → List AV → Prop
  | nil : RetL P st [] []
  | tmp {t : Nat} {a : AV} {rs : List ResultVar} {as : List AV} : st.E t = a → RetL P st rs as → RetL P st (.tmp t :: rs) (a :: as)
  | agg {t ty o sz esz bys : Nat} {zz : Value} {l : Bool} {c : List AV} {rs : List ResultVar} {as : List AV} [h1 : Agg P ty] [hi : HasI P ty sz bys zz] : st.E t = .pt o 1 0 0 → st.hp o = .live l esz [c] → c.length = sz → c.all cellB = true → RetL P st rs as → RetL P st (.cell t ty :: rs) (.agg c :: as)
  | one {t ty o esz : Nat} {l : Bool} {a : AV} {rs : List ResultVar} {as : List AV} [h1 : One P ty] : st.E t = .pt o 1 0 0 → st.hp o = .live l esz [[a]] → cellB a = true → RetL P st rs as → RetL P st (.cell t ty :: rs) (a :: as)
theorem RetL.spec {C : Nat → Option Conc} {Im : Nat → Prop} {E : Env} {w : World} (hm : Sm w0 MP st C Im E w) {rs : List ResultVar} {as : List AV} (h : RetL P st rs as) :
    ∃ vs, RVL st.nx C Im w as vs ∧ vs.length = rs.length ∧ ∀ (i : Nat) r v, rs[i]? = some r → vs[i]? = some v → Res P E w r v := by
  induction h with
  | nil => exact ⟨[], rfl, rfl, fun i r v h => by simp at h⟩
  | @tmp t a rs as ht _ ih =>
    obtain ⟨vs, h1, h2, h3⟩ := ih
    refine ⟨E t :: vs, ⟨_, _, rfl, ht ▸ hm.slot t, h1⟩, by simp [h2], fun i r v hr hv => ?_⟩
    cases i with
    | zero =>
      simp only [List.getElem?_cons_zero, Option.some.injEq] at hr hv
      subst hr; subst hv; exact Res.val
    | succ i => exact h3 i r v (by simpa using hr) (by simpa using hv)
  | @agg t ty o sz esz bys zz l c rs as ha hi ht ho hl hc _ ih =>
    obtain ⟨vs, h1, h2, h3⟩ := ih
    have hv := hm.slot t
    rw [ht] at hv
    obtain ⟨b, q, p1, p2, p3⟩ := hv
    obtain ⟨cc, hcc, hO⟩ := hm.obj o l esz [c] ho
    obtain ⟨f1, rfl⟩ := (p3 cc hcc).2 (by rw [hO.len]; rfl)
    have hlay := hO.lay
    simp only [List.flatten_cons, List.flatten_nil, List.append_nil] at hlay
    refine ⟨.agg cc.us.toArray :: vs, ⟨_, _, rfl, ⟨cc.us, rfl, hlay.rvl hc⟩, h1⟩, by simp [h2], fun i r v hr hv => ?_⟩
    cases i with
    | zero =>
      simp only [List.getElem?_cons_zero, Option.some.injEq] at hr hv
      subst hr; subst hv
      exact Res.agg p1 (fun i u hu => by rw [Nat.zero_mul, Nat.zero_add]; exact hO.cell f1 (by simpa using hu)) (by rw [hlay.length, hl])
    | succ i => exact h3 i r v (by simpa using hr) (by simpa using hv)
  | @one t ty o esz l a rs as ha ht ho hc _ ih =>
    obtain ⟨vs, h1, h2, h3⟩ := ih
    have hv := hm.slot t
    rw [ht] at hv
    obtain ⟨b, q, p1, p2, p3⟩ := hv
    obtain ⟨cc, hcc, hO⟩ := hm.obj o l esz [[a]] ho
    obtain ⟨f1, rfl⟩ := (p3 cc hcc).2 (by rw [hO.len]; rfl)
    have hlay := hO.lay
    simp only [List.flatten_cons, List.flatten_nil, List.append_nil] at hlay
    obtain ⟨u, hu, hr⟩ := hlay.get (i := 0) rfl (fun sz xs e => by subst e; cases hc)
    refine ⟨u :: vs, ⟨_, _, rfl, hr, h1⟩, by simp [h2], fun i r v hr hv => ?_⟩
    cases i with
    | zero =>
      simp only [List.getElem?_cons_zero, Option.some.injEq] at hr hv
      subst hr; subst hv
      exact Res.one p1 (by rw [Nat.zero_mul, Nat.zero_add]; exact hO.cell f1 hu)
    | succ i => exact h3 i r v (by simpa using hr) (by simpa using hv)
/-- results are taken along -/
inductive OutL : (Nat → Ob) → List AV → List AV → Prop
  | nil {hp : Nat → Ob} : OutL hp [] []
  | cell {hp hp' : Nat → Ob} {a r : AV} {as rs : List AV} : cellB a = true → Mv true hp [a] [r] hp' → ownA r = true → pureB r = true → OutL hp' as rs → OutL hp (a :: as) (r :: rs)
  | agg {hp hp' : Nat → Ob} {cs ds as rs : List AV} : cs.all cellB = true → Mv true hp cs ds hp' → ownL' ds = true → ds.all pureB = true → OutL hp' as rs → OutL hp (.agg cs :: as) (.agg ds :: rs)
theorem OwnC.own {Im : Nat → Prop} {w : World} {cs : List AV} {us : List Value} {F : List Nat} (h : OwnC Im w cs us F) (ho : ownL' cs = true) : OwnC (fun _ => False) w cs us F := by
  induction h with
  | nil => exact .nil
  | @at1 a v cs vs F h1 _ ih =>
    rw [ownL', Bool.and_eq_true] at ho
    refine .at1 ?_ (ih ho.2)
    cases h1 with
    | int h _ => exact .int h .nil
    | bool _ => exact .bool .nil
    | no _ _ => cases ho.1
    | sl0 _ _ => cases ho.1
    | sl _ _ _ _ _ _ _ => cases ho.1
  | ow h1 _ h3 _ ih1 ih2 =>
    rw [ownL', Bool.and_eq_true] at ho
    refine .ow h1 (ih1 ?_) h3 (ih2 ho.2)
    have := ho.1
    rw [ownA, ownLL_all] at this
    rw [ownL'_all]; exact this
theorem Loose.split {C : Nat → Option Conc} {w : World} {F G' : List Nat} (h : Loose w0 MP C w (F ++ G')) : Loose w0 MP C w F ∧ ∀ k ∈ F, k ∉ G' := by
  obtain ⟨n1, n2, n3⟩ := List.nodup_append.1 h.nd
  exact ⟨⟨n1, fun k hk => h.ge k (List.mem_append_left _ hk), fun k hk => h.wb k (List.mem_append_left _ hk), fun o c hc k hk => h.off o c hc k (List.mem_append_left _ hk)⟩, fun k hk hk' => n3 k hk k hk' rfl⟩
theorem OutL.spec {Im : Nat → Prop} {E : Env} {w : World} {hp : Nat → Ob} {as rs : List AV} (h : OutL hp as rs) : ∀ {C : Nat → Option Conc} {vs : List Value} {H : List Nat}, Sm w0 MP ⟨st.E, hp, st.nx⟩ C Im E w → RVL st.nx C Im w as vs → Loose w0 MP C w H → ∃ F, ResL w rs vs F ∧ (F ++ H).Nodup ∧ ∀ k ∈ F, w0.heap.size ≤ k ∨ k ∈ MP.bl := by
  induction h with
  | nil =>
    intro C vs H hm hv hL
    have : vs = [] := hv
    subst this
    exact ⟨[], .nil, hL.nd, fun k hk => by cases hk⟩
  | @cell hp hp' a r as rs hc hmv ho hp1 _ ih =>
    rintro C vs H hm ⟨v, vs', rfl, h2, h3⟩ hL
    obtain ⟨C1, G, f3, m1, l1, L1, le1⟩ := hmv.lay (F := []) (H := H) hm (.at1 h2 (h2.one hc) .nil) (by simpa using hL) (fun h => by cases h)
    have h3' := RVL.mono (Im' := Im) (w' := w) (M := st.nx) (fun _ h => h) (fun _ _ => rfl) (Nat.le_refl _) (fun o _ c hc => ⟨c, le1 o c hc, .inl ⟨rfl, rfl, rfl⟩⟩) _ _ h3
    obtain ⟨F, g1, g2, g3⟩ := ih m1 h3' L1
    have hO := (l1.pure (by simpa using hp1)).own (by simp [ownL', ho])
    refine ⟨G ++ F, .cell hO g1, ?_, fun k hk => (List.mem_append.1 hk).elim (fun hk => L1.ge k (List.mem_append_left _ hk)) (g3 k)⟩
    have hp : (F ++ (G ++ H)).Perm (G ++ F ++ H) := by
      rw [← List.append_assoc]; exact List.Perm.append_right _ List.perm_append_comm
    exact hp.nodup g2
  | @agg hp hp' cs ds as rs hc hmv ho hp1 _ ih =>
    rintro C vs H hm ⟨v, vs', rfl, h2, h3⟩ hL
    obtain ⟨us, rfl, h2⟩ := h2
    obtain ⟨C1, G, f3, m1, l1, L1, le1⟩ := hmv.lay (F := []) (H := H) hm (LayC.cells h2 hc) (by simpa using hL) (fun h => by cases h)
    have h3' := RVL.mono (Im' := Im) (w' := w) (M := st.nx) (fun _ h => h) (fun _ _ => rfl) (Nat.le_refl _) (fun o _ c hc => ⟨c, le1 o c hc, .inl ⟨rfl, rfl, rfl⟩⟩) _ _ h3
    obtain ⟨F, g1, g2, g3⟩ := ih m1 h3' L1
    refine ⟨G ++ F, .agg ((l1.pure hp1).own ho) g1, ?_, fun k hk => (List.mem_append.1 hk).elim (fun hk => L1.ge k (List.mem_append_left _ hk)) (g3 k)⟩
    have hp : (F ++ (G ++ H)).Perm (G ++ F ++ H) := by
      rw [← List.append_assoc]; exact List.Perm.append_right _ List.perm_append_comm
    exact hp.nodup g2
def ARet (P : Program) (res : List ResultVar) (rs : List AV) : Exit → St → Prop
  | .ret, st | .normal, st => ∃ as, RetL P st res as ∧ OutL st.hp as rs
  | _, _ => False
instance (P : Program) (res : List ResultVar) (rs : List AV) : ANoPan (ARet P res rs) := ⟨fun _ _ h => h⟩
theorem results_run {fn : Func} {vs : List Value} {E : Env} {w : World} (hl : vs.length = fn.results.toList.length) (hr : ∀ (i : Nat) r v, fn.results.toList[i]? = some r → vs[i]? = some v → Res P E w r v) (tmps : Array Value) (ht : ∀ t, tmps.getD t undef = E t) : (results fn tmps).run P w = .ok (tupV vs) w := by
  rw [results_eq]
  have key : ∀ (rs : List ResultVar) (vs : List Value), vs.length = rs.length → (∀ (i : Nat) r v, rs[i]? = some r → vs[i]? = some v → Res P E w r v) → (rs.mapM (resOf tmps)).run P w = .ok vs w := by
    intro rs
    induction rs with
    | nil => intro vs hl _; have : vs = [] := List.eq_nil_of_length_eq_zero hl; subst this; rfl
    | cons r rs ih =>
      intro vs hl hr
      cases vs with
      | nil => simp at hl
      | cons v vs =>
        have e1 := (hr 0 r v rfl rfl).run tmps ht
        have e2 := ih vs (by simpa using hl) (fun i r v h1 h2 => hr (i + 1) r v (by simpa using h1) (by simpa using h2))
        simp only [List.mapM_cons, Sem.run_bind, e1, Result.andThen_ok, e2, Sem.run_pure]
  have e := key fn.results.toList vs hl hr
  have e' : (fn.results.mapM (resOf tmps)).run P w = .ok vs.toArray w := by
    rw [← Array.toArray_toList (xs := fn.results), List.mapM_toArray, Sem.run_map, e]; rfl
  simp only [Sem.run_bind, e', Result.andThen_ok, Sem.run_pure]
  congr 1
  match vs with
  | [] => rfl
  | [v] => rfl
  | v :: u :: vs => simp [tupV]
mutual
/-- what is known of arguments: numbers and lengths fit -/
def WfA : AV → Prop
  | .i n => In64 n
  | .dt _ _ xs => xs.length ≤ 9223372036854775807
  | .ip cs => WfL cs
  | .agg cs => WfL cs
  | _ => True
def WfL : List AV → Prop
  | [] => True
  | a :: l => WfA a ∧ WfL l
end
theorem Imm.wf {Im : Nat → Prop} {w : World} {cs : List AV} {us : List Value} (h : Imm Im w cs us) : WfL cs := by
  induction h with
  | nil => trivial
  | int h _ ih => exact ⟨h, ih⟩
  | bool _ ih => exact ⟨trivial, ih⟩
  | no _ _ ih => exact ⟨trivial, ih⟩
  | sl0 _ _ ih => exact ⟨Nat.zero_le _, ih⟩
  | sl h1 h2 _ _ _ _ _ _ ih => exact ⟨Nat.le_trans h1 h2, ih⟩
mutual
theorem RV.wf {N : Nat} {C : Nat → Option Conc} {Im : Nat → Prop} {w : World} : ∀ (a : AV) (v : Value), RV N C Im w a v → WfA a
  | .i n, v, h => h.2
  | .b x, v, _ => trivial
  | .dt o sz xs, v, ⟨_, h⟩ => h.wf.1
  | .sl o n off m, v, _ => trivial
  | .pt o n k j, v, _ => trivial
  | .ip cs, v, ⟨b, o, us, h1, h2, h3, h4⟩ => h4.wf
  | .fn f cs, v, _ => trivial
  | .agg cs, v, ⟨us, h1, h2⟩ => RVL.wf cs us h2
  | .tu cs, v, _ => trivial
  | .nl, v, _ => trivial
  | .em, v, _ => trivial
  | .no, v, _ => trivial
theorem RVL.wf {N : Nat} {C : Nat → Option Conc} {Im : Nat → Prop} {w : World} : ∀ (cs : List AV) (us : List Value), RVL N C Im w cs us → WfL cs
  | [], us, _ => trivial
  | a :: cs, us, ⟨v, vs, h1, h2, h3⟩ => ⟨RV.wf a v h2, RVL.wf cs vs h3⟩
end
/-- a call that writes nothing of what is there -/
def Fr0 (w : World) : Fr := ⟨[], fun k => k < w.heap.size, []⟩
theorem AC.go {f : FuncId} {fn : Func} {n : Nat} {c : Code} {bs rs : List AV} (hf : P.funcs[f]? = some fn) (hn : fn.ntmps = n) (hb : fn.body = some c) (ha : Nat.ble bs.length n = true)
    (h : ∀ w0, WfL bs → AW P n w0 (Fr0 w0) c (ARet P fn.results.toList rs) ⟨fun t => bs.getD t .no, fun _ => .dead, 0⟩) : AC P f bs rs := fun w us hus => by
  have hul := RVL.length hus
  refine Run.go hf hn hb (by rw [hul]; exact ha) ?_
  have hS : Sim w (Fr0 w) ⟨fun t => bs.getD t .no, fun _ => .dead, 0⟩ (fr us) w := by
    refine ⟨noC, fun k => k < w.heap.size, ⟨fun _ _ _ => rfl, Nat.le_refl _, rfl, rfl, rfl⟩, fun _ h => h, fun t => ?_, fun _ _ => rfl, (fun o l sz xs h => by cases h), fun _ _ => rfl, (fun o o' cc cc' _ h => by cases h), fun k hk => .inl hk, fun p hp => by cases hp⟩
    simp only [fr]
    by_cases ht : t < bs.length
    · obtain ⟨v, h1, h2⟩ := RVL.get hus (i := t) (a := bs[t]) (by simp [ht])
      rw [List.getD_eq_getElem?_getD, List.getD_eq_getElem?_getD, h1]
      simpa [ht] using h2
    · have : bs.getD t .no = .no := by simp [Nat.le_of_not_lt ht]
      rw [this]; trivial
  refine (h w (RVL.wf _ _ hus) _ _ hS).mono fun e E' w' ⟨st', ⟨C, Im, hm⟩, hq⟩ => ?_
  have key : (∃ as, RetL P st' fn.results.toList as ∧ OutL st'.hp as rs) → ∃ v, (∀ tmps : Array Value, (∀ t, tmps.getD t undef = E' t) → (results fn tmps).run P w' = .ok v w') ∧ (Later w w' ∧ ∃ vs F, v = tupV vs ∧ ResL w' rs vs F ∧ F.Nodup ∧ ∀ k ∈ F, w.heap.size ≤ k) := by
    rintro ⟨as, h1, h2⟩
    obtain ⟨vs, g1, g2, g3⟩ := h1.spec hm
    obtain ⟨F, k1, k2, k3⟩ := h2.spec (st := st') (H := []) (show Sm w (Fr0 w) ⟨st'.E, st'.hp, st'.nx⟩ C Im E' w' from hm) g1 Loose.nil
    exact ⟨tupV vs, fun tmps ht => results_run g2 g3 tmps ht, hm.tch.below (Nat.le_refl _) (fun k hk => by cases hk), vs, F, rfl, k1, by simpa using k2, fun k hk => (k3 k hk).elim id fun h => by cases h⟩
  cases e with
  | normal => exact key hq
  | ret => exact key hq
  | _ => exact hq.elim
end
end Go.Proofs.Ytcalkmlaodjpaaa.V
