/- What the statement's readings give: data that can be read lie in memory as the contracts want them. Over any program; nothing is claimed of the given one. -/
import Derived.Test.YtcalkmlaodjpaaaGd
import Derived.ProofKit
namespace Go.Proofs.Ytcalkmlaodjpaaa.G
open Go.RowKit Go.WideShapes
set_option linter.unusedVariables false

/-- whatever is read at type t is told by R -/
class Rds (P : Program) (t : Nat) {α : outParam Type} (R : outParam (Rp α)) : Prop where
  h : ∀ {H : Type} (enc : TypeId × Value → H) (w : World) (fuel : Nat) (cs : List Value) (d : DataW H) (ps : List MemPlace), DataW.trod enc P w 0 (fun _ => true) true fuel t cs = some (d, ps) → ∃ x F, R.V w x cs F
  nc : P.cellsOf t = R.nc
/-- the fields of a struct, from cell o on -/
class RdsF (P : Program) (fs : List Field) (o : Nat) {α : outParam Type} (R : outParam (Rp α)) : Prop where
  h : ∀ {H : Type} (enc : TypeId × Value → H) (w : World) (fuel : Nat) (cs : List Value) (xs : List (DataW H × List MemPlace)),
    fs.mapM (fun f => DataW.trod enc P w 0 (fun _ => true) true fuel f.type ((cs.drop f.offset).take (P.cellsOf f.type))) = some xs → ∃ x F, R.V w x ((cs.drop o).take R.nc) F

theorem Rds.int {P : Program} {t : Nat} (hu : P.underlying t = some (.int .i64)) (hc : P.cellsOf t = 1) : Rds P t intR := by
  refine ⟨fun enc w fuel cs d ps h => ?_, hc⟩
  cases fuel with
  | zero => simp [DataW.trod] at h
  | succ fuel =>
    simp only [DataW.trod, hu] at h
    split at h <;> first | cases h | skip
    all_goals rename_i heq
    all_goals try simp only [Option.some.injEq, TypeDesc.int.injEq, reduceCtorEq] at heq
    subst heq
    split at h
    · rename_i k n hk
      obtain ⟨rfl, hw⟩ := hk
      refine ⟨_, [], rfl, rfl, ?_⟩
      simpa [Lit.wf, IntKind.min, IntKind.max, IntKind.signed, IntKind.bits, In64] using hw
    · cases h

theorem mapM_some {α β : Type} {f : α → Option β} : ∀ {l : List α} {ys : List β}, l.mapM f = some ys → ys.length = l.length ∧ ∀ (i : Nat) a, l[i]? = some a → ∃ y, f a = some y
  | [], ys, h => by simp at h; subst h; exact ⟨rfl, fun i a hi => by simp at hi⟩
  | a :: l, ys, h => by
    simp only [List.mapM_cons, Option.bind_eq_bind, Option.bind_eq_some_iff] at h
    obtain ⟨y, hy, zs, hz, h⟩ := h
    simp only [Option.pure_def, Option.some.injEq] at h
    subst h
    obtain ⟨h1, h2⟩ := mapM_some hz
    refine ⟨by simp [h1], fun i b hi => ?_⟩
    cases i with
    | zero => simp at hi; subst hi; exact ⟨y, hy⟩
    | succ i => exact h2 i b (by simpa using hi)

theorem cells?_some {w : World} {a : Addr} {n : Nat} {cs : List Value} (h : w.cells? 0 a n = some cs) : cs.length = n ∧ (0 < n → a.spot = none) ∧ (a.spot = none → Cells w a.block a.off cs) := by
  simp only [World.cells?, Nat.zero_le, if_true] at h
  obtain ⟨h1, h2⟩ := mapM_some h
  rw [List.length_range] at h1
  have key : ∀ i, i < n → w.cell? (a.add i) = cs[i]? := by
    clear h2
    have gen : ∀ (l : List Nat) (cs : List Value), l.mapM (fun i => w.cell? (a.add i)) = some cs → ∀ (j i : Nat), l[j]? = some i → w.cell? (a.add i) = cs[j]? := by
      intro l
      induction l with
      | nil => intro cs _ j i hj; simp at hj
      | cons x l ih =>
        intro cs hcs j i hj
        simp only [List.mapM_cons, Option.bind_eq_bind, Option.bind_eq_some_iff] at hcs
        obtain ⟨y, hy, zs, hz, hcs⟩ := hcs
        simp only [Option.pure_def, Option.some.injEq] at hcs
        subst hcs
        cases j with
        | zero => simp at hj; subst hj; simpa using hy
        | succ j => simpa using ih zs hz j i (by simpa using hj)
    intro i hi
    exact gen _ _ h i i (by simp [hi])
  have hsp : 0 < n → a.spot = none := fun hn => by
    have h0 := key 0 hn
    have e0 : a.add 0 = a := by simp [Addr.add]
    rw [e0] at h0
    have hlt : 0 < cs.length := by omega
    rw [List.getElem?_eq_getElem hlt] at h0
    unfold World.cell? at h0
    split at h0
    · split at h0
      · cases h0
      · rename_i hs; simpa using hs
    · cases h0
  refine ⟨h1, hsp, fun hs i v hv => ?_⟩
  have hi : i < n := by have := (List.getElem?_eq_some_iff.1 hv).1; omega
  have := key i hi
  obtain ⟨b, o, s⟩ := a
  simp only at hs
  subst hs
  rw [add_none] at this
  rw [this]; exact hv

theorem Rds.slice {P : Program} {t e : Nat} {α : Type} {R : Rp α} (hu : P.underlying t = some (.slice e)) (hc : P.cellsOf t = 1) (he : Rds P e R) (hn : 0 < R.nc) : Rds P t (listR R) := by
  refine ⟨fun enc w fuel cs d ps h => ?_, hc⟩
  cases fuel with
  | zero => simp [DataW.trod] at h
  | succ fuel =>
    simp only [DataW.trod, hu] at h
    split at h <;> first | cases h | skip
    all_goals rename_i heq
    all_goals try simp only [Option.some.injEq, TypeDesc.slice.injEq, reduceCtorEq] at heq
    · exact ⟨[], [], none, 0, rfl, Nat.le_refl _, Nat.zero_le _, .inl ⟨rfl, rfl⟩⟩
    · rename_i e' a len cap
      subst heq
      split at h
      · rename_i hb
        obtain ⟨_, hlc, hcm⟩ := hb
        simp only [Option.bind_eq_some_iff, Option.map_eq_some_iff] at h
        obtain ⟨elems, hel, _⟩ := h
        obtain ⟨h1, h2⟩ := mapM_some hel
        have each : ∀ i, i < len → ∃ x vs F, a.spot = none ∧ Cells w a.block (a.off + i * R.nc) vs ∧ R.V w x vs F := fun i hi => by
          obtain ⟨y, hy⟩ := h2 i i (by simp [hi])
          obtain ⟨vs, hvs, hy⟩ := Option.bind_eq_some_iff.1 hy
          rw [he.nc] at hvs
          obtain ⟨c1, c2, c3⟩ := cells?_some hvs
          obtain ⟨dd, pp⟩ := y
          obtain ⟨x, F, hV⟩ := he.h enc w fuel vs dd pp hy
          have hs : a.spot = none := by
            have hs1 := c2 hn
            unfold Addr.add at hs1
            split at hs1
            · exact hs1
            · rename_i hne
              -- the element at 0
              obtain ⟨y0, hy0⟩ := h2 0 0 (List.getElem?_range (by omega))
              obtain ⟨vs0, hvs0, _⟩ := Option.bind_eq_some_iff.1 hy0
              rw [he.nc] at hvs0
              have := (cells?_some hvs0).2.1 hn
              simpa [Addr.add] using this
          obtain ⟨b, o, s⟩ := a
          simp only at hs
          subst hs
          rw [add_none] at c3
          exact ⟨x, vs, F, rfl, c3 rfl, hV⟩
        by_cases h0 : len = 0
        · subst h0
          exact ⟨[], [], some a, cap, rfl, Nat.zero_le _, hcm, .inl ⟨rfl, rfl⟩⟩
        · obtain ⟨_, _, _, hsp, _⟩ := each 0 (by omega)
          obtain ⟨b, o, s⟩ := a
          simp only at hsp
          subst hsp
          -- choose the elements
          have cho : ∀ m, m ≤ len → ∃ (l : List α) (Fs : List (List Nat)), l.length = m ∧ Elems R w b o l Fs := by
            intro m
            induction m with
            | zero => intro _; exact ⟨[], [], rfl, rfl, fun k x hx => by simp at hx⟩
            | succ m ih =>
              intro hm
              obtain ⟨l, Fs, hl, hF, hE⟩ := ih (by omega)
              obtain ⟨x, vs, F, _, hcl, hV⟩ := each m (by omega)
              refine ⟨l ++ [x], Fs ++ [F], by simp [hl], by simp [hF], fun k y hy => ?_⟩
              by_cases hk : k < l.length
              · rw [List.getElem?_append_left hk] at hy
                obtain ⟨us, e1, e2⟩ := hE k y hy
                refine ⟨us, e1, ?_⟩
                have : (Fs ++ [F]).getD k [] = Fs.getD k [] := by
                  simp only [List.getD_eq_getElem?_getD]; rw [List.getElem?_append_left (by omega)]
                rw [this]; exact e2
              · rw [List.getElem?_append_right (by omega)] at hy
                have hk2 : k = m := by
                  have := (List.getElem?_eq_some_iff.1 hy).1
                  simp at this; omega
                subst hk2
                rw [hl] at hy
                simp at hy
                subst hy
                refine ⟨vs, hcl, ?_⟩
                have : (Fs ++ [F]).getD k [] = F := by
                  simp only [List.getD_eq_getElem?_getD]; rw [List.getElem?_append_right (by omega)]
                  simp [hF, hl]
                rw [this]; exact hV
          obtain ⟨l, Fs, hl, hE⟩ := cho len (Nat.le_refl _)
          have hthere : There w b := by
            obtain ⟨x, vs, F, _, hcl, hV⟩ := each 0 (by omega)
            refine hcl.there (fun e => ?_)
            have := R.len hV
            rw [e] at this; simp at this; omega
          exact ⟨l, b :: Fs.flatten, some ⟨b, o, none⟩, cap, by rw [hl], by omega, hcm, .inr ⟨b, o, Fs, rfl, rfl, hthere, hE⟩⟩
      · cases h

theorem RdsF.one {P : Program} {f : Field} {o : Nat} {α : Type} {R : Rp α} (ho : f.offset = o) (hr : Rds P f.type R) : RdsF P [f] o R := ⟨fun enc w fuel cs xs h => by
  obtain ⟨_, h2⟩ := mapM_some h
  obtain ⟨⟨dd, pp⟩, hy⟩ := h2 0 f rfl
  subst ho
  rw [hr.nc] at hy
  exact hr.h enc w fuel _ dd pp hy⟩
theorem RdsF.cons {P : Program} {f : Field} {fs : List Field} {o o' : Nat} {α β : Type} {R : Rp α} {S : Rp β} (ho : f.offset = o) (hr : Rds P f.type R) (ho' : o' = o + R.nc) (hs : RdsF P fs o' S) : RdsF P (f :: fs) o (seqR R S) := ⟨fun enc w fuel cs xs h => by
  simp only [List.mapM_cons, Option.bind_eq_bind, Option.bind_eq_some_iff] at h
  obtain ⟨⟨dd, pp⟩, hy, zs, hz, _⟩ := h
  subst ho
  subst ho'
  rw [hr.nc] at hy
  obtain ⟨x, F, h1⟩ := hr.h enc w fuel _ dd pp hy
  obtain ⟨y, G, h2⟩ := hs.h enc w fuel cs zs hz
  refine ⟨(x, y), F ++ G, _, _, F, G, h1, h2, ?_, rfl⟩
  show ((cs.drop f.offset).take (R.nc + S.nc)) = _
  rw [List.take_add, List.drop_drop]⟩
theorem Rds.struct {P : Program} {t : Nat} {fields : Array Field} {α β : Type} {R : Rp α} {g : β → α} (f : α → β) (hgf : ∀ x, g (f x) = x) (hu : P.underlying t = some (.struct fields)) (hc : P.cellsOf t = R.nc) (hr : RdsF P fields.toList 0 R) : Rds P t (mapR g R) := by
  refine ⟨fun enc w fuel cs d ps h => ?_, hc⟩
  cases fuel with
  | zero => simp [DataW.trod] at h
  | succ fuel =>
    simp only [DataW.trod, hu] at h
    split at h
    · rename_i hlen
      obtain ⟨xs, hxs, _⟩ := Option.map_eq_some_iff.1 h
      obtain ⟨x, F, hV⟩ := hr.h enc w fuel cs xs hxs
      refine ⟨f x, F, ?_⟩
      show R.V w (g (f x)) cs F
      rw [hgf]
      rw [List.drop_zero, List.take_of_length_le (by omega)] at hV
      exact hV
    · cases h

/-- an argument of one cell -/
theorem Rds.arg1 {P : Program} {t : Nat} {α : Type} {R : Rp α} (hr : Rds P t R) {H : Type} {enc : TypeId × Value → H} {w : World} {v : Value} {d : DataW H} {ps : List MemPlace} (h : DataW.Trod enc P w 0 (fun _ => true) true t v d ps) (hv : v.cells = #[v]) : ∃ x F, R.V w x [v] F := by
  obtain ⟨fuel, hf⟩ := h
  rw [hv] at hf
  exact hr.h enc w fuel _ _ _ hf
/-- a struct -/
theorem Rds.argG {P : Program} {t : Nat} {α : Type} {R : Rp α} (hr : Rds P t R) {H : Type} {enc : TypeId × Value → H} {w : World} {cs : Array Value} {d : DataW H} {ps : List MemPlace} (h : DataW.Trod enc P w 0 (fun _ => true) true t (.agg cs) d ps) : ∃ x F, R.V w x cs.toList F := by
  obtain ⟨fuel, hf⟩ := h
  exact hr.h enc w fuel _ _ _ hf
end Go.Proofs.Ytcalkmlaodjpaaa.G
