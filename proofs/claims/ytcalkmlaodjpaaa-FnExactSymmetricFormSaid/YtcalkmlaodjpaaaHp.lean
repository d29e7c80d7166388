/- An empty slice in a variable's field, to which may be appended. Over any program; nothing is claimed of the given one. -/
import Derived.Test.YtcalkmlaodjpaaaHo
import Derived.Test.YtcalkmlaodjpaaaHl
namespace Go.Proofs.Ytcalkmlaodjpaaa.V
open V.Enc (enc)
open Go.RowKit G
set_option linter.unusedVariables false
set_option linter.unusedSimpArgs false
section
variable {P : Program} {n : Nat} {w0 : World} {MP : Fr} {Q : Exit → St → Prop} {st : St}
theorem Sim.openC {E : Env} {w : World} {o sz k j : Nat} {l : Bool} {xs : List (List AV)} {c : List AV} {a : AV} (sz2 : Nat) (ho : st.hp o = .live l sz xs) (hk : xs[k]? = some c) (hj : c[j]? = some a) (ha : a = .nl ∨ a = .em) (hs : Sim w0 MP st E w) :
    Sim w0 MP ⟨st.E, updA (updA st.hp st.nx (.live false sz2 [])) o (.live l sz (xs.set k (c.set j (.sl st.nx 0 0 0)))), st.nx + 1⟩ E w := by
  obtain ⟨C, Im, hm⟩ := hs
  obtain ⟨cc, hcc, hO⟩ := hm.obj o l sz xs ho
  have hjl : j < c.length := (List.getElem?_eq_some_iff.1 hj).1
  have hox : o < st.nx := by
    rcases Nat.lt_or_ge o st.nx with h | h
    · exact h
    · have := hm.lt o h; rw [ho] at this; cases this
  obtain ⟨u1, u2, u3, F1, F2, F3, e1, e2, l1, l2, q1, q2, q3⟩ := hO.lay.cut (flat_cell hk hj)
  obtain ⟨v, rfl, rfl, hv⟩ := q2.get1 (fun sz xs e => by subst e; rcases ha with h | h <;> cases h)
  obtain ⟨p, rfl⟩ : ∃ p, v = .slice p 0 0 := by
    rcases ha with rfl | rfl
    · exact ⟨none, hv⟩
    · exact hv
  have hp : own (.slice p 0 0) = none := by cases p <;> rfl
  let c2 : Conc := ⟨.slice p 0 0, 0, sz2, [], []⟩
  have hS := hm.fresh (Later.refl w) (cc := c2) (sz := sz2) (xs := []) rfl rfl ⟨0, ⟨by simp [c2], .inl ⟨rfl, p, rfl⟩⟩⟩ .nil (fun x hx => by cases hx) (by simp [blks, c2, ownL, hp]) (fun k hk => by simp [blks, c2, ownL, hp] at hk)
  have hle : CLe st.nx C (updA C st.nx (some c2)) := fun o1 ho1 c1 hc1 => ⟨c1, by rwa [updA_ne _ _ (by omega)] at hc1, .inl ⟨rfl, rfl, rfl⟩⟩
  have hrv : RV (st.nx + 1) (updA C st.nx (some c2)) Im w (.sl st.nx 0 0 0) (.slice p 0 0) := by
    obtain ⟨c3, r1, r2⟩ := hS.obj st.nx false sz2 [] (updA_same ..)
    have := RV.slNew r2 r1 (Nat.lt_succ_self _)
    rw [updA_same] at r1
    cases r1
    exact this
  have ho1 : (updA st.hp st.nx (.live false sz2 [])) o = .live l sz xs := by rw [updA_ne _ _ (by omega)]; exact ho
  have hc1 : (updA C st.nx (some c2)) o = some cc := by rw [updA_ne _ _ (by omega)]; exact hcc
  obtain ⟨cc', g1, g2⟩ := hS.obj o l sz xs ho1
  rw [hc1] at g1
  cases g1
  have hnd := g2.nd
  unfold blks at hnd
  obtain ⟨n1, n2, n3⟩ := List.nodup_append.1 hnd
  simp only [List.nil_append] at e2
  have sub : ∀ x, x ∈ F1 ++ ([] ++ F3) → x ∈ cc.F := fun x hx => by rw [e2]; simpa using hx
  have key := Sm.recell hS (o := o) (k := k) (j := j) (c := c) (a' := .sl st.nx 0 0 0) (cc := cc) (v := .slice p 0 0) (u1 := u1) (u3 := u3) (F1 := F1) (F3 := F3) (G := []) ho1 hc1 hk hjl e1
    (q1.mono (fun _ h => h) (fun _ _ => rfl) (Nat.le_succ _) hle (fun _ _ => rfl)) (q3.mono (fun _ h => h) (fun _ _ => rfl) (Nat.le_succ _) hle (fun _ _ => rfl)) (.at1 hrv rfl .nil)
    (by rw [List.nil_append, ← e2]; exact n2) (fun b hb hx => n3 b (mem_ownL.2 hb) b (sub b hx) rfl) (fun x hx => g2.ge x (by simp [blks, sub x hx])) (fun x hx => g2.lent x (sub x hx)) (fun o' c' ho' hc' x hx => hS.dis o o' cc c' (Ne.symm ho') hc1 hc' x (by simp [blks, sub x hx]))
  exact ⟨_, Im, key⟩
end
section
variable {P : Program} {n : Nat} {w0 : World} {MP : Fr} {Q : Exit → St → Prop} {E : Nat → AV} {hp : Nat → Ob} {nx : Nat}
/-- a list below an object's cell is taken out -/
theorem AW.takeE {α : Type} [Enc α] [Inhabited α] {c : Code} {o k j sz sz2 m : Nat} {ls : List α} {ys : List (List AV)} (ho : hp o = .live false sz (V.E true ls)) (hk : k < ls.length) (hj : (enc true (ls.getD k default))[j]? = some (.dt true sz2 ys)) (hm : ys.length = m)
    (h : AW P n w0 MP c Q ⟨E, updA (updA hp o (.live false sz ((V.E true ls).set k ((enc true (ls.getD k default)).set j (.sl nx m 0 m))))) nx (.live false sz2 ys), nx + 1⟩) : AW P n w0 MP c Q ⟨E, hp, nx⟩ := by
  subst hm
  exact AW.ghost (fun E' w hs => (Sim.take (st := ⟨E, hp, nx⟩) ho (E_get true ls hk) hj hs).1) h
section
variable {d : Option Tmp} {ty t t' : TypeId} {pos : String} {af : Array Edge} {g : Option (Nat × Bool)} {x y : Operand}
/-- the cells of an element that was written -/
theorem A.ldS [h1 : One P t] {esz o n k k1 j : Nat} {l : Bool} {xs : List (List AV)} {c : List AV} {a : AV} (hx : evA ⟨E, hp, nx⟩ x = .pt o n k1 j) (hh : hp o = .live l esz (xs.set k c)) (hn : xs.length = n) (hk1 : k1 = k) (hk : k < xs.length) (hj : c[j]? = some a) (hs : shr a = true) :
    ASil false P w0 MP ⟨E, hp, nx⟩ ⟨d, .load t x, ty, pos, af, g⟩ a := by
  subst hk1; exact A.ldR hx hh (by rw [List.length_set, hn]) (by simp [hk]) hj hs
theorem A.idxT {t e sz bys : Nat} {zz : Value} [hu : HasU P t (.slice e)] [hi : HasI P e sz bys zz] {o n off m k k' : Nat} {i : Int} {l : Bool} {xs : List (List AV)} {c : List AV} (hx : evA ⟨E, hp, nx⟩ x = .sl o n off m) (hy : evA ⟨E, hp, nx⟩ y = .i i) (hh : hp o = .live l sz (xs.set k' c)) (hn : xs.length = n)
    (hk : i = (k : Int)) (hlt : k < m) : ASil true P w0 MP ⟨E, hp, nx⟩ ⟨d, .indexAddr t x y, ty, pos, af, g⟩ (.pt o n (off + k) 0) := A.idxS hx hy hh (by rw [List.length_set, hn]) hk hlt
end
/-- a variable's field -/
theorem AW.openV {c : Code} {o sz j : Nat} {l : Bool} {cs cs' : List AV} {a : AV} (sz2 : Nat) (ho : hp o = .live l sz [cs]) (hj : cs[j]? = some a) (ha : a = .nl ∨ a = .em) (hc : cs.set j (.sl nx 0 0 0) = cs')
    (h : AW P n w0 MP c Q ⟨E, updA (updA hp nx (.live false sz2 [])) o (.live l sz [cs']), nx + 1⟩) : AW P n w0 MP c Q ⟨E, hp, nx⟩ := by
  subst hc
  exact AW.ghost (fun E' w hs => Sim.openC (st := ⟨E, hp, nx⟩) sz2 ho (k := 0) rfl hj ha hs) h
theorem A.neqBB {d : Option Tmp} {ty : TypeId} {pos : String} {af : Array Edge} {g : Option (Nat × Bool)} {x y : Operand} {t t' : Nat} {a b : Bool} {st : St} [hu : HasU P t .bool] (hx : evA st x = .b a) (hy : evA st y = .b b) : ASil true P w0 MP st ⟨d, .binOp .neq t x y t', ty, pos, af, g⟩ (.b (a != b)) := fun C Im E w hm => by
  have h1 := hm.evB hx
  have h2 := hm.evB hy
  refine ⟨.bool (a != b), fun w' => ?_, rfl⟩
  unfold Sil
  intro w2 _
  have h3 := run_equalIn_bool (P := P) w2 9999 t a b hu.u
  have h4 : (binOp .neq t (.bool a) (.bool b)).run P w2 = .ok (.bool (a != b)) w2 := by
    simp only [binOp]
    simp [Op.equal, Op.maxDepth, h3]; cases a <;> cases b <;> rfl
  simp [execOp, h1, h2, eqGuard, h4]
theorem kZ {res : List ResultVar} {rs : List AV} {e : Exit} {st : St} (h : ARet P res rs e st) : ARet P res rs e st := h
theorem kM {K : Nat} {res : List ResultVar} {rs : List AV} {obs : List (Nat × List (List AV))} {e : Exit} {st : St} (h : MRet P K res rs obs e st) : MRet P K res rs obs e st := h
end
end Go.Proofs.Ytcalkmlaodjpaaa.V
