/- The walk's next step, found by trying the rules in turn (as default proofs of a rule's condition); data of the program. Over any program; nothing is claimed of the given one. -/
import Derived.Test.YtcalkmlaodjpaaaHi
namespace Go.Proofs.Ytcalkmlaodjpaaa.V
open V.Enc (enc)
open Go.RowKit G
set_option linter.unusedVariables false
set_option linter.unusedSimpArgs false
section
variable {P : Program} {n : Nat} {w0 : World} {MP : Fr} {Q : Exit → St → Prop} {st : St} {lb : Bool} {ops : Array Oper} {os : List Oper} {d : Option Tmp} {ty t t' i m : Nat} {pos : String} {af : Array Edge} {g : Option (Nat × Bool)} {x y z : Operand} {bo : BinOp} {uo : UnOp} {ps : Array (Nat × Operand)} {fn : Fn} {fs cs args : Array Operand} {ats : Array TypeId} {bi : Builtin} {ol oh om : Option Operand}
theorem kR (h : ARg P n w0 MP lb ops os Q st) : ARg P n w0 MP lb ops os Q st := h
theorem kW {c : Code} (h : AW P n w0 MP c Q st) : AW P n w0 MP c Q st := h
theorem kT {K : St → Prop} {e : Exit} (h : ATh K Q e st) : ATh K Q e st := h
theorem kB {id : Nat} {e : Exit} (h : ABk id Q e st) : ABk id Q e st := h
theorem kD {c : Operand} {x y : Code} (h : AW P n w0 MP (.cond c x y) Q st) : AW P n w0 MP (.cond c x y) Q st := h
theorem jM (h : ARg P n w0 MP lb ops (⟨d, .move x, ty, pos, af, g⟩ :: os) Q st) : ARg P n w0 MP lb ops (⟨d, .move x, ty, pos, af, g⟩ :: os) Q st := h
theorem jA (h : ARg P n w0 MP lb ops (⟨d, .assign x, ty, pos, af, g⟩ :: os) Q st) : ARg P n w0 MP lb ops (⟨d, .assign x, ty, pos, af, g⟩ :: os) Q st := h
theorem jP (h : ARg P n w0 MP lb ops (⟨d, .pick x y z, ty, pos, af, g⟩ :: os) Q st) : ARg P n w0 MP lb ops (⟨d, .pick x y z, ty, pos, af, g⟩ :: os) Q st := h
theorem jB (h : ARg P n w0 MP lb ops (⟨d, .binOp bo t x y t', ty, pos, af, g⟩ :: os) Q st) : ARg P n w0 MP lb ops (⟨d, .binOp bo t x y t', ty, pos, af, g⟩ :: os) Q st := h
theorem jU (h : ARg P n w0 MP lb ops (⟨d, .unOp uo t x, ty, pos, af, g⟩ :: os) Q st) : ARg P n w0 MP lb ops (⟨d, .unOp uo t x, ty, pos, af, g⟩ :: os) Q st := h
theorem jF (h : ARg P n w0 MP lb ops (⟨d, .fieldAddr t x i, ty, pos, af, g⟩ :: os) Q st) : ARg P n w0 MP lb ops (⟨d, .fieldAddr t x i, ty, pos, af, g⟩ :: os) Q st := h
theorem jI (h : ARg P n w0 MP lb ops (⟨d, .indexAddr t x y, ty, pos, af, g⟩ :: os) Q st) : ARg P n w0 MP lb ops (⟨d, .indexAddr t x y, ty, pos, af, g⟩ :: os) Q st := h
theorem jL (h : ARg P n w0 MP lb ops (⟨d, .load t x, ty, pos, af, g⟩ :: os) Q st) : ARg P n w0 MP lb ops (⟨d, .load t x, ty, pos, af, g⟩ :: os) Q st := h
theorem jS (h : ARg P n w0 MP lb ops (⟨d, .store t x y, ty, pos, af, g⟩ :: os) Q st) : ARg P n w0 MP lb ops (⟨d, .store t x y, ty, pos, af, g⟩ :: os) Q st := h
theorem jX (h : ARg P n w0 MP lb ops (⟨d, .box t x, ty, pos, af, g⟩ :: os) Q st) : ARg P n w0 MP lb ops (⟨d, .box t x, ty, pos, af, g⟩ :: os) Q st := h
theorem jN (h : ARg P n w0 MP lb ops (⟨d, .alloc t, ty, pos, af, g⟩ :: os) Q st) : ARg P n w0 MP lb ops (⟨d, .alloc t, ty, pos, af, g⟩ :: os) Q st := h
theorem jY (h : ARg P n w0 MP lb ops (⟨d, .buildSlice t m ps, ty, pos, af, g⟩ :: os) Q st) : ARg P n w0 MP lb ops (⟨d, .buildSlice t m ps, ty, pos, af, g⟩ :: os) Q st := h
theorem jZ (h : ARg P n w0 MP lb ops (⟨d, .build t ps, ty, pos, af, g⟩ :: os) Q st) : ARg P n w0 MP lb ops (⟨d, .build t ps, ty, pos, af, g⟩ :: os) Q st := h
theorem jE (h : ARg P n w0 MP lb ops (⟨d, .extract x i, ty, pos, af, g⟩ :: os) Q st) : ARg P n w0 MP lb ops (⟨d, .extract x i, ty, pos, af, g⟩ :: os) Q st := h
theorem jK (h : ARg P n w0 MP lb ops (⟨d, .makeFunc fn fs cs, ty, pos, af, g⟩ :: os) Q st) : ARg P n w0 MP lb ops (⟨d, .makeFunc fn fs cs, ty, pos, af, g⟩ :: os) Q st := h
theorem jH (h : ARg P n w0 MP lb ops (⟨d, .makeSlice t x y, ty, pos, af, g⟩ :: os) Q st) : ARg P n w0 MP lb ops (⟨d, .makeSlice t x y, ty, pos, af, g⟩ :: os) Q st := h
theorem jT (h : ARg P n w0 MP lb ops (⟨d, .slice t x ol oh om, ty, pos, af, g⟩ :: os) Q st) : ARg P n w0 MP lb ops (⟨d, .slice t x ol oh om, ty, pos, af, g⟩ :: os) Q st := h
theorem jD (h : ARg P n w0 MP lb ops (⟨d, .call ⟨.builtin bi, args, ats⟩, ty, pos, af, g⟩ :: os) Q st) : ARg P n w0 MP lb ops (⟨d, .call ⟨.builtin bi, args, ats⟩, ty, pos, af, g⟩ :: os) Q st := h
theorem jC (h : ARg P n w0 MP lb ops (⟨d, .call ⟨.value x, args, ats⟩, ty, pos, af, g⟩ :: os) Q st) : ARg P n w0 MP lb ops (⟨d, .call ⟨.value x, args, ats⟩, ty, pos, af, g⟩ :: os) Q st := h
variable {E : Nat → AV} {hp : Nat → Ob} {nx : Nat}
theorem ARg.gT {x : Option Tmp} {op : Op} {j : Nat} {c : Bool} {d : Nat} {b : Bool} (hj : (ops[j]?).bind (·.dst) = some d) (hE : E d = .b b) (hb : b = true) (h : ARg P n w0 MP lb ops (⟨x, op, ty, pos, af, some (j, c)⟩ :: os) Q ⟨updA E d (.b true), hp, nx⟩) : ARg P n w0 MP lb ops (⟨x, op, ty, pos, af, some (j, c)⟩ :: os) Q ⟨E, hp, nx⟩ := ARg.split hj hE (fun _ => h) (fun hn => by rw [hb] at hn; cases hn)
theorem ARg.gF {x : Option Tmp} {op : Op} {j : Nat} {c : Bool} {d : Nat} {b : Bool} (hj : (ops[j]?).bind (·.dst) = some d) (hE : E d = .b b) (hb : b = false) (h : ARg P n w0 MP lb ops (⟨x, op, ty, pos, af, some (j, c)⟩ :: os) Q ⟨updA E d (.b false), hp, nx⟩) : ARg P n w0 MP lb ops (⟨x, op, ty, pos, af, some (j, c)⟩ :: os) Q ⟨E, hp, nx⟩ := ARg.split hj hE (fun hn => by rw [hb] at hn; cases hn) (fun _ => h)
theorem F.sp {x : Option Tmp} {op : Op} {j : Nat} {c : Bool} {d : Nat} {b : Bool} (hj : (ops[j]?).bind (·.dst) = some d) (hE : E d = .b b) (ht : b = true → ARg P n w0 MP lb ops (⟨x, op, ty, pos, af, some (j, c)⟩ :: os) Q ⟨updA E d (.b true), hp, nx⟩) (hf : b = false → ARg P n w0 MP lb ops (⟨x, op, ty, pos, af, some (j, c)⟩ :: os) Q ⟨updA E d (.b false), hp, nx⟩) : ARg P n w0 MP lb ops (⟨x, op, ty, pos, af, some (j, c)⟩ :: os) Q ⟨E, hp, nx⟩ := ARg.split hj hE ht hf
theorem jCf (f : Nat) (h : ARg P n w0 MP lb ops (⟨d, .call ⟨.value (.func f), args, ats⟩, ty, pos, af, g⟩ :: os) Q ⟨E, hp, nx⟩) : ARg P n w0 MP lb ops (⟨d, .call ⟨.value (.func f), args, ats⟩, ty, pos, af, g⟩ :: os) Q ⟨E, hp, nx⟩ := h
/-- a call, by its contract -/
theorem F.c {f : FuncId} {bs rs as : List AV} {a : AV} {ob : List (Nat × List (List AV))} [hf : IsFn P f] (hc : AC P f bs rs) (h : ARg P n w0 MP lb ops os Q ⟨putE E d a, addO hp nx ob, nx + ob.length⟩) (hs : SnapL hp (args.toList.map (evA ⟨E, hp, nx⟩)) bs := by (repeat' first | exact SnapL.nil | exact hcs _ | refine SnapL.i ?_ | refine SnapL.bo ?_ | refine SnapL.dt ?_ | refine SnapL.slE rfl (by first | rfl | omega | (simp; done) | (simp; omega)) ?_ | refine SnapL.slV rfl (by first | rfl | omega | (simp; done) | (simp; omega)) ?_ | refine SnapL.nd ?_ | refine SnapL.ed ?_ | refine SnapL.nl ?_ | refine SnapL.agg ?_ ?_ | refine SnapL.fn ?_ ?_ | refine SnapL.ip ?_ | refine SnapL.pt rfl rfl rfl rfl ?_ rfl ?_) <;> fail)
    (ht : ThwR nx rs as ob := by (repeat' first | exact ThwR.nil | apply ThwR.agg | apply ThwR.cell | exact Thw.nil | apply Thw.at1 rfl | apply Thw.ow (E_length _ _) | apply Thw.ow rfl) <;> fail) (ha : tupA as = a := by exact rfl) (hw : awant n ops ⟨d, .call ⟨.value (.func f), args, ats⟩, ty, pos, af, g⟩ E true = true := by exact rfl) (hd : fits n d = true := by exact rfl) : ARg P n w0 MP lb ops (⟨d, .call ⟨.value (.func f), args, ats⟩, ty, pos, af, g⟩ :: os) Q ⟨E, hp, nx⟩ := F.call hc hs ht ha hw hd h
theorem F.cv {f : FuncId} {bs rs as caps : List AV} {a : AV} {ob : List (Nat × List (List AV))} [hf : IsFn P f] (hc : AC P f bs rs) (h : ARg P n w0 MP lb ops os Q ⟨putE E d a, addO hp nx ob, nx + ob.length⟩) (hx : evA ⟨E, hp, nx⟩ x = .fn f caps := by exact rfl) (hs : SnapL hp (args.toList.map (evA ⟨E, hp, nx⟩) ++ caps) bs := by (repeat' first | exact SnapL.nil | exact hcs _ | refine SnapL.i ?_ | refine SnapL.bo ?_ | refine SnapL.dt ?_ | refine SnapL.slE rfl (by first | rfl | omega | (simp; done) | (simp; omega)) ?_ | refine SnapL.slV rfl (by first | rfl | omega | (simp; done) | (simp; omega)) ?_ | refine SnapL.nd ?_ | refine SnapL.ed ?_ | refine SnapL.nl ?_ | refine SnapL.agg ?_ ?_ | refine SnapL.fn ?_ ?_ | refine SnapL.ip ?_ | refine SnapL.pt rfl rfl rfl rfl ?_ rfl ?_) <;> fail)
    (ht : ThwR nx rs as ob := by (repeat' first | exact ThwR.nil | apply ThwR.agg | apply ThwR.cell | exact Thw.nil | apply Thw.at1 rfl | apply Thw.ow (E_length _ _) | apply Thw.ow rfl) <;> fail) (ha : tupA as = a := by exact rfl) (hw : awant n ops ⟨d, .call ⟨.value x, args, ats⟩, ty, pos, af, g⟩ E true = true := by exact rfl) (hd : fits n d = true := by exact rfl) : ARg P n w0 MP lb ops (⟨d, .call ⟨.value x, args, ats⟩, ty, pos, af, g⟩ :: os) Q ⟨E, hp, nx⟩ := F.callV hx hc hs ht ha hw hd h
/-- one element of a type is appended -/
theorem F.a1 (α : Type) [Enc α] {t e bys o n' m : Nat} {zz : Value} {lt l oo : Bool} {ls : List α} {a : α} {c ds : List AV} {o2 : Nat} {hp3 : Nat → Ob} [hu : HasU P t (.slice e)] [hi : HasI P e (Enc.nc α) bys zz]
    (h : ARg P n w0 MP lb ops os Q ⟨putE E d (.sl o n' 0 n'), updA hp3 o (.live lt (Enc.nc α) (V.E oo (ls ++ [a]))), nx⟩)
    (hx : evA ⟨E, hp, nx⟩ x = .sl o m 0 m := by exact rfl) (ho : hp o = .live lt (Enc.nc α) (V.E oo ls) := by exact rfl) (hy : evA ⟨E, hp, nx⟩ y = .sl o2 1 0 1 := by exact rfl) (hm : ls.length = m := by first | rfl | omega | (simp; done) | (simp; omega)) (ho2 : hp o2 = .live l (Enc.nc α) [c] := by exact rfl) (hll : (l || lt) = lt := by exact rfl)
    (hmv : Mv lt (updA hp o2 .dead) c ds hp3 := by repeat' first | exact Mv.nil | apply Mv.mv rfl (by simp) (by first | rfl | exact E_length _ _ | (simp [E_length]; done) | (simp [E_length]; omega)) (by first | exact E_pure _ _ | rfl) | apply Mv.nl _ | apply Mv.em _ | apply Mv.at1 rfl)
    (ho3 : hp3 o = .live lt (Enc.nc α) (V.E oo ls) := by exact rfl) (hds : enc oo a = ds := by exact rfl) (hn' : m + 1 = n' := by exact rfl)
    (hby : n' * bys ≤ 140737488355328 := by omega) (hmx : n' ≤ 9223372036854775807 := by omega) (hz : zz.cells.size = Enc.nc α := by exact rfl) (hs0 : Nat.blt 0 (Enc.nc α) = true := by exact rfl)
    (hw : awant n ops ⟨d, .call ⟨.builtin .append, #[x, y], #[t, t]⟩, ty, pos, af, g⟩ E true = true := by exact rfl) (hd : fits n d = true := by exact rfl) (hlb : lb = false := by exact rfl) : ARg P n w0 MP lb ops (⟨d, .call ⟨.builtin .append, #[x, y], #[t, t]⟩, ty, pos, af, g⟩ :: os) Q ⟨E, hp, nx⟩ :=
  F.app1 hx ho hy hm ho2 hll hmv ho3 hds hn' hby hmx hz hs0 hw hd hlb h
/-- what does not change is appended -/
theorem F.aL (α : Type) [Enc α] {t e bys o n' m : Nat} {zz : Value} {lt oo : Bool} {ls ls2 : List α} {b : AV} {hp2 : Nat → Ob} [hu : HasU P t (.slice e)] [hi : HasI P e (Enc.nc α) bys zz]
    (h : ARg P n w0 MP lb ops os Q ⟨putE E d (.sl o n' 0 n'), updA hp2 o (.live lt (Enc.nc α) (V.E oo (ls ++ ls2))), nx⟩)
    (hx : evA ⟨E, hp, nx⟩ x = .sl o m 0 m := by exact rfl) (ho : hp o = .live lt (Enc.nc α) (V.E oo ls) := by exact rfl) (hm : ls.length = m := by first | rfl | omega | (simp; done) | (simp; omega)) (hy : evA ⟨E, hp, nx⟩ y = b := by exact rfl) (hsrc : SrcA lt hp b (V.E oo ls2) (Enc.nc α) hp2 := by exact .imm) (ho3 : hp2 o = .live lt (Enc.nc α) (V.E oo ls) := by exact rfl) (hn' : m + ls2.length = n' := by exact rfl)
    (hby : n' * bys ≤ 140737488355328 := by first | omega | (simp only [List.length_append, List.length_drop, List.length_take, List.length_replicate]; omega) | (simp; omega)) (hmx : n' ≤ 9223372036854775807 := by first | omega | (simp only [List.length_append, List.length_drop, List.length_take, List.length_replicate]; omega) | (simp; omega)) (hz : zz.cells.size = Enc.nc α := by exact rfl) (hs0 : Nat.blt 0 (Enc.nc α) = true := by exact rfl)
    (hw : awant n ops ⟨d, .call ⟨.builtin .append, #[x, y], #[t, t]⟩, ty, pos, af, g⟩ E true = true := by exact rfl) (hd : fits n d = true := by exact rfl) (hlb : lb = false := by exact rfl) : ARg P n w0 MP lb ops (⟨d, .call ⟨.builtin .append, #[x, y], #[t, t]⟩, ty, pos, af, g⟩ :: os) Q ⟨E, hp, nx⟩ :=
  F.appL hx ho hm hy hsrc ho3 hn' hby hmx hz hs0 hw hd hlb h
theorem F.aLN (α : Type) [Enc α] {t e bys n' : Nat} {zz : Value} {oo : Bool} {ls2 : List α} {b : AV} {hp2 : Nat → Ob} [hu : HasU P t (.slice e)] [hi : HasI P e (Enc.nc α) bys zz]
    (h : ARg P n w0 MP lb ops os Q ⟨putE E d (.sl nx n' 0 n'), updA hp2 nx (.live false (Enc.nc α) (V.E oo ls2)), nx + 1⟩)
    (hx : evA ⟨E, hp, nx⟩ x = .nl ∨ evA ⟨E, hp, nx⟩ x = .em := by first | exact .inl rfl | exact .inr rfl) (hy : evA ⟨E, hp, nx⟩ y = b := by exact rfl) (hsrc : SrcA false (updA hp nx (.live false (Enc.nc α) [])) b (V.E oo ls2) (Enc.nc α) hp2 := by exact .imm) (ho3 : hp2 nx = .live false (Enc.nc α) [] := by exact rfl) (hn' : ls2.length = n' := by exact rfl)
    (hby : n' * bys ≤ 140737488355328 := by first | omega | (simp only [List.length_append, List.length_drop, List.length_take, List.length_replicate]; omega) | (simp; omega)) (hmx : n' ≤ 9223372036854775807 := by first | omega | (simp only [List.length_append, List.length_drop, List.length_take, List.length_replicate]; omega) | (simp; omega)) (hz : zz.cells.size = Enc.nc α := by exact rfl) (hs0 : Nat.blt 0 (Enc.nc α) = true := by exact rfl)
    (hw : awant n ops ⟨d, .call ⟨.builtin .append, #[x, y], #[t, t]⟩, ty, pos, af, g⟩ E true = true := by exact rfl) (hd : fits n d = true := by exact rfl) : ARg P n w0 MP lb ops (⟨d, .call ⟨.builtin .append, #[x, y], #[t, t]⟩, ty, pos, af, g⟩ :: os) Q ⟨E, hp, nx⟩ :=
  F.appLN hx hy hsrc ho3 hn' hby hmx hz hs0 hw hd h
/-- the end -/
theorem F.ret {res : List ResultVar} {as rs rs' : List AV} (he : rs' = rs)
    (h1 : RetL P ⟨E, hp, nx⟩ res as := by repeat' first | exact RetL.nil | apply RetL.tmp (a := .i _) rfl | apply RetL.tmp (a := .b _) rfl | apply RetL.tmp (a := .sl _ _ _ _) rfl | apply RetL.tmp (a := .nl) rfl | apply RetL.tmp (a := .em) rfl | apply RetL.tmp (a := .agg _) rfl | apply RetL.tmp (a := .dt _ _ _) rfl | apply RetL.agg rfl rfl rfl rfl | apply RetL.one rfl rfl rfl)
    (h2 : OutL hp as rs' := by
      repeat' first
        | exact OutL.nil
        | apply OutL.agg rfl
        | exact Enc.own _
        | exact Enc.pure _ _
        | (simp [ownL', ownA, E_own, ownLL]; done)
        | exact rfl
        | apply OutL.cell rfl (Mv.at1 rfl .nil) rfl rfl
        | apply OutL.cell rfl (Mv.mv rfl (by simp) (by first | rfl | exact E_length _ _ | (simp [E_length]; done) | (simp [E_length]; omega)) (by first | exact E_pure _ _ | rfl) .nil) (by simp [ownA, E_own, ownLL]) rfl
        | apply OutL.cell rfl (Mv.nl _ .nil) rfl rfl
        | apply OutL.cell rfl (Mv.em _ .nil) rfl rfl
        | exact Mv.nil | apply Mv.at1 rfl | apply Mv.mv rfl (by simp) (by first | rfl | exact E_length _ _ | (simp [E_length]; done) | (simp [E_length]; omega)) (by first | exact E_pure _ _ | rfl) | apply Mv.nl _ | apply Mv.em _) : ARet P res rs .ret ⟨E, hp, nx⟩ := by subst he; exact ⟨as, h1, h2⟩
end
theorem gm {α : Type} {l : List α} {k : Nat} {d : α} (h : k < l.length) : l.getD k d ∈ l := by simp [h]
theorem SnapL.ips {hp : Nat → Ob} : ∀ {cs : List AV}, (∀ a ∈ cs, ∃ x, a = .ip x) → SnapL hp cs cs
  | [], _ => .nil
  | a :: cs, h => by
    obtain ⟨x, rfl⟩ := h a (by simp)
    exact .ip (SnapL.ips fun b hb => h b (by simp [hb]))
/-! ### loops -/
theorem AgrA.refl {S : List Nat} {E : Nat → AV} : AgrA S E E := fun _ _ => rfl
theorem AgrA.put {S : List Nat} {E' E : Nat → AV} {d : Option Nat} {v : AV} (hd : memO S d = true) (h : AgrA S E' E) : AgrA S (putE E' d v) E := fun t ht => by
  cases d with
  | none => exact h t ht
  | some d =>
    by_cases e : t = d
    · subst e; have : mem S t = true := hd; rw [this] at ht; cases ht
    · exact (updA_ne _ _ e).trans (h t ht)
theorem AgrA.upd {S : List Nat} {E' E : Nat → AV} {d : Nat} {v : AV} (hd : mem S d = true) (h : AgrA S E' E) : AgrA S (updA E' d v) E := fun t ht => by
  by_cases e : t = d
  · subst e; rw [hd] at ht; cases ht
  · exact (updA_ne _ _ e).trans (h t ht)
theorem mem_all {S S' : List Nat} (h : S'.all (mem S) = true) {t : Nat} (ht : mem S t = false) : mem S' t = false := by
  induction S' with
  | nil => rfl
  | cons a l ih =>
    rw [List.all_cons, Bool.and_eq_true] at h
    simp only [mem]
    cases hb : Nat.beq t a with
    | true => have := Nat.eq_of_beq_eq_true hb; subst this; rw [h.1] at ht; cases ht
    | false => exact ih h.2
theorem AgrA.head {S S' : List Nat} {l : List (Nat × AV)} {E' E : Nat → AV} (hs : S'.all (mem S) = true) (hl : (keys l).all (mem S) = true) (h : AgrA S E' E) : AgrA S (upsA l (noS S' E')) E := fun t ht => by
  rw [upsA_out t (mem_all hl ht)]
  unfold noS
  rw [mem_all hs ht]
  exact h t ht
theorem AgrH.refl {m : Nat} {l : List (Nat × Ob)} {h : Nat → Ob} : AgrH m l h h := fun _ _ _ => rfl
theorem AgrH.upd {m o : Nat} {l : List (Nat × Ob)} {h' h : Nat → Ob} {x : Ob} (ho : (mem (keys l) o || Nat.ble m o) = true) (hh : AgrH m l h' h) : AgrH m l (updA h' o x) h := fun t ht hk => by
  by_cases e : t = o
  · subst e
    rw [hk, Bool.false_or] at ho
    have := leB ho; omega
  · exact (updA_ne _ _ e).trans (hh t ht hk)
theorem AgrH.addO {m : Nat} {l : List (Nat × Ob)} {h : Nat → Ob} : ∀ {os : List (Nat × List (List AV))} {h' : Nat → Ob} {N : Nat}, m ≤ N → AgrH m l h' h → AgrH m l (V.addO h' N os) h
  | [], h', N, _, hh => hh
  | (sz, xs) :: os, h', N, hN, hh => AgrH.addO (os := os) (by omega) (AgrH.upd (by rw [Bool.or_eq_true]; exact .inr (by rw [Nat.ble_eq]; exact hN)) hh)
theorem AgrH.head {m : Nat} {l l' : List (Nat × Ob)} {h' h : Nat → Ob} (hl : ((keys l').all fun o => mem (keys l) o || Nat.ble m o) = true) (hh : AgrH m l h' h) : AgrH m l (upsA l' h') h := fun t ht hk => by
  have : mem (keys l') t = false := by
    generalize keys l' = ks at hl
    induction ks with
    | nil => rfl
    | cons a ks ih =>
      rw [List.all_cons, Bool.and_eq_true] at hl
      simp only [mem]
      cases hb : Nat.beq t a with
      | true =>
        have := Nat.eq_of_beq_eq_true hb; subst this
        have h1 := hl.1
        rw [hk, Bool.false_or] at h1
        have := leB h1; omega
      | false => exact ih hl.2
  rw [upsA_out t this]; exact hh t ht hk
section
variable {P : Program} {n : Nat} {w0 : World} {MP : Fr} {Q : Exit → St → Prop} {E E' : Nat → AV} {hp hp' : Nat → Ob} {nx nx' : Nat}
theorem BndH.one {m o : Nat} {x : Ob} {l : List (Nat × Ob)} (ho : Nat.blt o m = true) (hx : BndO m x) (hl : BndH m l) : BndH m ((o, x) :: l) := ⟨ltB ho, hx, hl⟩
theorem BndO.raw {m sz : Nat} {l : Bool} {xs : List (List AV)} (h : BndL m xs.flatten) : BndO m (.live l sz xs) := h
theorem F.loop {σ : Type} (S : List Nat) (sl : σ → List (Nat × AV)) (ob : σ → List (Nat × Ob)) (I : σ → Prop) (μ : σ → Nat) (s0 : σ) {c : Code} (h1 : AtA E (sl s0)) (h2 : AtA hp (ob s0)) (h0 : I s0)
    (round : ∀ s, I s → AW P n w0 MP c (ATh (fun st' => ∃ s', Fit S (sl s') (ob s') ⟨E, hp, nx⟩ st' ∧ I s' ∧ μ s' < μ s) Q) ⟨upsA (sl s) (noS S E), upsA (ob s) hp, nx⟩)
    (hb : ∀ s, BndS nx (sl s) ∧ BndH nx (ob s) := by
      intro s
      refine ⟨by simp [BndS, Bnd, BndL], ?_⟩
      repeat' first | exact trivial | refine BndH.one rfl ?_ ?_ | exact BndO.E _ _ _ _ _ | refine BndO.raw ?_ | (simp [BndL, Bnd]; done)) : AW P n w0 MP (.loop c) Q ⟨E, hp, nx⟩ :=
  AW.loop S sl ob I μ s0 h1 h2 h0 hb round
theorem F.cut {σ : Type} (S : List Nat) (sl : σ → List (Nat × AV)) (ob : σ → List (Nat × Ob)) (I : σ → Prop) {x : Code} {K : St → Prop}
    (hx : AW P n w0 MP x (ATh (fun st' => ∃ s', Fit S (sl s') (ob s') ⟨E, hp, nx⟩ st' ∧ I s') Q) ⟨E, hp, nx⟩)
    (hy : ∀ s, I s → K ⟨upsA (sl s) (noS S E), upsA (ob s) hp, nx⟩)
    (hb : ∀ s, BndS nx (sl s) ∧ BndH nx (ob s) := by
      intro s
      refine ⟨by simp [BndS, Bnd, BndL], ?_⟩
      repeat' first | exact trivial | refine BndH.one rfl ?_ ?_ | exact BndO.E _ _ _ _ _ | refine BndO.raw ?_ | (simp [BndL, Bnd]; done)) : AW P n w0 MP x (ATh K Q) ⟨E, hp, nx⟩ :=
  AW.cutK S sl ob I hb hx hy
theorem F.fit {S : List Nat} {l : List (Nat × AV)} {h : List (Nat × Ob)} (h1 : AtA E' l) (h2 : AtA hp' h)
    (ha : AgrA S E' E := by repeat first | exact AgrA.refl | refine AgrA.put rfl ?_ | refine AgrA.upd rfl ?_ | refine AgrA.head rfl rfl ?_)
    (hh : AgrH nx h hp' hp := by repeat first | exact AgrH.refl | refine AgrH.upd rfl ?_ | refine AgrH.head rfl ?_ | refine AgrH.addO (by simp <;> omega) ?_)
    (hn : nx ≤ nx' := by first | exact Nat.le_refl _ | (simp; done) | (simp; omega)) : Fit S l h ⟨E, hp, nx⟩ ⟨E', hp', nx'⟩ := ⟨h1, ha, h2, hh, hn⟩
end
/-! ### regions whose order is drawn: one operation -/
section
variable {P : Program} {n : Nat} {w0 : World} {MP : Fr} {Q : Exit → St → Prop} {E : Nat → AV} {hp : Nat → Ob} {nx m fuel : Nat} {ops : Array Oper} {listed : Array Bool} {d : Option Tmp} {op : Op} {ty : Nat} {pos : String} {af : Array Edge} {g : Option (Nat × Bool)}
theorem dP [ANoPan Q] (i : Nat) {a : AV} (h : ARA P n w0 MP m ops fuel (listed.setIfInBounds i true) Q ⟨putE E d a, hp, nx⟩) (ho : ops[i]? = some ⟨d, op, ty, pos, af, g⟩ := by exact rfl) (hc : (Region.free .any ops listed i && (Region.ready .any ops listed).contains i) = true := by kernel_rfl)
    (hs : ASil true P w0 MP ⟨E, hp, nx⟩ ⟨d, op, ty, pos, af, g⟩ a := by
      first
        | exact A.mov (a := .i _) rfl | exact A.mov (a := .b _) rfl | exact A.mov (a := .sl _ _ _ _) rfl | exact A.mov (a := .dt _ _ _) rfl | exact A.mov (a := .agg _) rfl | exact A.mov (a := .nl) rfl | exact A.mov (a := .em) rfl | exact A.mov (a := .pt _ _ _ _) rfl | exact A.mov (a := .ip _) rfl | exact A.mov (a := .fn _ _) rfl | exact A.mov (a := .tu _) rfl | exact A.mov rfl | exact A.asg (a := .i _) rfl | exact A.asg (a := .b _) rfl | exact A.asg (a := .sl _ _ _ _) rfl | exact A.asg (a := .dt _ _ _) rfl | exact A.asg (a := .agg _) rfl | exact A.asg (a := .nl) rfl | exact A.asg (a := .em) rfl | exact A.asg (a := .pt _ _ _ _) rfl | exact A.asg (a := .ip _) rfl | exact A.asg (a := .fn _ _) rfl | exact A.asg (a := .tu _) rfl | exact A.asg rfl | exact A.fldP rfl | exact A.fldI rfl rfl | exact A.lss rfl rfl | exact A.add rfl rfl (by first | assumption | exact In64.mk (by omega)) | exact A.sub rfl rfl (by first | assumption | exact In64.mk (by omega)) | exact A.eql rfl rfl | exact A.neq rfl rfl | exact A.leq rfl rfl | exact A.gtr rfl rfl | exact A.geq rfl rfl | exact A.mul rfl rfl (by first | assumption | exact In64.mk (by omega)) | exact A.remP rfl rfl (by omega) (by omega) | exact A.quoP rfl rfl (by omega) (by omega) | exact A.eqN rfl | exact A.idxE (k := 0) rfl rfl rfl (by first | rfl | omega | (simp; done) | (simp; omega)) rfl (by first | omega | (simp; omega)) | exact A.idxF (k := 0) rfl rfl rfl (by first | omega | (simp; omega)) | exact A.idxS (k := 0) rfl rfl rfl rfl rfl (by first | omega | (simp; omega)) | exact A.idxD (k := 0) rfl rfl rfl rfl | exact A.idxE (k := 1) rfl rfl rfl (by first | rfl | omega | (simp; done) | (simp; omega)) rfl (by first | omega | (simp; omega)) | exact A.idxF (k := 1) rfl rfl rfl (by first | omega | (simp; omega)) | exact A.idxS (k := 1) rfl rfl rfl rfl rfl (by first | omega | (simp; omega)) | exact A.idxD (k := 1) rfl rfl rfl rfl | exact A.idxE rfl rfl rfl (by first | rfl | omega | (simp; done) | (simp; omega)) rfl (by first | omega | (simp; omega)) | exact A.idxF rfl rfl rfl (by first | omega | (simp; omega)) | exact A.idxE rfl rfl rfl (by first | rfl | omega | (simp; done) | (simp; omega)) (Int.toNat_of_nonneg (by omega)).symm (by first | omega | (simp; omega)) | exact A.idxF rfl rfl (Int.toNat_of_nonneg (by omega)).symm (by first | omega | (simp; omega)) | exact A.idxS rfl rfl rfl rfl rfl (by first | omega | (simp; omega)) | exact A.notT rfl | exact A.notF rfl | exact A.not rfl | exact A.neg rfl (by first | assumption | exact In64.mk (by omega)) | exact A.pickT (a := .b _) rfl rfl | exact A.pickF (a := .b _) rfl rfl | exact A.pickT (a := .i _) rfl rfl | exact A.pickF (a := .i _) rfl rfl | exact A.pickT (a := .sl _ _ _ _) rfl rfl | exact A.pickF (a := .sl _ _ _ _) rfl rfl | exact A.pickT (a := .dt _ _ _) rfl rfl | exact A.pickF (a := .dt _ _ _) rfl rfl | exact A.pickT (a := .agg _) rfl rfl | exact A.pickF (a := .agg _) rfl rfl | exact A.ext rfl rfl | exact A.mkF rfl | exact A.addW rfl rfl | exact A.subW rfl rfl | exact A.mulW rfl rfl | exact A.lenS rfl | exact A.lenE rfl | exact A.lenN rfl | exact A.lenM rfl | exact A.lenD rfl | exact A.slcS rfl rfl rfl rfl rfl (by first | omega | (simp; omega)) (by first | omega | (simp; omega)) | exact A.slcD rfl rfl rfl (by first | omega | (simp; omega)) (by first | omega | (simp; omega)) | exact A.bl (rs := [_, _, _]) (by repeat' first | exact Bq.nil | apply Bq.cons (a := .i _) rfl rfl | apply Bq.cons (a := .sl _ _ _ _) rfl rfl | apply Bq.cons (a := .dt _ _ _) rfl rfl | apply Bq.cons (a := .b _) rfl rfl | apply Bq.cons (a := .nl) rfl rfl | apply Bq.cons (a := .em) rfl rfl | apply Bq.cons (a := .agg _) rfl rfl) rfl | exact A.bl (rs := [_, _]) (by repeat' first | exact Bq.nil | apply Bq.cons (a := .i _) rfl rfl | apply Bq.cons (a := .sl _ _ _ _) rfl rfl | apply Bq.cons (a := .dt _ _ _) rfl rfl | apply Bq.cons (a := .b _) rfl rfl | apply Bq.cons (a := .nl) rfl rfl | apply Bq.cons (a := .em) rfl rfl | apply Bq.cons (a := .agg _) rfl rfl) rfl | exact A.bl (rs := [_, _, _, _, _, _]) (by repeat' first | exact Bq.nil | apply Bq.cons (a := .i _) rfl rfl | apply Bq.cons (a := .sl _ _ _ _) rfl rfl | apply Bq.cons (a := .dt _ _ _) rfl rfl | apply Bq.cons (a := .b _) rfl rfl | apply Bq.cons (a := .nl) rfl rfl | apply Bq.cons (a := .em) rfl rfl | apply Bq.cons (a := .agg _) rfl rfl) rfl) (hw : awant n ops ⟨d, op, ty, pos, af, g⟩ E true = true := by exact rfl) (hd : fits n d = true := by exact rfl) : ARA P n w0 MP m ops (fuel + 1) listed Q ⟨E, hp, nx⟩ :=
  ARA.pure i ho hc hs hw hd (by rw [putA_eq]; exact h)
theorem dL [ANoPan Q] (i : Nat) {a : AV} (h : ARA P n w0 MP m ops fuel (listed.setIfInBounds i true) Q ⟨putE E d a, hp, nx⟩) (ho : ops[i]? = some ⟨d, op, ty, pos, af, g⟩ := by exact rfl) (hc : (Nat.blt i m && isLoad ops i && Region.free .any ops listed i && (Region.ready .any ops listed).contains i) = true := by kernel_rfl)
    (hs : ASil false P w0 MP ⟨E, hp, nx⟩ ⟨d, op, ty, pos, af, g⟩ a := by
      first
        | exact A.ldI rfl | exact A.ldR rfl rfl rfl rfl rfl rfl | exact A.ldE rfl rfl (by first | rfl | omega | (simp; done) | (simp; omega)) (by first | omega | (simp; omega)) rfl rfl | exact A.ldF rfl rfl (by first | rfl | omega | (simp; done) | (simp; omega)) (by first | omega | (simp; omega)) rfl | exact A.ldG rfl rfl rfl | exact A.ldRG rfl rfl rfl rfl rfl rfl rfl | exact A.ldEG rfl rfl (by first | rfl | omega | (simp; done) | (simp; omega)) (by first | omega | (simp; omega)) rfl rfl | exact A.ldFG rfl rfl (by first | rfl | omega | (simp; done) | (simp; omega)) (by first | omega | (simp; omega)) rfl) (hw : awant n ops ⟨d, op, ty, pos, af, g⟩ E true = true := by exact rfl) (hd : fits n d = true := by exact rfl) : ARA P n w0 MP m ops (fuel + 1) listed Q ⟨E, hp, nx⟩ :=
  ARA.take i ho hc hs hw hd (by rw [putA_eq]; exact h)
theorem dK [ANoPan Q] (i : Nat) (h : ARA P n w0 MP m ops fuel (listed.setIfInBounds i true) Q ⟨putE E d .no, hp, nx⟩) (ho : ops[i]? = some ⟨d, op, ty, pos, af, g⟩ := by exact rfl) (hc : (Region.free .any ops listed i && (Region.ready .any ops listed).contains i) = true := by kernel_rfl)
    (hw : awant n ops ⟨d, op, ty, pos, af, g⟩ E false = true := by exact rfl) (hd : fits n d = true := by exact rfl) : ARA P n w0 MP m ops (fuel + 1) listed Q ⟨E, hp, nx⟩ :=
  ARA.skip i ho hc hw hd (by rw [putA_eq]; exact h)
/-- by a given rule for the value -/
theorem dR [ANoPan Q] (i : Nat) {a : AV} (hs : ASil true P w0 MP ⟨E, hp, nx⟩ ⟨d, op, ty, pos, af, g⟩ a) (h : ARA P n w0 MP m ops fuel (listed.setIfInBounds i true) Q ⟨putE E d a, hp, nx⟩) (ho : ops[i]? = some ⟨d, op, ty, pos, af, g⟩ := by exact rfl) (hc : (Region.free .any ops listed i && (Region.ready .any ops listed).contains i) = true := by kernel_rfl)
    (hw : awant n ops ⟨d, op, ty, pos, af, g⟩ E true = true := by exact rfl) (hd : fits n d = true := by exact rfl) : ARA P n w0 MP m ops (fuel + 1) listed Q ⟨E, hp, nx⟩ := dP i h ho hc hs hw hd
theorem dS [ANoPan Q] (i : Nat) {a : AV} (hs : ASil false P w0 MP ⟨E, hp, nx⟩ ⟨d, op, ty, pos, af, g⟩ a) (h : ARA P n w0 MP m ops fuel (listed.setIfInBounds i true) Q ⟨putE E d a, hp, nx⟩) (ho : ops[i]? = some ⟨d, op, ty, pos, af, g⟩ := by exact rfl) (hc : (Nat.blt i m && isLoad ops i && Region.free .any ops listed i && (Region.ready .any ops listed).contains i) = true := by kernel_rfl)
    (hw : awant n ops ⟨d, op, ty, pos, af, g⟩ E true = true := by exact rfl) (hd : fits n d = true := by exact rfl) : ARA P n w0 MP m ops (fuel + 1) listed Q ⟨E, hp, nx⟩ := dL i h ho hc hs hw hd
theorem dO (i : Nat) (lb : Bool) {o : Oper} (h : ARg P n w0 MP lb ops [o] (ATh (ARA P n w0 MP m ops fuel (listed.setIfInBounds i true) Q) Q) ⟨E, hp, nx⟩) (ho : ops[i]? = some o := by exact rfl) (hr : Region.ready .any ops listed = [i] := by kernel_rfl) (hl : (lb || Nat.ble m i) = true := by exact rfl) : ARA P n w0 MP m ops (fuel + 1) listed Q ⟨E, hp, nx⟩ := ARA.only i lb ho hr hl h
theorem dN (h : Q .normal ⟨E, hp, nx⟩) (hr : Region.ready .any ops listed = [] := by kernel_rfl) : ARA P n w0 MP m ops fuel listed Q ⟨E, hp, nx⟩ := ARA.nil hr h
theorem dD (d : Nat) {b : Bool} (hE : E d = .b b) (ht : b = true → ARA P n w0 MP m ops fuel listed Q ⟨updA E d (.b true), hp, nx⟩) (hf : b = false → ARA P n w0 MP m ops fuel listed Q ⟨updA E d (.b false), hp, nx⟩) : ARA P n w0 MP m ops fuel listed Q ⟨E, hp, nx⟩ := ARA.split d hE ht hf
theorem dT (d : Nat) {b : Bool} (hE : E d = .b b) (hb : b = true) (h : ARA P n w0 MP m ops fuel listed Q ⟨updA E d (.b true), hp, nx⟩) : ARA P n w0 MP m ops fuel listed Q ⟨E, hp, nx⟩ := ARA.split d hE (fun _ => h) (fun hn => by rw [hb] at hn; cases hn)
theorem dF (d : Nat) {b : Bool} (hE : E d = .b b) (hb : b = false) (h : ARA P n w0 MP m ops fuel listed Q ⟨updA E d (.b false), hp, nx⟩) : ARA P n w0 MP m ops fuel listed Q ⟨E, hp, nx⟩ := ARA.split d hE (fun hn => by rw [hb] at hn; cases hn) (fun _ => h)
end
/-- one step with one goal behind it -/
theorem s1 {p p' : Prop} (h : p') (hs : p' → p := by
  intro h
  first
    | (refine kR ?_; first
      | exact ARg.nil h
      | (refine jM ?_; first | exact F.sil (A.mov (a := .i _) rfl) rfl rfl h | exact F.sil (A.mov (a := .b _) rfl) rfl rfl h | exact F.sil (A.mov (a := .sl _ _ _ _) rfl) rfl rfl h | exact F.sil (A.mov (a := .dt _ _ _) rfl) rfl rfl h | exact F.sil (A.mov (a := .agg _) rfl) rfl rfl h | exact F.sil (A.mov (a := .nl) rfl) rfl rfl h | exact F.sil (A.mov (a := .em) rfl) rfl rfl h | exact F.sil (A.mov (a := .pt _ _ _ _) rfl) rfl rfl h | exact F.sil (A.mov (a := .ip _) rfl) rfl rfl h | exact F.sil (A.mov (a := .fn _ _) rfl) rfl rfl h | exact F.sil (A.mov (a := .tu _) rfl) rfl rfl h | exact F.sil (A.mov rfl) rfl rfl h | exact F.skip rfl rfl h)
      | (refine jA ?_; first | exact F.sil (A.asg (a := .i _) rfl) rfl rfl h | exact F.sil (A.asg (a := .b _) rfl) rfl rfl h | exact F.sil (A.asg (a := .sl _ _ _ _) rfl) rfl rfl h | exact F.sil (A.asg (a := .dt _ _ _) rfl) rfl rfl h | exact F.sil (A.asg (a := .agg _) rfl) rfl rfl h | exact F.sil (A.asg (a := .nl) rfl) rfl rfl h | exact F.sil (A.asg (a := .em) rfl) rfl rfl h | exact F.sil (A.asg (a := .pt _ _ _ _) rfl) rfl rfl h | exact F.sil (A.asg (a := .ip _) rfl) rfl rfl h | exact F.sil (A.asg (a := .fn _ _) rfl) rfl rfl h | exact F.sil (A.asg (a := .tu _) rfl) rfl rfl h | exact F.sil (A.asg rfl) rfl rfl h | exact F.skip rfl rfl h)
      | (refine jL ?_; first | exact F.sil (A.ldI rfl) rfl rfl h | exact F.sil (A.ldR rfl rfl rfl rfl rfl rfl) rfl rfl h | exact F.sil (A.ldE rfl rfl (by first | rfl | omega | (simp; done) | (simp; omega)) (by first | omega | (simp; omega)) rfl rfl) rfl rfl h | exact F.sil (A.ldF rfl rfl (by first | rfl | omega | (simp; done) | (simp; omega)) (by first | omega | (simp; omega)) rfl) rfl rfl h | exact F.sil (A.ldG rfl rfl rfl) rfl rfl h | exact F.sil (A.ldRG rfl rfl rfl rfl rfl rfl rfl) rfl rfl h | exact F.sil (A.ldEG rfl rfl (by first | rfl | omega | (simp; done) | (simp; omega)) (by first | omega | (simp; omega)) rfl rfl) rfl rfl h | exact F.sil (A.ldFG rfl rfl (by first | rfl | omega | (simp; done) | (simp; omega)) (by first | omega | (simp; omega)) rfl) rfl rfl h | exact F.skip rfl rfl h)
      | (refine jF ?_; first | exact F.sil (A.fldP rfl) rfl rfl h | exact F.sil (A.fldI rfl rfl) rfl rfl h | exact F.skip rfl rfl h)
      | (refine jB ?_; first | exact F.sil (A.lss rfl rfl) rfl rfl h | exact F.sil (A.add rfl rfl (by first | assumption | exact In64.mk (by omega))) rfl rfl h | exact F.sil (A.sub rfl rfl (by first | assumption | exact In64.mk (by omega))) rfl rfl h | exact F.sil (A.eql rfl rfl) rfl rfl h | exact F.sil (A.neq rfl rfl) rfl rfl h | exact F.sil (A.leq rfl rfl) rfl rfl h | exact F.sil (A.gtr rfl rfl) rfl rfl h | exact F.sil (A.geq rfl rfl) rfl rfl h | exact F.sil (A.mul rfl rfl (by first | assumption | exact In64.mk (by omega))) rfl rfl h | exact F.sil (A.remP rfl rfl (by omega) (by omega)) rfl rfl h | exact F.sil (A.quoP rfl rfl (by omega) (by omega)) rfl rfl h | exact F.sil (A.eqN rfl) rfl rfl h | exact F.sil (A.addW rfl rfl) rfl rfl h | exact F.sil (A.subW rfl rfl) rfl rfl h | exact F.sil (A.mulW rfl rfl) rfl rfl h | exact F.skip rfl rfl h)
      | (refine jI ?_; first | exact F.sil (A.idxE (k := 0) rfl rfl rfl (by first | rfl | omega | (simp; done) | (simp; omega)) rfl (by first | omega | (simp; omega))) rfl rfl h | exact F.sil (A.idxF (k := 0) rfl rfl rfl (by first | omega | (simp; omega))) rfl rfl h | exact F.sil (A.idxS (k := 0) rfl rfl rfl rfl rfl (by first | omega | (simp; omega))) rfl rfl h | exact F.sil (A.idxD (k := 0) rfl rfl rfl rfl) rfl rfl h | exact F.sil (A.idxE (k := 1) rfl rfl rfl (by first | rfl | omega | (simp; done) | (simp; omega)) rfl (by first | omega | (simp; omega))) rfl rfl h | exact F.sil (A.idxF (k := 1) rfl rfl rfl (by first | omega | (simp; omega))) rfl rfl h | exact F.sil (A.idxS (k := 1) rfl rfl rfl rfl rfl (by first | omega | (simp; omega))) rfl rfl h | exact F.sil (A.idxD (k := 1) rfl rfl rfl rfl) rfl rfl h | exact F.sil (A.idxE rfl rfl rfl (by first | rfl | omega | (simp; done) | (simp; omega)) rfl (by first | omega | (simp; omega))) rfl rfl h | exact F.sil (A.idxF rfl rfl rfl (by first | omega | (simp; omega))) rfl rfl h | exact F.sil (A.idxE rfl rfl rfl (by first | rfl | omega | (simp; done) | (simp; omega)) (Int.toNat_of_nonneg (by omega)).symm (by first | omega | (simp; omega))) rfl rfl h | exact F.sil (A.idxF rfl rfl (Int.toNat_of_nonneg (by omega)).symm (by first | omega | (simp; omega))) rfl rfl h | exact F.sil (A.idxS rfl rfl rfl rfl rfl (by first | omega | (simp; omega))) rfl rfl h | exact F.skip rfl rfl h)
      | (refine jU ?_; first | exact F.sil (A.notT rfl) rfl rfl h | exact F.sil (A.notF rfl) rfl rfl h | exact F.sil (A.not rfl) rfl rfl h | exact F.sil (A.neg rfl (by first | assumption | exact In64.mk (by omega))) rfl rfl h | exact F.skip rfl rfl h)
      | (refine jP ?_; first | exact F.sil (A.pickT (a := .b _) rfl rfl) rfl rfl h | exact F.sil (A.pickF (a := .b _) rfl rfl) rfl rfl h | exact F.sil (A.pickT (a := .i _) rfl rfl) rfl rfl h | exact F.sil (A.pickF (a := .i _) rfl rfl) rfl rfl h | exact F.sil (A.pickT (a := .sl _ _ _ _) rfl rfl) rfl rfl h | exact F.sil (A.pickF (a := .sl _ _ _ _) rfl rfl) rfl rfl h | exact F.sil (A.pickT (a := .dt _ _ _) rfl rfl) rfl rfl h | exact F.sil (A.pickF (a := .dt _ _ _) rfl rfl) rfl rfl h | exact F.sil (A.pickT (a := .agg _) rfl rfl) rfl rfl h | exact F.sil (A.pickF (a := .agg _) rfl rfl) rfl rfl h)
      | (refine jE ?_; first | exact F.sil (A.ext rfl rfl) rfl rfl h)
      | (refine jK ?_; first | exact F.sil (A.mkF rfl) rfl rfl h)
      | (refine jD ?_; first | exact F.sil (A.lenS rfl) rfl rfl h | exact F.sil (A.lenE rfl) rfl rfl h | exact F.sil (A.lenN rfl) rfl rfl h | exact F.sil (A.lenM rfl) rfl rfl h | exact F.sil (A.lenD rfl) rfl rfl h | exact F.skip rfl rfl h)
      | (refine jX ?_; first | exact F.boxG rfl rfl rfl rfl rfl h | exact F.boxC (a := .i _) rfl rfl rfl rfl h | exact F.boxC (a := .b _) rfl rfl rfl rfl h | exact F.boxC (a := .sl _ _ _ _) rfl rfl rfl rfl h | exact F.boxC (a := .dt _ _ _) rfl rfl rfl rfl h | exact F.boxC (a := .nl) rfl rfl rfl rfl h | exact F.boxC (a := .em) rfl rfl rfl rfl h | exact F.boxC (a := .fn _ _) rfl rfl rfl rfl h)
      | (refine jN ?_; exact F.alloc rfl rfl h)
      | (refine jY ?_; first | exact F.lit0 rfl rfl h | exact F.lit1G rfl rfl rfl rfl rfl rfl h | exact F.lit1C (a := .i _) rfl rfl rfl rfl h | exact F.lit1C (a := .sl _ _ _ _) rfl rfl rfl rfl h | exact F.lit1C (a := .dt _ _ _) rfl rfl rfl rfl h | exact F.lit1C (a := .nl) rfl rfl rfl rfl h | exact F.lit1C (a := .em) rfl rfl rfl rfl h | exact F.litQ (xs := [_, _]) (by repeat' first | exact Bq.nil | apply Bq.cons (a := .i _) rfl rfl | apply Bq.cons (a := .sl _ _ _ _) rfl rfl | apply Bq.cons (a := .dt _ _ _) rfl rfl | apply Bq.cons (a := .b _) rfl rfl | apply Bq.cons (a := .nl) rfl rfl | apply Bq.cons (a := .em) rfl rfl | apply Bq.cons (a := .agg _) rfl rfl) rfl rfl rfl rfl rfl rfl rfl rfl h | exact F.litQ (xs := [_, _, _]) (by repeat' first | exact Bq.nil | apply Bq.cons (a := .i _) rfl rfl | apply Bq.cons (a := .sl _ _ _ _) rfl rfl | apply Bq.cons (a := .dt _ _ _) rfl rfl | apply Bq.cons (a := .b _) rfl rfl | apply Bq.cons (a := .nl) rfl rfl | apply Bq.cons (a := .em) rfl rfl | apply Bq.cons (a := .agg _) rfl rfl) rfl rfl rfl rfl rfl rfl rfl rfl h | exact F.skip rfl rfl h)
      | (refine jS ?_; first | exact F.stV (a := .i _) rfl rfl rfl rfl rfl rfl rfl h | exact F.stV (a := .b _) rfl rfl rfl rfl rfl rfl rfl h | exact F.stV (a := .sl _ _ _ _) rfl rfl rfl rfl rfl rfl rfl h | exact F.stV rfl rfl rfl rfl rfl rfl rfl h | exact F.stI rfl rfl rfl (by first | rfl | omega | (simp; done) | (simp; omega)) (by first | omega | (simp; omega)) rfl rfl rfl h | exact F.stGW rfl rfl rfl rfl rfl rfl rfl rfl rfl h | exact F.stGF rfl rfl rfl rfl rfl rfl rfl rfl rfl rfl h | exact F.stR rfl rfl rfl rfl rfl rfl rfl rfl rfl rfl h)
      | exact F.skip rfl rfl h
      | (refine jT ?_; first | exact F.sil (A.slcS rfl rfl rfl rfl rfl (by first | omega | (simp; omega)) (by first | omega | (simp; omega))) rfl rfl h | exact F.sil (A.slcD rfl rfl rfl (by first | omega | (simp; omega)) (by first | omega | (simp; omega))) rfl rfl h)
      | (refine jZ ?_; first | exact F.sil (A.bl (rs := [_, _, _]) (by repeat' first | exact Bq.nil | apply Bq.cons (a := .i _) rfl rfl | apply Bq.cons (a := .sl _ _ _ _) rfl rfl | apply Bq.cons (a := .dt _ _ _) rfl rfl | apply Bq.cons (a := .b _) rfl rfl | apply Bq.cons (a := .nl) rfl rfl | apply Bq.cons (a := .em) rfl rfl | apply Bq.cons (a := .agg _) rfl rfl) rfl) rfl rfl h | exact F.sil (A.bl (rs := [_, _]) (by repeat' first | exact Bq.nil | apply Bq.cons (a := .i _) rfl rfl | apply Bq.cons (a := .sl _ _ _ _) rfl rfl | apply Bq.cons (a := .dt _ _ _) rfl rfl | apply Bq.cons (a := .b _) rfl rfl | apply Bq.cons (a := .nl) rfl rfl | apply Bq.cons (a := .em) rfl rfl | apply Bq.cons (a := .agg _) rfl rfl) rfl) rfl rfl h | exact F.sil (A.bl (rs := [_, _, _, _, _, _]) (by repeat' first | exact Bq.nil | apply Bq.cons (a := .i _) rfl rfl | apply Bq.cons (a := .sl _ _ _ _) rfl rfl | apply Bq.cons (a := .dt _ _ _) rfl rfl | apply Bq.cons (a := .b _) rfl rfl | apply Bq.cons (a := .nl) rfl rfl | apply Bq.cons (a := .em) rfl rfl | apply Bq.cons (a := .agg _) rfl rfl) rfl) rfl rfl h)
      | exact ARg.gT rfl rfl (by first | assumption | (simp only [decide_eq_true_eq, Bool.not_eq_true', decide_eq_false_iff_not, Bool.and_eq_true, Bool.or_eq_true]; omega)) h
      | exact ARg.gF rfl rfl (by first | assumption | (simp only [decide_eq_false_iff_not, Bool.not_eq_false', decide_eq_true_eq, Bool.and_eq_false_iff, Bool.or_eq_false_iff]; omega)) h)
    | (refine kW ?_; first | exact AW.seq h | exact AW.region h | exact AW.block h | exact AW.ret h | exact AW.exit h | exact AW.skip h | exact AW.yes rfl h | exact AW.no rfl h | exact AW.condT rfl (by first | assumption | (simp only [decide_eq_true_eq, Bool.not_eq_true', decide_eq_false_iff_not, Bool.and_eq_true, Bool.or_eq_true]; omega)) h | exact AW.condF rfl (by first | assumption | (simp only [decide_eq_false_iff_not, Bool.not_eq_false', decide_eq_true_eq, Bool.and_eq_false_iff, Bool.or_eq_false_iff]; omega)) h)
    | (refine kT ?_; first | exact ATh.normal h | exact ATh.exit h | exact ATh.ret h)
    | (refine kB ?_; first | exact ABk.normal h | exact ABk.here rfl h | exact ABk.far rfl h | exact ABk.ret h)) : p := hs h
/-- one with two -/
theorem s2 {p p1 p2 : Prop} (h1 : p1) (h2 : p2) (hs : p1 → p2 → p := by
  intro h1 h2
  first
    | (refine kD ?_; exact AW.cond rfl h1 h2)
    | (refine kR ?_; exact F.sp rfl rfl h1 h2)) : p := hs h1 h2
end Go.Proofs.Ytcalkmlaodjpaaa.V
