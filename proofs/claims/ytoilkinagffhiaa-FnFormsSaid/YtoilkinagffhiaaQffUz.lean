/- Texts that the proof needs: Ux, A141, A142, Uz. -/
import Derived.Test.YtoilkinagffhiaaQffUv
import Derived.Test.YtoilkinagffhiaaQffUn
namespace Go.Proofs.Ytoilkinagffhiaa.V
open Go.RowKit G
set_option linter.unusedVariables false
set_option linter.unusedSimpArgs false
section
variable {P : Program} {n : Nat} {w0 : World} {MP : Fr} {Q : Exit → St → Prop} {lb : Bool} {ops : Array Oper} {os : List Oper} {d : Option Tmp} {ty : TypeId} {pos : String} {af : Array Edge} {g : Option (Nat × Bool)} {x y : Operand} {E : Nat → AV} {hp : Nat → Ob} {nx : Nat}
theorem ints_lay {N : Nat} {C : Nat → Option Conc} {Im : Nat → Prop} {w : World} : ∀ (ys : List Int) {us : List Value} {F : List Nat}, LayC N C Im w (V.E true ys).flatten us F → F = []
 | [], us, F, h => by cases h; rfl
 | y :: ys, us, F, h => by
  have h : LayC N C Im w (AV.i y :: (V.E true ys).flatten) us F := h
  cases h with
  | at1 _ _ h => exact ints_lay ys h
theorem F.cpy {t e bys o nn off m k : Nat} {zz : Value} {ls ys ls' : List Int} {b : AV} [hu : HasU P t (.slice e)] [hi : HasI P e 1 bys zz] (hx : evA ⟨E, hp, nx⟩ x = .sl o nn off m) (hh : hp o = .live false 1 (V.E true ls)) (hn : ls.length = nn)
  (hy : evA ⟨E, hp, nx⟩ y = b) (hsrc : SrcA false hp b (V.E true ys) 1 hp) (hk : min ys.length m = k) (he : ls.take off ++ (ys.take k ++ ls.drop (off + k)) = ls')
  (hw : awant n ops ⟨d, .call ⟨.builtin .copy, #[x, y], #[t, t]⟩, ty, pos, af, g⟩ E true = true) (hd : fits n d = true) (hlb : lb = false)
  (h : ARg P n w0 MP lb ops os Q ⟨putE E d (.i (k : Int)), updA hp o (.live false 1 (V.E true ls')), nx⟩) : ARg P n w0 MP lb ops (⟨d, .call ⟨.builtin .copy, #[x, y], #[t, t]⟩, ty, pos, af, g⟩ :: os) Q ⟨E, hp, nx⟩ := by
 subst he
 refine ARg.val (st' := putA ⟨E, updA hp o (.live false 1 (V.E true (ls.take off ++ (ys.take k ++ ls.drop (off + k))))), nx⟩ d (.i (k : Int))) hw hd (fun C Im E' w hm => ?_) (by rw [putA_eq]; exact h)
 have hv := hm.ev x
 rw [hx] at hv
 have hvy := hm.ev y
 rw [hy] at hvy
 obtain ⟨p, c, g1, g2, g3, g4, g5⟩ := hv
 obtain ⟨C2, us0, F, hm2, hlay, hS, hul, hL, hFI, hle⟩ := hsrc.spec (st := ⟨E, hp, nx⟩) hm hvy
 have hF0 : F = [] := ints_lay ys hlay
 subst hF0
 have hys : ys = ys.take k ++ ys.drop k := (List.take_append_drop k ys).symm
 have hkl : (ys.take k).length = k := by rw [List.length_take]; omega
 have hlay2 := hlay
 rw [hys, E_append, List.flatten_append] at hlay2
 obtain ⟨us, us2, F1, F2, e8, e9, hlayk, _⟩ := hlay2.split
 have hF1 : F1 = [] := ints_lay _ hlayk
 subst hF1
 obtain ⟨cc, hcc, hO⟩ := hm2.obj o false _ _ hh
 have hcc1 := hle o cc hcc
 have hlen : cc.len = ls.length := by rw [hO.len, E_length]
 obtain ⟨s1, s2, s3⟩ := (g5 cc hcc1).2 (by rw [hlen, hn])
 rw [hlen] at s1
 rw [E_length] at hS
 have hul : us.length = k := by
  rw [hlayk.length, flatten_len (E_len true _), E_length, hkl]
  exact Nat.mul_one _
 have hone : oneAll us := hlayk.one
 obtain ⟨sp, sc, e1, e2⟩ := hS
 have hI64 : In64 (k : Int) := by
  have : c ≤ 9223372036854775807 := g3
  unfold In64; omega
 obtain ⟨i, i1, i2, i3, i4⟩ := hi.ex
 by_cases h0 : k = 0
 ·subst h0
  have e0 : ls.take off ++ (ys.take 0 ++ ls.drop (off + 0)) = ls := by simp
  rw [e0]
  have e1' : updA hp o (.live false 1 (V.E true ls)) = hp := by
   funext t'
   by_cases ht : t' = o
   ·subst ht; rw [updA_same]; exact hh.symm
   ·rw [updA_ne _ _ ht]
  rw [e1']
  have hr : (execOp (ev E') ⟨d, .call ⟨.builtin .copy, #[x, y], #[t, t]⟩, ty, pos, af, g⟩).run P w = .ok (.value (.int .i64 0)) w := by
   have := hu.und w
   have hmn : Nat.min ys.length m = 0 := hk
   cases p <;> cases sp <;> simp [execOp, resolve, invoke, builtin, Builtin.copy_, g1, e1, this, hmn, Builtin.lenOf, Builtin.firstCells, loadCells, loadCellsFrom, storeCells, sizeOf, typeInfo, i1, goInt]
  exact ⟨_, w, hr, (fun hl => by rw [hlb] at hl; cases hl), putS (show Sm w0 MP ⟨E, hp, nx⟩ C Im E' w from hm) d ⟨rfl, hI64⟩⟩
 ·obtain ⟨b1, c', f1, f2⟩ := s3 (by omega)
  obtain ⟨e', hB⟩ := hO.buf
  have hsz : cc.sz = 1 := hO.esz
  have hne : us0 ≠ [] := fun e => h0 (by rw [e] at e8; rw [← hul, (List.append_eq_nil_iff.1 e8.symm).1]; rfl)
  obtain ⟨bs, bo, rfl, hcells⟩ : ∃ b o, sp = some ⟨b, o, none⟩ ∧ Cells w b o us0 := by
   rcases e2 with e | e
   ·exact absurd e hne
   ·exact e
  rcases hB.2 with ⟨_, p', hp'⟩ | ⟨b', cp, cur, hp', h2, h3, h4, h5, h6⟩
  ·rw [hp'] at f1; cases p' <;> simp [own] at f1
  rw [hp'] at f1
  simp [own] at f1
  subst f1
  have hfit : off + us.length ≤ cur.length := by
   rw [hul, h5, hsz]
   omega
  have hnews : ∀ j u, us[j]? = some u → w.cell? ((⟨bs, bo, none⟩ : Addr).add j) = some u := fun j u hj => by rw [add_none]; exact hcells j u (by rw [e8, List.getElem?_append_left (List.getElem?_eq_some_iff.1 hj).1]; exact hj)
  have hf := run_firstCells_some (P := P) w i.size k ⟨bs, bo, none⟩ ys.length sc us (by rw [hul, i3, Nat.mul_one]) hnews
  have hst := run_storeCells_at P b' off e' us 0 cur.toArray w h2 (by simpa using hfit) hone
  simp only [Nat.add_zero] at hst
  have hset := setRow_heap w b' cur.toArray (cur.take off ++ us ++ cur.drop (off + us.length)).toArray e' _ h2
  have hbo : off * cc.sz = off := by rw [hsz, Nat.mul_one]
  have hr : (execOp (ev E') ⟨d, .call ⟨.builtin .copy, #[x, y], #[t, t]⟩, ty, pos, af, g⟩).run P w = .ok (.value (.int .i64 (k : Int))) (w.setRow b' (cur.take off ++ us ++ cur.drop (off + us.length)).toArray) := by
   have h1 := hu.und w
   rw [hbo] at f2
   have hmin : Nat.min ys.length m = k := hk
   simp [execOp, resolve, invoke, builtin, Builtin.copy_, f2, e1, h1, Builtin.lenOf, hmin, sizeOf, typeInfo, i1, hf, hst, goInt]
  have hzL : LayC nx C2 Im w (V.E true (ys.take k)).flatten us [] := hlayk
  have hsp : ls = ls.take off ++ ((ls.drop off).take k ++ ls.drop (off + k)) := by
   rw [← List.drop_drop, List.take_append_drop, List.take_append_drop]
  have hAl : (V.E true (ls.take off)).flatten.length = off := by
   rw [flatten_len (E_len true _), E_length, List.length_take, Nat.min_eq_left (by omega)]
   exact Nat.mul_one _
  obtain ⟨cc', m5, _⟩ := Sm.store (w' := w.setRow b' (cur.take off ++ us ++ cur.drop (off + us.length)).toArray) (show Sm w0 MP ⟨E, hp, nx⟩ C2 Im E' w from hm2) (xs' := V.E true (ls.take off ++ (ys.take k ++ ls.drop (off + k))))
   (A := (V.E true (ls.take off)).flatten) (B := (V.E true ((ls.drop off).take k)).flatten) (B' := (V.E true (ys.take k)).flatten) (D := (V.E true (ls.drop (off + k))).flatten) hh hcc
   (by conv => lhs; rw [hsp, E_append, E_append, List.flatten_append, List.flatten_append]) (by rw [E_append, E_append, List.flatten_append, List.flatten_append])
   (by simp only [E_length, List.length_append, List.length_take, List.length_drop]; omega) (E_len true _)
   (by rw [flatten_len (E_len true _), flatten_len (E_len true _), E_length, E_length, hkl, List.length_take, List.length_drop]; congr 1; omega) (by rw [hp']; rfl) hzL Loose.nil (fun k hk => by cases hk)
   ⟨fun k hk => setRow_other w b' k _ hk, by simp, rfl, rfl, rfl⟩ (fun cur' e2 hB' => by
    unfold Blk at hB' h2
    rw [h2] at hB'
    simp only [Option.some.injEq, Obj.cells.injEq] at hB'
    have : cur = cur' := by simpa using congrArg Array.toList hB'.1
    subst this
    rw [hAl]; exact ⟨e', hset⟩)
  exact ⟨_, _, hr, (fun hl => by rw [hlb] at hl; cases hl), putS m5 d ⟨rfl, hI64⟩⟩
theorem A.binC {st : St} {t t' : TypeId} {op : BinOp} {a b c : Value} (hx : evA st x = .q (fun v => v = a)) (hy : evA st y = .q (fun v => v = b)) (h : ∀ w, ((do let v ← (do eqGuard op t x y a b; binOp op t a b); pure (Next.value v)) : Sem Next).run P w = .ok (.value c) w) (hc : c.oneCell' = true) : ASil true P w0 MP st ⟨d, .binOp op t x y t', ty, pos, af, g⟩ (.q fun v => v = c) := fun C Im E w hm => by
 have h1 := hm.evQ hx
 have h2 := hm.evQ hy
 refine ⟨c, fun w' => ?_, rfl, hc⟩
 unfold Sil
 intro w2 _
 have h3 := h w2
 simp only [execOp, h1, h2]
 exact h3
theorem A.gtrF {st : St} {t t' : TypeId} {k : IntKind} {a b : Int} (hx : evA st x = .q (fun v => v = .int k a)) (hy : evA st y = .q (fun v => v = .int k b)) (h : decide (b < a) = false) : ASil true P w0 MP st ⟨d, .binOp .gtr t x y t', ty, pos, af, g⟩ (.b false) := by
 have := A.gtrQ (P := P) (w0 := w0) (MP := MP) (st := st) (d := d) (ty := ty) (pos := pos) (af := af) (g := g) (t := t) (t' := t') hx hy
 rwa [h] at this
theorem A.cvTo {st : St} {t t' : TypeId} {k : IntKind} {n c : Int} {d1 : TypeDesc} [hs : HasU P t d1] [hu : HasU P t' (.int k)] (hx : evA st x = .i n) (h : k.wrap n = c) : ASil true P w0 MP st ⟨d, .convert t t' x, ty, pos, af, g⟩ (.q fun v => v = .int k c) := by
 have := A.cvIQ (P := P) (w0 := w0) (MP := MP) (st := st) (d := d) (ty := ty) (pos := pos) (af := af) (g := g) (t := t) (t' := t') (hs := hs) (hu := hu) hx
 rwa [h] at this
end
end Go.Proofs.Ytoilkinagffhiaa.V
namespace Go.Proofs.Ytoilkinagffhiaa.V
open Go.RowKit G D
set_option linter.unusedVariables false
set_option linter.unusedSimpArgs false
set_option maxHeartbeats 4000000
set_option maxRecDepth 4000
attribute [local irreducible] AW ARg ARA ARet MRet ASil AC AM
instance : IsFn Try.prog 85 := ⟨⟨Try.f85, Try.func85, by kernel_rfl, by kernel_rfl⟩⟩
instance : IsFn Try.prog 67 := ⟨⟨Try.f67, Try.func67, by kernel_rfl, by kernel_rfl⟩⟩
abbrev u64 (n : Int) : AV := .q fun v => v = .int .u64 n
theorem mul64_1 (n : Int) (hn : 1 ≤ n ∧ n ≤ 5) : AC Try.prog 85 [u64 1, u64 n] [u64 0, u64 n] := by
 have : n = 1 ∨ n = 2 ∨ n = 3 ∨ n = 4 ∨ n = 5 := by omega
 rcases this with e | e | e | e | e <;> subst e <;>
 ·refine AC.go Try.func85 Try.ntmps85 rfl rfl fun w0 hw => ?_; simp [WfL, WfA, E_length, Enc.enc, In64] at hw
  repeat' first | refine s1 ?_ | (refine kR ?_; first | refine F.sil (A.binC rfl rfl (fun _ => rfl) rfl) rfl rfl ?_) | fail
  (refine kZ ?_; exact F.ret rfl)
theorem mul_1 (n : Int) (hn : 1 ≤ n ∧ n ≤ 5) : AC Try.prog 67 [u64 1, u64 n] [u64 0, u64 n] := by
 refine AC.go Try.func67 Try.ntmps67 rfl rfl fun w0 hw => ?_; simp [WfL, WfA, E_length, Enc.enc, In64] at hw
 have hM := mul64_1 n hn
 repeat' first | refine s1 ?_ | (refine kR ?_; first | refine F.c (hM) ?_) | fail
 (refine kZ ?_; exact F.ret rfl)
theorem E_cell2 (o : Bool) : ∀ l : List Int, (V.E o l).flatten.all cellB = true
 | [] => rfl
 | x :: l => by
  have h := E_cell2 o l
  simp only [V.E, List.map_cons, List.flatten_cons, List.all_append, Bool.and_eq_true] at h ⊢
  exact ⟨rfl, h⟩
theorem repeat_a (x n : Int) (hn : 1 ≤ n ∧ n ≤ 5) : AC Try.prog 41 [ar false [x], .i n] [.dt true 1 (E true (List.replicate n.toNat x))] := by
 refine AC.go Try.func41 Try.ntmps41 rfl rfl fun w0 hw => ?_; simp [WfL, WfA, E_length, Enc.enc, In64] at hw
 have hM := mul_1 n hn
 obtain ⟨m, rfl⟩ : ∃ m : Nat, n = m := ⟨n.toNat, by omega⟩
 rw [Int.toNat_natCast]
 have hw1 : IntKind.wrap .u64 (m : Int) = m := by
  have : m = 1 ∨ m = 2 ∨ m = 3 ∨ m = 4 ∨ m = 5 := by omega
  rcases this with e | e | e | e | e <;> subst e <;> rfl
 have hw2 : IntKind.wrap .u64 (1 : Int) = 1 := rfl
 have hrep : ∀ k, k ≤ m → (List.replicate k x ++ List.replicate (m - k) 0).length = m := fun k hk => by simp; omega
 repeat' first | refine s1 ?_ | (refine kR ?_; first | refine F.sil (A.cvTo rfl hw2) rfl rfl ?_ | refine F.sil (A.cvTo rfl hw1) rfl rfl ?_ | refine F.c (hM) ?_ | refine F.sil (A.gtrF rfl rfl rfl) rfl rfl ?_ | refine F.sil (A.gtrF rfl rfl (by simp; omega)) rfl rfl ?_ | refine F.sil (A.cvQI rfl (In64.mk (by omega))) rfl rfl ?_ | refine F.mk (m := m) Int rfl rfl rfl (mkB (by omega)) (by omega) rfl rfl ?_ | refine F.cpy (ys := [x]) (k := 1) (ls' := List.replicate 1 x ++ List.replicate (m - 1) 0) rfl rfl (by simp) rfl .imm (by simp; omega) (by simp) rfl rfl rfl ?_) | fail
 refine F.loop (σ := Nat) [8, 34, 35, 36, 37, 38, 39, 40, 41, 42, 43, 44, 45, 46] (fun k => [(8, .i k)]) (fun k => [(0, .live false 1 (E true (List.replicate k x ++ List.replicate (m - k) 0)))]) (fun k => 1 ≤ k ∧ k ≤ m) (fun k => m - k) 1 ⟨rfl, trivial⟩ ⟨rfl, trivial⟩ ⟨Nat.le_refl _, by omega⟩ ?_
 rintro k ⟨k1, k2⟩
 have hl := hrep k k2
 by_cases hk : k < m
 ·have htk : (List.replicate k x ++ List.replicate (m - k) 0).take k = List.replicate k x := by rw [List.take_append_of_le_length (by simp), List.take_of_length_le (by simp)]
  have hnew : (List.replicate k x ++ List.replicate (m - k) 0).take k ++ ((List.replicate k x).take (min k (m - k)) ++ (List.replicate k x ++ List.replicate (m - k) 0).drop (k + min k (m - k))) = List.replicate (k + min k (m - k)) x ++ List.replicate (m - (k + min k (m - k))) 0 := by
   rw [htk, List.take_replicate, List.drop_append, List.drop_of_length_le (by simp), List.nil_append, ← List.append_assoc, List.replicate_append_replicate, List.drop_replicate]
   congr 2
   ·omega
   ·simp; omega
  generalize hL : List.replicate k x ++ List.replicate (m - k) 0 = L at hl htk hnew ⊢
  generalize hj : min k (m - k) = j at hnew
  repeat' first | refine s1 ?_ | fail
  refine AW.draw 7 G.mixed (by kernel_rfl) ?_
  refine dP 0 ?_
  refine dP 1 ?_
  refine dP 2 ?_
  first | refine dP 3 ?_ | refine dP 3 ?_ (hs := by exact (A.slcS rfl rfl (by rw [E_length]; exact hl) rfl rfl (by omega) (by omega)))
  refine dP 4 ?_
  refine dP 5 ?_
  first | refine dP 6 ?_ | refine dP 6 ?_ (hs := by exact (A.slcS rfl rfl (by rw [E_length]; exact hl) rfl rfl (by omega) (by omega)))
  refine dO 7 false ?_
  first | refine s1 ?_ | refine F.cpy (ys := List.replicate k x) (k := j) (ls' := List.replicate (k + j) x ++ List.replicate (m - (k + j)) 0) rfl rfl hl rfl (.view rfl (by rw [E_length]; exact hl) (by rw [List.drop_zero, E_take, Nat.sub_zero, htk]) (E_cell2 _ _)) (by simp; omega) (by rw [Nat.zero_add]; exact hnew) rfl rfl rfl ?_
  refine tN ?_
  refine dP 8 ?_
  refine dP 9 ?_
  refine dN ?_
  rotate_left
  all_goals
   repeat' first | refine s1 ?_ | fail
   exact ⟨k + j, F.fit ⟨iE (by simp), trivial⟩ ⟨rfl, trivial⟩, ⟨by omega, by omega⟩, by omega⟩
 ·obtain rfl : k = m := by omega
  have e : List.replicate k x ++ List.replicate (k - k) (0 : Int) = List.replicate k x := by simp
  rw [e]
  repeat' first | refine s1 ?_ | fail
  (refine kZ ?_; exact F.ret rfl)
end Go.Proofs.Ytoilkinagffhiaa.V
namespace Go.Proofs.Ytoilkinagffhiaa.V
open Go.RowKit G
set_option linter.unusedVariables false
set_option linter.unusedSimpArgs false
def outB : AV → Bool
 | .agg cs => cs.all pureB && ownL' cs
 | a => pureB a && ownA a
theorem ResM.resL {N : Nat} {C : Nat → Option Conc} {J : Nat → Prop} {w : World} {rs : List AV} {vs : List Value} {F : List Nat} (h : ResM N C J w rs vs F) (ho : rs.all outB = true) : ResL w rs vs F := by
 induction h with
 | nil => exact .nil
 | @cell a v rs vs F G h1 _ ih =>
  rw [List.all_cons, Bool.and_eq_true] at ho
  refine .cell ?_ (ih ho.2)
  cases a with
  | agg cs =>
   cases h1 with
   | at1 h3 h4 _ => obtain ⟨us, rfl, _⟩ := h3; cases h4
  | _ =>
   have h2 := ho.1
   simp only [outB, Bool.and_eq_true] at h2
   exact (h1.pure (by simp [h2.1])).own (by simp [ownL', h2.2])
 | @agg cs us rs vs F G h1 _ ih =>
  rw [List.all_cons, Bool.and_eq_true] at ho
  have h2 := ho.1
  simp only [outB, Bool.and_eq_true] at h2
  exact .agg ((h1.pure h2.1).own h2.2) (ih ho.2)
theorem AC.ofAM {P : Program} {f : FuncId} {bs rs : List AV} (h : AM P f bs [] rs []) (ho : rs.all outB = true) : AC P f bs rs := fun w us hus => by
 have hS : Sm w (Fr0 w) ⟨fun _ => .no, obS [], 0⟩ noC (Fr0 w).J (fr []) w := by
  refine ⟨⟨fun _ _ _ => rfl, Nat.le_refl _, rfl, rfl, rfl⟩, fun _ h => h, fun t => trivial, fun _ _ => rfl, (fun o l sz xs h => by cases h), fun _ _ => rfl, (fun o o' cc cc' _ h => by cases h), fun k hk => .inl hk, fun p hp => by cases hp⟩
 refine (h w (Fr0 w) noC (fr []) us hS hus).mono fun v w' ⟨C', J', E', hb, vs, F, e, hR, hL, hF⟩ => ?_
 exact ⟨Later.ofTouched hb.tch, vs, F, e, hR.resL ho, hL.nd, fun k hk => (hL.ge k hk).elim id fun h => by cases h⟩
def ACx (P : Program) (f : FuncId) (bs : List AV) {ι : Type} (p : ι → Prop) (rs : ι → List AV) : Prop := ∀ (w : World) (us : List Value), RVs w bs us → Run P f us w fun v w' => Later w w' ∧ ∃ i, p i ∧ ∃ vs F, v = tupV vs ∧ ResL w' (rs i) vs F ∧ F.Nodup ∧ ∀ k ∈ F, w.heap.size ≤ k
theorem ACx.ofAMx {P : Program} {f : FuncId} {bs : List AV} {ι : Type} {p : ι → Prop} {rs : ι → List AV} (h : AMx P f bs [] p rs (fun _ => [])) (ho : ∀ i, (rs i).all outB = true) : ACx P f bs p rs := fun w us hus => by
 have hS : Sm w (Fr0 w) ⟨fun _ => .no, obS [], 0⟩ noC (Fr0 w).J (fr []) w := by
  refine ⟨⟨fun _ _ _ => rfl, Nat.le_refl _, rfl, rfl, rfl⟩, fun _ h => h, fun t => trivial, fun _ _ => rfl, (fun o l sz xs h => by cases h), fun _ _ => rfl, (fun o o' cc cc' _ h => by cases h), fun k hk => .inl hk, fun p hp => by cases hp⟩
 refine (h w (Fr0 w) noC (fr []) us hS hus).mono fun v w' ⟨i, hp, C', J', E', hb, vs, F, e, hR, hL, hF⟩ => ?_
 exact ⟨Later.ofTouched hb.tch, i, hp, vs, F, e, hR.resL (ho i), hL.nd, fun k hk => (hL.ge k hk).elim id fun h => by cases h⟩
section
variable {P : Program} {n : Nat} {w0 : World} {MP : Fr} {Q : Exit → St → Prop} {E : Nat → AV} {hp : Nat → Ob} {nx : Nat} {lb : Bool} {ops : Array Oper} {os : List Oper} {d : Option Tmp} {ty : TypeId} {pos : String} {af : Array Edge} {g : Option (Nat × Bool)} {args : Array Operand} {ats : Array TypeId}
def CC (P : Program) (n : Nat) (w0 : World) (MP : Fr) (lb : Bool) (ops : Array Oper) (os : List Oper) (Q : Exit → St → Prop) (E : Nat → AV) (hp : Nat → Ob) (nx : Nat) (d : Option Tmp) (rs : List AV) : Prop :=
 ∃ zs ob, ThwR nx rs zs ob ∧ ARg P n w0 MP lb ops os Q ⟨putE E d (tupA zs), addO hp nx ob, nx + ob.length⟩
theorem F.cx {f : FuncId} {bs : List AV} {ι : Type} {p : ι → Prop} {rs : ι → List AV} [hf : IsFn P f] (hc : ACx P f bs p rs) (h : ∀ i, p i → CC P n w0 MP lb ops os Q E hp nx d (rs i)) (hs : SnapL hp (args.toList.map (evA ⟨E, hp, nx⟩)) bs := by (repeat' first | exact SnapL.nil | refine SnapL.i ?_ | refine SnapL.bo ?_ | refine SnapL.q ?_ | refine SnapL.dt ?_ | refine SnapL.slE rfl (by first | rfl | omega | (simp; done) | (simp; omega)) ?_ | refine SnapL.slV rfl (by first | rfl | omega | (simp; done) | (simp; omega)) ?_ | refine SnapL.nd ?_ | refine SnapL.ed ?_ | refine SnapL.nl ?_ | refine SnapL.agg ?_ ?_ | refine SnapL.fn ?_ ?_ | refine SnapL.ip ?_ | refine SnapL.pt rfl rfl rfl rfl ?_ rfl ?_) <;> fail)
    (hw : awant n ops ⟨d, .call ⟨.value (.func f), args, ats⟩, ty, pos, af, g⟩ E true = true := by exact rfl) (hd : fits n d = true := by exact rfl) : ARg P n w0 MP lb ops (⟨d, .call ⟨.value (.func f), args, ats⟩, ty, pos, af, g⟩ :: os) Q ⟨E, hp, nx⟩ := fun E' w ⟨C, Im, hm⟩ => by
  refine G.Rg.call (hc w _ (hs.spec hm (hm.evL _))) rfl (awant_spec (st := ⟨E, hp, nx⟩) hm hw) hd ?_
  rintro v w' ⟨hl, i, hpi, hr⟩
  obtain ⟨zs, ob, ht, hA⟩ := h i hpi
  have hS := hm.called (d := d) ht hl hr
  unfold callS at hS
  rw [putA_eq] at hS
  exact (hA _ _ hS).mono fun e E2 w2 hq => ⟨fun hb => hl.trans (hq.1 hb), hq.2⟩
theorem F.ck {rs zs : List AV} {a : AV} {ob : List (Nat × List (List AV))} (h : ARg P n w0 MP lb ops os Q ⟨putE E d a, addO hp nx ob, nx + ob.length⟩) (ht : ThwR nx rs zs ob := by (repeat' first | exact ThwR.nil | apply ThwR.agg | apply ThwR.cell | exact Thw.nil | apply Thw.at1 rfl | apply Thw.ow (E_length _ _) | apply Thw.ow rfl) <;> fail) (ha : tupA zs = a := by exact rfl) : CC P n w0 MP lb ops os Q E hp nx d rs := by
 subst ha; exact ⟨zs, ob, ht, h⟩
end
end Go.Proofs.Ytoilkinagffhiaa.V
