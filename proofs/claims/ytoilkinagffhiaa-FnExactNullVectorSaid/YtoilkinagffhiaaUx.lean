/- Abstract values: copy(x[off:off+m], y) for lists of numbers, y of no more than m; arithmetic on numbers of other kinds. Over any program; nothing is claimed of the given one. -/
import Derived.Test.YtoilkinagffhiaaUv
namespace Go.Proofs.Ytoilkinagffhiaa.V
open Go.RowKit G
set_option linter.unusedVariables false
set_option linter.unusedSimpArgs false
section
variable {P : Program} {n : Nat} {w0 : World} {MP : Fr} {Q : Exit → St → Prop} {lb : Bool} {ops : Array Oper} {os : List Oper} {d : Option Tmp} {ty : TypeId} {pos : String} {af : Array Edge} {g : Option (Nat × Bool)} {x y : Operand} {E : Nat → AV} {hp : Nat → Ob} {nx : Nat}
theorem ints_lay {N : Nat} {C : Nat → Option Conc} {Im : Nat → Prop} {w : World} : ∀ (ys : List Int) {us : List Value} {F : List Nat}, LayC N C Im w (V.E true ys).flatten us F → F = []
  | [], us, F, h => by cases h; rfl
  | y :: ys, us, F, h => by
    have h : LayC N C Im w (AV.i y :: (V.E true ys).flatten) us F := h
    cases h with
    | at1 _ _ h => exact ints_lay ys h
theorem F.cpy {t e bys o nn off m k : Nat} {zz : Value} {ls ys ls' : List Int} {b : AV} [hu : HasU P t (.slice e)] [hi : HasI P e 1 bys zz] (hx : evA ⟨E, hp, nx⟩ x = .sl o nn off m) (hh : hp o = .live false 1 (V.E true ls)) (hn : ls.length = nn)
    (hy : evA ⟨E, hp, nx⟩ y = b) (hsrc : SrcA false hp b (V.E true ys) 1 hp) (hk : min ys.length m = k) (he : ls.take off ++ (ys.take k ++ ls.drop (off + k)) = ls')
    (hw : awant n ops ⟨d, .call ⟨.builtin .copy, #[x, y], #[t, t]⟩, ty, pos, af, g⟩ E true = true) (hd : fits n d = true) (hlb : lb = false)
    (h : ARg P n w0 MP lb ops os Q ⟨putE E d (.i (k : Int)), updA hp o (.live false 1 (V.E true ls')), nx⟩) : ARg P n w0 MP lb ops (⟨d, .call ⟨.builtin .copy, #[x, y], #[t, t]⟩, ty, pos, af, g⟩ :: os) Q ⟨E, hp, nx⟩ := by
  subst he
  refine ARg.val (st' := putA ⟨E, updA hp o (.live false 1 (V.E true (ls.take off ++ (ys.take k ++ ls.drop (off + k))))), nx⟩ d (.i (k : Int))) hw hd (fun C Im E' w hm => ?_) (by rw [putA_eq]; exact h)
  have hv := hm.ev x
  rw [hx] at hv
  have hvy := hm.ev y
  rw [hy] at hvy
  obtain ⟨p, c, g1, g2, g3, g4, g5⟩ := hv
  obtain ⟨C2, us0, F, hm2, hlay, hS, hul, hL, hFI, hle⟩ := hsrc.spec (st := ⟨E, hp, nx⟩) hm hvy
  have hF0 : F = [] := ints_lay ys hlay
  subst hF0
  have hys : ys = ys.take k ++ ys.drop k := (List.take_append_drop k ys).symm
  have hkl : (ys.take k).length = k := by rw [List.length_take]; omega
  have hlay2 := hlay
  rw [hys, E_append, List.flatten_append] at hlay2
  obtain ⟨us, us2, F1, F2, e8, e9, hlayk, _⟩ := hlay2.split
  have hF1 : F1 = [] := ints_lay _ hlayk
  subst hF1
  obtain ⟨cc, hcc, hO⟩ := hm2.obj o false _ _ hh
  have hcc1 := hle o cc hcc
  have hlen : cc.len = ls.length := by rw [hO.len, E_length]
  obtain ⟨s1, s2, s3⟩ := (g5 cc hcc1).2 (by rw [hlen, hn])
  rw [hlen] at s1
  rw [E_length] at hS
  have hul : us.length = k := by
    rw [hlayk.length, flatten_len (E_len true _), E_length, hkl]
    exact Nat.mul_one _
  have hone : oneAll us := hlayk.one
  obtain ⟨sp, sc, e1, e2⟩ := hS
  have hI64 : In64 (k : Int) := by
    have : c ≤ 9223372036854775807 := g3
    unfold In64; omega
  obtain ⟨i, i1, i2, i3, i4⟩ := hi.ex
  by_cases h0 : k = 0
  · subst h0
    have e0 : ls.take off ++ (ys.take 0 ++ ls.drop (off + 0)) = ls := by simp
    rw [e0]
    have e1' : updA hp o (.live false 1 (V.E true ls)) = hp := by
      funext t'
      by_cases ht : t' = o
      · subst ht; rw [updA_same]; exact hh.symm
      · rw [updA_ne _ _ ht]
    rw [e1']
    have hr : (execOp (ev E') ⟨d, .call ⟨.builtin .copy, #[x, y], #[t, t]⟩, ty, pos, af, g⟩).run P w = .ok (.value (.int .i64 0)) w := by
      have := hu.und w
      have hmn : Nat.min ys.length m = 0 := hk
      cases p <;> cases sp <;> simp [execOp, resolve, invoke, builtin, Builtin.copy_, g1, e1, this, hmn, Builtin.lenOf, Builtin.firstCells, loadCells, loadCellsFrom, storeCells, sizeOf, typeInfo, i1, goInt]
    exact ⟨_, w, hr, (fun hl => by rw [hlb] at hl; cases hl), putS (show Sm w0 MP ⟨E, hp, nx⟩ C Im E' w from hm) d ⟨rfl, hI64⟩⟩
  · obtain ⟨b1, c', f1, f2⟩ := s3 (by omega)
    obtain ⟨e', hB⟩ := hO.buf
    have hsz : cc.sz = 1 := hO.esz
    have hne : us0 ≠ [] := fun e => h0 (by rw [e] at e8; rw [← hul, (List.append_eq_nil_iff.1 e8.symm).1]; rfl)
    obtain ⟨bs, bo, rfl, hcells⟩ : ∃ b o, sp = some ⟨b, o, none⟩ ∧ Cells w b o us0 := by
      rcases e2 with e | e
      · exact absurd e hne
      · exact e
    rcases hB.2 with ⟨_, p', hp'⟩ | ⟨b', cp, cur, hp', h2, h3, h4, h5, h6⟩
    · rw [hp'] at f1; cases p' <;> simp [own] at f1
    rw [hp'] at f1
    simp [own] at f1
    subst f1
    have hfit : off + us.length ≤ cur.length := by
      rw [hul, h5, hsz]
      omega
    have hnews : ∀ j u, us[j]? = some u → w.cell? ((⟨bs, bo, none⟩ : Addr).add j) = some u := fun j u hj => by rw [add_none]; exact hcells j u (by rw [e8, List.getElem?_append_left (List.getElem?_eq_some_iff.1 hj).1]; exact hj)
    have hf := run_firstCells_some (P := P) w i.size k ⟨bs, bo, none⟩ ys.length sc us (by rw [hul, i3, Nat.mul_one]) hnews
    have hst := run_storeCells_at P b' off e' us 0 cur.toArray w h2 (by simpa using hfit) hone
    simp only [Nat.add_zero] at hst
    have hset := setRow_heap w b' cur.toArray (cur.take off ++ us ++ cur.drop (off + us.length)).toArray e' _ h2
    have hbo : off * cc.sz = off := by rw [hsz, Nat.mul_one]
    have hr : (execOp (ev E') ⟨d, .call ⟨.builtin .copy, #[x, y], #[t, t]⟩, ty, pos, af, g⟩).run P w = .ok (.value (.int .i64 (k : Int))) (w.setRow b' (cur.take off ++ us ++ cur.drop (off + us.length)).toArray) := by
      have h1 := hu.und w
      rw [hbo] at f2
      have hmin : Nat.min ys.length m = k := hk
      simp [execOp, resolve, invoke, builtin, Builtin.copy_, f2, e1, h1, Builtin.lenOf, hmin, sizeOf, typeInfo, i1, hf, hst, goInt]
    have hzL : LayC nx C2 Im w (V.E true (ys.take k)).flatten us [] := hlayk
    have hsp : ls = ls.take off ++ ((ls.drop off).take k ++ ls.drop (off + k)) := by
      rw [← List.drop_drop, List.take_append_drop, List.take_append_drop]
    have hAl : (V.E true (ls.take off)).flatten.length = off := by
      rw [flatten_len (E_len true _), E_length, List.length_take, Nat.min_eq_left (by omega)]
      exact Nat.mul_one _
    obtain ⟨cc', m5, _⟩ := Sm.store (w' := w.setRow b' (cur.take off ++ us ++ cur.drop (off + us.length)).toArray) (show Sm w0 MP ⟨E, hp, nx⟩ C2 Im E' w from hm2) (xs' := V.E true (ls.take off ++ (ys.take k ++ ls.drop (off + k))))
      (A := (V.E true (ls.take off)).flatten) (B := (V.E true ((ls.drop off).take k)).flatten) (B' := (V.E true (ys.take k)).flatten) (D := (V.E true (ls.drop (off + k))).flatten) hh hcc
      (by conv => lhs; rw [hsp, E_append, E_append, List.flatten_append, List.flatten_append]) (by rw [E_append, E_append, List.flatten_append, List.flatten_append])
      (by simp only [E_length, List.length_append, List.length_take, List.length_drop]; omega) (E_len true _)
      (by rw [flatten_len (E_len true _), flatten_len (E_len true _), E_length, E_length, hkl, List.length_take, List.length_drop]; congr 1; omega) (by rw [hp']; rfl) hzL Loose.nil (fun k hk => by cases hk)
      ⟨fun k hk => setRow_other w b' k _ hk, by simp, rfl, rfl, rfl⟩ (fun cur' e2 hB' => by
        unfold Blk at hB' h2
        rw [h2] at hB'
        simp only [Option.some.injEq, Obj.cells.injEq] at hB'
        have : cur = cur' := by simpa using congrArg Array.toList hB'.1
        subst this
        rw [hAl]; exact ⟨e', hset⟩)
    exact ⟨_, _, hr, (fun hl => by rw [hlb] at hl; cases hl), putS m5 d ⟨rfl, hI64⟩⟩
theorem A.binC {st : St} {t t' : TypeId} {op : BinOp} {a b c : Value} (hx : evA st x = .q (fun v => v = a)) (hy : evA st y = .q (fun v => v = b)) (h : ∀ w, ((do let v ← (do eqGuard op t x y a b; binOp op t a b); pure (Next.value v)) : Sem Next).run P w = .ok (.value c) w) (hc : c.oneCell' = true) : ASil true P w0 MP st ⟨d, .binOp op t x y t', ty, pos, af, g⟩ (.q fun v => v = c) := fun C Im E w hm => by
  have h1 := hm.evQ hx
  have h2 := hm.evQ hy
  refine ⟨c, fun w' => ?_, rfl, hc⟩
  unfold Sil
  intro w2 _
  have h3 := h w2
  simp only [execOp, h1, h2]
  exact h3
theorem A.gtrF {st : St} {t t' : TypeId} {k : IntKind} {a b : Int} (hx : evA st x = .q (fun v => v = .int k a)) (hy : evA st y = .q (fun v => v = .int k b)) (h : decide (b < a) = false) : ASil true P w0 MP st ⟨d, .binOp .gtr t x y t', ty, pos, af, g⟩ (.b false) := by
  have := A.gtrQ (P := P) (w0 := w0) (MP := MP) (st := st) (d := d) (ty := ty) (pos := pos) (af := af) (g := g) (t := t) (t' := t') hx hy
  rwa [h] at this
theorem A.cvTo {st : St} {t t' : TypeId} {k : IntKind} {n c : Int} {d1 : TypeDesc} [hs : HasU P t d1] [hu : HasU P t' (.int k)] (hx : evA st x = .i n) (h : k.wrap n = c) : ASil true P w0 MP st ⟨d, .convert t t' x, ty, pos, af, g⟩ (.q fun v => v = .int k c) := by
  have := A.cvIQ (P := P) (w0 := w0) (MP := MP) (st := st) (d := d) (ty := ty) (pos := pos) (af := af) (g := g) (t := t) (t' := t') (hs := hs) (hu := hu) hx
  rwa [h] at this
end
end Go.Proofs.Ytoilkinagffhiaa.V
