/- Texts that the proof needs: A158, Up, A160. -/
import Derived.Test.YtoilkinagffhiaaQffA157
import Derived.Test.YtoilkinagffhiaaQffUz
import Derived.Laws.BytesArg
import Derived.Laws.Strings2
namespace Go.Proofs.Ytoilkinagffhiaa.V
open Go.RowKit G D
set_option linter.unusedVariables false
set_option linter.unusedSimpArgs false
set_option maxHeartbeats 4000000
set_option maxRecDepth 4000
attribute [local irreducible] AW AWR AWD ARg ARA ARet MRet ASil AC AM
theorem upsA_four (a b c : AV) : (upsA [(0, a), (1, b), (3, c)] fun _ => AV.no) = fun t => [a, b, .no, c].getD t .no := by
 funext t
 match t with
 | 0 => rfl
 | 1 => rfl
 | 2 => rfl
 | 3 => rfl
 | t + 4 => rfl
theorem bestA_bnd (N : Nat) (l : List Int) : Bnd N (bestA l) := by cases l <;> trivial
theorem implNullVector_tame (q : Quiv) (n : Nat) (hk2 : kindQ q = 2) (hn : q.n = n) (hn1 : 1 ≤ n) (hn5 : n ≤ 5) : AM Try.prog 8 [.agg (enc false q)] [] [.dt true 1 (E true (nulR q (5 ^ n - 1)).1), .b (decide ((0 : Int) < ((nulR q (5 ^ n - 1)).1.length : Nat)))] [] := by
 have hq := kind_ok hk2
 have hK := implKindOfQuiver_a q
 rw [hk2] at hK
 have hRp := repeat_a 4 n (by omega)
 rw [Int.toNat_natCast, ← hn] at hRp
 have hBx := boxes_f (List.replicate n (4 : Int))
 obtain ⟨fn, r0, c1, r3, r4, assign, body, post, hf, hb, hB⟩ := nvBody q n hq hn hn1 hn5
 have e := (Try.func8).symm.trans hf
 cases e
 cases hb
 refine AM.goR Try.func8 Try.ntmps8 rfl rfl fun w0 mp hw => ?_
 refine AWM.seq ?_
 repeat' first | refine s1 ?_ | fail
 refine QN.normal (AWM.seq ?_)
 refine AW.freezeP (α := Quiv) (oo := false) q 1 rfl rfl ?_
 repeat' first | refine s1 ?_ | (refine kR ?_; first | refine F.c (hK) ?_) | fail
 refine QN.normal (AWM.seq ?_)
 repeat' first | refine s1 ?_ | fail
 refine QN.normal ?_
 clear hf
 refine AWM.range (nI := 40) (o := 4) (m := 1) (k := 0) (j := 0) (gf := 66) (st := ⟨upsA [(1, .ip (enc false q)), (4, .pt 1 1 0 0), (13, .fn 66 [.pt 4 1 0 0])] fun _ => .no, upsA [(1, .live false 1 [[.nl]]), (4, .live false 1 [[.dt false 1 (E false (List.replicate n (4 : Int)))]])] fun _ => .dead, 5⟩)
  (hp' := upsA [(1, .live false 1 [[bestA (nulR q (5 ^ n - 1)).1]])] fun _ => .dead) (N' := 6) Try.func66 Try.ntmps66 rfl rfl rfl ?_ rfl ?_ ?_ ?_
 ·repeat' first | refine s1 ?_ | fail
  refine F.freezeA (α := Int) (oo := true) (ls := [4]) 9 rfl rfl rfl ?_
  repeat' first | refine s1 ?_ | (refine kR ?_; first | refine F.c (hRp) ?_) | fail
  refine F.freezeA (α := Int) (oo := true) (ls := List.replicate n (4 : Int)) 12 rfl rfl rfl ?_
  repeat' first | refine s1 ?_ | (refine kR ?_; first | refine F.pf hBx ?_) | fail
  exact QN.normal (fun _ _ hs => Sim.only [(1, .ip (enc false q)), (4, .pt 1 1 0 0), (13, .fn 66 [.pt 4 1 0 0])] [(1, .live false 1 [[.nl]]), (4, .live false 1 [[.dt false 1 (E false (List.replicate n (4 : Int)))]])] ⟨rfl, rfl, rfl, trivial⟩ ⟨rfl, rfl, trivial⟩ hs)
 ·intro t ht
  show updA (updA (updA (fun _ => AV.no) 13 _) 4 _) 1 _ t = .no
  rw [updA_ne _ _ (by omega), updA_ne _ _ (by omega), updA_ne _ _ (by omega)]
 ·intro fn' Eo Ei W l D a hfa hzl hzD hDl hJ hl hD
  obtain ⟨fi, c0, Y, XB, hfi, hbi, hX⟩ := boxX n ⟨hn1, hn5⟩ l
  have e := (Try.func66).symm.trans hfi
  cases e
  cases hbi
  have hrl : (List.replicate n (4 : Int)).length = n := by simp
  refine Wp.seq ?_
  refine (AW.seg (Q := QN fun st' => AtA st'.E [(0, .q (fun v => v = .func (.yield l) #[] #[])), (1, .pt 4 1 0 0), (3, .sl 5 n 0 n)] ∧ AtA st'.hp [(1, .live false 1 [[.nl]]), (4, .live false 1 [[.dt false 1 (E false (List.replicate n (4 : Int)))]]), (5, .live false 1 (E true (dgD n 0)))] ∧ st'.nx = 6) (fun v0 mp' _ => ?_) hJ).mono ?_
  ·rw [dgD_zero]
   generalize List.replicate n (4 : Int) = M at hrl ⊢
   repeat' first | refine s1 ?_ | (refine kR ?_; first | refine F.mk (m := n) Int rfl rfl (by simp [hrl]) (mkB (by omega)) (by omega) rfl rfl ?_) | fail
   exact QN.normal ⟨⟨rfl, rfl, rfl, trivial⟩, ⟨rfl, rfl, rfl, trivial⟩, rfl⟩
  ·rintro e E1 W1 ⟨⟨S1, hp1, nx1⟩, hS1, hq1, hk1⟩
   obtain rfl : e = .normal := by cases e <;> first | rfl | exact hq1.elim
   obtain ⟨a1, a2, rfl⟩ := hq1
   have hS2 := SimB.only _ _ a1 a2 hS1
   rw [upsA_four] at hS2
   have hl1 := (hk1 l (by simp)).trans hl
   have hD1 := (hk1 D (by simp)).trans hD
   have hSi : ∀ t, 40 ≤ t → [AV.q (fun v => v = .func (.yield l) #[] #[]), .pt 4 1 0 0, .no, .sl 5 n 0 n].getD t .no = .no := fun t ht => by
    rw [List.getD_eq_getElem?_getD, List.getElem?_eq_none (by simp; omega)]
    rfl
   have hSo : ∀ t, 41 ≤ t → (upsA [(1, .ip (enc false q)), (4, .pt 1 1 0 0), (13, .fn 66 [.pt 4 1 0 0])] fun _ => AV.no) t = .no := fun t ht => by
    show updA (updA (updA (fun _ => AV.no) 13 _) 4 _) 1 _ t = .no
    rw [updA_ne _ _ (by omega), updA_ne _ _ (by omega), updA_ne _ _ (by omega)]
   refine Wp.block ?_
   refine (iterLoop (σ := Nat × List Int) (bk := [l, D]) (l := l) (D := D) (r := recL fn' a #[14] _ _ D) (fun s => s.1 < 5 ^ n ∧ s.2 = dgD n s.1) (fun s => s.1 = 5 ^ n) (fun s => 5 ^ n - s.1)
    (fun s => [(1, .live false 1 [[bestA (nulR q (s.1 - 1)).1]]), (4, .live false 1 [[.dt false 1 (E false (List.replicate n (4 : Int)))]]), (5, .live false 1 (E true s.2))])
    (fun s => [(1, .live false 1 [[bestA (nulR q s.1).1]])]) (SX := 2 :: (List.range 40).drop 4) (d3 := 10) (by simp) (by simp) hD1 (Sx := updA (updA (updA (fun t => [.q (fun v => v = .func (.yield l) #[] #[]), .pt 4 1 0 0, .no, .sl 5 n 0 n].getD t .no) 8 (.q (fun v => v = .func (.yield l) #[] #[]))) 9 (.sl 5 n 0 n)) 10 (.b true)) ?_ ?_ rfl ?_ ?_ (fun _ _ _ h => h) ?_ ?_ (0, dgD n 0) ⟨Nat.pow_pos (by omega), rfl⟩ hS2 hl1).mono ?_
   ·intro t ht
    have h10 : t ≠ 10 := fun h => by subst h; cases ht
    have h9 : t ≠ 9 := fun h => by subst h; cases ht
    have h8 : t ≠ 8 := fun h => by subst h; cases ht
    rw [updA_ne _ _ h10, updA_ne _ _ h9, updA_ne _ _ h8]
   ·intro t ht
    match t with
    | 0 => cases ht
    | 1 => cases ht
    | 2 => rfl
    | 3 => cases ht
    | t + 4 => rfl
   ·rintro ⟨c, l'⟩
    exact ⟨trivial, BndH.one rfl (BndO.raw ⟨bestA_bnd _ _, trivial⟩) (BndH.one rfl (BndO.raw ⟨trivial, trivial⟩) (BndH.one rfl (BndO.E _ _ _ _ _) trivial))⟩
   ·rintro s i t ht
    have h1 : t = 1 := by
     by_cases h : t = 1
     ·exact h
     ·have hb : Nat.beq t 1 = false := by rw [← Bool.not_eq_true]; intro hb; exact h (Nat.eq_of_beq_eq_true hb)
      simp [keys, mem, hb] at ht
    subst h1
    rfl
   ·rintro ⟨c, l'⟩ ⟨hc, hl'⟩ E2 w2 hS3 hl3 hD3
    dsimp only at hc hl' hS3
    subst hl'
    refine roundI (SA := [5]) (slA := [(5, .sl 5 n 0 n)]) (SB := (List.range 41).drop 15) (obB := [(1, .live false 1 [[bestA (nulR q c).1]])]) (by simp) hzl rfl rfl rfl hfa rfl (by decide) hSo hSi rfl (by decide) (by decide) (by decide) (by decide) (by decide) ⟨⟨by show 5 < 6; omega, trivial⟩, trivial⟩ ⟨trivial, BndH.one rfl (BndO.raw ⟨bestA_bnd _ _, trivial⟩) trivial⟩ ?_ ?_ rfl (by simp) hDl hD3 hS3 hl3
    ·intro v0 mp'
     refine AWR.fitQ (AWR.region rfl ?_)
     repeat' first | refine s1 ?_ | fail
     exact FitQ.mk (F.fit ⟨rfl, trivial⟩ trivial)
    ·intro v0 mp'
     generalize hSt : head [5] [(5, AV.sl 5 n 0 n)] [] _ = st
     have e1 : AtA st.E [(1, .ip (enc false q)), (4, .pt 1 1 0 0), (14, .sl 5 n 0 n), (5, .sl 5 n 0 n)] := by rw [← hSt]; exact ⟨rfl, rfl, rfl, rfl, trivial⟩
     have e2 : AtA st.hp [(1, .live false 1 [[bestA (nulR q (c - 1)).1]]), (5, .live false 1 (V.E true (dgD n c))), (4, .live false 1 [[.dt false 1 (V.E false (List.replicate n (4 : Int)))]])] := by rw [← hSt]; exact ⟨rfl, rfl, rfl, trivial⟩
     have e3 : st.nx = 6 := by rw [← hSt]; rfl
     clear hSt
     obtain ⟨S, hp, nx⟩ := st
     have h := hB c hc S hp l v0 mp'
     unfold nvS at h
     rw [upsA_self e1, upsA_self e2] at h
     dsimp only at e3
     subst e3
     exact h
   ·rintro ⟨c, l'⟩ ⟨hc, hl'⟩ v0 mp'
    dsimp only at hc hl' ⊢
    subst hl'
    generalize hF : (upsA [(1, Ob.live false 1 [[bestA (nulR q c).1]])] (upsA [(1, .live false 1 [[bestA (nulR q (c - 1)).1]]), (4, .live false 1 [[.dt false 1 (V.E false (List.replicate n (4 : Int)))]]), (5, .live false 1 (V.E true (dgD n c)))] fun _ => .dead)) = F
    have f1 : F 1 = .live false 1 [[bestA (nulR q c).1]] := by rw [← hF]; rfl
    have f4 : F 4 = .live false 1 [[.dt false 1 (V.E false (List.replicate n (4 : Int)))]] := by rw [← hF]; rfl
    have f5 : F 5 = .live false 1 (V.E true (dgD n c)) := by rw [← hF]; rfl
    clear hF
    rw [show F = upsA [(4, Ob.live false 1 [[.dt false 1 (V.E false (List.replicate n (4 : Int)))]]), (5, Ob.live false 1 (V.E true (dgD n c)))] F from (upsA_self (l := [(4, Ob.live false 1 [[.dt false 1 (V.E false (List.replicate n (4 : Int)))]]), (5, Ob.live false 1 (V.E true (dgD n c)))]) ⟨f4, f5, trivial⟩).symm]
    refine @hX c hc v0 mp' _ _ ⟨fun c st ⟨i, h, _⟩ => by rcases h with h | h <;> cases h.1⟩ ?_ ?_
    ·intro st' hc1 hfit
     refine ⟨(c + 1, dgD n (c + 1)), .inl ⟨rfl, by dsimp only; omega, hc1, rfl⟩, Fit.more hfit ?_ ⟨(hfit.agh 1 (show (1 : Nat) < 6 by decide) rfl).trans f1, hfit.agh 4 (show (4 : Nat) < 6 by decide) rfl, hfit.ob.1, trivial⟩⟩
     intro t ht
     have h1 : t = 5 := by
      by_cases h : t = 5
      ·exact h
      ·have hb : Nat.beq t 5 = false := by rw [← Bool.not_eq_true]; intro hb; exact h (Nat.eq_of_beq_eq_true hb)
       simp [keys, mem, hb] at ht
     subst h1
     rfl
    ·intro st' l2 hce hfit
     subst hce
     refine ⟨(5 ^ n, l2), .inr ⟨rfl, rfl⟩, Fit.more hfit ?_ ⟨(hfit.agh 1 (show (1 : Nat) < 6 by decide) rfl).trans f1, hfit.agh 4 (show (4 : Nat) < 6 by decide) rfl, hfit.ob.1, trivial⟩⟩
     intro t ht
     have h1 : t = 5 := by
      by_cases h : t = 5
      ·exact h
      ·have hb : Nat.beq t 5 = false := by rw [← Bool.not_eq_true]; intro hb; exact h (Nat.eq_of_beq_eq_true hb)
       simp [keys, mem, hb] at ht
     subst h1
     rfl
   ·rintro e E2 W2 ⟨rfl, ⟨c', l'⟩, hfin, hS3, hl3, hD3⟩
    dsimp only at hfin hS3
    subst hfin
    exact ⟨.inl rfl, _, SimB.only [] [(1, .live false 1 [[bestA (nulR q (5 ^ n - 1)).1]])] trivial ⟨rfl, trivial⟩ hS3, hl3, hD3⟩
 ·intro D v0 mp' hg
  generalize (nulR q (5 ^ n - 1)).1 = B
  refine AWD.seq ?_
  by_cases hB0 : B = []
  ·subst hB0
   refine AWD.draw 5 G.mixed (by kernel_rfl) ?_
   refine dL 0 ?_
   refine dL 1 ?_
   first | refine dP 2 ?_ (hs := by exact (A.neN rfl)) | refine dP 2 ?_
   refine dP 3 ?_
   refine dP 4 ?_
   refine dN ?_
   rotate_left
   all_goals
    refine ATh.normal (AWD.ret ?_)
    show MRet _ _ _ _ _ .ret _
    exact F.retM rfl trivial
  ·rw [bestA_ne hB0]
   have hB1 : 0 < B.length := List.length_pos_iff.2 hB0
   refine AWD.ghost (Sim.takeV (o := 1) rfl (E_length true B)) ?_
   refine AWD.draw 5 G.mixed (by kernel_rfl) ?_
   refine dL 0 ?_
   refine dL 1 ?_
   first | refine dP 2 ?_ (hs := by exact (A.neS rfl rfl (E_length true B) hB1)) | refine dP 2 ?_
   refine dP 3 ?_
   refine dP 4 ?_
   refine dN ?_
   rotate_left
   all_goals
    refine ATh.normal (AWD.ret ?_)
    show MRet _ _ _ _ _ .ret _
    rw [decide_eq_true (by omega : (0 : Int) < (B.length : Nat))]
    exact F.retM rfl trivial
theorem implNullVector_m (q : Quiv) : AM Try.prog 8 [.agg (enc false q)] [] [.dt true 1 (E true (nulP q).1), .b (nulP q).2] [] := by
 by_cases hk2 : kindQ q = 2
 ·have hq := kind_ok hk2
  have h5 := okQ_spec hq
  obtain ⟨n, hn⟩ : ∃ n : Nat, q.n = n := ⟨q.n.toNat, by omega⟩
  have h := implNullVector_tame q n hk2 hn (by omega) (by omega)
  rw [nulP_yes hk2, show q.n.toNat = n by omega]
  exact h
 ·refine AM.go Try.func8 Try.ntmps8 rfl rfl fun w0 mp hw => ?_; simp [WfL, WfA, E_length, Enc.enc, In64] at hw
  have hK := implKindOfQuiver_a q
  rw [nulP_no hk2]
  dsimp only
  generalize kindQ q = z at hK hk2
  repeat' first | refine s1 ?_ | (refine kR ?_; first | refine F.c (hK) ?_) | fail
  refine kM ?_
  exact F.retM rfl trivial
theorem implNullVector_a (q : Quiv) : AC Try.prog 8 [.agg (enc false q)] [.dt true 1 (E true (nulP q).1), .b (nulP q).2] :=
 AC.ofAM (implNullVector_m q) (by
  have h : ownLL (E true (nulP q).1) = true := E_own _
  simp [outB, pureB, ownA, h])
end Go.Proofs.Ytoilkinagffhiaa.V
namespace Go.Proofs.Ytoilkinagffhiaa.V
open Go.RowKit G
set_option linter.unusedVariables false
set_option linter.unusedSimpArgs false
section
variable {P : Program} {w0 : World} {MP : Fr} {st : St} {d : Option Tmp} {ty : TypeId} {pos : String} {af : Array Edge} {g : Option (Nat × Bool)} {x y : Operand} {t t' : Nat}
theorem A.eqlQ {k : IntKind} {a b : Int} (hx : evA st x = .q (fun v => v = .int k a)) (hy : evA st y = .q (fun v => v = .int k b)) : ASil true P w0 MP st ⟨d, .binOp .eql t x y t', ty, pos, af, g⟩ (.b (decide (a = b))) := fun C Im E w hm => by
 have h1 := hm.evQ hx
 have h2 := hm.evQ hy
 refine ⟨.bool (decide (a = b)), fun w' => ?_, rfl⟩
 unfold Sil
 intro w2 _
 simp [execOp, h1, h2, eqGuard, binOp, Op.intCmp]
 by_cases h : a = b <;> simp [h]
theorem A.neqS {a b : ByteArray} [hu : HasU P t .string] (hx : evA st x = .q (fun v => v = .string a)) (hy : evA st y = .q (fun v => v = .string b)) : ASil true P w0 MP st ⟨d, .binOp .neq t x y t', ty, pos, af, g⟩ (.b (a.toList != b.toList)) := fun C Im E w hm => by
 have h1 := hm.evQ hx
 have h2 := hm.evQ hy
 refine ⟨.bool (a.toList != b.toList), fun w' => ?_, rfl⟩
 unfold Sil
 intro w2 _
 have h3 := hu.und w2
 simp [execOp, h1, h2, eqGuard, binOp, Op.stringOp, bne]
theorem A.slcStr {a : ByteArray} {lo hi : Operand} {i j : Int} [hu : HasU P t .string] (hx : evA st x = .q (fun v => v = .string a)) (hl : evA st lo = .i i) (hr : evA st hi = .i j) (h0 : 0 ≤ i) (h1 : i ≤ j) (h2 : j ≤ a.size) : ASil true P w0 MP st ⟨d, .slice t x (some lo) (some hi) none, ty, pos, af, g⟩ (.q fun v => v = .string (a.extract i.toNat j.toNat)) := fun C Im E w hm => by
 have e1 := hm.evQ hx
 have e2 := (hm.evI hl).1
 have e3 := (hm.evI hr).1
 refine ⟨.string (a.extract i.toNat j.toNat), fun w' => ?_, rfl, rfl⟩
 unfold Sil
 intro w2 _
 have h4 := run_slice_string (P := P) w2 t a .i64 .i64 i j hu.u h0 h1 h2
 have h5 := run_sliceAt_string (P := P) (w := w2) t (.string a) (some (.int .i64 i)) (some (.int .i64 j)) none hu.u
 simp [execOp, e1, e2, e3]
 rw [h5, h4]
 rfl
theorem A.cvB1 {o e : Nat} {l : Bool} {z : Int} [hs : HasU P t (.slice e)] [he : HasU P e (.int .u8)] [hu : HasU P t' .string] (hx : evA st x = .sl o 1 0 1) (hh : st.hp o = .live l 1 [[.q (fun v => v = .int .u8 z)]]) : ASil false P w0 MP st ⟨d, .convert t t' x, ty, pos, af, g⟩ (.q fun v => v = .string (strOfNums [z])) := fun C Im E w hm => by
 have h := hm.ev x
 rw [hx] at h
 obtain ⟨p, c, h1, h2, h3, h4, h5⟩ := h
 obtain ⟨cc, hcc, hO⟩ := hm.obj o l _ _ hh
 obtain ⟨_, s2, _⟩ := (h5 cc hcc).2 (by rw [hO.len]; rfl)
 have hv := s2 rfl (by rw [hO.len]; rfl)
 obtain ⟨e', hB⟩ := hO.buf
 have hlen : cc.len = 1 := by rw [hO.len]; rfl
 have hsz : cc.sz = 1 := hO.esz
 have hlay := hO.lay
 obtain ⟨v, hv1, hF, hr⟩ := LayC.get1 (a := .q (fun v => v = .int .u8 z)) hlay (fun sz xs e => by cases e)
 obtain ⟨hvz, _⟩ := hr
 refine ⟨.string (strOfNums [z]), ?_, rfl, rfl⟩
 rcases hB.2 with ⟨h0, _⟩ | ⟨b, c', cur, hp', g2, g3, g4, g5, g6⟩
 ·omega
 unfold Sil
 intro w2 hl
 replace g2 := g2.same (Below.block hl b (Array.getElem?_eq_some_iff.1 (show w.heap[b]? = some _ from g2)).1)
 rw [h1] at hv
 have hx2 : G.ev E x = .slice (some ⟨b, 0, none⟩) 1 (c' + 1) := by
  rw [h1, hv, hp', hlen]
 have hcell : w2.cell? ⟨b, 0 + 0, none⟩ = some (.int .u8 z) := by
  refine Blk.cell g2 ?_
  rw [hlen, hsz] at g6
  rw [hv1, hvz] at g6
  cases cur with
  | nil => cases g6
  | cons u cur =>
   simp at g6
   rw [g6]; rfl
 have h7 := run_convert_bytes_arg (P := P) w2 t e hs.u he.u b 0 1 (c' + 1) [z] rfl (fun i hi => by
  obtain rfl : i = 0 := by omega
  exact hcell) t' hu.u
 simp [execOp, hx2]
 rw [h7]
 rfl
end
end Go.Proofs.Ytoilkinagffhiaa.V
namespace Go.Proofs.Ytoilkinagffhiaa.V
open Go.RowKit G D
set_option linter.unusedVariables false
set_option linter.unusedSimpArgs false
set_option maxHeartbeats 4000000
set_option maxRecDepth 60000
attribute [local irreducible] AW ARg ARA ARet MRet ASil AC AM AMx
def curH (b : List UInt8) : Nat → Int
 | 0 => 10101 + b.length
 | k + 1 => andZ (curH b k * 131 + ((b.getD k default).toNat : Int) + 7) 1073741823
theorem l1New_p (b : List UInt8) (hl : b.length ≤ 1048576) : AMP Try.prog 45 [ar false b] 3 [ar false b, .i 0, .i (curH b (min b.length 4000))] := by
 refine AMP.go Try.func45 Try.ntmps45 rfl rfl fun w0 mp hw => ?_
 have hb : ∀ k, k ≤ b.length → 0 ≤ curH b k ∧ curH b k ≤ 1073741823 := fun k hk => by
  cases k with
  | zero => simp only [curH]; omega
  | succ k => simp only [curH]; exact andZ_bd _ 30 (by omega)
 repeat' first | refine s1 ?_ | fail
 refine F.loop (σ := Nat) [3, 4, 8, 9, 10, 11, 12, 13, 14, 15, 16, 17, 18, 19, 20, 21, 22, 23, 24, 25, 26, 27] (fun k => [(3, .i (curH b k)), (4, .i k)]) (fun _ => []) (fun k => k ≤ min b.length 4000) (fun k => b.length - k) 0 ⟨rfl, rfl, trivial⟩ trivial (Nat.zero_le _) ?_
 rintro k k1
 have hbk := hb k (by omega)
 by_cases hk : k < b.length
 ·by_cases hk4 : (k : Int) < 4000
  ·have e : curH b (k + 1) = andZ (curH b k * 131 + ((b.getD k default).toNat : Int) + 7) 1073741823 := rfl
   have hz : (b.getD k default).toNat < 256 := UInt8.toNat_lt _
   generalize curH b k = h at hbk e ⊢
   repeat' first | refine s1 ?_ | (refine kR ?_; first | refine F.sil (A.cvQI rfl (In64.mk (by omega))) rfl rfl ?_ | refine F.sil (A.andZ rfl rfl) rfl rfl ?_) | fail
   exact ⟨k + 1, F.fit ⟨iE (by rw [e]), rfl, trivial⟩ trivial, by omega, by omega⟩
  ·obtain rfl : k = min b.length 4000 := by omega
   generalize curH b (min b.length 4000) = h at hbk ⊢
   repeat' first | refine s1 ?_ | fail
   exact ⟨2, 0, rfl, rfl, rfl, rfl⟩
 ·obtain rfl : k = min b.length 4000 := by omega
  generalize curH b (min b.length 4000) = h at hbk ⊢
  repeat' first | refine s1 ?_ | fail
  exact ⟨2, 0, rfl, rfl, rfl, rfl⟩
end Go.Proofs.Ytoilkinagffhiaa.V
