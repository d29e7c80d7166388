/- Contracts of both Euler forms and Tits forms. -/
import Derived.Test.YthgdabghhcbmgaaFf
namespace Go.Proofs.Ythgdabghhcbmgaa.F
open Go.RowKit G D
set_option linter.unusedVariables false
set_option maxHeartbeats 4000000

theorem implEulerForm_c (q : Quiv) (vs : List Value) (F : List Nat) (x y : List Int) (vx vy : Value) (Fx Fy : List Nat) (w : World) (hq : quivR.V w q vs F) (hx : intsR.V w x [vx] Fx) (hy : intsR.V w y [vy] Fy) :
    Run Try.prog 15 [.agg vs.toArray, vx, vy] w fun v w' => v = .int .i64 (eulF q x y) ∧ Later w w' := by
  have hq' := hq
  obtain ⟨v1, v2, F1, F2, rfl, rfl, hn, hq1, hq2⟩ := quivR.open hq
  obtain ⟨px, cx, rfl, hpcx, hcmx, hpx⟩ := listR.open1 hx
  obtain ⟨py, cy, rfl, hpcy, hcmy, hpy⟩ := listR.open1 hy
  have hH := Hp.init w
  refine Run.go Try.func15 Try.ntmps15 rfl rfl ?_
  repeat' first | refine go1 ?_ | (refine go2 ?_ ?_ <;> intro hc) | (clear hH; intro b w1 hH) | (clear hH; intro w1 hH)
  refine Rg.call (areNumbers_c q _ _ x _ _ _ (quivR.later hq' hH.low) (intsR.later hx hH.low)) rfl rfl rfl ?_
  rintro v w2 ⟨rfl, hl2⟩
  replace hH := hH.later hl2
  cases nx : numsQ q x with
  | false =>
    repeat' first | refine go1 ?_ | (refine go2 ?_ ?_ <;> intro hc) | (clear hH; intro b w1 hH) | (clear hH; intro w1 hH)
    exact Fin.oneI rfl rfl ⟨by simp [eulF, nx], hH.low⟩
  | true =>
    repeat' first | refine go1 ?_ | (refine go2 ?_ ?_ <;> intro hc) | (clear hH; intro b w1 hH) | (clear hH; intro w1 hH)
    refine Rg.call (areNumbers_c q _ _ y _ _ _ (quivR.later hq' hH.low) (intsR.later hy hH.low)) rfl rfl rfl ?_
    rintro v w2 ⟨rfl, hl2⟩
    replace hH := hH.later hl2
    cases ny : numsQ q y with
    | false =>
      repeat' first | refine go1 ?_ | (refine go2 ?_ ?_ <;> intro hc) | (clear hH; intro b w1 hH) | (clear hH; intro w1 hH)
      exact Fin.oneI rfl rfl ⟨by simp [eulF, ny], hH.low⟩
    | true =>
      repeat' first | refine go1 ?_ | (refine go2 ?_ ?_ <;> intro hc) | (clear hH; intro b w1 hH) | (clear hH; intro w1 hH)
      refine Rg.call (euler_c q _ _ x y _ _ _ _ _ (quivR.later hq' hH.low) (intsR.later hx hH.low) (intsR.later hy hH.low) nx ny) rfl rfl rfl ?_
      rintro v w2 ⟨rfl, hl2⟩
      replace hH := hH.later hl2
      repeat' first | refine go1 ?_ | (refine go2 ?_ ?_ <;> intro hc) | (clear hH; intro b w1 hH) | (clear hH; intro w1 hH)
      exact Fin.oneI rfl rfl ⟨by simp [eulF, nx, ny], hH.low⟩

theorem specEulerForm_c (q : Quiv) (vs : List Value) (F : List Nat) (x y : List Int) (vx vy : Value) (Fx Fy : List Nat) (w : World) (hq : quivR.V w q vs F) (hx : intsR.V w x [vx] Fx) (hy : intsR.V w y [vy] Fy) :
    Run Try.prog 12 [.agg vs.toArray, vx, vy] w fun v w' => v = .int .i64 (eulF q x y) ∧ Later w w' := by
  have hq' := hq
  obtain ⟨v1, v2, F1, F2, rfl, rfl, hn, hq1, hq2⟩ := quivR.open hq
  obtain ⟨p1, c1, rfl, hpc1, hcm1, hp1⟩ := listR.open1 hq1
  obtain ⟨p2, c2, rfl, hpc2, hcm2, hp2⟩ := listR.open1 hq2
  obtain ⟨px, cx, rfl, hpcx, hcmx, hpx⟩ := listR.open1 hx
  obtain ⟨py, cy, rfl, hpcy, hcmy, hpy⟩ := listR.open1 hy
  have hH := Hp.init w
  refine Run.go Try.func12 Try.ntmps12 rfl rfl ?_
  repeat' first | refine go1 ?_ | (refine go2 ?_ ?_ <;> intro hc) | (clear hH; intro b w1 hH) | (clear hH; intro w1 hH)
  refine Rg.call (l18Vector_c q _ _ x _ _ _ (quivR.later hq' hH.low) (intsR.later hx hH.low)) rfl rfl rfl ?_
  rintro v w2 ⟨rfl, hl2⟩
  replace hH := hH.later hl2
  cases nx : numsQ q x with
  | false =>
    repeat' first | refine go1 ?_ | (refine go2 ?_ ?_ <;> intro hc) | (clear hH; intro b w1 hH) | (clear hH; intro w1 hH)
    exact Fin.oneI rfl rfl ⟨by simp [eulF, nx], hH.low⟩
  | true =>
    repeat' first | refine go1 ?_ | (refine go2 ?_ ?_ <;> intro hc) | (clear hH; intro b w1 hH) | (clear hH; intro w1 hH)
    refine Rg.call (l18Vector_c q _ _ y _ _ _ (quivR.later hq' hH.low) (intsR.later hy hH.low)) rfl rfl rfl ?_
    rintro v w2 ⟨rfl, hl2⟩
    replace hH := hH.later hl2
    cases ny : numsQ q y with
    | false =>
      repeat' first | refine go1 ?_ | (refine go2 ?_ ?_ <;> intro hc) | (clear hH; intro b w1 hH) | (clear hH; intro w1 hH)
      exact Fin.oneI rfl rfl ⟨by simp [eulF, ny], hH.low⟩
    | true =>
      obtain ⟨hok, lx, ax⟩ := numsQ_spec nx
      obtain ⟨_, ly, ay⟩ := numsQ_spec ny
      obtain ⟨n1, n5, hlen, hl6, _⟩ := okQ_spec hok
      repeat' first | refine go1 ?_ | (refine go2 ?_ ?_ <;> intro hc) | (clear hH; intro b w1 hH) | (clear hH; intro w1 hH)
      refine Wp.loopS (σ := Nat) [7, 8, 20, 21, 22, 23, 24, 25, 26, 27, 28, 29, 30, 31, 32, 33, 34, 35, 36] (fun k => [(8, .int .i64 (k : Int)), (7, .int .i64 (dotK x y k))])
        (fun k wr => k ≤ x.length ∧ Hp w wr [(b, [Value.int IntKind.i64 q.n, Value.slice p1 q.fr.length c1, Value.slice p2 q.to.length c2], 29)] []) (fun k => x.length - k) 0 ⟨rfl, rfl, trivial⟩ ⟨Nat.zero_le _, hH⟩ ?_
      clear hH
      rintro k wr h ⟨hk, hH⟩
      repeat' first | refine go1 ?_ | (refine go2 ?_ ?_ <;> intro hc) | (clear hH; intro b w1 hH) | (clear hH; intro w1 hH)
      · obtain ⟨a1, o1, rfl, hca, hia, _⟩ := hpx.intD (k := k) (by omega)
        obtain ⟨a2, o2, rfl, hcb, hib, _⟩ := hpy.intD (k := k) (by omega)
        have h1 := hH.low.cell hca
        have h2 := hH.low.cell hcb
        have b1 := allIn_spec ax (k := k) (by omega)
        have b2 := allIn_spec ay (k := k) (by omega)
        have b3 := mul_bd (A := 100) (B := 100) (by omega) b1.2 (by omega) b2.2
        have b4 := dotK_bd ax ay k (by omega) (by omega)
        refine Wp.draw 12 mixed (by kernel_rfl) ?_
        replace hH := hH.drew
        refine td 0 ?_
        refine td 1 ?_
        refine td 2 ?_
        refine td 3 ?_
        refine td 4 ?_
        refine td 5 ?_
        refine td 6 ?_
        refine td 7 ?_
        refine td 8 ?_
        refine td 9 ?_
        refine td 10 ?_
        refine td 11 ?_
        refine RgA.nil (by kernel_rfl) ?_
        repeat' first | refine go1 ?_ | (refine go2 ?_ ?_ <;> intro hc) | (clear hH; intro b w1 hH) | (clear hH; intro w1 hH)
        exact ⟨k + 1, ⟨rfl, rfl, trivial⟩, agr, ⟨by omega, hH⟩, by omega⟩
      · have e : k = x.length := by omega
        subst e
        have b5 := dotK_bd ax ay x.length (by omega) (by omega)
        refine Wp.loopS (σ := Nat) [7, 9, 37, 38, 39, 40, 41, 42, 43, 44, 45, 46, 47, 48, 49, 50, 51, 52, 53, 54, 55, 56, 57, 58, 59, 60, 61, 62] (fun k => [(9, .int .i64 (k : Int)), (7, .int .i64 (dotK x y x.length - arrK q x y k))])
          (fun k wr => k ≤ q.fr.length ∧ Hp w wr [(b, [Value.int IntKind.i64 q.n, Value.slice p1 q.fr.length c1, Value.slice p2 q.to.length c2], 29)] []) (fun k => q.fr.length - k) 0 ⟨rfl, intEq (by simp [arrK]), trivial⟩ ⟨Nat.zero_le _, hH⟩ ?_
        clear hH
        rintro k wr h ⟨hk, hH⟩
        repeat' first | refine go1 ?_ | (refine go2 ?_ ?_ <;> intro hc) | (clear hH; intro b w1 hH) | (clear hH; intro w1 hH)
        · obtain ⟨a1, o1, rfl, hca, hia, _⟩ := hp1.intD (k := k) (by omega)
          have h1 := hH.low.cell hca
          have bf := okQ_fr hok (k := k) (by omega)
          have bt := okQ_to hok (k := k) (by omega)
          obtain ⟨a2, o2, rfl, hcb, hib, _⟩ := hp2.intD (k := k) (by omega)
          obtain ⟨a3, o3, rfl, hcx, hix, _⟩ := hpx.intD (k := (q.fr.getD k 0).toNat) (by omega)
          obtain ⟨a4, o4, rfl, hcy, hiy, _⟩ := hpy.intD (k := (q.to.getD k 0).toNat) (by omega)
          have h2 := hH.low.cell hcb
          have h3 := hH.low.cell hcx
          have h4 := hH.low.cell hcy
          have b1 := allIn_spec ax (k := (q.fr.getD k 0).toNat) (by omega)
          have b2 := allIn_spec ay (k := (q.to.getD k 0).toNat) (by omega)
          have b3 := mul_bd (A := 100) (B := 100) (by omega) b1.2 (by omega) b2.2
          have b4 := arrK_bd nx ny k (by omega)
          refine Wp.draw 20 mixed (by kernel_rfl) ?_
          replace hH := hH.drew
          refine td 0 ?_
          refine td 1 ?_
          refine td 2 ?_
          refine td 3 ?_
          refine td 4 ?_
          first | refine td 5 ?_ | refine tk 5 rfl (by kernel_rfl) (Sil.index1 rfl rfl (Int.toNat_of_nonneg bf.1).symm (by omega)) rfl rfl ?_ | refine tk 5 rfl (by kernel_rfl) (Sil.index1 rfl rfl (Int.toNat_of_nonneg bt.1).symm (by omega)) rfl rfl ?_
          refine td 6 ?_
          first | refine td 7 ?_ | refine tk 7 rfl (by kernel_rfl) (Sil.index1 rfl rfl (Int.toNat_of_nonneg bf.1).symm (by omega)) rfl rfl ?_ | refine tk 7 rfl (by kernel_rfl) (Sil.index1 rfl rfl (Int.toNat_of_nonneg bt.1).symm (by omega)) rfl rfl ?_
          refine td 8 ?_
          refine td 9 ?_
          refine td 10 ?_
          refine td 11 ?_
          refine td 12 ?_
          first | refine td 13 ?_ | refine tk 13 rfl (by kernel_rfl) (Sil.index1 rfl rfl (Int.toNat_of_nonneg bf.1).symm (by omega)) rfl rfl ?_ | refine tk 13 rfl (by kernel_rfl) (Sil.index1 rfl rfl (Int.toNat_of_nonneg bt.1).symm (by omega)) rfl rfl ?_
          refine td 14 ?_
          first | refine td 15 ?_ | refine tk 15 rfl (by kernel_rfl) (Sil.index1 rfl rfl (Int.toNat_of_nonneg bf.1).symm (by omega)) rfl rfl ?_ | refine tk 15 rfl (by kernel_rfl) (Sil.index1 rfl rfl (Int.toNat_of_nonneg bt.1).symm (by omega)) rfl rfl ?_
          refine td 16 ?_
          refine td 17 ?_
          refine td 18 ?_
          refine td 19 ?_
          refine RgA.nil (by kernel_rfl) ?_
          repeat' first | refine go1 ?_ | (refine go2 ?_ ?_ <;> intro hc) | (clear hH; intro b w1 hH) | (clear hH; intro w1 hH)
          refine ⟨k + 1, ⟨rfl, intEq ?_, trivial⟩, agr, ⟨by omega, hH⟩, by omega⟩
          simp only [arrK]; omega
        · have e : k = q.fr.length := by omega
          subst e
          exact Fin.oneI rfl rfl ⟨by simp [eulF, nx, ny, eulV], hH.low⟩

theorem implTitsForm_c (q : Quiv) (vs : List Value) (F : List Nat) (x : List Int) (vx : Value) (Fx : List Nat) (w : World) (hq : quivR.V w q vs F) (hx : intsR.V w x [vx] Fx) :
    Run Try.prog 19 [.agg vs.toArray, vx] w fun v w' => v = .int .i64 (eulF q x x) ∧ Later w w' := by
  have hq' := hq
  obtain ⟨v1, v2, F1, F2, rfl, rfl, hn, hq1, hq2⟩ := quivR.open hq
  obtain ⟨px, cx, rfl, hpcx, hcmx, hpx⟩ := listR.open1 hx
  have hH := Hp.init w
  refine Run.go Try.func19 Try.ntmps19 rfl rfl ?_
  repeat' first | refine go1 ?_ | (refine go2 ?_ ?_ <;> intro hc) | (clear hH; intro b w1 hH) | (clear hH; intro w1 hH)
  refine Rg.call (implEulerForm_c q _ _ x x _ _ _ _ _ (quivR.later hq' hH.low) (intsR.later hx hH.low) (intsR.later hx hH.low)) rfl rfl rfl ?_
  rintro v w2 ⟨rfl, hl2⟩
  repeat' first | refine go1 ?_ | (refine go2 ?_ ?_ <;> intro hc) | (clear hH; intro b w1 hH) | (clear hH; intro w1 hH)
  exact Fin.oneI rfl rfl ⟨rfl, hH.low.trans hl2⟩
theorem specTitsForm_c (q : Quiv) (vs : List Value) (F : List Nat) (x : List Int) (vx : Value) (Fx : List Nat) (w : World) (hq : quivR.V w q vs F) (hx : intsR.V w x [vx] Fx) :
    Run Try.prog 18 [.agg vs.toArray, vx] w fun v w' => v = .int .i64 (eulF q x x) ∧ Later w w' := by
  have hq' := hq
  obtain ⟨v1, v2, F1, F2, rfl, rfl, hn, hq1, hq2⟩ := quivR.open hq
  obtain ⟨px, cx, rfl, hpcx, hcmx, hpx⟩ := listR.open1 hx
  have hH := Hp.init w
  refine Run.go Try.func18 Try.ntmps18 rfl rfl ?_
  repeat' first | refine go1 ?_ | (refine go2 ?_ ?_ <;> intro hc) | (clear hH; intro b w1 hH) | (clear hH; intro w1 hH)
  refine Rg.call (specEulerForm_c q _ _ x x _ _ _ _ _ (quivR.later hq' hH.low) (intsR.later hx hH.low) (intsR.later hx hH.low)) rfl rfl rfl ?_
  rintro v w2 ⟨rfl, hl2⟩
  repeat' first | refine go1 ?_ | (refine go2 ?_ ?_ <;> intro hc) | (clear hH; intro b w1 hH) | (clear hH; intro w1 hH)
  exact Fin.oneI rfl rfl ⟨rfl, hH.low.trans hl2⟩
end Go.Proofs.Ythgdabghhcbmgaa.F
