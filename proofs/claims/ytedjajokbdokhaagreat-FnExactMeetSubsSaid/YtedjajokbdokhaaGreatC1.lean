/- Joined: Contracts: the radical, as the reference builds it; both results. Contracts of the laws' helpers on lists of spaces: equality, marks. How much the radical's memory holds. No program is walked. Contracts: dimensions of spaces, and of the top.. -/
import Derived.Test.YtedjajokbdokhaaGreatB6
import Derived.Test.YtedjajokbdokhaaGreatB8
import Derived.Test.YtedjajokbdokhaaGreatUm
/- Contracts: the radical, as the reference builds it; both results. -/
namespace Go.Proofs.YtedjajokbdokhaaGreat.V
open V.Enc (enc)
open Go.RowKit G D
set_option linter.unusedVariables false
set_option linter.unusedSimpArgs false
set_option maxHeartbeats 4000000
set_option maxRecDepth 4000
attribute [local irreducible] AW ARg ARA ARet MRet ASil AC AM

theorem l12Zero_a (r : Rep) (h : r.d.length ≤ 1000) : AC Tryz.prog 89 [.agg (enc false r)] [.dt true 2 (E true (radK r 0))] := by
  refine AC.go Tryz.func89 Tryz.ntmps89 rfl rfl fun w0 hw => ?_; simp [WfL, WfA, E_length, Enc.enc, In64] at hw
  unfold radK
  repeat' first | refine s1 ?_ | fail
  refine AW.open 3 2 (.inr rfl) ?_
  refine F.loop (σ := Nat) [3, 4, 6, 7, 8, 9, 10, 11, 12, 13, 14, 15, 16, 17, 18, 19, 20, 21, 22] (fun k => [(3, .sl 1 k 0 k), (4, .i k)]) (fun k => [(1, .live false 2 (E true ((r.d.take k).map fun d => (⟨d, []⟩ : Spc))))]) (fun k => k ≤ r.d.length) (fun k => r.d.length - k) 0 ⟨rfl, rfl, trivial⟩ ⟨rfl, trivial⟩ (Nat.zero_le _) ?_
  rintro k k1
  have hp : ((r.d.take k).map fun d => (⟨d, []⟩ : Spc)).length = k := by simp; omega
  by_cases hk : k < r.d.length
  · have hts := zeroS_take hk
    generalize (r.d.take k).map (fun d => (⟨d, []⟩ : Spc)) = X at hts hp ⊢
    repeat' first | refine s1 ?_ | (refine kR ?_; first | refine F.a1 Spc (a := ⟨r.d.getD k default, []⟩) ?_ (hmv := .at1 rfl (.em 1 .nil))) | fail
    exact ⟨k + 1, F.fit ⟨rfl, rfl, trivial⟩ ⟨obE (by rw [hts]), trivial⟩, by omega, by omega⟩
  · obtain rfl : k = r.d.length := by omega
    rw [List.take_length]
    have hml : (r.d.map fun d => (⟨d, []⟩ : Spc)).length = r.d.length := by simp
    rw [← hml]
    repeat' first | refine s1 ?_ | fail
    (refine kZ ?_; exact F.ret rfl)
theorem matImg_a {p : Int} {m : Mat} (h : isMat p m = true) : AC Tryz.prog 104 [.i p, .agg (enc false m)] [.dt true 1 (E true (pivC m.r.toNat (ent m) (redK p m.r.toNat (ent m) m.c.toNat).2))] := by
  obtain ⟨h0, h1, h2, h3, h4⟩ := isMat_spec h
  have := l4Image_a p m.r.toNat m.c.toNat (ent m) h0 (by omega) (by omega) (ent_bd h)
  rw [isMat_tm h] at this
  exact this
theorem pivC_vec {p : Int} {m : Mat} (h : isMat p m = true) : VecB p m.r.toNat (pivC m.r.toNat (ent m) (redK p m.r.toNat (ent m) m.c.toNat).2) ∧ (pivC m.r.toNat (ent m) (redK p m.r.toNat (ent m) m.c.toNat).2).length ≤ 8 := by
  obtain ⟨h0, h1, h2, h3, h4⟩ := isMat_spec h
  have hp := isF_pos h0
  obtain ⟨b1, b2, b3, b4⟩ := redK_bd (show 0 < p by omega) (ent_bd h) m.c.toNat
  refine ⟨fun x hx => ?_, by rw [pivC_len]; omega⟩
  simp only [pivC, List.mem_map] at hx
  obtain ⟨k, hk, rfl⟩ := hx
  exact ⟨rowL_len .., fun j hj => by rw [rowL_get _ hj]; exact ent_bd h j hj k (b4 k hk)⟩
theorem imgL5_a {p : Int} {m : Mat} (h : isMat p m = true) : AC Tryz.prog 103 [.i p, .i m.r, ar false (pivC m.r.toNat (ent m) (redK p m.r.toNat (ent m) m.c.toNat).2)] [.agg (enc true (imgS p m))] := by
  obtain ⟨h0, h1, h2, h3, h4⟩ := isMat_spec h
  obtain ⟨v1, v2⟩ := pivC_vec h
  have := l5Span_a p m.r.toNat _ h0 (by omega) (by omega) v1
  rw [span_cols h0 (ent_bd h), Int.toNat_of_nonneg h1.1] at this
  exact this
def radP (r : Rep) : List Spc × Bool := if isRep r = true then (radL r, true) else ([], false)
theorem specRadicalOf_a (r : Rep) : AC Tryz.prog 92 [.agg (enc false r)] [.dt true 2 (E true (radP r).1), .b (radP r).2] := by
  refine AC.go Tryz.func92 Tryz.ntmps92 rfl rfl fun w0 hw => ?_; simp [WfL, WfA, E_length, Enc.enc, In64] at hw
  have hF := specIsRep_a r
  unfold radP
  cases h : isRep r with
  | false =>
    rw [h] at hF
    rw [if_neg (by simp)]
    repeat' first | refine s1 ?_ | (refine kR ?_; first | refine F.c (hF) ?_) | fail
    (refine kZ ?_; exact F.ret rfl)
  | true =>
    rw [h] at hF
    rw [if_pos rfl]
    obtain ⟨r1, r2, r3, r4⟩ := isRep_spec h
    obtain ⟨c1, c2, c3, _⟩ := areDims_spec r2
    have h5 := okQ_spec c1
    have hZ := l12Zero_a r (by omega)
    have hl0 := radK_len r 0
    repeat' first | refine s1 ?_ | (refine kR ?_; first | refine F.c (hF) ?_ | refine F.c (hZ) ?_) | fail
    refine F.loop (σ := Nat) [5, 6, 13, 14, 15, 16, 17, 18, 19, 20, 21, 22, 23, 24, 25, 26, 27, 28, 29, 30, 31, 32, 33, 34, 35, 36, 37, 38, 39, 40, 41, 42, 43, 44, 45, 46, 47, 48, 49, 50, 51, 52, 53, 54] (fun k => [(5, .i k)]) (fun k => [(1, .live false 2 (E true (radK r k)))]) (fun k => k ≤ r.q.fr.length) (fun k => r.q.fr.length - k) 0 ⟨rfl, trivial⟩ ⟨rfl, trivial⟩ (Nat.zero_le _) ?_
    rintro k k1
    by_cases hk : k < r.q.fr.length
    · obtain ⟨q1', q2, q3, q4⟩ := radical_m h hk
      have hkm : k < r.m.length := by omega
      obtain ⟨o1, o2⟩ := radK_ok h k (by omega) (r.q.to.getD k default).toNat q3.2
      have hL := radK_len r k
      have hIm := matImg_a q2
      have hSp := imgL5_a q2
      generalize hRL : pivC _ _ _ = RL at hIm hSp
      rw [q4] at hSp
      have hAdd := addSpaces_a r.p ((radK r k).getD (r.q.to.getD k default).toNat default) (imgS r.p (r.m.getD k default)) o2 (imgS_ok q2) (by rw [o1]; exact q4)
      have hst : radK r (k + 1) = (radK r k).set (r.q.to.getD k default).toNat (addS r.p ((radK r k).getD (r.q.to.getD k default).toNat default) (imgS r.p (r.m.getD k default))) := rfl
      have hwI := (Int.toNat_of_nonneg q3.1).symm
      generalize hww : (r.q.to.getD k default).toNat = w at hwI hst hAdd q3
      generalize radK r k = L at hst hAdd hL ⊢
      generalize imgS r.p (r.m.getD k default) = IM at hSp hAdd hst
      generalize addS r.p (L.getD w default) IM = AS at hAdd hst
      have hwl : w < L.length := by omega
      have hbl : (E true L).length = (radK r 0).length := by rw [E_length, hL, hl0]
      have hself : L.set w (L.getD w default) = L := set_self hwl
      repeat' first | refine s1 ?_ | fail
      refine AW.takeE (α := Spc) (o := 1) (k := w) (j := 1) (ls := L) rfl hwl rfl (E_length _ _) ?_
      refine AW.draw 29 G.mixed (by kernel_rfl) ?_
      refine dP 0 ?_
      refine dP 1 ?_
      refine dP 2 ?_
      refine dL 3 ?_
      refine dP 4 ?_
      refine dP 5 ?_
      first | refine dP 6 ?_ | refine dP 6 ?_ (hs := by exact (A.idxT (k := w) rfl rfl rfl hbl hwI (by omega)))
      first | refine dL 7 ?_ | refine dL 7 ?_ (hs := by exact (A.ldSG (k := w) rfl rfl hbl (by omega) (by omega) rfl rfl))
      refine dP 8 ?_
      refine dL 9 ?_
      refine dP 10 ?_
      refine dL 11 ?_
      refine dP 12 ?_
      refine dP 13 ?_
      refine dL 14 ?_
      refine dP 15 ?_
      refine dL 16 ?_
      refine dP 17 ?_
      refine dL 18 ?_
      refine dP 19 ?_
      refine dP 20 ?_
      refine dL 21 ?_
      refine dO 22 true ?_
      first | refine s1 ?_ | refine F.c (hIm) ?_
      refine ARg.nil (ATh.normal ?_)
      refine dO 23 true ?_
      first | refine s1 ?_ | refine F.c (hSp) ?_
      refine ARg.nil (ATh.normal ?_)
      refine dO 24 true ?_
      first | refine s1 ?_ | refine F.c (hAdd) ?_
      refine ARg.nil (ATh.normal ?_)
      refine dP 25 ?_
      refine dP 26 ?_
      refine dP 27 ?_
      first | refine dP 28 ?_ | refine dP 28 ?_ (hs := by exact (A.idxT (k := w) rfl rfl rfl hbl hwI (by omega)))
      refine dO 29 false ?_
      first | refine s1 ?_ | (refine F.put (α := Spc) (o := 1) (o2 := 2) (k := w) (j := 1) (v := L.getD w default) (x := L.getD w default) (ls := L) rfl rfl (E_length _ _) (E_pure _ _) rfl hwl rfl rfl ?_; rw [hself]; refine F.stGE (α := Spc) (oo := true) (v := AS) rfl rfl rfl rfl rfl (by omega) (by omega) (.at1 rfl (.mv rfl (by simp) (E_length _ _) (E_pure _ _) .nil)) rfl rfl rfl rfl rfl ?_)
      refine ARg.nil (ATh.normal ?_)
      refine dN ?_
      rotate_left
      all_goals
        rw [Nat.zero_add w]
        repeat' first | refine s1 ?_ | fail
        exact ⟨k + 1, F.fit ⟨rfl, trivial⟩ ⟨obE (by rw [hst]), trivial⟩, by omega, by omega⟩
    · obtain rfl : k = r.q.fr.length := by omega
      have hL := radK_len r r.q.fr.length
      have e : radK r r.q.fr.length = radL r := rfl
      rw [e] at hL ⊢
      generalize radL r = L at hL ⊢
      repeat' first | refine s1 ?_ | fail
      (refine kZ ?_; exact F.ret rfl)
end Go.Proofs.YtedjajokbdokhaaGreat.V

/- Contracts of the laws' helpers on lists of spaces: equality, marks. -/
namespace Go.Proofs.YtedjajokbdokhaaGreat.V
open V.Enc (enc)
open Go.RowKit G D
set_option linter.unusedVariables false
set_option linter.unusedSimpArgs false
set_option maxHeartbeats 4000000
set_option maxRecDepth 4000
attribute [local irreducible] AW ARg ARA ARet MRet ASil AC AM

theorem eqSpace_s (s : Spc) : AC Tryz.prog 75 [.agg (enc false s), .agg (enc false s)] [.b true] := by
  refine AC.go Tryz.func75 Tryz.ntmps75 rfl rfl fun w0 hw => ?_; simp [WfL, WfA, E_length, Enc.enc, In64] at hw
  have hA := eqIntSS_a s.b s.b
  rw [decide_eq_true rfl] at hA
  repeat' first | refine s1 ?_ | (refine kR ?_; first | refine F.c (hA) ?_) | fail
  exact F.ret rfl
theorem eqSpaceS_s (ms : List Spc) : AC Tryz.prog 25 [ar false ms, ar false ms] [.b true] := by
  refine AC.go Tryz.func25 Tryz.ntmps25 rfl rfl fun w0 hw => ?_; simp [WfL, WfA, E_length, Enc.enc, In64] at hw
  repeat' first | refine s1 ?_ | fail
  refine F.loop (σ := Nat) [4, 5, 11, 12, 13, 14, 15, 16, 17, 18, 19, 20, 21, 22, 23, 24, 25, 26] (fun k => [(5, .i k)]) (fun _ => []) (fun k => k ≤ ms.length) (fun k => ms.length - k) 0 ⟨rfl, trivial⟩ trivial (Nat.zero_le _) ?_
  rintro k h1
  by_cases hlt : k < ms.length
  · have hA := eqSpace_s (ms.getD k default)
    repeat' first | refine s1 ?_ | fail
    refine AW.draw 10 G.mixed (by kernel_rfl) ?_
    refine dP 0 ?_
    refine dP 1 ?_
    refine dP 2 ?_
    refine dL 3 ?_
    refine dP 4 ?_
    refine dP 5 ?_
    refine dP 6 ?_
    refine dL 7 ?_
    refine dO 8 true ?_
    first | refine s1 ?_ | refine F.c (hA) ?_
    refine ARg.nil (ATh.normal ?_)
    refine dP 9 ?_
    refine dN ?_
    repeat' first | refine s1 ?_ | fail
    exact ⟨k + 1, F.fit ⟨rfl, trivial⟩ trivial, by omega, by omega⟩
  · repeat' first | refine s1 ?_ | fail
    exact F.ret rfl
def ctS (s : Spc) : Nat := cnt ctL s.b + 1
def lnS (s : Spc) : Nat := s.b.length
theorem ctS_ge (s : Spc) : 1 ≤ ctS s := by unfold ctS; omega
def mkSp (k : Int) (s : Spc) : Spc := ⟨k, mkSS (k + 1) s.b⟩
theorem markSpaceS_m (ms : List Spc) (k : Int) (h0 : 0 ≤ k) (h1 : k + cnt ctS ms + cnt lnS ms ≤ 4611686018427387904) : AM Tryz.prog 27 [.sl 0 ms.length 0 ms.length, .i k] [(2, E true ms)] [.i (k + cnt ctS ms)] [(2, E true (mkA mkSp ctS k ms))] := by
  refine AM.go Tryz.func27 Tryz.ntmps27 rfl rfl fun w0 mp hw => ?_; simp [WfL, WfA, E_length, Enc.enc, In64] at hw
  have hge := cnt_ge ctS_ge ms
  repeat' first | refine s1 ?_ | fail
  refine F.loop (σ := Nat) [1, 5, 6, 7, 8, 9, 10, 11, 12, 13, 14, 15, 16, 17, 18, 19, 20, 21, 22, 23, 24, 25] (fun j => [(1, .i (k + cnt ctS (ms.take j))), (5, .i j)]) (fun j => [(0, .live false 2 (E true (mkq mkSp ctS k ms j)))]) (fun j => j ≤ ms.length) (fun j => ms.length - j) 0 ⟨iE (by simp [cnt]), rfl, trivial⟩ ⟨obE (by rw [mkq_zero]), trivial⟩ (Nat.zero_le _) ?_
  rintro j h2
  have hp := mkq_len mkSp ctS (k := k) h2
  have hcl := cnt_le ctS (xs := ms) j
  by_cases hlt : j < ms.length
  · have hg := mkq_get mkSp ctS (k := k) hlt
    have hS := mkq_set mkSp ctS (k := k) hlt
    have hc2 := cnt_succ ctS hlt
    have hcl2 := cnt_le ctS (xs := ms) (j + 1)
    have hln := cnt_mem lnS (gm (d := default) hlt)
    generalize hL : mkq mkSp ctS k ms j = L at hp hg hS ⊢
    generalize hkk : k + ↑(cnt ctS (ms.take j)) = kk at hS ⊢
    have hct : ctS (ms.getD j default) = cnt ctL (ms.getD j default).b + 1 := rfl
    have hlnn : lnS (ms.getD j default) = (ms.getD j default).b.length := rfl
    generalize hRr : ms.getD j default = R at hg hS hct hc2 hln hlnn
    obtain ⟨rn, rb⟩ := R
    dsimp only at hct hlnn
    have hl6 : (mkSS (kk + 1) rb).length = rb.length := mkA_len _ _ _ _
    repeat' first | refine s1 ?_ | fail
    refine F.stE (α := Spc) (oo := true) ⟨kk, rb⟩ rfl rfl rfl rfl (by omega) (by omega) rfl (.at1 rfl .nil) rfl (by rw [Nat.zero_add, hg]; rfl) rfl rfl rfl ?_
    rw [Nat.zero_add j]
    generalize hL1 : L.set j ⟨kk, rb⟩ = L1
    have hp1 : L1.length = ms.length := by rw [← hL1]; simp [hp]
    have hg1 : L1.getD j default = ⟨kk, rb⟩ := by rw [← hL1, set_get (by omega)]
    repeat' first | refine s1 ?_ | fail
    refine F.ldTE (α := Spc) (j := 1) rfl rfl (by omega) (by omega) (by rw [Nat.zero_add j, hg1]; rfl) (E_length _ _) rfl rfl ?_
    rw [Nat.zero_add j]
    repeat' first | refine s1 ?_ | fail
    refine F.m [1] (markIntSS_m rb (kk + 1) (by omega) (by omega)) ?_
    refine F.put (α := Spc) (o := 0) (o2 := 1) (k := j) (j := 1) (v := ⟨kk, mkSS (kk + 1) rb⟩) (ls := L1) rfl rfl (by rw [E_length, hl6]) (E_pure _ _) rfl (by omega) rfl (by rw [hg1]; rfl) ?_
    have e : L1.set j ⟨kk, mkSS (kk + 1) rb⟩ = mkq mkSp ctS k ms (j + 1) := by
      rw [← hL1, List.set_set, ← hS]; rfl
    rw [e]
    repeat' first | refine s1 ?_ | fail
    exact ⟨j + 1, F.fit ⟨iE (by rw [hc2, hct]; push_cast; omega), rfl, trivial⟩ ⟨rfl, trivial⟩, by omega, by omega⟩
  · obtain rfl : j = ms.length := by omega
    rw [mkq_all] at hp ⊢
    rw [List.take_length]
    repeat' first | refine s1 ?_ | fail
    refine F.retM rfl ?_
    exact ⟨rfl, trivial⟩
theorem heldSpaceS_a (k : Int) (ms : List Spc) (h0 : 0 ≤ k) (h1 : k + cnt ctS ms + cnt lnS ms ≤ 4611686018427387904) : AC Tryz.prog 28 [ar false (mkA mkSp ctS k ms), .i k] [.i (k + cnt ctS ms)] := by
  refine AC.go Tryz.func28 Tryz.ntmps28 rfl rfl fun w0 hw => ?_; simp [WfL, WfA, E_length, Enc.enc, In64] at hw
  have hge := cnt_ge ctS_ge ms
  have hl : (mkA mkSp ctS k ms).length = ms.length := mkA_len _ _ _ _
  repeat' first | refine s1 ?_ | fail
  refine F.loop (σ := Nat) [1, 4, 5, 6, 7, 8, 9, 10, 11, 12, 13, 14, 15, 16, 17, 18, 19, 20, 21, 22, 23, 24, 25, 26, 27, 28, 29] (fun j => [(1, .i (k + cnt ctS (ms.take j))), (5, .i j)]) (fun _ => []) (fun j => j ≤ ms.length) (fun j => ms.length - j) 0 ⟨iE (by simp [cnt]), rfl, trivial⟩ trivial (Nat.zero_le _) ?_
  rintro j h2
  have hcl := cnt_le ctS (xs := ms) j
  by_cases hlt : j < ms.length
  · have hg : (mkA mkSp ctS k ms).getD j default = _ := mkA_get mkSp ctS (k := k) hlt
    have hc2 := cnt_succ ctS hlt
    have hcl2 := cnt_le ctS (xs := ms) (j + 1)
    have hln := cnt_mem lnS (gm (d := default) hlt)
    generalize hkk : k + ↑(cnt ctS (ms.take j)) = kk at hg ⊢
    have hct : ctS (ms.getD j default) = cnt ctL (ms.getD j default).b + 1 := rfl
    have hlnn : lnS (ms.getD j default) = (ms.getD j default).b.length := rfl
    generalize hx : ms.getD j default = x at hg hc2 hct hln hlnn
    have hA := heldIntSS_a (kk + 1) x.b (by omega) (by omega)
    have e0 : ((mkA mkSp ctS k ms).getD j default).n = kk := by rw [hg]; rfl
    have e1 : ((mkA mkSp ctS k ms).getD j default).b = mkSS (kk + 1) x.b := by rw [hg]; rfl
    rw [← e1] at hA
    repeat' first | refine s1 ?_ | (refine kR ?_; first | refine F.c (hA) ?_) | fail
    exact ⟨j + 1, F.fit ⟨iE (by rw [hc2, hct]; push_cast; omega), rfl, trivial⟩ trivial, by omega, by omega⟩
  · obtain rfl : j = ms.length := by omega
    rw [List.take_length]
    repeat' first | refine s1 ?_ | fail
    exact F.ret rfl
theorem markSpS_k (xs : List Spc) (k : Int) (h0 : 0 ≤ k) (h : k + cnt ctS xs + cnt lnS xs ≤ 4611686018427387904) : ∃ ys : List Spc, ys.length = xs.length ∧
    AM Tryz.prog 27 [.sl 0 xs.length 0 xs.length, .i k] [(2, E true xs)] [.i (k + cnt ctS xs)] [(2, E true ys)] ∧ AC Tryz.prog 28 [ar false ys, .i k] [.i (k + cnt ctS xs)] :=
  ⟨_, mkA_len _ _ _ _, markSpaceS_m xs k h0 h, heldSpaceS_a k xs h0 h⟩
theorem markSpS_o (xs : List Spc) (k : Int) (h0 : 0 ≤ k) (h : k + cnt ctS xs + cnt lnS xs ≤ 4611686018427387904) : ∃ ys : List Spc, ys.length = xs.length ∧
    AM Tryz.prog 27 [.sl 0 xs.length 0 xs.length, .i k] [(2, E true xs)] [.i (k + cnt ctS xs)] [(2, E true ys)] ∧ True :=
  ⟨_, mkA_len _ _ _ _, markSpaceS_m xs k h0 h, trivial⟩
end Go.Proofs.YtedjajokbdokhaaGreat.V

/- How much the radical's memory holds. No program is walked. -/
namespace Go.Proofs.YtedjajokbdokhaaGreat.V
open Go.RowKit G D
set_option linter.unusedVariables false
set_option linter.unusedSimpArgs false
set_option maxHeartbeats 400000
theorem spc_ct {p : Int} {s : Spc} (h : isSpc p s = true) : ctS s ≤ 129 ∧ lnS s ≤ 16 := by
  obtain ⟨h1, h2, h3, h4⟩ := isSpc_spec h
  have := cnt_bd (c := ctL) (B := 8) (xs := s.b) fun x hx => by
    have := (h4 x hx).1
    show x.length ≤ 8
    omega
  unfold ctS lnS
  omega
theorem radP_ct (r : Rep) : cnt ctS (radP r).1 + cnt lnS (radP r).1 ≤ 1000 := by
  unfold radP
  by_cases h : isRep r = true
  · rw [if_pos h]
    obtain ⟨r1, r2, r3, r4⟩ := isRep_spec h
    obtain ⟨c1, c2, c3, _⟩ := areDims_spec r2
    have h5 := okQ_spec c1
    have hl := radK_len r r.q.fr.length
    have key : ∀ x ∈ radL r, ctS x ≤ 129 ∧ lnS x ≤ 16 := fun x hx => by
      obtain ⟨v, hv, rfl⟩ := List.getElem_of_mem hx
      have hv' : v < r.d.length := by rw [← hl]; exact hv
      have := (radK_ok h r.q.fr.length (Nat.le_refl _) v hv').2
      have e : (radK r r.q.fr.length).getD v default = (radL r)[v] := by
        show (radL r).getD v default = _
        simp [hv]
      rw [e] at this
      exact spc_ct this
    have k1 := cnt_bd (c := ctS) (B := 129) (xs := radL r) fun x hx => (key x hx).1
    have k2 := cnt_bd (c := lnS) (B := 16) (xs := radL r) fun x hx => (key x hx).2
    have hl2 : (radL r).length = r.d.length := hl
    show cnt ctS (radL r) + cnt lnS (radL r) ≤ 1000
    omega
  · rw [if_neg h]; simp [cnt]
end Go.Proofs.YtedjajokbdokhaaGreat.V

/- Contracts: dimensions of spaces, and of the top. -/
namespace Go.Proofs.YtedjajokbdokhaaGreat.V
open V.Enc (enc)
open Go.RowKit G D
set_option linter.unusedVariables false
set_option linter.unusedSimpArgs false
set_option maxHeartbeats 4000000
set_option maxRecDepth 4000
attribute [local irreducible] AW ARg ARA ARet MRet ASil AC AM

def dimS (l : List Spc) : List Int := l.map fun s => (s.b.length : Int)
theorem dimS_take {l : List Spc} {k : Nat} (h : k < l.length) : dimS (l.take (k + 1)) = dimS (l.take k) ++ [((l.getD k default).b.length : Int)] := by
  have e : l.getD k default = l[k] := by simp [h]
  rw [dimS, List.take_succ_eq_append_getElem h, List.map_append, e]
  rfl
theorem dimS_len (l : List Spc) : (dimS l).length = l.length := by simp [dimS]
theorem subDims_a (l : List Spc) (hl : l.length ≤ 1000) (hb : ∀ i, i < l.length → (l.getD i default).b.length ≤ 1000) : AC Tryz.prog 139 [ar false l] [.dt true 1 (E true (dimS l))] := by
  refine AC.go Tryz.func139 Tryz.ntmps139 rfl rfl fun w0 hw => ?_; simp [WfL, WfA, E_length, Enc.enc, In64] at hw
  repeat' first | refine s1 ?_ | fail
  refine AW.open 3 1 (.inl rfl) ?_
  refine F.loop (σ := Nat) [3, 5, 8, 9, 10, 11, 12, 13, 14, 15, 16, 17, 18] (fun k => [(3, .sl 0 k 0 k), (8, .i k)]) (fun k => [(0, .live false 1 (E true (dimS (l.take k))))]) (fun k => k ≤ l.length) (fun k => l.length - k) 0 ⟨rfl, rfl, trivial⟩ ⟨rfl, trivial⟩ (Nat.zero_le _) ?_
  rintro k k1
  have hp : (dimS (l.take k)).length = k := by rw [dimS_len, List.length_take]; omega
  by_cases hk : k < l.length
  · have hts := dimS_take hk
    have hbk := hb k hk
    generalize dimS (l.take k) = X at hts hp ⊢
    repeat' first | refine s1 ?_ | (refine kR ?_; first | refine F.a1 Int ?_) | fail
    exact ⟨k + 1, F.fit ⟨rfl, rfl, trivial⟩ ⟨obE (by rw [hts]), trivial⟩, by omega, by omega⟩
  · obtain rfl : k = l.length := by omega
    rw [List.take_length]
    have hml := dimS_len l
    rw [← hml]
    repeat' first | refine s1 ?_ | fail
    (refine kZ ?_; exact F.ret rfl)
/-- what the parts' dimensions leave, for the first k vertices -/
def topK (d : List Int) (l : List Int) (k : Nat) : List Int := rowL l.length fun v => if v < k then d.getD v default - l.getD v default else l.getD v default
theorem topK_len (d l : List Int) (k : Nat) : (topK d l k).length = l.length := rowL_len ..
theorem topK_zero (d l : List Int) : topK d l 0 = l := by
  unfold topK
  rw [rowL_ext (g := fun v => l.getD v default) fun v hv => by simp]
  exact rowL_of rfl
theorem topK_get {d l : List Int} {k : Nat} (h : k < l.length) : (topK d l k).getD k default = l.getD k default := by
  unfold topK; rw [rowL_get _ h, if_neg (by omega)]
theorem topK_set {d l : List Int} {k : Nat} (h : k < l.length) : (topK d l k).set k (d.getD k default - l.getD k default) = topK d l (k + 1) := by
  apply List.ext_getElem (by simp [topK])
  intro i h1 h2
  rw [List.getElem_set]
  simp only [topK, rowL, List.getElem_map, List.getElem_range]
  by_cases e : k = i
  · subst e; simp
  · have : i < k + 1 ↔ i < k := by omega
    simp [e, this]
def topD (r : Rep) : List Int := if isRep r = true then topK r.d (dimS (radL r)) r.d.length else []
theorem rad_b {r : Rep} (h : isRep r = true) {v : Nat} (hv : v < r.d.length) : ((radL r).getD v default).b.length ≤ 16 := (isSpc_spec (radK_ok h r.q.fr.length (Nat.le_refl _) v hv).2).2.2.1
theorem implTopDims_a (r : Rep) : AC Tryz.prog 85 [.agg (enc false r)] [.dt true 1 (E true (topD r))] := by
  refine AC.go Tryz.func85 Tryz.ntmps85 rfl rfl fun w0 hw => ?_; simp [WfL, WfA, E_length, Enc.enc, In64] at hw
  have hF := implIsRep_a r
  unfold topD
  cases h : isRep r with
  | false =>
    rw [h] at hF
    rw [if_neg (by simp)]
    repeat' first | refine s1 ?_ | (refine kR ?_; first | refine F.c (hF) ?_) | fail
    (refine kZ ?_; exact F.ret rfl)
  | true =>
    rw [h] at hF
    rw [if_pos rfl]
    obtain ⟨r1, r2, r3, r4⟩ := isRep_spec h
    obtain ⟨c1, c2, c3, _⟩ := areDims_spec r2
    have h5 := okQ_spec c1
    have hR := radical_a r h
    have hl : (radL r).length = r.d.length := radK_len r r.q.fr.length
    have hD := subDims_a (radL r) (by omega) (fun i hi => by have := rad_b h (v := i) (by omega); omega)
    have hdl := dimS_len (radL r)
    have hdb : ∀ v, v < r.d.length → 0 ≤ (dimS (radL r)).getD v default ∧ (dimS (radL r)).getD v default ≤ 16 := fun v hv => by
      have e : (dimS (radL r)).getD v default = (((radL r).getD v default).b.length : Int) := by simp [dimS, hl, hv]
      have := rad_b h hv
      rw [e]; omega
    generalize dimS (radL r) = D0 at hD hdl hdb ⊢
    generalize radL r = L at hR hD hdl hl
    have hz := topK_zero r.d D0
    repeat' first | refine s1 ?_ | (refine kR ?_; first | refine F.c (hF) ?_ | refine F.c (hR) ?_ | refine F.c (hD) ?_) | fail
    refine F.loop (σ := Nat) [4, 13, 14, 15, 16, 17, 18, 19, 20, 21, 22, 23, 24, 25, 26, 27, 28, 29] (fun k => [(13, .i k)]) (fun k => [(2, .live false 1 (E true (topK r.d D0 k)))]) (fun k => k ≤ r.d.length) (fun k => r.d.length - k) 0 ⟨rfl, trivial⟩ ⟨obE (by rw [hz]), trivial⟩ (Nat.zero_le _) ?_
    rintro k k1
    have hkl := topK_len r.d D0 k
    by_cases hk : k < r.d.length
    · have hg := topK_get (d := r.d) (l := D0) (k := k) (by omega)
      have hs := topK_set (d := r.d) (l := D0) (k := k) (by omega)
      have hb := hdb k hk
      have hd : 0 ≤ r.d.getD k default ∧ r.d.getD k default ≤ 4 := allIn_spec c3 hk
      generalize topK r.d D0 k = X at hkl hg hs ⊢
      rw [← hg] at hb hs
      have hi : In64 (r.d.getD k default - X.getD (0 + k) default) := by rw [Nat.zero_add]; unfold In64; omega
      repeat' first | refine s1 ?_ | fail
      refine AW.draw 13 G.mixed (by kernel_rfl) ?_
      refine dP 0 ?_
      refine dP 1 ?_
      refine dP 2 ?_
      refine dL 3 ?_
      refine dP 4 ?_
      refine dP 5 ?_
      refine dL 6 ?_
      refine dP 7 ?_
      refine dP 8 ?_
      refine dP 9 ?_
      refine dL 10 ?_
      refine dP 11 ?_
      refine dP 12 ?_
      refine dO 13 false ?_
      refine s1 ?_
      refine ARg.nil (ATh.normal ?_)
      refine dN ?_
      repeat' first | refine s1 ?_ | fail
      exact ⟨k + 1, F.fit ⟨rfl, trivial⟩ ⟨obE (by rw [Nat.zero_add k, hs]), trivial⟩, by omega, by omega⟩
    · obtain rfl : k = r.d.length := by omega
      generalize topK r.d D0 r.d.length = X at hkl ⊢
      have hXl : X.length = L.length := by omega
      repeat' first | refine s1 ?_ | fail
      (refine kZ ?_; exact F.ret rfl)
theorem specTopDims_a (r : Rep) : AC Tryz.prog 80 [.agg (enc false r)] [.dt true 1 (E true (topD r))] := by
  refine AC.go Tryz.func80 Tryz.ntmps80 rfl rfl fun w0 hw => ?_; simp [WfL, WfA, E_length, Enc.enc, In64] at hw
  have hR := specRadicalOf_a r
  unfold topD
  cases h : isRep r with
  | false =>
    rw [show radP r = ([], false) by unfold radP; rw [if_neg (by simp [h])]] at hR
    rw [if_neg (by simp)]
    repeat' first | refine s1 ?_ | (refine kR ?_; first | refine F.c (hR) ?_) | fail
    refine F.loop (σ := Nat) [5, 6, 13, 14, 15, 16, 17, 18, 19, 20, 21, 22, 23, 24, 25, 26, 27, 28, 29, 30, 31, 32, 33, 34, 35, 36] (fun k => [(5, .em), (6, .i 0)]) (fun _ => []) (fun _ => True) (fun _ => 0) 0 ⟨rfl, rfl, trivial⟩ trivial trivial ?_
    rintro k _
    repeat' first | refine s1 ?_ | fail
    (refine kZ ?_; exact F.ret rfl)
  | true =>
    rw [show radP r = (radL r, true) by unfold radP; rw [if_pos h]] at hR
    rw [if_pos rfl]
    obtain ⟨r1, r2, r3, r4⟩ := isRep_spec h
    obtain ⟨c1, c2, c3, _⟩ := areDims_spec r2
    have h5 := okQ_spec c1
    have hl : (radL r).length = r.d.length := radK_len r r.q.fr.length
    have hbv := fun v hv => rad_b h (v := v) hv
    have hTl := topK_len r.d (dimS (radL r)) r.d.length
    have hTt : ∀ k, k < r.d.length → (topK r.d (dimS (radL r)) r.d.length).take (k + 1) = (topK r.d (dimS (radL r)) r.d.length).take k ++ [r.d.getD k default - (((radL r).getD k default).b.length : Int)] := fun k hk => by
      unfold topK
      rw [rowL_take _ (by rw [dimS_len]; omega), if_pos hk]
      have e : (dimS (radL r)).getD k default = (((radL r).getD k default).b.length : Int) := by simp [dimS, hl, hk]
      rw [e]
    rw [dimS_len, hl] at hTl
    generalize topK r.d (dimS (radL r)) r.d.length = T at hTl hTt ⊢
    generalize radL r = L at hR hl hbv hTt
    repeat' first | refine s1 ?_ | (refine kR ?_; first | refine F.c (hR) ?_) | fail
    refine AW.lend (o := 1) rfl ?_
    refine AW.open 5 1 (.inr rfl) ?_
    refine F.loop (σ := Nat) [5, 6, 13, 14, 15, 16, 17, 18, 19, 20, 21, 22, 23, 24, 25, 26, 27, 28, 29, 30, 31, 32, 33, 34, 35, 36] (fun k => [(5, .sl 2 k 0 k), (6, .i k)]) (fun k => [(2, .live false 1 (E true (T.take k)))]) (fun k => k ≤ r.d.length) (fun k => r.d.length - k) 0 ⟨rfl, rfl, trivial⟩ ⟨rfl, trivial⟩ (Nat.zero_le _) ?_
    rintro k k1
    have hp : (T.take k).length = k := by rw [List.length_take]; omega
    by_cases hk : k < r.d.length
    · have hts := hTt k hk
      have hb := hbv k hk
      have hd : 0 ≤ r.d.getD k default ∧ r.d.getD k default ≤ 4 := allIn_spec c3 hk
      rw [← Nat.zero_add k] at hb
      have hi : In64 (r.d.getD k default - ((L.getD (0 + k) default).b.length : Int)) := by unfold In64; omega
      repeat' first | refine s1 ?_ | fail
      refine AW.draw 14 G.mixed (by kernel_rfl) ?_
      refine dP 0 ?_
      refine dP 1 ?_
      refine dL 2 ?_
      refine dP 3 ?_
      refine dP 4 ?_
      refine dL 5 ?_
      refine dP 6 ?_
      refine dP 7 ?_
      refine dP 8 ?_
      refine dP 9 ?_
      refine dL 10 ?_
      refine dP 11 ?_
      refine dP 12 ?_
      refine dO 13 true ?_
      refine s1 ?_
      refine ARg.nil (ATh.normal ?_)
      refine dO 14 false ?_
      first | refine s1 ?_ | refine F.a1 Int ?_
      refine ARg.nil (ATh.normal ?_)
      refine dP 15 ?_
      refine dN ?_
      repeat' first | refine s1 ?_ | fail
      exact ⟨k + 1, F.fit ⟨rfl, rfl, trivial⟩ ⟨obE (by rw [hts, Nat.zero_add k]), trivial⟩, by omega, by omega⟩
    · obtain rfl : k = r.d.length := by omega
      have e : T.take r.d.length = T := List.take_of_length_le (by omega)
      rw [e]
      rw [← hTl]
      clear hp e
      repeat' first | refine s1 ?_ | fail
      (refine kZ ?_; exact F.ret rfl)
theorem topD_len (r : Rep) : (topD r).length ≤ 1000 := by
  unfold topD
  by_cases h : isRep r = true
  · rw [if_pos h, topK_len, dimS_len]
    obtain ⟨r1, r2, r3, r4⟩ := isRep_spec h
    obtain ⟨c1, c2, c3, _⟩ := areDims_spec r2
    have h5 := okQ_spec c1
    have hl : (radL r).length = r.d.length := radK_len r r.q.fr.length
    omega
  · rw [if_neg h]; simp
end Go.Proofs.YtedjajokbdokhaaGreat.V
