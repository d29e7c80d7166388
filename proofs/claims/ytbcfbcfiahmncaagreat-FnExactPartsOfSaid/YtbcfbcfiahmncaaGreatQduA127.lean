/- Texts that the proof needs: Ul, A43, A127. -/
import Derived.Test.YtbcfbcfiahmncaaGreatQduA119
namespace Go.Proofs.YtbcfbcfiahmncaaGreat.V
open Go.RowKit G
set_option linter.unusedVariables false
section
variable {P : Program} {n : Nat} {w0 : World} {MP : Fr} {Q : Exit → St → Prop} {E : Nat → AV} {hp : Nat → Ob} {nx : Nat} {lb : Bool} {ops : Array Oper} {os : List Oper}
theorem F.freezeG {α : Type} [Enc α] (t j : Nat) {o m sz : Nat} {l oo : Bool} {ls : List α} {cs : List AV} (ht : E t = .agg cs) (hj : cs[j]? = some (.sl o m 0 m)) (hh : hp o = .live l sz (V.E oo ls)) (hn : ls.length = m) (h : ARg P n w0 MP lb ops os Q ⟨updA E t (.agg (cs.set j (.dt false sz (V.E false ls)))), updA hp o .dead, nx⟩) : ARg P n w0 MP lb ops os Q ⟨E, hp, nx⟩ :=
 ARg.ghost (fun E' w hs => Sim.freezeG (st := ⟨E, hp, nx⟩) ht hj hh (by rw [E_length, hn]) (E_pure oo ls) (by rw [E_drop, E_take, E_frz, take_all hn]) hs) h
end
end Go.Proofs.YtbcfbcfiahmncaaGreat.V
namespace Go.Proofs.YtbcfbcfiahmncaaGreat.V
open Go.RowKit G D
set_option linter.unusedVariables false
set_option linter.unusedSimpArgs false
set_option maxHeartbeats 4000000
set_option maxRecDepth 4000
attribute [local irreducible] AW ARg ARA ARet MRet ASil AC AM
def totRS (rs : List Rep) : Nat := rs.length + cnt totR rs
theorem eqRepS_s (ms : List Rep) : AC Tryz.prog 15 [ar false ms, ar false ms] [.b true] := by
 refine AC.go Tryz.func15 Tryz.ntmps15 rfl rfl fun w0 hw => ?_; simp [WfL, WfA, E_length, Enc.enc, In64] at hw
 repeat' first | refine s1 ?_ | fail
 refine F.loop (σ := Nat) [4, 5, 11, 12, 13, 14, 15, 16, 17, 18, 19, 20, 21, 22, 23, 24, 25, 26] (fun k => [(5, .i k)]) (fun _ => []) (fun k => k ≤ ms.length) (fun k => ms.length - k) 0 ⟨rfl, trivial⟩ trivial (Nat.zero_le _) ?_
 rintro k h1
 by_cases hlt : k < ms.length
 ·have hA := eqRep_s (ms.getD k default)
  repeat' first | refine s1 ?_ | fail
  refine AW.draw 10 G.mixed (by kernel_rfl) ?_
  refine dP 0 ?_
  refine dP 1 ?_
  refine dP 2 ?_
  refine dL 3 ?_
  refine dP 4 ?_
  refine dP 5 ?_
  refine dP 6 ?_
  refine dL 7 ?_
  refine dO 8 true ?_
  first | refine s1 ?_ | refine F.c (hA) ?_
  refine tN ?_
  refine dP 9 ?_
  refine dN ?_
  repeat' first | refine s1 ?_ | fail
  exact ⟨k + 1, F.fit ⟨rfl, trivial⟩ trivial, by omega, by omega⟩
 ·repeat' first | refine s1 ?_ | fail
  exact F.ret rfl
def ctX (r : Rep) : Nat := ctR r + 2
theorem ctX_ge (r : Rep) : 1 ≤ ctX r := by unfold ctX; omega
def mkX (k : Int) (r : Rep) : Rep := ⟨k, ⟨k + 1, (mkQ (k + 2) r.q).fr, (mkQ (k + 2) r.q).to⟩, mkL (k + 2 + totQ r.q) r.d.length, mkMS (k + 2 + totQ r.q + r.d.length) r.m⟩
theorem markRepS_m (ms : List Rep) (k : Int) (h0 : 0 ≤ k) (h1 : k + cnt ctX ms ≤ 4611686018427387904) : AM Tryz.prog 20 [.sl 0 ms.length 0 ms.length, .i k] [(6, E true ms)] [.i (k + cnt ctX ms)] [(6, E true (mkA mkX ctX k ms))] := by
 refine AM.go Tryz.func20 Tryz.ntmps20 rfl rfl fun w0 mp hw => ?_; simp [WfL, WfA, E_length, Enc.enc, In64] at hw
 have hge := cnt_ge ctX_ge ms
 repeat' first | refine s1 ?_ | fail
 refine F.loop (σ := Nat) [1, 5, 6, 7, 8, 9, 10, 11, 12, 13, 14, 15, 16, 17, 18, 19, 20, 21, 22, 23, 24, 25, 26, 27, 28, 29, 30, 31, 32, 33, 34, 35, 36, 37, 38, 39, 40, 41, 42, 43, 44, 45, 46, 47, 48, 49, 50, 51, 52, 53, 54, 55, 56] (fun j => [(1, .i (k + cnt ctX (ms.take j))), (5, .i j)]) (fun j => [(0, .live false 6 (E true (mkq mkX ctX k ms j)))]) (fun j => j ≤ ms.length) (fun j => ms.length - j) 0 ⟨iE (by simp [cnt]), rfl, trivial⟩ ⟨obE (by rw [mkq_zero]), trivial⟩ (Nat.zero_le _) ?_
 rintro j h2
 have hp := mkq_len mkX ctX (k := k) h2
 have hcl := cnt_le ctX (xs := ms) j
 by_cases hlt : j < ms.length
 ·have hg := mkq_get mkX ctX (k := k) hlt
  have hS := mkq_set mkX ctX (k := k) hlt
  have hc2 := cnt_succ ctX hlt
  have hcl2 := cnt_le ctX (xs := ms) (j + 1)
  generalize hL : mkq mkX ctX k ms j = L at hp hg hS ⊢
  generalize hkk : k + ↑(cnt ctX (ms.take j)) = kk at hS ⊢
  have hct : ctX (ms.getD j default) = totQ (ms.getD j default).q + (ms.getD j default).d.length + cnt ctM (ms.getD j default).m + 2 := rfl
  have htq : totQ (ms.getD j default).q = (ms.getD j default).q.fr.length + (ms.getD j default).q.to.length := rfl
  generalize hRr : ms.getD j default = R at hg hS hct hc2 htq
  obtain ⟨rp, ⟨rn, rfr, rto⟩, rd, rm⟩ := R
  dsimp only at hct htq
  repeat' first | refine s1 ?_ | fail
  refine F.stE (α := Rep) (oo := true) ⟨kk, ⟨rn, rfr, rto⟩, rd, rm⟩ rfl rfl rfl rfl (by omega) (by omega) rfl (.at1 rfl .nil) rfl (by rw [Nat.zero_add, hg]; rfl) rfl rfl rfl ?_
  rw [Nat.zero_add j]
  generalize hL1 : L.set j ⟨kk, ⟨rn, rfr, rto⟩, rd, rm⟩ = L1
  have hp1 : L1.length = ms.length := by rw [← hL1]; simp [hp]
  have hg1 : L1.getD j default = ⟨kk, ⟨rn, rfr, rto⟩, rd, rm⟩ := by rw [← hL1, set_get (by omega)]
  repeat' first | refine s1 ?_ | fail
  refine F.stE (α := Rep) (oo := true) ⟨kk, ⟨kk + 1, rfr, rto⟩, rd, rm⟩ rfl rfl rfl rfl (by omega) (by omega) rfl (.at1 rfl .nil) rfl (by rw [Nat.zero_add j, hg1]; rfl) rfl rfl rfl ?_
  rw [Nat.zero_add j]
  generalize hL2 : L1.set j ⟨kk, ⟨kk + 1, rfr, rto⟩, rd, rm⟩ = L2
  have hp2 : L2.length = ms.length := by rw [← hL2]; simp [hp1]
  have hg2 : L2.getD j default = ⟨kk, ⟨kk + 1, rfr, rto⟩, rd, rm⟩ := by rw [← hL2, set_get (by omega)]
  repeat' first | refine s1 ?_ | fail
  refine F.ldTE (α := Rep) (j := 2) rfl rfl (by omega) (by omega) (by rw [Nat.zero_add j, hg2]; rfl) (E_length _ _) rfl rfl ?_
  rw [Nat.zero_add j]
  repeat' first | refine s1 ?_ | fail
  refine F.m [1] (markIntS_m rfr (kk + 1 + 1) (by omega) (by omega)) ?_
  refine F.put (α := Rep) (o := 0) (o2 := 1) (k := j) (j := 2) (v := ⟨kk, ⟨kk + 1, mkL (kk + 1 + 1) rfr.length, rto⟩, rd, rm⟩) (ls := L2) rfl rfl (by rw [E_length, mkL_len]) (E_pure _ _) rfl (by omega) rfl (by rw [hg2]; rfl) ?_
  generalize hL3 : L2.set j ⟨kk, ⟨kk + 1, mkL (kk + 1 + 1) rfr.length, rto⟩, rd, rm⟩ = L3
  have hp3 : L3.length = ms.length := by rw [← hL3]; simp [hp2]
  have hg3 : L3.getD j default = ⟨kk, ⟨kk + 1, mkL (kk + 1 + 1) rfr.length, rto⟩, rd, rm⟩ := by rw [← hL3, set_get (by omega)]
  repeat' first | refine s1 ?_ | fail
  refine F.ldTE (α := Rep) (j := 3) rfl rfl (by omega) (by omega) (by rw [Nat.zero_add j, hg3]; rfl) (E_length _ _) rfl rfl ?_
  rw [Nat.zero_add j]
  repeat' first | refine s1 ?_ | fail
  refine F.m [2] (markIntS_m rto (kk + 1 + 1 + rfr.length) (by omega) (by omega)) ?_
  refine F.put (α := Rep) (o := 0) (o2 := 2) (k := j) (j := 3) (v := ⟨kk, ⟨kk + 1, mkL (kk + 1 + 1) rfr.length, mkL (kk + 1 + 1 + rfr.length) rto.length⟩, rd, rm⟩) (ls := L3) rfl rfl (by rw [E_length, mkL_len]) (E_pure _ _) rfl (by omega) rfl (by rw [hg3]; rfl) ?_
  generalize hL4 : L3.set j ⟨kk, ⟨kk + 1, mkL (kk + 1 + 1) rfr.length, mkL (kk + 1 + 1 + rfr.length) rto.length⟩, rd, rm⟩ = L4
  have hp4 : L4.length = ms.length := by rw [← hL4]; simp [hp3]
  have hg4 : L4.getD j default = ⟨kk, ⟨kk + 1, mkL (kk + 1 + 1) rfr.length, mkL (kk + 1 + 1 + rfr.length) rto.length⟩, rd, rm⟩ := by rw [← hL4, set_get (by omega)]
  repeat' first | refine s1 ?_ | fail
  refine F.ldTE (α := Rep) (j := 4) rfl rfl (by omega) (by omega) (by rw [Nat.zero_add j, hg4]; rfl) (E_length _ _) rfl rfl ?_
  rw [Nat.zero_add j]
  repeat' first | refine s1 ?_ | fail
  refine F.m [3] (markIntS_m rd (kk + 1 + 1 + rfr.length + rto.length) (by omega) (by omega)) ?_
  refine F.put (α := Rep) (o := 0) (o2 := 3) (k := j) (j := 4) (v := ⟨kk, ⟨kk + 1, mkL (kk + 1 + 1) rfr.length, mkL (kk + 1 + 1 + rfr.length) rto.length⟩, mkL (kk + 1 + 1 + rfr.length + rto.length) rd.length, rm⟩) (ls := L4) rfl rfl (by rw [E_length, mkL_len]) (E_pure _ _) rfl (by omega) rfl (by rw [hg4]; rfl) ?_
  generalize hL5 : L4.set j ⟨kk, ⟨kk + 1, mkL (kk + 1 + 1) rfr.length, mkL (kk + 1 + 1 + rfr.length) rto.length⟩, mkL (kk + 1 + 1 + rfr.length + rto.length) rd.length, rm⟩ = L5
  have hp5 : L5.length = ms.length := by rw [← hL5]; simp [hp4]
  have hg5 : L5.getD j default = ⟨kk, ⟨kk + 1, mkL (kk + 1 + 1) rfr.length, mkL (kk + 1 + 1 + rfr.length) rto.length⟩, mkL (kk + 1 + 1 + rfr.length + rto.length) rd.length, rm⟩ := by rw [← hL5, set_get (by omega)]
  repeat' first | refine s1 ?_ | fail
  refine F.ldTE (α := Rep) (j := 5) rfl rfl (by omega) (by omega) (by rw [Nat.zero_add j, hg5]; rfl) (E_length _ _) rfl rfl ?_
  rw [Nat.zero_add j]
  repeat' first | refine s1 ?_ | fail
  have hl6 : (mkMS (kk + 1 + 1 + rfr.length + rto.length + rd.length) rm).length = rm.length := mkA_len _ _ _ _
  refine F.m [4] (markMatrixS_m rm (kk + 1 + 1 + rfr.length + rto.length + rd.length) (by omega) (by omega)) ?_
  refine F.put (α := Rep) (o := 0) (o2 := 4) (k := j) (j := 5) (v := ⟨kk, ⟨kk + 1, mkL (kk + 1 + 1) rfr.length, mkL (kk + 1 + 1 + rfr.length) rto.length⟩, mkL (kk + 1 + 1 + rfr.length + rto.length) rd.length, mkMS (kk + 1 + 1 + rfr.length + rto.length + rd.length) rm⟩) (ls := L5) rfl rfl (by rw [E_length, hl6]) (E_pure _ _) rfl (by omega) rfl (by rw [hg5]; rfl) ?_
  have e : L5.set j ⟨kk, ⟨kk + 1, mkL (kk + 1 + 1) rfr.length, mkL (kk + 1 + 1 + rfr.length) rto.length⟩, mkL (kk + 1 + 1 + rfr.length + rto.length) rd.length, mkMS (kk + 1 + 1 + rfr.length + rto.length + rd.length) rm⟩ = mkq mkX ctX k ms (j + 1) := by
   rw [← hL5, ← hL4, ← hL3, ← hL2, ← hL1, List.set_set, List.set_set, List.set_set, List.set_set, List.set_set, ← hS]
   congr 1
   have a1 : kk + 1 + 1 = kk + 2 := by omega
   have a2 : kk + 1 + 1 + (rfr.length : Int) = kk + 2 + rfr.length := by omega
   have a3 : kk + 1 + 1 + (rfr.length : Int) + rto.length = kk + 2 + totQ (⟨rn, rfr, rto⟩ : Quiv) := by simp only [totQ]; push_cast; omega
   have a4 : kk + 1 + 1 + (rfr.length : Int) + rto.length + rd.length = kk + 2 + totQ (⟨rn, rfr, rto⟩ : Quiv) + rd.length := by rw [a3]
   simp only [mkX, mkQ]
   rw [a3, a2, a1]
  rw [e]
  repeat' first | refine s1 ?_ | fail
  exact ⟨j + 1, F.fit ⟨iE (by rw [hc2, hct]; push_cast; omega), rfl, trivial⟩ ⟨rfl, trivial⟩, by omega, by omega⟩
 ·obtain rfl : j = ms.length := by omega
  rw [mkq_all] at hp ⊢
  rw [List.take_length]
  repeat' first | refine s1 ?_ | fail
  refine F.retM rfl ?_
  exact ⟨rfl, trivial⟩
end Go.Proofs.YtbcfbcfiahmncaaGreat.V
namespace Go.Proofs.YtbcfbcfiahmncaaGreat.V
open Go.RowKit G D
set_option linter.unusedVariables false
set_option linter.unusedSimpArgs false
set_option maxHeartbeats 4000000
set_option maxRecDepth 4000
attribute [local irreducible] AW ARg ARA ARet MRet ASil AC AM ARI
theorem rep_ct {r : Rep} (h : isRep r = true) : ctX r ≤ 1000 := by
 obtain ⟨r1, r2, r3, r4⟩ := isRep_spec h
 obtain ⟨c1, c2, c3, c4⟩ := areDims_spec r2
 have h5 := okQ_spec c1
 have hM : cnt ctM r.m ≤ r.m.length * 66 := cnt_bd fun x hx => by
  obtain ⟨i, hi, e⟩ := List.getElem_of_mem hx
  have h1 := (arrow_ok h hi).1
  have e2 : r.m.getD i default = x := by simp [hi, e]
  rw [e2] at h1
  obtain ⟨_, x1, x2, x3, _⟩ := isMat_spec h1
  have := Nat.mul_le_mul (show x.r.toNat ≤ 8 by omega) (show x.c.toNat ≤ 8 by omega)
  have e3 := congrArg (fun m : Mat => m.m.length) (isMat_tm h1)
  simp only [tm, tab_len] at e3
  show x.m.length + 2 ≤ 66
  omega
 simp only [ctX, ctR, totQ]
 omega
theorem psP_ct (r : Rep) : cnt ctX (psP r).1 + cnt ctM (psP r).2.1 ≤ 20000 := by
 by_cases h : isRep r = true ∧ r.d.sum ≠ 0
 ·obtain ⟨hr, h0⟩ := h
  cases hk : (ptP r).2.2 with
  | false => rw [psP_no2 hk]; simp [cnt]
  | true =>
   rw [psP_yes hr h0 hk]
   have hsm := rep_sum hr
   obtain ⟨r1, r2, r3, r4⟩ := isRep_spec hr
   obtain ⟨c1, c2, c3, c4⟩ := areDims_spec r2
   have h5 := okQ_spec c1
   have hok := pt_ok r.d.sum.toNat r hr (by omega)
   rw [show ptN r.d.sum.toNat r = ptP r from rfl] at hok
   have hcf := fun v (hv : v < r.d.length) i (hi : i < (ptP r).2.1.length) => colF hr hok (v := v) hv hi
   generalize ptP r = X at hok hcf
   obtain ⟨X1, X2, X3⟩ := X
   have hl := hok.len
   have hle := hok.le
   dsimp only at hl hle hcf ⊢
   have hA : cnt ctX X1 ≤ X1.length * 1000 := cnt_bd fun x hx => by
    obtain ⟨i, hi, e⟩ := List.getElem_of_mem hx
    have h1 := hok.mor i hi
    have e2 : X1.getD i default = x := by simp [hi, e]
    rw [show (X1, X2, X3).1.getD i default = X1.getD i default from rfl, e2] at h1
    exact rep_ct (fitR_reps (areM_spec (isMor_are h1)).1).1
   have hB : cnt ctM (wholeL r X2) ≤ (wholeL r X2).length * 2000 := cnt_bd fun x hx => by
    obtain ⟨v, hv, e⟩ := List.getElem_of_mem hx
    rw [wholeL_len] at hv
    have e2 : (wholeL r X2).getD v default = x := by simp [wholeL_len, hv, e]
    rw [wholeL_get hv] at e2
    have hd : 0 ≤ r.d.getD v default ∧ r.d.getD v default ≤ 4 := allIn_spec c3 hv
    have hb : besC (clmL X2 v) X2.length ≤ 400 := by
     have := besC_le (L := clmL X2 v) (b := 8) (fun i hi => by
      rw [clmL_len] at hi
      rw [clmL_get hi]
      obtain ⟨a1, a2, a3, a4, a5⟩ := mor_ok (hok.mor i (show i < X1.length by omega))
      obtain ⟨b1, b2, b3⟩ := a5 v (by
       have := (hcf v hv i hi).len
       exact this)
      have := (isMat_spec b1).2.2.1
      have e9 : (X2.getD i default).getD v default = ((X1, X2, X3).2.1.getD i default).getD v default := rfl
      rw [e9]
      omega) X2.length (by rw [clmL_len]; omega)
     omega
    have := Nat.mul_le_mul (show (r.d.getD v default).toNat ≤ 4 by omega) hb
    rw [← e2]
    show (tab (r.d.getD v default).toNat (besC (clmL X2 v) X2.length) _).length + 2 ≤ 2000
    rw [tab_len]
    omega
   rw [wholeL_len] at hB
   omega
 ·rw [psP_no1 h]; simp [cnt]
theorem heldRepS_a (k : Int) (ms : List Rep) (h0 : 0 ≤ k) (h1 : k + cnt ctX ms ≤ 4611686018427387904) : AC Tryz.prog 22 [ar false (mkA mkX ctX k ms), .i k] [.i (k + cnt ctX ms)] := by
 refine AC.go Tryz.func22 Tryz.ntmps22 rfl rfl fun w0 hw => ?_; simp [WfL, WfA, E_length, Enc.enc, In64] at hw
 have hge := cnt_ge ctX_ge ms
 have hl : (mkA mkX ctX k ms).length = ms.length := mkA_len _ _ _ _
 repeat' first | refine s1 ?_ | fail
 refine F.loop (σ := Nat) [1, 4, 5, 6, 7, 8, 9, 10, 11, 12, 13, 14, 15, 16, 17, 18, 19, 20, 21, 22, 23, 24, 25, 26, 27, 28, 29, 30, 31, 32, 33, 34, 35, 36, 37, 38, 39, 40, 41, 42, 43, 44, 45, 46, 47, 48, 49, 50, 51, 52, 53, 54, 55, 56, 57, 58, 59, 60, 61, 62, 63, 64, 65, 66, 67, 68] (fun j => [(1, .i (k + cnt ctX (ms.take j))), (5, .i j)]) (fun _ => []) (fun j => j ≤ ms.length) (fun j => ms.length - j) 0 ⟨iE (by simp [cnt]), rfl, trivial⟩ trivial (Nat.zero_le _) ?_
 rintro j h2
 have hcl := cnt_le ctX (xs := ms) j
 by_cases hlt : j < ms.length
 ·have hg : (mkA mkX ctX k ms).getD j default = _ := mkA_get mkX ctX (k := k) hlt
  have hc2 := cnt_succ ctX hlt
  have hcl2 := cnt_le ctX (xs := ms) (j + 1)
  generalize hkk : k + ↑(cnt ctX (ms.take j)) = kk at hg ⊢
  have hct : ctX (ms.getD j default) = totQ (ms.getD j default).q + (ms.getD j default).d.length + cnt ctM (ms.getD j default).m + 2 := rfl
  have htq : totQ (ms.getD j default).q = (ms.getD j default).q.fr.length + (ms.getD j default).q.to.length := rfl
  generalize hx : ms.getD j default = x at hg hc2 hct htq
  have hA := heldIntS_a (kk + 2) x.q.fr.length (by omega) (by omega)
  have hB := heldIntS_a (kk + 2 + x.q.fr.length) x.q.to.length (by omega) (by omega)
  have hC := heldIntS_a (kk + 2 + totQ x.q) x.d.length (by omega) (by omega)
  have hD := heldMatrixS_a (kk + 2 + totQ x.q + x.d.length) x.m (by omega) (by omega)
  have e0 : ((mkA mkX ctX k ms).getD j default).p = kk := by rw [hg]; rfl
  have e1 : ((mkA mkX ctX k ms).getD j default).q.n = kk + 1 := by rw [hg]; rfl
  have e2 : ((mkA mkX ctX k ms).getD j default).q.fr = mkL (kk + 2) x.q.fr.length := by rw [hg]; rfl
  have e3 : ((mkA mkX ctX k ms).getD j default).q.to = mkL (kk + 2 + x.q.fr.length) x.q.to.length := by rw [hg]; rfl
  have e4 : ((mkA mkX ctX k ms).getD j default).d = mkL (kk + 2 + totQ x.q) x.d.length := by rw [hg]; rfl
  have e5 : ((mkA mkX ctX k ms).getD j default).m = mkMS (kk + 2 + totQ x.q + x.d.length) x.m := by rw [hg]; rfl
  rw [← e2] at hA
  rw [← e3] at hB
  rw [← e4] at hC
  rw [← e5] at hD
  have a2 : kk + 2 + ((totQ x.q : Nat) : Int) = kk + 2 + x.q.fr.length + x.q.to.length := by rw [htq]; push_cast; omega
  rw [a2] at hC hD
  rw [show kk + 2 = kk + 1 + 1 by omega] at hA hB hC hD
  repeat' first | refine s1 ?_ | (refine kR ?_; first | refine F.c (hA) ?_ | refine F.c (hB) ?_ | refine F.c (hC) ?_ | refine F.c (hD) ?_) | fail
  exact ⟨j + 1, F.fit ⟨iE (by rw [hc2, hct, htq]; push_cast; omega), rfl, trivial⟩ trivial, by omega, by omega⟩
 ·obtain rfl : j = ms.length := by omega
  rw [List.take_length]
  repeat' first | refine s1 ?_ | fail
  exact F.ret rfl
theorem markRS_h (xs : List Rep) (k : Int) (h0 : 0 ≤ k) (h : k + cnt ctX xs ≤ 4611686018427387904) : ∃ ys : List Rep, ys.length = xs.length ∧
  AM Tryz.prog 20 [.sl 0 xs.length 0 xs.length, .i k] [(6, E true xs)] [.i (k + cnt ctX xs)] [(6, E true ys)] ∧ AC Tryz.prog 22 [ar false ys, .i k] [.i (k + cnt ctX xs)] :=
 ⟨_, mkA_len _ _ _ _, markRepS_m xs k h0 h, heldRepS_a k xs h0 h⟩
end Go.Proofs.YtbcfbcfiahmncaaGreat.V
