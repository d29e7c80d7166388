/- Contract: the matrix of the equations of morphisms. -/
import Derived.Test.YtcalkmlaodjpaaaA28
import Derived.Test.YtcalkmlaodjpaaaA14
namespace Go.Proofs.Ytcalkmlaodjpaaa.V
open V.Enc (enc)
open Go.RowKit G D
set_option linter.unusedVariables false
set_option linter.unusedSimpArgs false
set_option maxHeartbeats 4000000
set_option maxRecDepth 4000
attribute [local irreducible] AW ARg ARA ARet MRet ASil AC AM

theorem castE {s j k c : Nat} {x : Int} (hx : x = (c : Int)) : (s : Int) + (j : Int) * x + (k : Int) = ((s + j * c + k : Nat) : Int) := by subst hx; push_cast; rfl
theorem castG {j k c : Nat} {x : Int} (hx : x = (c : Int)) : (j : Int) * x + (k : Int) = ((j * c + k : Nat) : Int) := by subst hx; push_cast; rfl
theorem in44 {j c : Nat} {x : Int} (hx : x = (c : Int)) (hj : j ≤ 4) (hc : c ≤ 4) : In64 ((j : Int) * x) ∧ 0 ≤ (j : Int) * x ∧ (j : Int) * x ≤ 16 := by
  subst hx
  have h : j * c ≤ 4 * 4 := Nat.mul_le_mul hj hc
  have e : (j : Int) * (c : Int) = ((j * c : Nat) : Int) := by push_cast; rfl
  rw [e]; unfold In64; omega
theorem l11Equations_a (a b : Rep) (hf : fitR a b = true) : AC Try.prog 114 [.agg (enc false a), .agg (enc false b)] [.agg (enc true (⟨szA a b a.q.fr.length, szT a b a.d.length, eqA a b a.q.fr.length⟩ : Mat))] := by
  refine AC.go Try.func114 Try.ntmps114 rfl rfl fun w0 hw => ?_; simp [WfL, WfA, E_length, Enc.enc, In64] at hw
  have h := Fits.of hf
  have h5 := okQ_spec h.ok
  have hda := h.da
  have hdb := h.db
  have hma := h.ma
  have hmb := h.mb
  have hp := isF_pos h.f
  have hS := l11Size_a a b h
  have hn := szT_le h a.d.length (Nat.le_refl _)
  have hN : szT a b a.d.length ≤ 80 := by omega
  repeat' first | refine s1 ?_ | (refine kR ?_; first | refine F.c (hS) ?_) | fail
  refine AW.openV (o := 3) (j := 2) 1 rfl rfl (.inr rfl) rfl ?_
  refine F.loop (σ := Nat) [7, 8, 9, 10, 11, 12, 13, 14, 15, 16, 23, 24, 25, 26, 27, 28, 29, 30, 31, 32, 33, 34, 35, 36, 37, 38, 39, 40, 41, 42, 43, 44, 45, 46, 47, 48, 49, 50, 51, 52, 53, 54, 55, 56, 57, 58, 59, 60, 61, 62, 63, 64, 65, 66, 67, 68, 69, 70, 71, 72, 73, 74, 75, 76, 77, 78, 79, 80, 81, 82, 83, 84, 85, 86, 87, 88, 89, 90, 91, 92, 93, 94, 95, 96, 97, 98, 99, 100, 101, 102, 103, 104, 105, 106, 107, 108, 109, 110, 111, 112, 113, 114, 115, 116, 117, 118, 119, 120, 121, 122, 123, 124, 125, 126, 127, 128, 129, 130, 131, 132, 133, 134, 135, 136, 137, 138, 139, 140, 141, 142, 143, 144, 145, 146, 147, 148, 149, 150, 151, 152, 153, 154, 155, 156, 157, 158, 159, 160, 161, 162, 163, 164, 165, 166, 167, 168, 169, 170, 171, 172] (fun i => [(7, .i i)]) (fun i => [(3, .live false 3 [[.i (szA a b i : Nat), .i (szT a b a.d.length : Nat), .sl 4 (eqA a b i).length 0 (eqA a b i).length]]), (4, .live false 1 (E true (eqA a b i)))]) (fun i => i ≤ a.q.fr.length) (fun i => a.q.fr.length - i) 0 ⟨rfl, trivial⟩ ⟨rfl, rfl, trivial⟩ (Nat.zero_le _) ?_
  rintro i i1
  by_cases hi : i < a.q.fr.length
  · have hQ := EqF.of hf hi
    have f : 0 ≤ a.q.fr.getD i default ∧ a.q.fr.getD i default < a.q.n := okQ_fr h.ok hi
    have t : 0 ≤ a.q.to.getD i default ∧ a.q.to.getD i default < a.q.n := okQ_to h.ok hi
    have av := hQ.av
    have aw := hQ.aw
    have bv := hQ.bv
    have bw := hQ.bw
    have av4 := hQ.av4
    have aw4 := hQ.aw4
    have bv4 := hQ.bv4
    have bw4 := hQ.bw4
    have hv := hQ.v
    have hw := hQ.w
    have hla := hQ.la
    have hlb := hQ.lb
    have hA := l11At_a a b (vF a i) h (by omega)
    have hB := l11At_a a b (vT a i) h (by omega)
    rw [← hQ.fr] at hA
    rw [← hQ.to] at hB
    repeat' first | refine s1 ?_ | fail
    have z1 : szA a b i = szA a b i + 0 * dim a (vF a i) := by omega
    have z2 : eqA a b i = eqA a b i ++ eqR a b i 0 := (List.append_nil _).symm
    rw [z1, z2]
    refine F.loop (σ := Nat) [10, 11, 12, 13, 14, 15, 16, 42, 43, 44, 45, 46, 47, 48, 49, 50, 51, 52, 53, 54, 55, 56, 57, 58, 59, 60, 61, 62, 63, 64, 65, 66, 67, 68, 69, 70, 71, 72, 73, 74, 75, 76, 77, 78, 79, 80, 81, 82, 83, 84, 85, 86, 87, 88, 89, 90, 91, 92, 93, 94, 95, 96, 97, 98, 99, 100, 101, 102, 103, 104, 105, 106, 107, 108, 109, 110, 111, 112, 113, 114, 115, 116, 117, 118, 119, 120, 121, 122, 123, 124, 125, 126, 127, 128, 129, 130, 131, 132, 133, 134, 135, 136, 137, 138, 139, 140, 141, 142, 143, 144, 145, 146, 147, 148, 149, 150, 151, 152, 153, 154, 155, 156, 157, 158, 159, 160, 161, 162, 163, 164, 165, 166, 167, 168, 169, 170, 171, 172] (fun r => [(10, .i r)]) (fun r => [(3, .live false 3 [[.i (szA a b i + r * dim a (vF a i) : Nat), .i (szT a b a.d.length : Nat), .sl 4 (eqA a b i ++ eqR a b i r).length 0 (eqA a b i ++ eqR a b i r).length]]), (4, .live false 1 (E true (eqA a b i ++ eqR a b i r)))]) (fun r => r ≤ dim b (vT a i)) (fun r => dim b (vT a i) - r) 0 ⟨rfl, trivial⟩ ⟨rfl, rfl, trivial⟩ (Nat.zero_le _) ?_
    rintro r r1
    by_cases hr : r < dim b (vT a i)
    · have hr' : (r : Int) < b.d.getD (a.q.to.getD i default).toNat default := by rw [show b.d.getD (a.q.to.getD i default).toNat default = _ from bw]; omega
      have hR1 : szA a b i + (r + 1) * dim a (vF a i) = szA a b i + r * dim a (vF a i) + dim a (vF a i) := by rw [Nat.add_mul, Nat.one_mul]; omega
      have hL1 : eqA a b i ++ eqR a b i (r + 1) = eqA a b i ++ eqR a b i r ++ eqK a b i r (dim a (vF a i)) := by rw [eqR_succ, List.append_assoc]
      have hRb : szA a b i + r * dim a (vF a i) + dim a (vF a i) ≤ 96 := by
        have s1 := szA_le h (i + 1) (by omega)
        have s2 : szA a b (i + 1) = szA a b i + dim b (vT a i) * dim a (vF a i) := rfl
        have s3 := Nat.mul_le_mul_right (dim a (vF a i)) (show r + 1 ≤ dim b (vT a i) from hr)
        rw [Nat.add_mul, Nat.one_mul] at s3
        omega
      have hLK : ∀ k, k ≤ dim a (vF a i) → (eqA a b i ++ eqR a b i r ++ eqK a b i r k).length ≤ 100000 := fun k hk => by
        rw [List.length_append, List.length_append, eqA_len (by omega), eqR_len (by omega), eqK_len (by omega), ← Nat.add_mul, ← Nat.add_mul]
        have := Nat.mul_le_mul (show szA a b i + r * dim a (vF a i) + k ≤ 96 by omega) hN
        omega
      generalize eqA a b i ++ eqR a b i r = LR at hL1 hLK ⊢
      generalize szA a b i + r * dim a (vF a i) = R at hR1 hRb ⊢
      repeat' first | refine s1 ?_ | fail
      have z2 : LR = LR ++ eqK a b i r 0 := (List.append_nil _).symm
      rw [z2]
      refine F.loop (σ := Nat) [11, 12, 13, 14, 15, 16, 51, 52, 53, 54, 55, 56, 57, 58, 59, 60, 61, 62, 63, 64, 65, 66, 67, 68, 69, 70, 71, 72, 73, 74, 75, 76, 77, 78, 79, 80, 81, 82, 83, 84, 85, 86, 87, 88, 89, 90, 91, 92, 93, 94, 95, 96, 97, 98, 99, 100, 101, 102, 103, 104, 105, 106, 107, 108, 109, 110, 111, 112, 113, 114, 115, 116, 117, 118, 119, 120, 121, 122, 123, 124, 125, 126, 127, 128, 129, 130, 131, 132, 133, 134, 135, 136, 137, 138, 139, 140, 141, 142, 143, 144, 145, 146, 147, 148, 149, 150, 151, 152, 153, 154, 155, 156, 157, 158, 159, 160, 161, 162, 163, 164, 165, 166, 167, 168, 169, 170, 171, 172] (fun k => [(11, .i k)]) (fun k => [(3, .live false 3 [[.i (R + k : Nat), .i (szT a b a.d.length : Nat), .sl 4 (LR ++ eqK a b i r k).length 0 (LR ++ eqK a b i r k).length]]), (4, .live false 1 (E true (LR ++ eqK a b i r k)))]) (fun k => k ≤ dim a (vF a i)) (fun k => dim a (vF a i) - k) 0 ⟨rfl, trivial⟩ ⟨rfl, rfl, trivial⟩ (Nat.zero_le _) ?_
      rintro k k1
      by_cases hk : k < dim a (vF a i)
      · have hk' : (k : Int) < a.d.getD (a.q.fr.getD i default).toNat default := by rw [show a.d.getD (a.q.fr.getD i default).toNat default = _ from av]; omega
        repeat' first | refine s1 ?_ | (refine kR ?_; first | refine F.mk (m := szT a b a.d.length) Int rfl rfl rfl (mkB (by omega)) (by omega) rfl rfl ?_) | fail
        refine F.loop (σ := Nat) [13, 14, 62, 63, 64, 65, 66, 67, 68, 69, 70, 71, 72, 73, 74, 75, 76, 77, 78, 79, 80, 81, 82, 83, 84, 85, 86, 87, 88, 89, 90, 91, 92, 93, 94, 95, 96, 97, 98, 99, 100, 101, 102, 103, 104, 105, 106, 107, 108, 109, 110, 111, 112] (fun j => [(13, .i j)]) (fun j => [(5, .live false 1 (E true (rX a b i r k j)))]) (fun j => j ≤ dim b (vF a i)) (fun j => dim b (vF a i) - j) 0 ⟨rfl, trivial⟩ ⟨rfl, trivial⟩ (Nat.zero_le _) ?_
        rintro j j1
        by_cases hj : j < dim b (vF a i)
        · have hj' : (j : Int) < b.d.getD (a.q.fr.getD i default).toNat default := by rw [show b.d.getD (a.q.fr.getD i default).toNat default = _ from bv]; omega
          have hat := hQ.atX hj hk
          have hok := rX_ok (a := a) (b := b) (by omega) i r k j
          have e1 : (szT a b (vF a i) : Int) + (j : Int) * a.d.getD (a.q.fr.getD i default).toNat default + (k : Int) = ((szT a b (vF a i) + j * dim a (vF a i) + k : Nat) : Int) := castE av
          have e2 : (r : Int) * b.d.getD (a.q.fr.getD i default).toNat default + (j : Int) = ((r * dim b (vF a i) + j : Nat) : Int) := castG bv
          have g1 : In64 ((j : Int) * a.d.getD (a.q.fr.getD i default).toNat default) ∧ 0 ≤ (j : Int) * a.d.getD (a.q.fr.getD i default).toNat default ∧ (j : Int) * a.d.getD (a.q.fr.getD i default).toNat default ≤ 16 := in44 (j := j) av (by omega) av4
          have g2 : In64 ((r : Int) * b.d.getD (a.q.fr.getD i default).toNat default) ∧ 0 ≤ (r : Int) * b.d.getD (a.q.fr.getD i default).toNat default ∧ (r : Int) * b.d.getD (a.q.fr.getD i default).toNat default ≤ 16 := in44 (j := r) bv (by omega) bv4
          have hst : rX a b i r k (j + 1) = (rX a b i r k j).set (szT a b (vF a i) + j * dim a (vF a i) + k) (((rX a b i r k j).getD (szT a b (vF a i) + j * dim a (vF a i) + k) default + (b.m.getD i default).m.getD (r * dim b (vF a i) + j) default) % a.p) := rfl
          have hix := in_grid hr hj
          rw [← hlb] at hix
          have hcell := (isMat_spec hQ.mb).2.2.2.2 _ hix
          have hcl := (isMat_spec hQ.mb).2.2.2.2
          have hsz := szT_le h (vF a i) (by omega)
          generalize rX a b i r k j = L1 at hok hst ⊢
          generalize szT a b (vF a i) + j * dim a (vF a i) + k = at' at hat e1 hst
          generalize r * dim b (vF a i) + j = ix at hix e2 hcell hst
          have hl1 := hok.1
          have hc1 := hok.2 at' hat
          have h64 : In64 (L1.getD (0 + at') default + (b.m.getD i default).m.getD ix default) := by rw [Nat.zero_add]; unfold In64; omega
          have hM := l2Mod_a a.p (L1.getD (0 + at') default + (b.m.getD i default).m.getD ix default) (by omega)
          have i1 := g1.1
          have i2 : In64 ((szT a b (vF a i) : Int) + (j : Int) * a.d.getD (a.q.fr.getD i default).toNat default) := by unfold In64; omega
          have i3 : In64 ((szT a b (vF a i) : Int) + (j : Int) * a.d.getD (a.q.fr.getD i default).toNat default + (k : Int)) := by unfold In64; omega
          have i4 := g2.1
          have i5 : In64 ((r : Int) * b.d.getD (a.q.fr.getD i default).toNat default + (j : Int)) := by unfold In64; omega
          have hT : ((r : Int) * b.d.getD (a.q.fr.getD i default).toNat default + (j : Int)).toNat = ix := by rw [e2]; exact Int.toNat_natCast ix
          rw [← hT] at hM h64 hix
          repeat' first | refine s1 ?_ | fail
          refine AW.draw 15 G.mixed (by kernel_rfl) ?_
          refine dL 0 ?_
          refine dL 1 ?_
          refine dP 2 ?_
          refine dP 4 ?_
          refine dP 5 ?_
          refine dL 6 ?_
          refine dP 7 ?_
          refine dP 8 ?_
          refine dL 9 ?_
          refine dP 10 ?_
          refine dP 12 ?_
          refine dO 3 true ?_
          first | refine s1 ?_ | refine F.c (hA) ?_
          refine ARg.nil (ATh.normal ?_)
          refine dP 11 ?_
          refine dP 13 ?_
          refine dP 14 ?_
          refine dN ?_
          rw [e1]
          repeat' first | refine s1 ?_ | fail
          refine AW.draw 28 G.mixed (by kernel_rfl) ?_
          refine dP 0 ?_
          refine dP 1 ?_
          refine dP 2 ?_
          refine dL 3 ?_
          refine dP 4 ?_
          refine dP 5 ?_
          refine dP 6 ?_
          refine dL 7 ?_
          refine dP 8 ?_
          refine dL 9 ?_
          refine dP 10 ?_
          refine dP 11 ?_
          refine dP 12 ?_
          refine dL 13 ?_
          refine dP 14 ?_
          refine dP 15 ?_
          refine dL 16 ?_
          refine dP 17 ?_
          refine dP 18 ?_
          refine dL 19 ?_
          refine dP 20 ?_
          refine dP 21 ?_
          refine dP 22 ?_
          refine dP 23 ?_
          refine dL 24 ?_
          refine dP 25 ?_
          refine dO 26 true ?_
          first | refine s1 ?_ | refine F.c (hM) ?_
          refine ARg.nil (ATh.normal ?_)
          refine dP 27 ?_
          refine dO 28 false ?_
          refine s1 ?_
          refine ARg.nil (ATh.normal ?_)
          refine dN ?_
          repeat' first | refine s1 ?_ | fail
          exact ⟨j + 1, F.fit ⟨rfl, trivial⟩ ⟨obE (by rw [hst, Nat.zero_add, hT]), trivial⟩, by omega, by omega⟩
        · have hj' : ¬ (j : Int) < b.d.getD (a.q.fr.getD i default).toNat default := by rw [show b.d.getD (a.q.fr.getD i default).toNat default = _ from bv]; omega
          obtain rfl : j = dim b (vF a i) := by omega
          repeat' first | refine s1 ?_ | fail
          refine F.loop (σ := Nat) [15, 16, 113, 114, 115, 116, 117, 118, 119, 120, 121, 122, 123, 124, 125, 126, 127, 128, 129, 130, 131, 132, 133, 134, 135, 136, 137, 138, 139, 140, 141, 142, 143, 144, 145, 146, 147, 148, 149, 150, 151, 152, 153, 154, 155, 156, 157, 158, 159, 160, 161, 162, 163] (fun j => [(15, .i j)]) (fun j => [(5, .live false 1 (E true (rY a b i r k j)))]) (fun j => j ≤ dim a (vT a i)) (fun j => dim a (vT a i) - j) 0 ⟨rfl, trivial⟩ ⟨rfl, trivial⟩ (Nat.zero_le _) ?_
          rintro j j2
          by_cases hj : j < dim a (vT a i)
          · have hj' : (j : Int) < a.d.getD (a.q.to.getD i default).toNat default := by rw [show a.d.getD (a.q.to.getD i default).toNat default = _ from aw]; omega
            have hat := hQ.atY hr hj
            have hok := rY_ok (a := a) (b := b) (by omega) i r k j
            have e1 : (szT a b (vT a i) : Int) + (r : Int) * a.d.getD (a.q.to.getD i default).toNat default + (j : Int) = ((szT a b (vT a i) + r * dim a (vT a i) + j : Nat) : Int) := castE aw
            have e2 : (j : Int) * a.d.getD (a.q.fr.getD i default).toNat default + (k : Int) = ((j * dim a (vF a i) + k : Nat) : Int) := castG av
            have g1 : In64 ((r : Int) * a.d.getD (a.q.to.getD i default).toNat default) ∧ 0 ≤ (r : Int) * a.d.getD (a.q.to.getD i default).toNat default ∧ (r : Int) * a.d.getD (a.q.to.getD i default).toNat default ≤ 16 := in44 (j := r) aw (by omega) aw4
            have g2 : In64 ((j : Int) * a.d.getD (a.q.fr.getD i default).toNat default) ∧ 0 ≤ (j : Int) * a.d.getD (a.q.fr.getD i default).toNat default ∧ (j : Int) * a.d.getD (a.q.fr.getD i default).toNat default ≤ 16 := in44 (j := j) av (by omega) av4
            have hst : rY a b i r k (j + 1) = (rY a b i r k j).set (szT a b (vT a i) + r * dim a (vT a i) + j) (((rY a b i r k j).getD (szT a b (vT a i) + r * dim a (vT a i) + j) default - (a.m.getD i default).m.getD (j * dim a (vF a i) + k) default) % a.p) := by rw [Int.sub_eq_add_neg]; rfl
            have hix := in_grid hj hk
            rw [← hla] at hix
            have hcell := (isMat_spec hQ.ma).2.2.2.2 _ hix
            have hsz := szT_le h (vT a i) (by omega)
            generalize rY a b i r k j = L1 at hok hst ⊢
            generalize szT a b (vT a i) + r * dim a (vT a i) + j = at' at hat e1 hst
            generalize j * dim a (vF a i) + k = ix at hix e2 hcell hst
            have hl1 := hok.1
            have hc1 := hok.2 at' hat
            have h64 : In64 (L1.getD (0 + at') default - (a.m.getD i default).m.getD ix default) := by rw [Nat.zero_add]; unfold In64; omega
            have hM := l2Mod_a a.p (L1.getD (0 + at') default - (a.m.getD i default).m.getD ix default) (by omega)
            have i1 := g1.1
            have i2 : In64 ((szT a b (vT a i) : Int) + (r : Int) * a.d.getD (a.q.to.getD i default).toNat default) := by unfold In64; omega
            have i3 : In64 ((szT a b (vT a i) : Int) + (r : Int) * a.d.getD (a.q.to.getD i default).toNat default + (j : Int)) := by unfold In64; omega
            have i4 := g2.1
            have i5 : In64 ((j : Int) * a.d.getD (a.q.fr.getD i default).toNat default + (k : Int)) := by unfold In64; omega
            have hT : ((j : Int) * a.d.getD (a.q.fr.getD i default).toNat default + (k : Int)).toNat = ix := by rw [e2]; exact Int.toNat_natCast ix
            rw [← hT] at hM h64 hix
            repeat' first | refine s1 ?_ | fail
            refine AW.draw 15 G.mixed (by kernel_rfl) ?_
            refine dL 0 ?_
            refine dL 1 ?_
            refine dP 2 ?_
            refine dP 4 ?_
            refine dP 5 ?_
            refine dL 6 ?_
            refine dP 7 ?_
            refine dP 8 ?_
            refine dL 9 ?_
            refine dP 10 ?_
            refine dP 12 ?_
            refine dO 3 true ?_
            first | refine s1 ?_ | refine F.c (hB) ?_
            refine ARg.nil (ATh.normal ?_)
            refine dP 11 ?_
            refine dP 13 ?_
            refine dP 14 ?_
            refine dN ?_
            rw [e1]
            repeat' first | refine s1 ?_ | fail
            refine AW.draw 28 G.mixed (by kernel_rfl) ?_
            refine dP 0 ?_
            refine dP 1 ?_
            refine dP 2 ?_
            refine dL 3 ?_
            refine dP 4 ?_
            refine dP 5 ?_
            refine dP 6 ?_
            refine dL 7 ?_
            refine dP 8 ?_
            refine dL 9 ?_
            refine dP 10 ?_
            refine dP 11 ?_
            refine dP 12 ?_
            refine dL 13 ?_
            refine dP 14 ?_
            refine dP 15 ?_
            refine dL 16 ?_
            refine dP 17 ?_
            refine dP 18 ?_
            refine dL 19 ?_
            refine dP 20 ?_
            refine dP 21 ?_
            refine dP 22 ?_
            refine dP 23 ?_
            refine dL 24 ?_
            refine dP 25 ?_
            refine dO 26 true ?_
            first | refine s1 ?_ | refine F.c (hM) ?_
            refine ARg.nil (ATh.normal ?_)
            refine dP 27 ?_
            refine dO 28 false ?_
            refine s1 ?_
            refine ARg.nil (ATh.normal ?_)
            refine dN ?_
            repeat' first | refine s1 ?_ | fail
            exact ⟨j + 1, F.fit ⟨rfl, trivial⟩ ⟨obE (by rw [hst, Nat.zero_add, hT]), trivial⟩, by omega, by omega⟩
          · have hj' : ¬ (j : Int) < a.d.getD (a.q.to.getD i default).toNat default := by rw [show a.d.getD (a.q.to.getD i default).toNat default = _ from aw]; omega
            obtain rfl : j = dim a (vT a i) := by omega
            have hok := rY_ok (a := a) (b := b) (by omega) i r k (dim a (vT a i))
            have hK1 : LR ++ eqK a b i r (k + 1) = (LR ++ eqK a b i r k) ++ rY a b i r k (dim a (vT a i)) := by rw [eqK_succ, List.append_assoc]; rfl
            have hl1 := hok.1
            have hLb : (LR ++ eqK a b i r k).length ≤ 100000 := hLK k k1
            generalize rY a b i r k (dim a (vT a i)) = L1 at hok hK1 hl1 ⊢
            generalize LR ++ eqK a b i r k = LK at hK1 hLb ⊢
            have hRk : In64 (((R + k : Nat) : Int) + 1) := by unfold In64; omega
            have hR2 : ((R + k : Nat) : Int) + 1 = ((R + (k + 1) : Nat) : Int) := by omega
            repeat' first | refine s1 ?_ | (refine kR ?_; first | refine F.aL Int (oo := true) ?_ (hsrc := .own rfl rfl (by rw [E_length]; exact hl1))) | fail
            exact ⟨k + 1, F.fit ⟨rfl, trivial⟩ ⟨obE (by rw [hK1, List.length_append, ← hR2]; exact congrArg (fun l => [[AV.i (((R + k : Nat) : Int) + 1), AV.i (szT a b a.d.length : Nat), AV.sl 4 l 0 l]]) (by rw [List.length_append, hl1])), obE (by rw [hK1]), trivial⟩, by omega, by omega⟩
      · have hk' : ¬ (k : Int) < a.d.getD (a.q.fr.getD i default).toNat default := by rw [show a.d.getD (a.q.fr.getD i default).toNat default = _ from av]; omega
        obtain rfl : k = dim a (vF a i) := by omega
        rw [← hL1, ← hR1]
        repeat' first | refine s1 ?_ | fail
        exact ⟨r + 1, F.fit ⟨rfl, trivial⟩ ⟨rfl, rfl, trivial⟩, by omega, by omega⟩
    · have hr' : ¬ (r : Int) < b.d.getD (a.q.to.getD i default).toNat default := by rw [show b.d.getD (a.q.to.getD i default).toNat default = _ from bw]; omega
      obtain rfl : r = dim b (vT a i) := by omega
      have hA1 : szA a b (i + 1) = szA a b i + dim b (vT a i) * dim a (vF a i) := rfl
      rw [← eqA_succ, ← hA1]
      repeat' first | refine s1 ?_ | fail
      exact ⟨i + 1, F.fit ⟨rfl, trivial⟩ ⟨rfl, rfl, trivial⟩, by omega, by omega⟩
  · obtain rfl : i = a.q.fr.length := by omega
    repeat' first | refine s1 ?_ | fail
    (refine kZ ?_; exact F.ret rfl)
end Go.Proofs.Ytcalkmlaodjpaaa.V
