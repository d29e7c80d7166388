/- Joined: Contracts: kernels, as the program finds them. Contracts: all of a space, meets, the socle, as the program builds them. Contracts: the socle, as the program builds it.. -/
import Derived.Test.YtedjajokbdokhaaGreatUq
import Derived.Test.YtedjajokbdokhaaGreatB4
import Derived.Test.YtedjajokbdokhaaGreatB5
import Derived.Test.YtedjajokbdokhaaGreatB6
import Derived.Test.YtedjajokbdokhaaGreatA64
/- Contracts: kernels, as the program finds them. -/
namespace Go.Proofs.YtedjajokbdokhaaGreat.V
open V.Enc (enc)
open Go.RowKit G D
set_option linter.unusedVariables false
set_option linter.unusedSimpArgs false
set_option maxHeartbeats 4000000
set_option maxRecDepth 4000
attribute [local irreducible] AW ARg ARA ARet MRet ASil AC AM

theorem ker_take {p : Int} {c : Nat} {g : Nat → Nat → Int} {piv : List Nat} {j : Nat} (hj : j < (freeL c piv).length) : ((freeL c piv).map fun k => kerV p c g piv k piv.length).take (j + 1) = ((freeL c piv).map fun k => kerV p c g piv k piv.length).take j ++ [kerV p c g piv ((freeL c piv).getD j default) piv.length] := by
  have e : (freeL c piv).getD j default = (freeL c piv)[j] := by simp [hj]
  rw [List.take_succ_eq_append_getElem (by simpa using hj), e]
  simp
theorem kernel_a (p : Int) (r c : Nat) (f : Nat → Nat → Int) (hf : isF p = true) (hr : r ≤ 1024) (hc : c ≤ 1024) (hb : BdF p r c f) :
    AC Tryz.prog 116 [.i p, .agg (enc false (tm r c f))] [.dt true 1 (E true (kerL p r c f))] := by
  refine AC.go Tryz.func116 Tryz.ntmps116 rfl rfl fun w0 hw => ?_; simp [WfL, WfA, E_length, Enc.enc, In64] at hw
  have h5 := isF_pos hf
  have hR := implReduce_a p r c f hf hr hc hb
  obtain ⟨b1, b2, b3, b4⟩ := redK_bd (p := p) (by omega) hb c
  unfold kerL
  generalize redK p r f c = R at hR b1 b2 b3 b4 ⊢
  obtain ⟨g, piv⟩ := R
  dsimp only at hR b1 b2 b3 b4 ⊢
  have hFr := freeColumns_a c piv (by omega)
  have hKt := fun j hj => ker_take (p := p) (c := c) (g := g) (piv := piv) (j := j) hj
  have hKl : ((freeL c piv).map fun k => kerV p c g piv k piv.length).length = (freeL c piv).length := by simp
  have hfl := freeL_le c piv
  have hfm := fun j (hj : j < (freeL c piv).length) => (freeL_lt (c := c) (piv := piv) ((freeL c piv).getD j default) (by simp [hj])).1
  have hfi := ints_len (freeL c piv)
  have hfg := fun j (hj : j < (freeL c piv).length) => ints_get (freeL c piv) hj
  generalize ((freeL c piv).map fun k => kerV p c g piv k piv.length) = KL at hKt hKl ⊢
  generalize freeL c piv = FL at hFr hKt hKl hfl hfm hfi hfg
  generalize ints FL = FI at hFr hfi hfg
  have hpl := ints_len piv
  have hpg := fun i (hi : i < piv.length) => ints_get piv hi
  generalize ints piv = PI at hR hFr hpl hpg
  have hN := tab_len r c g
  repeat' first | refine s1 ?_ | refine q1 ?_ | (refine kR ?_; first | refine F.c (hR) ?_ | refine F.c (hFr) ?_) | fail
  refine AW.open 7 1 (.inl rfl) ?_
  refine F.loop (σ := Nat) [7, 9, 10, 11, 12, 24, 25, 26, 27, 28, 29, 30, 31, 32, 33, 34, 35, 36, 37, 38, 39, 40, 41, 42, 43, 44, 45, 46, 47, 48, 49, 50, 51, 52, 53, 54, 55, 56, 57, 58, 59] (fun j => [(7, .sl 5 j 0 j), (24, .i j)]) (fun j => [(1, .live false 1 (E true (tab r c g))), (5, .live false 1 (E true (KL.take j)))]) (fun j => j ≤ FL.length) (fun j => FL.length - j) 0 ⟨rfl, rfl, trivial⟩ ⟨rfl, rfl, trivial⟩ (Nat.zero_le _) ?_
  rintro j j1
  have hp2 : (KL.take j).length = j := by rw [List.length_take]; omega
  by_cases hj : j < FL.length
  · have hf1 := hfg j hj
    have hq := hfm j hj
    have hts := hKt j hj
    generalize FL.getD j default = q at hf1 hq hts
    have hf2 : FI.getD (0 + j) default = (q : Int) := by rw [Nat.zero_add]; exact hf1
    have hT : (FI.getD (0 + j) default).toNat = q := by rw [hf2]; exact Int.toNat_natCast q
    have hf4 : FI[j]?.getD default = (q : Int) := by rw [← List.getD_eq_getElem?_getD]; exact hf1
    have hf5 : FI[j]?.getD 0 = (q : Int) := hf4
    repeat' first | refine s1 ?_ | refine q1 ?_ | (refine kR ?_; first | refine F.mk (m := c) Int rfl rfl rfl (mkB (by omega)) (by omega) rfl rfl ?_) | fail
    have e0 : (List.replicate c 0).set (0 + (FI.getD (0 + j) default).toNat) (1 : Int) = kerV p c g piv q 0 := by rw [Nat.zero_add, hT]; rfl
    rw [e0]
    clear e0
    refine F.loop (σ := Nat) [11, 12, 36, 37, 38, 39, 40, 41, 42, 43, 44, 45, 46, 47, 48, 49, 50, 51, 52, 53, 54] (fun i => [(36, .i i)]) (fun i => [(1, .live false 1 (E true (tab r c g))), (6, .live false 1 (E true (kerV p c g piv q i)))]) (fun i => i ≤ piv.length) (fun i => piv.length - i) 0 ⟨rfl, trivial⟩ ⟨rfl, rfl, trivial⟩ (Nat.zero_le _) ?_
    rintro i i1
    by_cases hi : i < piv.length
    · have hir : i < r := by omega
      have hpi := hpg i hi
      have hpq : piv.getD i default < c := b4 _ (by simp [hi])
      have hst : kerV p c g piv q (i + 1) = (kerV p c g piv q i).set (piv.getD i 0) (-(g i q) % p) := rfl
      rw [← neg_mod] at hst
      have hvl := kerV_len p c g piv q i
      have hRw := row_m r c i g _ hN hir hr hc
      have hpi' : PI.getD (0 + i) default = (piv.getD i default : Nat) := by rw [Nat.zero_add]; exact hpi
      have hT2 : (PI.getD (0 + i) default).toNat = piv.getD i 0 := by rw [hpi']; exact Int.toNat_natCast _
      have hx := b1 i hir (FI.getD (0 + j) default).toNat (by omega)
      have hxq : g i (FI.getD (0 + j) default).toNat = g i q := by rw [hT]
      have hi64 : In64 (p - g i (FI.getD (0 + j) default).toNat) := by unfold In64; omega
      have hqc : (FI.getD (0 + j) default).toNat < c := by omega
      clear hpi
      generalize kerV p c g piv q i = X at hst hvl ⊢
      rw [← hT2, ← hxq] at hst
      repeat' first | refine s1 ?_ | refine q1 ?_ | (refine kR ?_; first | refine F.m [1] (hRw) ?_) | fail
      exact ⟨i + 1, F.fit ⟨rfl, trivial⟩ ⟨rfl, obE (by rw [hst, Nat.zero_add (PI.getD (0 + i) default).toNat]), trivial⟩, by omega, by omega⟩
    · obtain rfl : i = piv.length := by omega
      have hvl := kerV_len p c g piv q piv.length
      generalize kerV p c g piv q piv.length = X at hts hvl ⊢
      repeat' first | refine s1 ?_ | refine q1 ?_ | (refine kR ?_; first | refine F.a1 (List Int) (a := X) ?_) | fail
      exact ⟨j + 1, F.fit ⟨rfl, rfl, trivial⟩ ⟨rfl, obE (by rw [hts]), trivial⟩, by omega, by omega⟩
  · obtain rfl : j = FL.length := by omega
    have e : KL.take FL.length = KL := List.take_of_length_le (by omega)
    rw [e]
    rw [← hKl]
    clear hp2 e
    repeat' first | refine s1 ?_ | refine q1 ?_ | fail
    (refine kZ ?_; exact F.ret rfl)
end Go.Proofs.YtedjajokbdokhaaGreat.V

/- Contracts: all of a space, meets, the socle, as the program builds them. -/
namespace Go.Proofs.YtedjajokbdokhaaGreat.V
open V.Enc (enc)
open Go.RowKit G D
set_option linter.unusedVariables false
set_option linter.unusedSimpArgs false
set_option maxHeartbeats 4000000
set_option maxRecDepth 4000
attribute [local irreducible] AW ARg ARA ARet MRet ASil AC AM

/-- the identity, of which the first k ones are set -/
def idK (k : Nat) : Nat → Nat → Int := fun i j => if i = j ∧ i < k then 1 else 0
theorem idK_zero : idK 0 = fun _ _ => 0 := by funext i j; simp [idK]
theorem idK_set (k : Nat) : updF (idK k) k k 1 = idK (k + 1) := by
  funext i j
  simp only [idK, updF]
  by_cases h1 : i = k
  · subst h1
    by_cases h2 : j = i
    · subst h2; simp
    · have : ¬ i = j := fun h => h2 h.symm
      simp [h2, this]
  · have : i < k + 1 ↔ i < k := by omega
    simp [h1, this]
theorem idK_all (n : Nat) : tab n n (idK n) = tab n n idF := tab_ext fun i hi j hj => by simp [idK, idF, hi]
theorem metL_take {p : Int} {a b : Spc} {i : Nat} (hi : i < (metK p a b).length) : (metL p a b).take (i + 1) = (metL p a b).take i ++ [cmbV p a.n.toNat a.b ((metK p a b).getD i default) a.b.length] := by
  have e : (metK p a b).getD i default = (metK p a b)[i] := by simp [hi]
  rw [metL, List.take_succ_eq_append_getElem (by simpa using hi), e]
  simp
theorem metK_vec {p : Int} {a b : Spc} (hp : 2 ≤ p) : VecB p (a.b ++ b.b).length (metK p a b) := kerL_vec hp
theorem meetSpace_a (p : Int) (a b : Spc) (ha : isSpc p a = true) (hb : isSpc p b = true) (hn : b.n = a.n) : AC Tryz.prog 79 [.i p, .agg (enc false a), .agg (enc false b)] [.agg (enc true (metS p a b))] := by
  refine AC.go Tryz.func79 Tryz.ntmps79 rfl rfl fun w0 hw => ?_; simp [WfL, WfA, E_length, Enc.enc, In64] at hw
  obtain ⟨h1, h2, h3, h4⟩ := isSpc_spec ha
  obtain ⟨_, _, g3, g4⟩ := isSpc_spec hb
  rw [hn] at g4
  have hp := isF_pos h1
  have hv := h4.app g4
  have hC := concat2_w [a.b, b.b] (by simp; omega)
  rw [show [a.b, b.b].flatten = a.b ++ b.b by simp] at hC
  have hFC := fromColumns_a a.n.toNat (a.b ++ b.b) (by omega) (by rw [List.length_append]; omega) hv.len
  rw [Int.toNat_of_nonneg h2.1] at hFC
  have hK := kernel_a p a.n.toNat (a.b ++ b.b).length (fcF (a.b ++ b.b)) h1 (by omega) (by rw [List.length_append]; omega) (fcF_bd hv)
  rw [show kerL p a.n.toNat (a.b ++ b.b).length (fcF (a.b ++ b.b)) = metK p a b from rfl] at hK
  have hKl := metK_le p a b
  have hKv := metK_vec (a := a) (b := b) hp.1
  have hMt := fun i hi => metL_take (p := p) (a := a) (b := b) (i := i) hi
  have hMl := metL_len p a b
  have hS := span_a p a.n.toNat (metL p a b) h1 (by omega) (by omega) (metL_vec hp.1)
  rw [Int.toNat_of_nonneg h2.1, show (⟨a.n, spanL p a.n.toNat (metL p a b)⟩ : Spc) = metS p a b from rfl] at hS
  generalize metS p a b = MS at hS ⊢
  generalize metL p a b = ML at hMt hMl hS
  generalize metK p a b = K at hK hKl hKv hMt hMl
  have hal : ∀ j, j < a.b.length → (a.b.getD j default).length = a.n.toNat := h4.len
  have hab : ∀ j, j < a.b.length → ∀ t, t < a.n.toNat → 0 ≤ (a.b.getD j default).getD t default ∧ (a.b.getD j default).getD t default ≤ p - 1 := fun j hj => (h4 _ (gm hj)).2
  have hnn : a.n = (a.n.toNat : Int) := (Int.toNat_of_nonneg h2.1).symm
  rw [List.length_append] at hKv
  generalize hT : tm a.n.toNat (a.b ++ b.b).length (fcF (a.b ++ b.b)) = T at hFC hK
  generalize hN : a.n.toNat = n at *
  repeat' first | refine s1 ?_ | refine q1 ?_ | fail
  refine AW.draw 10 G.mixed (by kernel_rfl) ?_
  refine dP 0 ?_
  first | refine dL 1 ?_ | refine dLQ 1 ?_
  refine dP 2 ?_
  first | refine dL 3 ?_ | refine dLQ 3 ?_
  refine dP 4 ?_
  first | refine dL 5 ?_ | refine dLQ 5 ?_
  refine ARA.any [6, 9] (by kernel_rfl) (by simp) ?_
  intro k hk
  simp only [List.mem_cons, List.not_mem_nil, or_false] at hk
  rcases hk with rfl | rfl
  refine ⟨_, true, rfl, rfl, ?_⟩
  refine s1 ?_
  refine ARg.nil (ATh.normal ?_)
  refine dzA (α := List (List Int)) (ls := [a.b, b.b]) 20 rfl rfl rfl ?_
  refine ARA.any [7, 9] (by kernel_rfl) (by simp) ?_
  intro k hk
  simp only [List.mem_cons, List.not_mem_nil, or_false] at hk
  rcases hk with rfl | rfl
  refine ⟨_, true, rfl, rfl, ?_⟩
  first | refine s1 ?_ | refine F.w (hC) ?_ | refine F.c (hFC) ?_
  refine ARg.nil (ATh.normal ?_)
  refine ARA.any [8, 9] (by kernel_rfl) (by simp) ?_
  intro k hk
  simp only [List.mem_cons, List.not_mem_nil, or_false] at hk
  rcases hk with rfl | rfl
  refine ⟨_, true, rfl, rfl, ?_⟩
  first | refine s1 ?_ | refine F.w (hC) ?_ | refine F.c (hFC) ?_
  refine ARg.nil (ATh.normal ?_)
  refine dO 9 true ?_
  refine s1 ?_
  refine ARg.nil (ATh.normal ?_)
  refine dO 10 false ?_
  first | refine s1 ?_ | refine q1 ?_
  refine ARg.nil (ATh.normal ?_)
  refine dN ?_
  rotate_left
  refine ⟨_, true, rfl, rfl, ?_⟩
  refine s1 ?_
  refine ARg.nil (ATh.normal ?_)
  refine dO 8 true ?_
  first | refine s1 ?_ | refine F.w (hC) ?_ | refine F.c (hFC) ?_
  refine ARg.nil (ATh.normal ?_)
  refine dO 10 false ?_
  first | refine s1 ?_ | refine q1 ?_
  refine ARg.nil (ATh.normal ?_)
  refine dN ?_
  rotate_left
  refine ⟨_, true, rfl, rfl, ?_⟩
  refine s1 ?_
  refine ARg.nil (ATh.normal ?_)
  refine dO 7 true ?_
  first | refine s1 ?_ | refine F.w (hC) ?_ | refine F.c (hFC) ?_
  refine ARg.nil (ATh.normal ?_)
  refine dO 8 true ?_
  first | refine s1 ?_ | refine F.w (hC) ?_ | refine F.c (hFC) ?_
  refine ARg.nil (ATh.normal ?_)
  refine dO 10 false ?_
  first | refine s1 ?_ | refine q1 ?_
  refine ARg.nil (ATh.normal ?_)
  refine dN ?_
  rotate_left
  refine ⟨_, true, rfl, rfl, ?_⟩
  refine s1 ?_
  refine ARg.nil (ATh.normal ?_)
  refine dO 6 true ?_
  refine s1 ?_
  refine ARg.nil (ATh.normal ?_)
  refine dzA (α := List (List Int)) (ls := [a.b, b.b]) 20 rfl rfl rfl ?_
  refine dO 7 true ?_
  first | refine s1 ?_ | refine F.w (hC) ?_ | refine F.c (hFC) ?_
  refine ARg.nil (ATh.normal ?_)
  refine dO 8 true ?_
  first | refine s1 ?_ | refine F.w (hC) ?_ | refine F.c (hFC) ?_
  refine ARg.nil (ATh.normal ?_)
  refine dO 10 false ?_
  first | refine s1 ?_ | refine q1 ?_
  refine ARg.nil (ATh.normal ?_)
  refine dN ?_
  rotate_left
  all_goals
    repeat' first | refine s1 ?_ | refine q1 ?_ | (refine kR ?_; first | refine F.c (hK) ?_) | fail
    refine AW.lend (o := 7) rfl ?_
    refine AW.open 8 1 (.inl rfl) ?_
    refine F.loop (σ := Nat) [8, 10, 11, 12, 13, 27, 28, 29, 30, 31, 32, 33, 34, 35, 36, 37, 38, 39, 40, 41, 42, 43, 44, 45, 46, 47, 48, 49, 50, 51, 52, 53, 54, 55] (fun i => [(8, .sl 8 i 0 i), (27, .i i)]) (fun i => [(8, .live false 1 (E true (ML.take i)))]) (fun i => i ≤ K.length) (fun i => K.length - i) 0 ⟨rfl, rfl, trivial⟩ ⟨rfl, trivial⟩ (Nat.zero_le _) ?_
    rintro i i1
    have hp2 : (ML.take i).length = i := by rw [List.length_take]; omega
    by_cases hi : i < K.length
    · have hts := hMt i hi
      have hkv := hKv _ (gm (d := default) hi)
      repeat' first | refine s1 ?_ | refine q1 ?_ | (refine kR ?_; first | refine F.mk (m := n) Int rfl rfl hnn (mkB (by omega)) (by omega) rfl rfl ?_) | fail
      rw [show List.replicate n (0 : Int) = cmbV p n a.b (K.getD i default) 0 from rfl]
      refine F.loop (σ := Nat) [12, 13, 37, 38, 39, 40, 41, 42, 43, 44, 45, 46, 47, 48, 49, 50] (fun j => [(37, .i j)]) (fun j => [(9, .live false 1 (E true (cmbV p n a.b (K.getD i default) j)))]) (fun j => j ≤ a.b.length) (fun j => a.b.length - j) 0 ⟨rfl, trivial⟩ ⟨rfl, trivial⟩ (Nat.zero_le _) ?_
      rintro j j1
      have hcl := cmbV_len p n a.b (K.getD i default) j
      by_cases hj : j < a.b.length
      · have hst : cmbV p n a.b (K.getD i default) (j + 1) = addK p ((K.getD i default).getD j default) 0 (a.b.getD j default) (cmbV p n a.b (K.getD i default) j) n := rfl
        have hcb := fun t ht => cmbV_bd (p := p) (n := n) (l := a.b) (k := K.getD i default) hp.1 j t ht
        have hkj := hkv.2 j (by omega)
        have hlj := hal j hj
        have hbj := hab j hj
        have hki : j < (K.getD (0 + i) default).length := by rw [Nat.zero_add, hkv.1]; omega
        rw [← Nat.zero_add i] at hkj
        generalize hX : cmbV p n a.b (K.getD i default) j = X at hcl hst hcb ⊢
        have hA := addMul_m p ((K.getD (0 + i) default).getD j default) X (a.b.getD j default) 0 n (by omega) (by omega) (fun t ht => by have := hcb t (by omega); omega) (fun t ht => by have := hbj t (by omega); omega) (by omega) (by omega)
        rw [hcl, hlj] at hA
        repeat' first | refine s1 ?_ | refine q1 ?_ | (refine kR ?_; first | refine F.m [9] (hA) ?_) | fail
        exact ⟨j + 1, F.fit ⟨rfl, trivial⟩ ⟨obE (by rw [hst, Nat.zero_add i]), trivial⟩, by omega, by omega⟩
      · obtain rfl : j = a.b.length := by omega
        generalize cmbV p n a.b (K.getD i default) a.b.length = X at hcl hts ⊢
        repeat' first | refine s1 ?_ | refine q1 ?_ | (refine kR ?_; first | refine F.a1 (List Int) (a := X) ?_) | fail
        exact ⟨i + 1, F.fit ⟨rfl, rfl, trivial⟩ ⟨obE (by rw [hts]), trivial⟩, by omega, by omega⟩
    · obtain rfl : i = K.length := by omega
      have e : ML.take K.length = ML := List.take_of_length_le (by omega)
      rw [e]
      rw [← hMl]
      clear hp2 e
      repeat' first | refine s1 ?_ | refine q1 ?_ | (refine kR ?_; first | refine F.c (hS) ?_) | fail
      (refine kZ ?_; exact F.ret rfl)
end Go.Proofs.YtedjajokbdokhaaGreat.V

/- Contracts: the socle, as the program builds it. -/
namespace Go.Proofs.YtedjajokbdokhaaGreat.V
open V.Enc (enc)
open Go.RowKit G D
set_option linter.unusedVariables false
set_option linter.unusedSimpArgs false
set_option maxHeartbeats 4000000
set_option maxRecDepth 4000
attribute [local irreducible] AW ARg ARA ARet MRet ASil AC AM

theorem socle_m {r : Rep} (h : isRep r = true) {k : Nat} (hk : k < r.q.fr.length) : isF r.p = true ∧ isMat r.p (r.m.getD k default) = true ∧ (0 ≤ r.q.fr.getD k default ∧ (r.q.fr.getD k default).toNat < r.d.length) ∧ (r.m.getD k default).c = r.d.getD (r.q.fr.getD k default).toNat default := by
  obtain ⟨h1, h2, h3, h4⟩ := isRep_spec h
  obtain ⟨c1, c2, c3, _⟩ := areDims_spec h2
  have t : 0 ≤ r.q.fr.getD k default ∧ r.q.fr.getD k default < r.q.n := okQ_fr c1 hk
  have hm := h4 k (by omega)
  simp only [fitM, Bool.and_eq_true, decide_eq_true_eq] at hm
  exact ⟨h1, hm.1.1, ⟨t.1, by omega⟩, hm.1.2⟩
theorem matKer_a {p : Int} {m : Mat} (h : isMat p m = true) : AC Tryz.prog 116 [.i p, .agg (enc false m)] [.dt true 1 (E true (kerL p m.r.toNat m.c.toNat (ent m)))] := by
  obtain ⟨h0, h1, h2, h3, h4⟩ := isMat_spec h
  have := kernel_a p m.r.toNat m.c.toNat (ent m) h0 (by omega) (by omega) (ent_bd h)
  rw [isMat_tm h] at this
  exact this
theorem kerSpan_a {p : Int} {m : Mat} (h : isMat p m = true) : AC Tryz.prog 114 [.i p, .i m.c, ar false (kerL p m.r.toNat m.c.toNat (ent m))] [.agg (enc true (kerS p m))] := by
  obtain ⟨h0, h1, h2, h3, h4⟩ := isMat_spec h
  have hp := isF_pos h0
  have hl := kerL_le p m.r.toNat m.c.toNat (ent m)
  have := span_a p m.c.toNat _ h0 (by omega) (by omega) (kerL_vec (r := m.r.toNat) (c := m.c.toNat) (f := ent m) hp.1)
  rw [Int.toNat_of_nonneg h2.1] at this
  exact this
theorem fulS_take {d : List Int} {k : Nat} (h : k < d.length) : (d.take (k + 1)).map fulS = (d.take k).map fulS ++ [fulS (d.getD k default)] := by
  have e : d.getD k default = d[k] := by simp [h]
  rw [List.take_succ_eq_append_getElem h, List.map_append, e]
  rfl
def socP (r : Rep) : List Spc × Bool := if isRep r = true then (socL r, true) else ([], false)
end Go.Proofs.YtedjajokbdokhaaGreat.V
