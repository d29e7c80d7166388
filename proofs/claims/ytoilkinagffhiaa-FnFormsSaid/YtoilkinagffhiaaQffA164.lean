/- Texts that the proof needs: A163, A164. -/
import Derived.Test.YtoilkinagffhiaaQffA162
namespace Go.Proofs.Ytoilkinagffhiaa.V
open Go.RowKit G D
set_option linter.unusedVariables false
set_option linter.unusedSimpArgs false
set_option maxHeartbeats 4000000
set_option maxRecDepth 4000
attribute [local irreducible] AW ARg ARA ARet MRet ASil AC AM AMx ACx
theorem specFormatQuiver_c (q : Quiv) : ACx Try.prog 97 [.agg (enc false q)] (fun s : ByteArray => s.size ≤ 20) (fun s => [strA s]) := ACx.ofAMx (specFormatQuiver_x q) (fun s => rfl)
def lenQ (n : Nat) (q : Quiv) : Prop := q.fr.length ≤ n ∧ q.to.length ≤ n
theorem specParseQuiver_x (s : ByteArray) (hs : s.size ≤ 100) : AMx Try.prog 87 [strA s] [] (fun x : Quiv × Bool => lenQ 100 x.1) (fun x => [.agg (enc true x.1), .b x.2]) (fun _ => []) := by
 refine AMx.go Try.func87 Try.ntmps87 rfl rfl fun w0 mp hw => ?_; simp [WfL, WfA, E_length, Enc.enc, In64] at hw
 have hC := l6Cut_x s 32 (by omega)
 repeat' first | refine s1 ?_ | (refine kR ?_; first | (refine F.x [] (hC) ?_; rintro l ⟨l0, l1, l2⟩; refine F.xk ?_)) | fail
 have h00 : (l.getD (0 + 0) default).size ≤ s.size := l2 0 l0
 by_cases hw2 : ((l.getD (0 + 0) default).size : Int) = 2
 ·obtain ⟨z0, hz0⟩ : ∃ z, (l.getD (0 + 0) default)[0]? = some z := ⟨_, getElem?_pos _ 0 (by omega)⟩
  have hzb := UInt8.toNat_lt z0
  by_cases h30 : (s.size : Int) ≤ 30
  ·repeat' first | refine s1 ?_ | (refine kR ?_; first | refine F.sil (A.lenStr (by omega) rfl) rfl rfl ?_ | refine F.sil (A.idxStr (k := 0) rfl rfl hz0) rfl rfl ?_ | refine F.sil (A.cvQI rfl (In64.mk (by omega))) rfl rfl ?_) | fail
   generalize hv : (z0.toNat : Int) - 48 = v
   have hvb : In64 v := by rw [← hv]; unfold In64; omega
   refine AW.only [(0, strA s), (2, .pt 0 1 0 0), (4, .sl 1 l.length 0 l.length), (5, .pt 2 1 0 0), (6, .i 1)] [(0, .live false 3 [[.i 0, .nl, .nl]]), (1, .live false 1 (E true l)), (2, .live false 3 [[.i v, .em, .em]])] 3 ⟨rfl, rfl, rfl, rfl, rfl, trivial⟩ ⟨rfl, rfl, rfl, trivial⟩ rfl ?_
   refine AW.openV (o := 2) (j := 1) 1 rfl rfl (.inr rfl) rfl ?_
   refine AW.openV (o := 2) (j := 2) 1 rfl rfl (.inr rfl) rfl ?_
   refine F.loop (σ := Nat × List Int × List Int) [3, 6, 29, 30, 31, 32, 33, 34, 35, 36, 37, 38, 39, 40, 41, 42, 43, 44, 45, 46, 47, 48, 49, 50, 51, 52, 53, 54, 55, 56, 57, 58, 59, 60, 61, 62, 63, 64, 65] (fun x => [(6, .i ((x.1 + 1 : Nat) : Int))]) (fun x => [(2, .live false 3 [[.i v, .sl 3 x.1 0 x.1, .sl 4 x.1 0 x.1]]), (3, .live false 1 (E true x.2.1)), (4, .live false 1 (E true x.2.2))]) (fun x => x.1 + 1 ≤ l.length ∧ x.2.1.length = x.1 ∧ x.2.2.length = x.1) (fun x => l.length - x.1) (0, [], []) ⟨rfl, trivial⟩ ⟨rfl, rfl, rfl, trivial⟩ ⟨by omega, rfl, rfl⟩ ?_
   rintro ⟨k, fr, to⟩ ⟨k1, k2, k3⟩
   dsimp only at k1 k2 k3 ⊢
   by_cases hk : k + 1 < l.length
   ·have hk0 : (l.getD (0 + (k + 1)) default).size ≤ s.size := by rw [Nat.zero_add]; exact l2 (k + 1) hk
    by_cases hs2 : ((l.getD (0 + (k + 1)) default).size : Int) = 2
    ·obtain ⟨u0, hu0⟩ : ∃ z, (l.getD (0 + (k + 1)) default)[0]? = some z := ⟨_, getElem?_pos _ 0 (by omega)⟩
     obtain ⟨u1, hu1⟩ : ∃ z, (l.getD (0 + (k + 1)) default)[1]? = some z := ⟨_, getElem?_pos _ 1 (by omega)⟩
     have hub0 := UInt8.toNat_lt u0
     have hub1 := UInt8.toNat_lt u1
     repeat' first | refine s1 ?_ | (refine kR ?_; first | refine F.sil (A.lenStr (by omega) rfl) rfl rfl ?_) | fail
     refine AW.draw 10 G.mixed (by kernel_rfl) ?_
     refine dP 0 ?_
     refine dL 1 ?_
     refine dP 2 ?_
     refine dP 3 ?_
     refine dP 4 ?_
     refine dL 5 ?_
     first | refine dP 6 ?_ (hs := by exact (A.idxStr (k := 0) rfl rfl hu0)) | refine dP 6 ?_
     first | refine dP 7 ?_ (hs := by exact (A.cvQI rfl (In64.mk (by omega)))) | refine dP 7 ?_
     refine dP 8 ?_
     refine dO 9 true ?_
     refine s1 ?_
     refine tN ?_
     refine dO 10 false ?_
     first | refine s1 ?_ | refine F.a1 Int ?_
     refine tN ?_
     refine dP 11 ?_
     refine dO 12 false ?_
     refine s1 ?_
     refine tN ?_
     refine dN ?_
     rotate_left
     all_goals
      refine ATh.normal ?_
      refine AW.draw 10 G.mixed (by kernel_rfl) ?_
      refine dP 0 ?_
      refine dL 1 ?_
      refine dP 2 ?_
      refine dP 3 ?_
      refine dP 4 ?_
      refine dL 5 ?_
      first | refine dP 6 ?_ (hs := by exact (A.idxStr (k := 1) rfl rfl hu1)) | refine dP 6 ?_
      first | refine dP 7 ?_ (hs := by exact (A.cvQI rfl (In64.mk (by omega)))) | refine dP 7 ?_
      refine dP 8 ?_
      refine dO 9 true ?_
      refine s1 ?_
      refine tN ?_
      refine dO 10 false ?_
      first | refine s1 ?_ | refine F.a1 Int ?_
      refine tN ?_
      refine dP 11 ?_
      refine dO 12 false ?_
      refine s1 ?_
      refine tN ?_
      refine dN ?_
      rotate_left
      all_goals
       repeat' first | refine s1 ?_ | fail
       exact ⟨(k + 1, fr ++ [(u0.toNat : Int) - 48], to ++ [(u1.toNat : Int) - 48]), F.fit ⟨rfl, trivial⟩ ⟨rfl, obE rfl, obE rfl, trivial⟩, ⟨by omega, by simp; omega, by simp; omega⟩, by show l.length - (k + 1) < l.length - k; omega⟩
    ·repeat' first | refine s1 ?_ | (refine kR ?_; first | refine F.sil (A.lenStr (by omega) rfl) rfl rfl ?_) | fail
     exact F.rx (⟨0, [], []⟩, false) ⟨Nat.zero_le _, Nat.zero_le _⟩ (F.retM rfl trivial)
   ·obtain hkl : k + 1 = l.length := by omega
    have hF := specFormatQuiver_c ⟨v, fr, to⟩
    repeat' first | refine s1 ?_ | (refine kR ?_; first | (refine F.cx (hF) ?_; rintro z hz; refine F.ck ?_) | refine F.sil (A.neqS rfl rfl) rfl rfl ?_) | fail
    generalize (z.toList != s.toList) = c
    cases c with
    | true =>
     repeat' first | refine s1 ?_ | fail
     exact F.rx (⟨0, [], []⟩, false) ⟨Nat.zero_le _, Nat.zero_le _⟩ (F.retM rfl trivial)
    | false =>
     repeat' first | refine s1 ?_ | fail
     exact F.rx (⟨v, fr, to⟩, true) ⟨by show fr.length ≤ 100; omega, by show to.length ≤ 100; omega⟩ (F.retM rfl trivial)
  ·repeat' first | refine s1 ?_ | (refine kR ?_; first | refine F.sil (A.lenStr (by omega) rfl) rfl rfl ?_) | fail
   exact F.rx (⟨0, [], []⟩, false) ⟨Nat.zero_le _, Nat.zero_le _⟩ (F.retM rfl trivial)
 ·repeat' first | refine s1 ?_ | (refine kR ?_; first | refine F.sil (A.lenStr (by omega) rfl) rfl rfl ?_) | fail
  exact F.rx (⟨0, [], []⟩, false) ⟨Nat.zero_le _, Nat.zero_le _⟩ (F.retM rfl trivial)
def nameL : List ByteArray := [⟨#[65, 49]⟩, ⟨#[65, 50]⟩, ⟨#[65, 51]⟩, ⟨#[65, 51, 105, 110]⟩, ⟨#[65, 52]⟩, ⟨#[68, 52]⟩, ⟨#[68, 53]⟩, ⟨#[75, 50]⟩, ⟨#[115, 116, 97, 114, 52]⟩, ⟨#[115, 113, 117, 97, 114, 101]⟩, ⟨#[108, 111, 111, 112]⟩, ⟨#[99, 105, 114, 99, 108, 101]⟩]
theorem l6Names_a : AC Try.prog 86 [] [.dt true 1 (E true nameL)] := by
 refine AC.go Try.func86 Try.ntmps86 rfl rfl fun w0 hw => ?_; simp [WfL, WfA, E_length, Enc.enc, In64] at hw
 repeat' first | refine s1 ?_ | (refine kR ?_; first | refine F.litN (xs := V.E true nameL) rfl rfl rfl rfl rfl rfl rfl rfl ?_) | fail
 (refine kZ ?_; exact F.ret rfl)
theorem specNamedQuiver_x (s : ByteArray) : AMx Try.prog 69 [strA s] [] (fun x : Quiv × Bool => lenQ 100 x.1) (fun x => [.agg (enc true x.1), .b x.2]) (fun _ => []) := by
 refine AMx.go Try.func69 Try.ntmps69 rfl rfl fun w0 mp hw => ?_; simp [WfL, WfA, E_length, Enc.enc, In64] at hw
 have hP := fun t ht => specParseQuiver_x t ht
 iterate 14 (refine s1 ?_)
 refine F.cut (σ := ByteArray) [4, 8, 9, 10, 11, 12, 13, 14, 15, 16, 17, 18, 19, 20, 21, 22, 23, 24, 25, 26, 27, 28, 29, 30, 31] (fun t => [(4, strA t)]) (fun _ => []) (fun t => t.size ≤ 100) ?_ (fun t ht => ?_)
 ·repeat' first | refine s1 ?_ | (refine kR ?_; first | refine F.sil (A.eqlS rfl rfl) rfl rfl ?_) | (refine s2 ?_ ?_ <;> intro hc <;> (try simp only [decide_eq_true_eq, decide_eq_false_iff_not, Bool.not_eq_true', Bool.not_eq_false'] at hc)) | fail
  all_goals exact ⟨_, F.fit ⟨rfl, trivial⟩ trivial, by show ByteArray.size _ ≤ _; decide⟩
 ·repeat' first | refine s1 ?_ | (refine kR ?_; first | (refine F.x [] ((hP t ht)) ?_; rintro ⟨q, c⟩ hq; refine F.xk ?_)) | fail
  exact F.rx (q, c) hq (F.retM rfl trivial)
end Go.Proofs.Ytoilkinagffhiaa.V
namespace Go.Proofs.Ytoilkinagffhiaa.V
open Go.RowKit G D
set_option linter.unusedVariables false
set_option linter.unusedSimpArgs false
set_option maxHeartbeats 4000000
set_option maxRecDepth 4000
attribute [local irreducible] AW ARg ARA ARet MRet ASil AC AM AMx ACx AD
theorem l6Acyclic_x (b : List UInt8) (hl : b.length ≤ 1048576) : AD Try.prog 68 [] b (lenQ 100) (fun q => [.agg (enc true q)]) := by
 refine AD.go Try.func68 Try.ntmps68 rfl rfl fun i h hi w0 mp hw => ?_; simp [WfL, WfA, E_length, Enc.enc, In64] at hw
 have hO := l1Once_x b hl 2
 have hN := l6Names_a
 have hB := fun n => l1Below_x b hl n
 have hP := fun s => specNamedQuiver_x s
 repeat' first | refine s1 ?_ | (refine kR ?_; first | (refine F.dr 0 (hO) (by assumption) ?_; intro c i2 h2 hx hi2; refine F.xk ?_)) | fail
 cases c with
 | true =>
  have hL : nameL.length = 12 := rfl
  generalize nameL = L at hN hL
  repeat' first | refine s1 ?_ | (refine kR ?_; first | refine F.c (hN) ?_ | (refine F.dr 0 ((hB _)) (by assumption) ?_; intro x i3 h3 hx3 hi3; refine F.xk ?_)) | fail
  obtain ⟨k, rfl⟩ : ∃ k : Nat, x = k := ⟨x.toNat, by have := hx3.1 (by omega); omega⟩
  have hk := hx3.1 (by omega)
  clear hx3
  repeat' first | refine s1 ?_ | (refine kR ?_; first | (refine F.x [] ((hP _)) ?_; rintro ⟨q, c⟩ hq; refine F.xk ?_)) | fail
  exact F.rd q hq hi3 (F.retM rfl ⟨rfl, trivial⟩)
 | false =>
  repeat' first | refine s1 ?_ | (refine kR ?_; first | (refine F.dr 0 ((hB _)) (by assumption) ?_; intro v i3 h3 hv hi3; replace hv := hv.1 (by omega); refine F.xk ?_)) | fail
  rename_i V iV hV hVi hVb
  generalize hW : 1 + V = W
  have hWb : 1 ≤ W ∧ W ≤ 4 := by omega
  refine AW.only [(0, .pt 0 1 0 0), (2, .pt 1 1 0 0), (5, .pt 2 1 0 0), (6, .i v)] [(0, .live false 3 (curO b i3 h3)), (1, .live false 3 [[.i 0, .nl, .nl]]), (2, .live false 3 [[.i W, .em, .em]])] 3 ⟨rfl, rfl, rfl, rfl, trivial⟩ ⟨rfl, rfl, rfl, trivial⟩ rfl ?_
  clear hVb hW hVi
  refine AW.openV (o := 2) (j := 1) 1 rfl rfl (.inr rfl) rfl ?_
  refine AW.openV (o := 2) (j := 2) 1 rfl rfl (.inr rfl) rfl ?_
  refine F.loop (σ := Nat × List Int × List Int × Int × Int) [6, 7, 28, 29, 30, 31, 32, 33, 34, 35, 36, 37, 38, 39, 40, 41, 42, 43, 44, 45, 46, 47, 48, 49, 50, 51, 52, 53, 54, 55, 56, 57, 58, 59, 60, 61, 62] (fun x => [(6, .i (v - x.1))]) (fun x => [(0, .live false 3 (curO b x.2.2.2.1 x.2.2.2.2)), (2, .live false 3 [[.i W, .sl 3 x.1 0 x.1, .sl 4 x.1 0 x.1]]), (3, .live false 1 (E true x.2.1)), (4, .live false 1 (E true x.2.2.1))]) (fun x => (x.1 : Int) ≤ v ∧ x.2.1.length = x.1 ∧ x.2.2.1.length = x.1 ∧ okI b x.2.2.2.1) (fun x => v.toNat - x.1) (0, [], [], i3, h3) ⟨iE (by simp), trivial⟩ ⟨rfl, rfl, rfl, rfl, trivial⟩ ⟨by simp; omega, rfl, rfl, hi3⟩ ?_
  rintro ⟨k, fr, to, i4, h4⟩ ⟨k1, k2, k3, hi4⟩
  dsimp only at k1 k2 k3 hi4 ⊢
  by_cases hk : 0 < v - k
  ·by_cases hW1 : 1 < W
   ·repeat' first | refine s1 ?_ | (refine kR ?_; first | (refine F.dr 0 ((hB _)) (by assumption) ?_; intro a i5 h5 ha hi5; replace ha := ha.1 (by omega); refine F.xk ?_) | refine F.a1 Int ?_) | fail
    refine AW.draw 1 G.mixed (by kernel_rfl) ?_
    refine dP 0 ?_
    refine dP 2 ?_
    refine dP 3 ?_
    refine dP 4 ?_
    refine dP 5 ?_
    refine dP 8 ?_
    refine ARA.any [1, 6] (by kernel_rfl) (by simp) ?_
    intro k hk
    simp only [List.mem_cons, List.not_mem_nil, or_false] at hk
    rcases hk with rfl | rfl
    refine ⟨_, true, rfl, rfl, ?_⟩
    refine s1 ?_
    refine tN ?_
    refine dO 6 true ?_
    refine s1 ?_
    refine tN ?_
    refine dP 7 ?_
    refine dP 9 ?_
    refine dO 10 false ?_
    first | refine s1 ?_ | (refine F.dr 0 ((hB _)) (by assumption) ?_; intro e i6 h6 he hi6; replace he := he.1 (by omega); refine F.xk ?_)
    refine tN ?_
    refine dP 11 ?_
    refine dO 12 true ?_
    refine s1 ?_
    refine tN ?_
    refine dO 13 false ?_
    first | refine s1 ?_ | refine F.a1 Int ?_
    refine tN ?_
    refine dP 14 ?_
    refine dO 15 false ?_
    refine s1 ?_
    refine tN ?_
    refine dN ?_
    rotate_left
    refine ⟨_, true, rfl, rfl, ?_⟩
    refine s1 ?_
    refine tN ?_
    refine dP 7 ?_
    refine dP 9 ?_
    refine ARA.any [1, 10] (by kernel_rfl) (by simp) ?_
    intro k hk
    simp only [List.mem_cons, List.not_mem_nil, or_false] at hk
    rcases hk with rfl | rfl
    refine ⟨_, true, rfl, rfl, ?_⟩
    refine s1 ?_
    refine tN ?_
    refine dO 10 false ?_
    first | refine s1 ?_ | (refine F.dr 0 ((hB _)) (by assumption) ?_; intro e i6 h6 he hi6; replace he := he.1 (by omega); refine F.xk ?_)
    refine tN ?_
    refine dP 11 ?_
    refine dO 12 true ?_
    refine s1 ?_
    refine tN ?_
    refine dO 13 false ?_
    first | refine s1 ?_ | refine F.a1 Int ?_
    refine tN ?_
    refine dP 14 ?_
    refine dO 15 false ?_
    refine s1 ?_
    refine tN ?_
    refine dN ?_
    rotate_left
    refine ⟨_, false, rfl, rfl, ?_⟩
    first | refine s1 ?_ | (refine F.dr 0 ((hB _)) (by assumption) ?_; intro e i6 h6 he hi6; replace he := he.1 (by omega); refine F.xk ?_)
    refine tN ?_
    refine dP 11 ?_
    refine ARA.any [1, 12] (by kernel_rfl) (by simp) ?_
    intro k hk
    simp only [List.mem_cons, List.not_mem_nil, or_false] at hk
    rcases hk with rfl | rfl
    refine ⟨_, true, rfl, rfl, ?_⟩
    refine s1 ?_
    refine tN ?_
    refine dO 12 true ?_
    refine s1 ?_
    refine tN ?_
    refine dO 13 false ?_
    first | refine s1 ?_ | refine F.a1 Int ?_
    refine tN ?_
    refine dP 14 ?_
    refine dO 15 false ?_
    refine s1 ?_
    refine tN ?_
    refine dN ?_
    rotate_left
    refine ⟨_, true, rfl, rfl, ?_⟩
    refine s1 ?_
    refine tN ?_
    refine dO 1 true ?_
    refine s1 ?_
    refine tN ?_
    refine dO 13 false ?_
    first | refine s1 ?_ | refine F.a1 Int ?_
    refine tN ?_
    refine dP 14 ?_
    refine dO 15 false ?_
    refine s1 ?_
    refine tN ?_
    refine dN ?_
    rotate_left
    all_goals
     repeat' first | refine s1 ?_ | fail
     exact ⟨(k + 1, fr ++ [a], to ++ [a + 1 + e], i6, h6), F.fit ⟨iE (by omega), trivial⟩ ⟨rfl, rfl, obE rfl, obE rfl, trivial⟩, ⟨by show ((k + 1 : Nat) : Int) ≤ v; omega, by simp; omega, by simp; omega, hi6⟩, by show v.toNat - (k + 1) < v.toNat - k; omega⟩
   ·repeat' first | refine s1 ?_ | fail
    exact F.rd ⟨W, fr, to⟩ ⟨by show fr.length ≤ 100; omega, by show to.length ≤ 100; omega⟩ hi4 (F.retM rfl ⟨rfl, trivial⟩)
  ·repeat' first | refine s1 ?_ | fail
   exact F.rd ⟨W, fr, to⟩ ⟨by show fr.length ≤ 100; omega, by show to.length ≤ 100; omega⟩ hi4 (F.retM rfl ⟨rfl, trivial⟩)
theorem l6Any_x (b : List UInt8) (hl : b.length ≤ 1048576) : AD Try.prog 46 [] b (lenQ 101) (fun q => [.agg (enc true q)]) := by
 refine AD.go Try.func46 Try.ntmps46 rfl rfl fun i h hi w0 mp hw => ?_; simp [WfL, WfA, E_length, Enc.enc, In64] at hw
 have hA := l6Acyclic_x b hl
 have hB := fun n => l1Below_x b hl n
 have hP := fun s => specNamedQuiver_x s
 have hS := l1Pick_x b hl [⟨#[108, 111, 111, 112]⟩, ⟨#[99, 105, 114, 99, 108, 101]⟩] (by decide) (by decide)
 have hI := l1PickInt_x b hl [0, 6, -1, 2] (by decide) (by decide)
 repeat' first | refine s1 ?_ | (refine kR ?_; first | (refine F.dr 0 (hA) (by assumption) ?_; intro q i2 h2 hq hi2; refine F.xk ?_) | (refine F.dr 0 ((hB _)) (by assumption) ?_; intro x i3 h3 hx hi3; refine F.xk ?_)) | fail
 by_cases h0 : x = 0
 ·repeat' first | refine s1 ?_ | (refine kR ?_; first | refine F.litN (xs := V.E true ([⟨#[108, 111, 111, 112]⟩, ⟨#[99, 105, 114, 99, 108, 101]⟩] : List ByteArray)) rfl rfl rfl rfl rfl rfl rfl rfl ?_) | fail
  refine F.freezeA (α := ByteArray) (oo := true) (ls := [⟨#[108, 111, 111, 112]⟩, ⟨#[99, 105, 114, 99, 108, 101]⟩]) 12 rfl rfl rfl ?_
  repeat' first | refine s1 ?_ | (refine kR ?_; first | (refine F.dr 0 (hS) (by assumption) ?_; intro s i4 h4 hs hi4; refine F.xk ?_) | (refine F.x [] ((hP s)) ?_; rintro ⟨q2, c⟩ hq2; refine F.xk ?_)) | fail
  exact F.rd q2 ⟨by have := hq2.1; dsimp only at this; omega, by have := hq2.2; dsimp only at this; omega⟩ hi4 (F.retM rfl ⟨rfl, trivial⟩)
 ·by_cases h1 : x = 1
  ·repeat' first | refine s1 ?_ | (refine kR ?_; first | refine F.litN (xs := V.E true ([0, 6, -1, 2] : List Int)) rfl rfl rfl rfl rfl rfl rfl rfl ?_) | fail
   refine F.freezeA (α := Int) (oo := true) (ls := [0, 6, -1, 2]) 20 rfl rfl rfl ?_
   repeat' first | refine s1 ?_ | (refine kR ?_; first | (refine F.dr 0 (hI) (by assumption) ?_; intro v i4 h4 hs hi4; refine F.xk ?_)) | fail
   exact F.rd ⟨v, q.fr, q.to⟩ ⟨by have := hq.1; show q.fr.length ≤ 101; omega, by have := hq.2; show q.to.length ≤ 101; omega⟩ hi4 (F.retM rfl ⟨rfl, trivial⟩)
  ·by_cases h2' : x = 2
   ·have hq1 := hq.1
    repeat' first | refine s1 ?_ | fail
    refine AW.draw 1 G.mixed (by kernel_rfl) ?_
    refine dP 0 ?_
    refine dP 2 ?_
    refine ARA.any [1, 3] (by kernel_rfl) (by simp) ?_
    intro k hk
    simp only [List.mem_cons, List.not_mem_nil, or_false] at hk
    rcases hk with rfl | rfl
    refine ⟨_, true, rfl, rfl, ?_⟩
    refine s1 ?_
    refine tN ?_
    refine dO 3 false ?_
    first | refine s1 ?_ | (refine F.dr 0 ((hB _)) (by assumption) ?_; intro e i6 h6 he hi6; replace he := he.1 (by omega); refine F.xk ?_)
    refine tN ?_
    refine dP 4 ?_
    refine dO 5 true ?_
    refine s1 ?_
    refine tN ?_
    refine dO 6 false ?_
    first | refine s1 ?_ | refine F.a1 Int ?_
    refine tN ?_
    refine dP 7 ?_
    refine dO 8 false ?_
    refine s1 ?_
    refine tN ?_
    refine dN ?_
    rotate_left
    refine ⟨_, false, rfl, rfl, ?_⟩
    first | refine s1 ?_ | (refine F.dr 0 ((hB _)) (by assumption) ?_; intro e i6 h6 he hi6; replace he := he.1 (by omega); refine F.xk ?_)
    refine tN ?_
    refine dP 4 ?_
    refine ARA.any [1, 5] (by kernel_rfl) (by simp) ?_
    intro k hk
    simp only [List.mem_cons, List.not_mem_nil, or_false] at hk
    rcases hk with rfl | rfl
    refine ⟨_, true, rfl, rfl, ?_⟩
    refine s1 ?_
    refine tN ?_
    refine dO 5 true ?_
    refine s1 ?_
    refine tN ?_
    refine dO 6 false ?_
    first | refine s1 ?_ | refine F.a1 Int ?_
    refine tN ?_
    refine dP 7 ?_
    refine dO 8 false ?_
    refine s1 ?_
    refine tN ?_
    refine dN ?_
    rotate_left
    refine ⟨_, true, rfl, rfl, ?_⟩
    refine s1 ?_
    refine tN ?_
    refine dO 1 true ?_
    refine s1 ?_
    refine tN ?_
    refine dO 6 false ?_
    first | refine s1 ?_ | refine F.a1 Int ?_
    refine tN ?_
    refine dP 7 ?_
    refine dO 8 false ?_
    refine s1 ?_
    refine tN ?_
    refine dN ?_
    rotate_left
    all_goals
     repeat' first | refine s1 ?_ | fail
     exact F.rd ⟨q.n, q.fr ++ [e - 1], q.to⟩ ⟨by show (q.fr ++ [e - 1]).length ≤ 101; simp; omega, by have := hq.2; show q.to.length ≤ 101; omega⟩ (by assumption) (F.retM rfl ⟨rfl, trivial⟩)
   ·repeat' first | refine s1 ?_ | fail
    exact F.rd q ⟨by have := hq.1; omega, by have := hq.2; omega⟩ hi3 (F.retM rfl ⟨rfl, trivial⟩)
end Go.Proofs.Ytoilkinagffhiaa.V
