/- Texts that the proof needs: C1, A80, A83, B7, C2. -/
import Derived.Test.YtbcfbcfiahmncaaGreatQddA74
import Derived.Test.YtbcfbcfiahmncaaGreatQddB9
namespace Go.Proofs.YtbcfbcfiahmncaaGreat.V
open Go.RowKit G D
set_option linter.unusedVariables false
set_option linter.unusedSimpArgs false
set_option maxHeartbeats 4000000
set_option maxRecDepth 4000
attribute [local irreducible] AW ARg ARA ARet MRet ASil AC AM
theorem l12Zero_a (r : Rep) (h : r.d.length ≤ 1000) : AC Tryz.prog 150 [.agg (enc false r)] [.dt true 2 (E true (radK r 0))] := by
 refine AC.go Tryz.func150 Tryz.ntmps150 rfl rfl fun w0 hw => ?_; simp [WfL, WfA, E_length, Enc.enc, In64] at hw
 unfold radK
 repeat' first | refine s1 ?_ | fail
 refine AW.open 3 2 (.inr rfl) ?_
 refine F.loop (σ := Nat) [3, 4, 6, 7, 8, 9, 10, 11, 12, 13, 14, 15, 16, 17, 18, 19, 20, 21, 22] (fun k => [(3, .sl 1 k 0 k), (4, .i k)]) (fun k => [(1, .live false 2 (E true ((r.d.take k).map fun d => (⟨d, []⟩ : Spc))))]) (fun k => k ≤ r.d.length) (fun k => r.d.length - k) 0 ⟨rfl, rfl, trivial⟩ ⟨rfl, trivial⟩ (Nat.zero_le _) ?_
 rintro k k1
 have hp : ((r.d.take k).map fun d => (⟨d, []⟩ : Spc)).length = k := by simp; omega
 by_cases hk : k < r.d.length
 ·have hts := zeroS_take hk
  generalize (r.d.take k).map (fun d => (⟨d, []⟩ : Spc)) = X at hts hp ⊢
  repeat' first | refine s1 ?_ | (refine kR ?_; first | refine F.a1 Spc (a := ⟨r.d.getD k default, []⟩) ?_ (hmv := .at1 rfl (.em 1 .nil))) | fail
  exact ⟨k + 1, F.fit ⟨rfl, rfl, trivial⟩ ⟨obE (by rw [hts]), trivial⟩, by omega, by omega⟩
 ·obtain rfl : k = r.d.length := by omega
  rw [List.take_length]
  have hml : (r.d.map fun d => (⟨d, []⟩ : Spc)).length = r.d.length := by simp
  rw [← hml]
  repeat' first | refine s1 ?_ | fail
  (refine kZ ?_; exact F.ret rfl)
theorem matImg_a {p : Int} {m : Mat} (h : isMat p m = true) : AC Tryz.prog 185 [.i p, .agg (enc false m)] [.dt true 1 (E true (pivC m.r.toNat (ent m) (redK p m.r.toNat (ent m) m.c.toNat).2))] := by
 obtain ⟨h0, h1, h2, h3, h4⟩ := isMat_spec h
 have := l4Image_a p m.r.toNat m.c.toNat (ent m) h0 (by omega) (by omega) (ent_bd h)
 rw [isMat_tm h] at this
 exact this
theorem pivC_vec {p : Int} {m : Mat} (h : isMat p m = true) : VecB p m.r.toNat (pivC m.r.toNat (ent m) (redK p m.r.toNat (ent m) m.c.toNat).2) ∧ (pivC m.r.toNat (ent m) (redK p m.r.toNat (ent m) m.c.toNat).2).length ≤ 8 := by
 obtain ⟨h0, h1, h2, h3, h4⟩ := isMat_spec h
 have hp := isF_pos h0
 obtain ⟨b1, b2, b3, b4⟩ := redK_bd (show 0 < p by omega) (ent_bd h) m.c.toNat
 refine ⟨fun x hx => ?_, by rw [pivC_len]; omega⟩
 simp only [pivC, List.mem_map] at hx
 obtain ⟨k, hk, rfl⟩ := hx
 exact ⟨rowL_len .., fun j hj => by rw [rowL_get _ hj]; exact ent_bd h j hj k (b4 k hk)⟩
theorem imgL5_a {p : Int} {m : Mat} (h : isMat p m = true) : AC Tryz.prog 184 [.i p, .i m.r, ar false (pivC m.r.toNat (ent m) (redK p m.r.toNat (ent m) m.c.toNat).2)] [.agg (enc true (imgS p m))] := by
 obtain ⟨h0, h1, h2, h3, h4⟩ := isMat_spec h
 obtain ⟨v1, v2⟩ := pivC_vec h
 have := l5Span_a p m.r.toNat _ h0 (by omega) (by omega) v1
 rw [span_cols h0 (ent_bd h), Int.toNat_of_nonneg h1.1] at this
 exact this
def dimS (l : List Spc) : List Int := l.map fun s => (s.b.length : Int)
theorem dimS_take {l : List Spc} {k : Nat} (h : k < l.length) : dimS (l.take (k + 1)) = dimS (l.take k) ++ [((l.getD k default).b.length : Int)] := by
 have e : l.getD k default = l[k] := by simp [h]
 rw [dimS, List.take_succ_eq_append_getElem h, List.map_append, e]
 rfl
theorem dimS_len (l : List Spc) : (dimS l).length = l.length := by simp [dimS]
theorem subDims_a (l : List Spc) (hl : l.length ≤ 1000) (hb : ∀ i, i < l.length → (l.getD i default).b.length ≤ 1000) : AC Tryz.prog 133 [ar false l] [.dt true 1 (E true (dimS l))] := by
 refine AC.go Tryz.func133 Tryz.ntmps133 rfl rfl fun w0 hw => ?_; simp [WfL, WfA, E_length, Enc.enc, In64] at hw
 repeat' first | refine s1 ?_ | fail
 refine AW.open 3 1 (.inl rfl) ?_
 refine F.loop (σ := Nat) [3, 5, 8, 9, 10, 11, 12, 13, 14, 15, 16, 17, 18] (fun k => [(3, .sl 0 k 0 k), (8, .i k)]) (fun k => [(0, .live false 1 (E true (dimS (l.take k))))]) (fun k => k ≤ l.length) (fun k => l.length - k) 0 ⟨rfl, rfl, trivial⟩ ⟨rfl, trivial⟩ (Nat.zero_le _) ?_
 rintro k k1
 have hp : (dimS (l.take k)).length = k := by rw [dimS_len, List.length_take]; omega
 by_cases hk : k < l.length
 ·have hts := dimS_take hk
  have hbk := hb k hk
  generalize dimS (l.take k) = X at hts hp ⊢
  repeat' first | refine s1 ?_ | (refine kR ?_; first | refine F.a1 Int ?_) | fail
  exact ⟨k + 1, F.fit ⟨rfl, rfl, trivial⟩ ⟨obE (by rw [hts]), trivial⟩, by omega, by omega⟩
 ·obtain rfl : k = l.length := by omega
  rw [List.take_length]
  have hml := dimS_len l
  rw [← hml]
  repeat' first | refine s1 ?_ | fail
  (refine kZ ?_; exact F.ret rfl)
def topK (d : List Int) (l : List Int) (k : Nat) : List Int := rowL l.length fun v => if v < k then d.getD v default - l.getD v default else l.getD v default
def topD (r : Rep) : List Int := if isRep r = true then topK r.d (dimS (radL r)) r.d.length else []
def subF (p : Int) (m : Mat) (a b : Spc) : Nat → Nat → Int := fun i j => (appV p m (a.b.getD j default)).getD (leadV (b.b.getD i default)).toNat default
def subM (p : Int) (m : Mat) (a b : Spc) : Mat := tm b.b.length a.b.length (subF p m a b)
def subA (r : Rep) (s : List Spc) (i : Nat) : Mat := subM r.p (r.m.getD i default) (s.getD (r.q.fr.getD i default).toNat default) (s.getD (r.q.to.getD i default).toNat default)
def subMs (r : Rep) (s : List Spc) : List Mat := (List.range r.m.length).map (subA r s)
def subR (r : Rep) (s : List Spc) : Rep := ⟨r.p, r.q, dimS s, subMs r s⟩
theorem dimS_get {s : List Spc} {v : Nat} (h : v < s.length) : (dimS s).getD v default = ((s.getD v default).b.length : Int) := by simp [dimS, h]
theorem isSpc_le {p : Int} {s : Spc} (h : isSpc p s = true) : s.b.length ≤ s.n.toNat := by
 obtain ⟨h1, h2, h3, h4⟩ := isSpc_spec h
 have hp := isF_pos h1
 simp only [isSpc, Bool.and_eq_true, decide_eq_true_eq] at h
 have := (spanB_le (show 0 < p by omega) h4.bd).2
 rw [show spanB p s.b.length s.n.toNat (vecF s.b) = s.b from h.2] at this
 exact this
theorem sum_le : ∀ {a b : List Int}, a.length = b.length → (∀ j, j < a.length → a.getD j default ≤ b.getD j default) → a.sum ≤ b.sum
 | [], [], _, _ => by simp
 | x :: a, y :: b, hl, h => by
  have h1 := h 0 (by simp)
  have h2 := sum_le (a := a) (b := b) (by simpa using hl) fun j hj => by simpa using h (j + 1) (by simpa using hj)
  simp only [List.getD_cons_zero] at h1
  simp only [List.sum_cons]
  omega
end Go.Proofs.YtbcfbcfiahmncaaGreat.V
namespace Go.Proofs.YtbcfbcfiahmncaaGreat.V
open Go.RowKit G D
set_option linter.unusedVariables false
set_option linter.unusedSimpArgs false
set_option maxHeartbeats 4000000
set_option maxRecDepth 4000
attribute [local irreducible] AW ARg ARA ARet MRet ASil AC AM ARI
def mixL {α : Type} (x y : List α) (k : Nat) : List α := x.take k ++ y.drop k
theorem mixL_zero {α : Type} (x y : List α) : mixL x y 0 = y := by simp [mixL]
theorem mixL_all {α : Type} {x y : List α} (h : x.length = y.length) : mixL x y x.length = x := by
 unfold mixL
 rw [List.take_length, List.drop_of_length_le (by omega), List.append_nil]
theorem mixL_len {α : Type} {x y : List α} (h : x.length = y.length) (k : Nat) : (mixL x y k).length = y.length := by
 simp [mixL]; omega
theorem mixL_set {α : Type} [Inhabited α] {x y : List α} (h : x.length = y.length) {k : Nat} (hk : k < x.length) : (mixL x y k).set k (x.getD k default) = mixL x y (k + 1) := by
 unfold mixL
 have h2 : k - (x.take k).length = 0 := by simp; omega
 have h3 : y.drop k = y[k]'(by omega) :: y.drop (k + 1) := List.drop_eq_getElem_cons (by omega)
 rw [h3, List.set_append_right _ _ (by simp; omega), h2, List.set_cons_zero, List.take_succ_eq_append_getElem hk, List.append_assoc]
 congr 1
 simp [hk]
theorem mixL_get {α : Type} [Inhabited α] {x y : List α} (h : x.length = y.length) {k : Nat} (hk : k < y.length) : (mixL x y k).getD k default = y.getD k default := by
 unfold mixL
 have h3 : y.drop k = y[k]'(by omega) :: y.drop (k + 1) := List.drop_eq_getElem_cons (by omega)
 have h2 : (x.take k).length = k := by simp; omega
 rw [h3]
 simp [List.getElem?_append_right, h2, hk]
end Go.Proofs.YtbcfbcfiahmncaaGreat.V
namespace Go.Proofs.YtbcfbcfiahmncaaGreat.V
open Go.RowKit G D
set_option linter.unusedVariables false
set_option linter.unusedSimpArgs false
set_option maxHeartbeats 4000000
set_option maxRecDepth 4000
attribute [local irreducible] AW ARg ARA ARet MRet ASil AC AM
theorem ker_take {p : Int} {c : Nat} {g : Nat → Nat → Int} {piv : List Nat} {j : Nat} (hj : j < (freeL c piv).length) : ((freeL c piv).map fun k => kerV p c g piv k piv.length).take (j + 1) = ((freeL c piv).map fun k => kerV p c g piv k piv.length).take j ++ [kerV p c g piv ((freeL c piv).getD j default) piv.length] := by
 have e : (freeL c piv).getD j default = (freeL c piv)[j] := by simp [hj]
 rw [List.take_succ_eq_append_getElem (by simpa using hj), e]
 simp
theorem kernel_a (p : Int) (r c : Nat) (f : Nat → Nat → Int) (hf : isF p = true) (hr : r ≤ 1024) (hc : c ≤ 1024) (hb : BdF p r c f) :
  AC Tryz.prog 125 [.i p, .agg (enc false (tm r c f))] [.dt true 1 (E true (kerL p r c f))] := by
 refine AC.go Tryz.func125 Tryz.ntmps125 rfl rfl fun w0 hw => ?_; simp [WfL, WfA, E_length, Enc.enc, In64] at hw
 have h5 := isF_pos hf
 have hR := implReduce_a p r c f hf hr hc hb
 obtain ⟨b1, b2, b3, b4⟩ := redK_bd (p := p) (by omega) hb c
 unfold kerL
 generalize redK p r f c = R at hR b1 b2 b3 b4 ⊢
 obtain ⟨g, piv⟩ := R
 dsimp only at hR b1 b2 b3 b4 ⊢
 have hFr := freeColumns_a c piv (by omega)
 have hKt := fun j hj => ker_take (p := p) (c := c) (g := g) (piv := piv) (j := j) hj
 have hKl : ((freeL c piv).map fun k => kerV p c g piv k piv.length).length = (freeL c piv).length := by simp
 have hfl := freeL_le c piv
 have hfm := fun j (hj : j < (freeL c piv).length) => (freeL_lt (c := c) (piv := piv) ((freeL c piv).getD j default) (by simp [hj])).1
 have hfi := ints_len (freeL c piv)
 have hfg := fun j (hj : j < (freeL c piv).length) => ints_get (freeL c piv) hj
 generalize ((freeL c piv).map fun k => kerV p c g piv k piv.length) = KL at hKt hKl ⊢
 generalize freeL c piv = FL at hFr hKt hKl hfl hfm hfi hfg
 generalize ints FL = FI at hFr hfi hfg
 have hpl := ints_len piv
 have hpg := fun i (hi : i < piv.length) => ints_get piv hi
 generalize ints piv = PI at hR hFr hpl hpg
 have hN := tab_len r c g
 repeat' first | refine s1 ?_ | refine q1 ?_ | (refine kR ?_; first | refine F.c (hR) ?_ | refine F.c (hFr) ?_) | fail
 refine AW.open 7 1 (.inl rfl) ?_
 refine F.loop (σ := Nat) [7, 9, 10, 11, 12, 24, 25, 26, 27, 28, 29, 30, 31, 32, 33, 34, 35, 36, 37, 38, 39, 40, 41, 42, 43, 44, 45, 46, 47, 48, 49, 50, 51, 52, 53, 54, 55, 56, 57, 58, 59] (fun j => [(7, .sl 5 j 0 j), (24, .i j)]) (fun j => [(1, .live false 1 (E true (tab r c g))), (5, .live false 1 (E true (KL.take j)))]) (fun j => j ≤ FL.length) (fun j => FL.length - j) 0 ⟨rfl, rfl, trivial⟩ ⟨rfl, rfl, trivial⟩ (Nat.zero_le _) ?_
 rintro j j1
 have hp2 : (KL.take j).length = j := by rw [List.length_take]; omega
 by_cases hj : j < FL.length
 ·have hf1 := hfg j hj
  have hq := hfm j hj
  have hts := hKt j hj
  generalize FL.getD j default = q at hf1 hq hts
  have hf2 : FI.getD (0 + j) default = (q : Int) := by rw [Nat.zero_add]; exact hf1
  have hT : (FI.getD (0 + j) default).toNat = q := by rw [hf2]; exact Int.toNat_natCast q
  have hf4 : FI[j]?.getD default = (q : Int) := by rw [← List.getD_eq_getElem?_getD]; exact hf1
  have hf5 : FI[j]?.getD 0 = (q : Int) := hf4
  repeat' first | refine s1 ?_ | refine q1 ?_ | (refine kR ?_; first | refine F.mk (m := c) Int rfl rfl rfl (mkB (by omega)) (by omega) rfl rfl ?_) | fail
  have e0 : (List.replicate c 0).set (0 + (FI.getD (0 + j) default).toNat) (1 : Int) = kerV p c g piv q 0 := by rw [Nat.zero_add, hT]; rfl
  rw [e0]
  clear e0
  refine F.loop (σ := Nat) [11, 12, 36, 37, 38, 39, 40, 41, 42, 43, 44, 45, 46, 47, 48, 49, 50, 51, 52, 53, 54] (fun i => [(36, .i i)]) (fun i => [(1, .live false 1 (E true (tab r c g))), (6, .live false 1 (E true (kerV p c g piv q i)))]) (fun i => i ≤ piv.length) (fun i => piv.length - i) 0 ⟨rfl, trivial⟩ ⟨rfl, rfl, trivial⟩ (Nat.zero_le _) ?_
  rintro i i1
  by_cases hi : i < piv.length
  ·have hir : i < r := by omega
   have hpi := hpg i hi
   have hpq : piv.getD i default < c := b4 _ (by simp [hi])
   have hst : kerV p c g piv q (i + 1) = (kerV p c g piv q i).set (piv.getD i 0) (-(g i q) % p) := rfl
   rw [← neg_mod] at hst
   have hvl := kerV_len p c g piv q i
   have hRw := row_m r c i g _ hN hir hr hc
   have hpi' : PI.getD (0 + i) default = (piv.getD i default : Nat) := by rw [Nat.zero_add]; exact hpi
   have hT2 : (PI.getD (0 + i) default).toNat = piv.getD i 0 := by rw [hpi']; exact Int.toNat_natCast _
   have hx := b1 i hir (FI.getD (0 + j) default).toNat (by omega)
   have hxq : g i (FI.getD (0 + j) default).toNat = g i q := by rw [hT]
   have hi64 : In64 (p - g i (FI.getD (0 + j) default).toNat) := by unfold In64; omega
   have hqc : (FI.getD (0 + j) default).toNat < c := by omega
   clear hpi
   generalize kerV p c g piv q i = X at hst hvl ⊢
   rw [← hT2, ← hxq] at hst
   repeat' first | refine s1 ?_ | refine q1 ?_ | (refine kR ?_; first | refine F.m [1] (hRw) ?_) | fail
   exact ⟨i + 1, F.fit ⟨rfl, trivial⟩ ⟨rfl, obE (by rw [hst, Nat.zero_add (PI.getD (0 + i) default).toNat]), trivial⟩, by omega, by omega⟩
  ·obtain rfl : i = piv.length := by omega
   have hvl := kerV_len p c g piv q piv.length
   generalize kerV p c g piv q piv.length = X at hts hvl ⊢
   repeat' first | refine s1 ?_ | refine q1 ?_ | (refine kR ?_; first | refine F.a1 (List Int) (a := X) ?_) | fail
   exact ⟨j + 1, F.fit ⟨rfl, rfl, trivial⟩ ⟨rfl, obE (by rw [hts]), trivial⟩, by omega, by omega⟩
 ·obtain rfl : j = FL.length := by omega
  have e : KL.take FL.length = KL := List.take_of_length_le (by omega)
  rw [e]
  rw [← hKl]
  clear hp2 e
  repeat' first | refine s1 ?_ | refine q1 ?_ | fail
  (refine kZ ?_; exact F.ret rfl)
def idK (k : Nat) : Nat → Nat → Int := fun i j => if i = j ∧ i < k then 1 else 0
theorem idK_zero : idK 0 = fun _ _ => 0 := by funext i j; simp [idK]
theorem idK_set (k : Nat) : updF (idK k) k k 1 = idK (k + 1) := by
 funext i j
 simp only [idK, updF]
 by_cases h1 : i = k
 ·subst h1
  by_cases h2 : j = i
  ·subst h2; simp
  ·have : ¬ i = j := fun h => h2 h.symm
   simp [h2, this]
 ·have : i < k + 1 ↔ i < k := by omega
  simp [h1, this]
theorem idK_all (n : Nat) : tab n n (idK n) = tab n n idF := tab_ext fun i hi j hj => by simp [idK, idF, hi]
theorem identity_a (n : Nat) (hn : n ≤ 1000) : AC Tryz.prog 131 [.i (n : Int)] [.agg (enc true (tm n n idF))] := by
 refine AC.go Tryz.func131 Tryz.ntmps131 rfl rfl fun w0 hw => ?_; simp [WfL, WfA, E_length, Enc.enc, In64] at hw
 have hZ := zeroT_a n n (by omega) (by omega)
 repeat' first | refine s1 ?_ | refine q1 ?_ | (refine kR ?_; first | refine F.c (hZ) ?_) | fail
 refine F.loop (σ := Nat) [4, 9, 10, 11, 12, 13, 14, 15, 16, 17, 18, 19, 20] (fun i => [(9, .i i)]) (fun i => [(1, .live false 1 (E true (tab n n (idK i))))]) (fun i => i ≤ n) (fun i => n - i) 0 ⟨rfl, trivial⟩ ⟨obE (by rw [idK_zero]), trivial⟩ (Nat.zero_le _) ?_
 rintro i i1
 by_cases hi : i < n
 ·obtain ⟨t1, t2⟩ := tab_in (i := i) (j := i) (r := n) (c := n) hi hi (by omega) (by omega)
  repeat' first | refine s1 ?_ | refine q1 ?_ | fail
  exact ⟨i + 1, F.fit ⟨rfl, trivial⟩ ⟨obE (by rw [idK_set]), trivial⟩, by omega, by omega⟩
 ·obtain rfl : i = n := by omega
  rw [idK_all]
  repeat' first | refine s1 ?_ | refine q1 ?_ | fail
  (refine kZ ?_; exact F.ret rfl)
theorem matKer_a {p : Int} {m : Mat} (h : isMat p m = true) : AC Tryz.prog 125 [.i p, .agg (enc false m)] [.dt true 1 (E true (kerL p m.r.toNat m.c.toNat (ent m)))] := by
 obtain ⟨h0, h1, h2, h3, h4⟩ := isMat_spec h
 have := kernel_a p m.r.toNat m.c.toNat (ent m) h0 (by omega) (by omega) (ent_bd h)
 rw [isMat_tm h] at this
 exact this
theorem kerSpan_a {p : Int} {m : Mat} (h : isMat p m = true) : AC Tryz.prog 199 [.i p, .i m.c, ar false (kerL p m.r.toNat m.c.toNat (ent m))] [.agg (enc true (kerS p m))] := by
 obtain ⟨h0, h1, h2, h3, h4⟩ := isMat_spec h
 have hp := isF_pos h0
 have hl := kerL_le p m.r.toNat m.c.toNat (ent m)
 have := span_a p m.c.toNat _ h0 (by omega) (by omega) (kerL_vec (r := m.r.toNat) (c := m.c.toNat) (f := ent m) hp.1)
 rw [Int.toNat_of_nonneg h2.1] at this
 exact this
theorem l3Identity_a (n : Nat) (hn : n ≤ 1000) : AC Tryz.prog 116 [.i (n : Int)] [.agg (enc true (tm n n idF))] := by
 refine AC.go Tryz.func116 Tryz.ntmps116 rfl rfl fun w0 hw => ?_; simp [WfL, WfA, E_length, Enc.enc, In64] at hw
 have hZ := l3ZeroT_a n n (by omega) (by omega)
 repeat' first | refine s1 ?_ | refine q1 ?_ | (refine kR ?_; first | refine F.c (hZ) ?_) | fail
 refine F.loop (σ := Nat) [4, 8, 9, 10, 11, 12, 13, 14, 15, 16, 17, 18, 19, 20] (fun i => [(4, .i i)]) (fun i => [(1, .live false 1 (E true (tab n n (idK i))))]) (fun i => i ≤ n) (fun i => n - i) 0 ⟨rfl, trivial⟩ ⟨obE (by rw [idK_zero]), trivial⟩ (Nat.zero_le _) ?_
 rintro i i1
 by_cases hi : i < n
 ·obtain ⟨t1, t2⟩ := tab_in (i := i) (j := i) (r := n) (c := n) hi hi (by omega) (by omega)
  repeat' first | refine s1 ?_ | refine q1 ?_ | fail
  exact ⟨i + 1, F.fit ⟨rfl, trivial⟩ ⟨obE (by rw [idK_set]), trivial⟩, by omega, by omega⟩
 ·obtain rfl : i = n := by omega
  rw [idK_all]
  repeat' first | refine s1 ?_ | refine q1 ?_ | fail
  (refine kZ ?_; exact F.ret rfl)
end Go.Proofs.YtbcfbcfiahmncaaGreat.V
namespace Go.Proofs.YtbcfbcfiahmncaaGreat.V
open Go.RowKit G D
set_option linter.unusedVariables false
set_option linter.unusedSimpArgs false
set_option maxHeartbeats 4000000
set_option maxRecDepth 4000
attribute [local irreducible] AW ARg ARA ARet MRet ASil AC AM ARI
theorem matL4Ker_a {p : Int} {m : Mat} (h : isMat p m = true) : AC Tryz.prog 143 [.i p, .agg (enc false m)] [.dt true 1 (E true (kerL p m.r.toNat m.c.toNat (ent m)))] := by
 obtain ⟨h0, h1, h2, h3, h4⟩ := isMat_spec h
 have := l4Kernel_a p m.r.toNat m.c.toNat (ent m) h0 (by omega) (by omega) (ent_bd h)
 rw [isMat_tm h] at this
 exact this
theorem kerL5_a {p : Int} {m : Mat} (h : isMat p m = true) : AC Tryz.prog 184 [.i p, .i m.c, ar false (kerL p m.r.toNat m.c.toNat (ent m))] [.agg (enc true (kerS p m))] := by
 obtain ⟨h0, h1, h2, h3, h4⟩ := isMat_spec h
 have hp := isF_pos h0
 have hl := kerL_le p m.r.toNat m.c.toNat (ent m)
 have := l5Span_a p m.c.toNat _ h0 (by omega) (by omega) (kerL_vec (r := m.r.toNat) (c := m.c.toNat) (f := ent m) hp.1)
 rw [Int.toNat_of_nonneg h2.1] at this
 exact this
end Go.Proofs.YtbcfbcfiahmncaaGreat.V
