/- Joined: Contracts: the radical, as the reference builds it; both results. Contracts of the laws' helpers on lists of spaces: equality, marks. How much the radical's memory holds. No program is walked. Contracts: dimensions of spaces, and of the top.. -/
import Derived.Test.YtedjajokbdokhaaB6
import Derived.Test.YtedjajokbdokhaaB8
import Derived.Test.YtedjajokbdokhaaUm
/- Contracts: the radical, as the reference builds it; both results. -/
namespace Go.Proofs.Ytedjajokbdokhaa.V
open V.Enc (enc)
open Go.RowKit G D
set_option linter.unusedVariables false
set_option linter.unusedSimpArgs false
set_option maxHeartbeats 4000000
set_option maxRecDepth 4000
attribute [local irreducible] AW ARg ARA ARet MRet ASil AC AM

theorem matImg_a {p : Int} {m : Mat} (h : isMat p m = true) : AC Try.prog 41 [.i p, .agg (enc false m)] [.dt true 1 (E true (pivC m.r.toNat (ent m) (redK p m.r.toNat (ent m) m.c.toNat).2))] := by
  obtain ⟨h0, h1, h2, h3, h4⟩ := isMat_spec h
  have := l4Image_a p m.r.toNat m.c.toNat (ent m) h0 (by omega) (by omega) (ent_bd h)
  rw [isMat_tm h] at this
  exact this
theorem pivC_vec {p : Int} {m : Mat} (h : isMat p m = true) : VecB p m.r.toNat (pivC m.r.toNat (ent m) (redK p m.r.toNat (ent m) m.c.toNat).2) ∧ (pivC m.r.toNat (ent m) (redK p m.r.toNat (ent m) m.c.toNat).2).length ≤ 8 := by
  obtain ⟨h0, h1, h2, h3, h4⟩ := isMat_spec h
  have hp := isF_pos h0
  obtain ⟨b1, b2, b3, b4⟩ := redK_bd (show 0 < p by omega) (ent_bd h) m.c.toNat
  refine ⟨fun x hx => ?_, by rw [pivC_len]; omega⟩
  simp only [pivC, List.mem_map] at hx
  obtain ⟨k, hk, rfl⟩ := hx
  exact ⟨rowL_len .., fun j hj => by rw [rowL_get _ hj]; exact ent_bd h j hj k (b4 k hk)⟩
theorem imgL5_a {p : Int} {m : Mat} (h : isMat p m = true) : AC Try.prog 40 [.i p, .i m.r, ar false (pivC m.r.toNat (ent m) (redK p m.r.toNat (ent m) m.c.toNat).2)] [.agg (enc true (imgS p m))] := by
  obtain ⟨h0, h1, h2, h3, h4⟩ := isMat_spec h
  obtain ⟨v1, v2⟩ := pivC_vec h
  have := l5Span_a p m.r.toNat _ h0 (by omega) (by omega) v1
  rw [span_cols h0 (ent_bd h), Int.toNat_of_nonneg h1.1] at this
  exact this
def radP (r : Rep) : List Spc × Bool := if isRep r = true then (radL r, true) else ([], false)
end Go.Proofs.Ytedjajokbdokhaa.V

/- Contracts of the laws' helpers on lists of spaces: equality, marks. -/
namespace Go.Proofs.Ytedjajokbdokhaa.V
open V.Enc (enc)
open Go.RowKit G D
set_option linter.unusedVariables false
set_option linter.unusedSimpArgs false
set_option maxHeartbeats 4000000
set_option maxRecDepth 4000
attribute [local irreducible] AW ARg ARA ARet MRet ASil AC AM

theorem eqSpace_s (s : Spc) : AC Try.prog 45 [.agg (enc false s), .agg (enc false s)] [.b true] := by
  refine AC.go Try.func45 Try.ntmps45 rfl rfl fun w0 hw => ?_; simp [WfL, WfA, E_length, Enc.enc, In64] at hw
  have hA := eqIntSS_a s.b s.b
  rw [decide_eq_true rfl] at hA
  repeat' first | refine s1 ?_ | (refine kR ?_; first | refine F.c (hA) ?_) | fail
  exact F.ret rfl
theorem eqSpaceS_s (ms : List Spc) : AC Try.prog 20 [ar false ms, ar false ms] [.b true] := by
  refine AC.go Try.func20 Try.ntmps20 rfl rfl fun w0 hw => ?_; simp [WfL, WfA, E_length, Enc.enc, In64] at hw
  repeat' first | refine s1 ?_ | fail
  refine F.loop (σ := Nat) [4, 5, 11, 12, 13, 14, 15, 16, 17, 18, 19, 20, 21, 22, 23, 24, 25, 26] (fun k => [(5, .i k)]) (fun _ => []) (fun k => k ≤ ms.length) (fun k => ms.length - k) 0 ⟨rfl, trivial⟩ trivial (Nat.zero_le _) ?_
  rintro k h1
  by_cases hlt : k < ms.length
  · have hA := eqSpace_s (ms.getD k default)
    repeat' first | refine s1 ?_ | fail
    refine AW.draw 10 G.mixed (by kernel_rfl) ?_
    refine dP 0 ?_
    refine dP 1 ?_
    refine dP 2 ?_
    refine dL 3 ?_
    refine dP 4 ?_
    refine dP 5 ?_
    refine dP 6 ?_
    refine dL 7 ?_
    refine dO 8 true ?_
    first | refine s1 ?_ | refine F.c (hA) ?_
    refine ARg.nil (ATh.normal ?_)
    refine dP 9 ?_
    refine dN ?_
    repeat' first | refine s1 ?_ | fail
    exact ⟨k + 1, F.fit ⟨rfl, trivial⟩ trivial, by omega, by omega⟩
  · repeat' first | refine s1 ?_ | fail
    exact F.ret rfl
def ctS (s : Spc) : Nat := cnt ctL s.b + 1
def lnS (s : Spc) : Nat := s.b.length
theorem ctS_ge (s : Spc) : 1 ≤ ctS s := by unfold ctS; omega
def mkSp (k : Int) (s : Spc) : Spc := ⟨k, mkSS (k + 1) s.b⟩
theorem markSpaceS_m (ms : List Spc) (k : Int) (h0 : 0 ≤ k) (h1 : k + cnt ctS ms + cnt lnS ms ≤ 4611686018427387904) : AM Try.prog 23 [.sl 0 ms.length 0 ms.length, .i k] [(2, E true ms)] [.i (k + cnt ctS ms)] [(2, E true (mkA mkSp ctS k ms))] := by
  refine AM.go Try.func23 Try.ntmps23 rfl rfl fun w0 mp hw => ?_; simp [WfL, WfA, E_length, Enc.enc, In64] at hw
  have hge := cnt_ge ctS_ge ms
  repeat' first | refine s1 ?_ | fail
  refine F.loop (σ := Nat) [1, 5, 6, 7, 8, 9, 10, 11, 12, 13, 14, 15, 16, 17, 18, 19, 20, 21, 22, 23, 24, 25] (fun j => [(1, .i (k + cnt ctS (ms.take j))), (5, .i j)]) (fun j => [(0, .live false 2 (E true (mkq mkSp ctS k ms j)))]) (fun j => j ≤ ms.length) (fun j => ms.length - j) 0 ⟨iE (by simp [cnt]), rfl, trivial⟩ ⟨obE (by rw [mkq_zero]), trivial⟩ (Nat.zero_le _) ?_
  rintro j h2
  have hp := mkq_len mkSp ctS (k := k) h2
  have hcl := cnt_le ctS (xs := ms) j
  by_cases hlt : j < ms.length
  · have hg := mkq_get mkSp ctS (k := k) hlt
    have hS := mkq_set mkSp ctS (k := k) hlt
    have hc2 := cnt_succ ctS hlt
    have hcl2 := cnt_le ctS (xs := ms) (j + 1)
    have hln := cnt_mem lnS (gm (d := default) hlt)
    generalize hL : mkq mkSp ctS k ms j = L at hp hg hS ⊢
    generalize hkk : k + ↑(cnt ctS (ms.take j)) = kk at hS ⊢
    have hct : ctS (ms.getD j default) = cnt ctL (ms.getD j default).b + 1 := rfl
    have hlnn : lnS (ms.getD j default) = (ms.getD j default).b.length := rfl
    generalize hRr : ms.getD j default = R at hg hS hct hc2 hln hlnn
    obtain ⟨rn, rb⟩ := R
    dsimp only at hct hlnn
    have hl6 : (mkSS (kk + 1) rb).length = rb.length := mkA_len _ _ _ _
    repeat' first | refine s1 ?_ | fail
    refine F.stE (α := Spc) (oo := true) ⟨kk, rb⟩ rfl rfl rfl rfl (by omega) (by omega) rfl (.at1 rfl .nil) rfl (by rw [Nat.zero_add, hg]; rfl) rfl rfl rfl ?_
    rw [Nat.zero_add j]
    generalize hL1 : L.set j ⟨kk, rb⟩ = L1
    have hp1 : L1.length = ms.length := by rw [← hL1]; simp [hp]
    have hg1 : L1.getD j default = ⟨kk, rb⟩ := by rw [← hL1, set_get (by omega)]
    repeat' first | refine s1 ?_ | fail
    refine F.ldTE (α := Spc) (j := 1) rfl rfl (by omega) (by omega) (by rw [Nat.zero_add j, hg1]; rfl) (E_length _ _) rfl rfl ?_
    rw [Nat.zero_add j]
    repeat' first | refine s1 ?_ | fail
    refine F.m [1] (markIntSS_m rb (kk + 1) (by omega) (by omega)) ?_
    refine F.put (α := Spc) (o := 0) (o2 := 1) (k := j) (j := 1) (v := ⟨kk, mkSS (kk + 1) rb⟩) (ls := L1) rfl rfl (by rw [E_length, hl6]) (E_pure _ _) rfl (by omega) rfl (by rw [hg1]; rfl) ?_
    have e : L1.set j ⟨kk, mkSS (kk + 1) rb⟩ = mkq mkSp ctS k ms (j + 1) := by
      rw [← hL1, List.set_set, ← hS]; rfl
    rw [e]
    repeat' first | refine s1 ?_ | fail
    exact ⟨j + 1, F.fit ⟨iE (by rw [hc2, hct]; push_cast; omega), rfl, trivial⟩ ⟨rfl, trivial⟩, by omega, by omega⟩
  · obtain rfl : j = ms.length := by omega
    rw [mkq_all] at hp ⊢
    rw [List.take_length]
    repeat' first | refine s1 ?_ | fail
    refine F.retM rfl ?_
    exact ⟨rfl, trivial⟩
theorem heldSpaceS_a (k : Int) (ms : List Spc) (h0 : 0 ≤ k) (h1 : k + cnt ctS ms + cnt lnS ms ≤ 4611686018427387904) : AC Try.prog 24 [ar false (mkA mkSp ctS k ms), .i k] [.i (k + cnt ctS ms)] := by
  refine AC.go Try.func24 Try.ntmps24 rfl rfl fun w0 hw => ?_; simp [WfL, WfA, E_length, Enc.enc, In64] at hw
  have hge := cnt_ge ctS_ge ms
  have hl : (mkA mkSp ctS k ms).length = ms.length := mkA_len _ _ _ _
  repeat' first | refine s1 ?_ | fail
  refine F.loop (σ := Nat) [1, 4, 5, 6, 7, 8, 9, 10, 11, 12, 13, 14, 15, 16, 17, 18, 19, 20, 21, 22, 23, 24, 25, 26, 27, 28, 29] (fun j => [(1, .i (k + cnt ctS (ms.take j))), (5, .i j)]) (fun _ => []) (fun j => j ≤ ms.length) (fun j => ms.length - j) 0 ⟨iE (by simp [cnt]), rfl, trivial⟩ trivial (Nat.zero_le _) ?_
  rintro j h2
  have hcl := cnt_le ctS (xs := ms) j
  by_cases hlt : j < ms.length
  · have hg : (mkA mkSp ctS k ms).getD j default = _ := mkA_get mkSp ctS (k := k) hlt
    have hc2 := cnt_succ ctS hlt
    have hcl2 := cnt_le ctS (xs := ms) (j + 1)
    have hln := cnt_mem lnS (gm (d := default) hlt)
    generalize hkk : k + ↑(cnt ctS (ms.take j)) = kk at hg ⊢
    have hct : ctS (ms.getD j default) = cnt ctL (ms.getD j default).b + 1 := rfl
    have hlnn : lnS (ms.getD j default) = (ms.getD j default).b.length := rfl
    generalize hx : ms.getD j default = x at hg hc2 hct hln hlnn
    have hA := heldIntSS_a (kk + 1) x.b (by omega) (by omega)
    have e0 : ((mkA mkSp ctS k ms).getD j default).n = kk := by rw [hg]; rfl
    have e1 : ((mkA mkSp ctS k ms).getD j default).b = mkSS (kk + 1) x.b := by rw [hg]; rfl
    rw [← e1] at hA
    repeat' first | refine s1 ?_ | (refine kR ?_; first | refine F.c (hA) ?_) | fail
    exact ⟨j + 1, F.fit ⟨iE (by rw [hc2, hct]; push_cast; omega), rfl, trivial⟩ trivial, by omega, by omega⟩
  · obtain rfl : j = ms.length := by omega
    rw [List.take_length]
    repeat' first | refine s1 ?_ | fail
    exact F.ret rfl
theorem markSpS_k (xs : List Spc) (k : Int) (h0 : 0 ≤ k) (h : k + cnt ctS xs + cnt lnS xs ≤ 4611686018427387904) : ∃ ys : List Spc, ys.length = xs.length ∧
    AM Try.prog 23 [.sl 0 xs.length 0 xs.length, .i k] [(2, E true xs)] [.i (k + cnt ctS xs)] [(2, E true ys)] ∧ AC Try.prog 24 [ar false ys, .i k] [.i (k + cnt ctS xs)] :=
  ⟨_, mkA_len _ _ _ _, markSpaceS_m xs k h0 h, heldSpaceS_a k xs h0 h⟩
theorem markSpS_o (xs : List Spc) (k : Int) (h0 : 0 ≤ k) (h : k + cnt ctS xs + cnt lnS xs ≤ 4611686018427387904) : ∃ ys : List Spc, ys.length = xs.length ∧
    AM Try.prog 23 [.sl 0 xs.length 0 xs.length, .i k] [(2, E true xs)] [.i (k + cnt ctS xs)] [(2, E true ys)] ∧ True :=
  ⟨_, mkA_len _ _ _ _, markSpaceS_m xs k h0 h, trivial⟩
end Go.Proofs.Ytedjajokbdokhaa.V

/- How much the radical's memory holds. No program is walked. -/
namespace Go.Proofs.Ytedjajokbdokhaa.V
open Go.RowKit G D
set_option linter.unusedVariables false
set_option linter.unusedSimpArgs false
set_option maxHeartbeats 400000
theorem spc_ct {p : Int} {s : Spc} (h : isSpc p s = true) : ctS s ≤ 129 ∧ lnS s ≤ 16 := by
  obtain ⟨h1, h2, h3, h4⟩ := isSpc_spec h
  have := cnt_bd (c := ctL) (B := 8) (xs := s.b) fun x hx => by
    have := (h4 x hx).1
    show x.length ≤ 8
    omega
  unfold ctS lnS
  omega
theorem radP_ct (r : Rep) : cnt ctS (radP r).1 + cnt lnS (radP r).1 ≤ 1000 := by
  unfold radP
  by_cases h : isRep r = true
  · rw [if_pos h]
    obtain ⟨r1, r2, r3, r4⟩ := isRep_spec h
    obtain ⟨c1, c2, c3, _⟩ := areDims_spec r2
    have h5 := okQ_spec c1
    have hl := radK_len r r.q.fr.length
    have key : ∀ x ∈ radL r, ctS x ≤ 129 ∧ lnS x ≤ 16 := fun x hx => by
      obtain ⟨v, hv, rfl⟩ := List.getElem_of_mem hx
      have hv' : v < r.d.length := by rw [← hl]; exact hv
      have := (radK_ok h r.q.fr.length (Nat.le_refl _) v hv').2
      have e : (radK r r.q.fr.length).getD v default = (radL r)[v] := by
        show (radL r).getD v default = _
        simp [hv]
      rw [e] at this
      exact spc_ct this
    have k1 := cnt_bd (c := ctS) (B := 129) (xs := radL r) fun x hx => (key x hx).1
    have k2 := cnt_bd (c := lnS) (B := 16) (xs := radL r) fun x hx => (key x hx).2
    have hl2 : (radL r).length = r.d.length := hl
    show cnt ctS (radL r) + cnt lnS (radL r) ≤ 1000
    omega
  · rw [if_neg h]; simp [cnt]
end Go.Proofs.Ytedjajokbdokhaa.V

/- Contracts: dimensions of spaces, and of the top. -/
namespace Go.Proofs.Ytedjajokbdokhaa.V
open Go.RowKit G D
set_option linter.unusedVariables false
set_option linter.unusedSimpArgs false
set_option maxHeartbeats 4000000
set_option maxRecDepth 4000
attribute [local irreducible] AW ARg ARA ARet MRet ASil AC AM

def dimS (l : List Spc) : List Int := l.map fun s => (s.b.length : Int)
theorem dimS_take {l : List Spc} {k : Nat} (h : k < l.length) : dimS (l.take (k + 1)) = dimS (l.take k) ++ [((l.getD k default).b.length : Int)] := by
  have e : l.getD k default = l[k] := by simp [h]
  rw [dimS, List.take_succ_eq_append_getElem h, List.map_append, e]
  rfl
theorem dimS_len (l : List Spc) : (dimS l).length = l.length := by simp [dimS]
theorem subDims_a (l : List Spc) (hl : l.length ≤ 1000) (hb : ∀ i, i < l.length → (l.getD i default).b.length ≤ 1000) : AC Try.prog 34 [ar false l] [.dt true 1 (E true (dimS l))] := by
  refine AC.go Try.func34 Try.ntmps34 rfl rfl fun w0 hw => ?_; simp [WfL, WfA, E_length, Enc.enc, In64] at hw
  repeat' first | refine s1 ?_ | fail
  refine AW.open 3 1 (.inl rfl) ?_
  refine F.loop (σ := Nat) [3, 5, 8, 9, 10, 11, 12, 13, 14, 15, 16, 17, 18] (fun k => [(3, .sl 0 k 0 k), (8, .i k)]) (fun k => [(0, .live false 1 (E true (dimS (l.take k))))]) (fun k => k ≤ l.length) (fun k => l.length - k) 0 ⟨rfl, rfl, trivial⟩ ⟨rfl, trivial⟩ (Nat.zero_le _) ?_
  rintro k k1
  have hp : (dimS (l.take k)).length = k := by rw [dimS_len, List.length_take]; omega
  by_cases hk : k < l.length
  · have hts := dimS_take hk
    have hbk := hb k hk
    generalize dimS (l.take k) = X at hts hp ⊢
    repeat' first | refine s1 ?_ | (refine kR ?_; first | refine F.a1 Int ?_) | fail
    exact ⟨k + 1, F.fit ⟨rfl, rfl, trivial⟩ ⟨obE (by rw [hts]), trivial⟩, by omega, by omega⟩
  · obtain rfl : k = l.length := by omega
    rw [List.take_length]
    have hml := dimS_len l
    rw [← hml]
    repeat' first | refine s1 ?_ | fail
    (refine kZ ?_; exact F.ret rfl)
/-- what the parts' dimensions leave, for the first k vertices -/
def topK (d : List Int) (l : List Int) (k : Nat) : List Int := rowL l.length fun v => if v < k then d.getD v default - l.getD v default else l.getD v default
theorem topK_len (d l : List Int) (k : Nat) : (topK d l k).length = l.length := rowL_len ..
theorem topK_zero (d l : List Int) : topK d l 0 = l := by
  unfold topK
  rw [rowL_ext (g := fun v => l.getD v default) fun v hv => by simp]
  exact rowL_of rfl
theorem topK_get {d l : List Int} {k : Nat} (h : k < l.length) : (topK d l k).getD k default = l.getD k default := by
  unfold topK; rw [rowL_get _ h, if_neg (by omega)]
theorem topK_set {d l : List Int} {k : Nat} (h : k < l.length) : (topK d l k).set k (d.getD k default - l.getD k default) = topK d l (k + 1) := by
  apply List.ext_getElem (by simp [topK])
  intro i h1 h2
  rw [List.getElem_set]
  simp only [topK, rowL, List.getElem_map, List.getElem_range]
  by_cases e : k = i
  · subst e; simp
  · have : i < k + 1 ↔ i < k := by omega
    simp [e, this]
def topD (r : Rep) : List Int := if isRep r = true then topK r.d (dimS (radL r)) r.d.length else []
theorem rad_b {r : Rep} (h : isRep r = true) {v : Nat} (hv : v < r.d.length) : ((radL r).getD v default).b.length ≤ 16 := (isSpc_spec (radK_ok h r.q.fr.length (Nat.le_refl _) v hv).2).2.2.1
theorem topD_len (r : Rep) : (topD r).length ≤ 1000 := by
  unfold topD
  by_cases h : isRep r = true
  · rw [if_pos h, topK_len, dimS_len]
    obtain ⟨r1, r2, r3, r4⟩ := isRep_spec h
    obtain ⟨c1, c2, c3, _⟩ := areDims_spec r2
    have h5 := okQ_spec c1
    have hl : (radL r).length = r.d.length := radK_len r r.q.fr.length
    omega
  · rw [if_neg h]; simp
end Go.Proofs.Ytedjajokbdokhaa.V
