/- The law FnExactSimpleRep holds for every input: program and reference return the same representation and the same word, the arguments stay as they were, and what is returned is in memory of its own. No condition. -/
import Derived.Test.YtcalkmlaodjpaaaDown
import Derived.Test.YtcalkmlaodjpaaaHeaded
import Derived.Test.YtcalkmlaodjpaaaMr
import Derived.Test.YtcalkmlaodjpaaaA8
import Derived.OpenShut
namespace Go.Proofs.Ytcalkmlaodjpaaa
open V.Enc (enc)
open Go.ChangeShapes Go.WideShapes Go.ChangeAt Go.RowKit G D V
set_option linter.unusedVariables false
set_option linter.unusedSimpArgs false
set_option maxHeartbeats 400000
attribute [local irreducible] V.AW V.ARg V.ARA V.ARet V.MRet V.ASil V.AC V.AM
theorem V.ctR_zero {p : Int} {q : Quiv} {d : List Int} (hq : okQ q = true) (hl : (d.length : Int) = q.n) (hd : ∀ j, j < d.length → 0 ≤ d.getD j default ∧ d.getD j default ≤ 1024) : ctR (zeroR p q d) ≤ 10000000 := by
  have h5 := okQ_spec hq
  have hm : cnt ctM (zeroMs q d) ≤ (zeroMs q d).length * 1048578 := cnt_bd fun m hm => by
    obtain ⟨i, hi, rfl⟩ := List.mem_map.1 hm
    have hi' : i < q.fr.length := by simpa using hi
    have f := okQ_fr hq hi'
    have t := okQ_to hq hi'
    have f' : 0 ≤ q.fr.getD i default ∧ q.fr.getD i default < q.n := f
    have t' : 0 ≤ q.to.getD i default ∧ q.to.getD i default < q.n := t
    have := mulB (hd (q.to.getD i default).toNat (by omega)) (hd (q.fr.getD i default).toNat (by omega))
    simp only [ctM, zeroM, List.length_replicate, gI]; omega
  rw [zeroMs_len] at hm
  have : q.fr.length * 1048578 ≤ 6 * 1048578 := Nat.mul_le_mul_right _ (by omega)
  simp only [ctR, totQ, zeroR]; omega
theorem V.ctR_simple (p : Int) (q : Quiv) (v : Int) : ctR (simpleR p q v).1 ≤ 10000000 := by
  unfold simpleR
  split
  · rename_i h
    have h5 := okQ_spec h.2.1
    exact V.ctR_zero h.2.1 (by rw [oneAt_len]; omega) (oneAt_bd _ _)
  · simp [noR, ctR, totQ, cnt]
theorem fnExactSimpleRep.ac (p : Int) (q : Quiv) (v : Int) : AC Try.prog 6 [.i p, .agg (enc false q), .i v] [.b true] := by
  refine AC.go Try.func6 Try.ntmps6 rfl rfl fun w0 hw => ?_; simp [WfL, WfA, E_length, Enc.enc, In64] at hw
  have hZ := szQuiver_a q 1048576 (by decide) (by decide)
  have hb := sz1_le' (n := totQ q) (l := 1048576)
  generalize sz1 (totQ q) 1048576 = z at hZ hb
  by_cases hs : 0 ≤ z
  · have hb := hb hs
    have hT := toQuiver_a q (by omega)
    have hS := specSimpleRep_a p q v
    have hI := implSimpleRep_a p q v
    have hc := V.ctR_simple p q v
    generalize simpleR p q v = R at hS hI hc
    obtain ⟨r, b⟩ := R
    dsimp only at hS hI hc
    have hE := eqRep_s r
    have hEq := eqQuiver_s q
    obtain ⟨_, _, _, _, hMq⟩ := markQ_x q (by omega)
    obtain ⟨_, _, _, _, _, _, _, _, hM, hH⟩ := markR_x r (by omega)
    have hbb : (b != b) = false := by simp
    repeat' first | refine s1 ?_ | (refine kR ?_; first | refine F.c (hZ) ?_ | refine F.c (hT) ?_ | refine F.c (hS) ?_ | refine F.c (hI) ?_ | refine F.c (hE) ?_ | refine F.sil (A.neqBB rfl rfl) rfl rfl ?_) | fail
    refine AW.draw 5 G.mixed (by kernel_rfl) ?_
    refine dL 0 ?_
    refine dL 1 ?_
    refine dO 2 true ?_
    first | refine s1 ?_ | refine F.c (hT) ?_ | refine F.c (hEq) ?_
    refine ARg.nil (ATh.normal ?_)
    refine dO 3 true ?_
    first | refine s1 ?_ | refine F.c (hT) ?_ | refine F.c (hEq) ?_
    refine ARg.nil (ATh.normal ?_)
    refine dP 4 ?_
    refine dN ?_
    repeat' first | refine s1 ?_ | (refine kR ?_; first | refine F.m [8, 9] (hMq) ?_ | refine F.c (hE) ?_ | refine F.m [11, 12, 13, 14] (hM) ?_ | refine F.c (hH) ?_ | refine F.c (hT) ?_ | refine F.c (hI) ?_ | refine F.sil (A.neqBB rfl rfl) rfl rfl ?_) | fail
    (refine kZ ?_; exact F.ret rfl)
  · repeat' first | refine s1 ?_ | (refine kR ?_; first | refine F.c (hZ) ?_) | fail
    (refine kZ ?_; exact F.ret rfl)
theorem fnExactSimpleRep.walk (w : World) (x : Int) (hx : In64 x) (y : Quiv) (us : List Value) (F : List Nat) (h : quivR.V w y us F) (z : Int) (hz : In64 z) : Run Try.prog 6 [.int .i64 x, .agg us.toArray, .int .i64 z] w fun v w' => v = .bool true ∧ Later w w' :=
  (fnExactSimpleRep.ac x y z).law (.int hx (.agg (RdE.h h) (.int hz (.nil w))))
namespace fnExactSimpleRep
theorem own : ownKnob Try.prog.godebug = none := by kernel_rfl
theorem laidOut : laidOutB Try.prog = true := by kernel_rfl
set_option maxRecDepth 100000 in
theorem lifted (os : Os) (started : os.Started) (H : Type) (enc : TypeId × Value → H) :
    ReturnsInHanded {} Try.checked os 6 .any (Rows.fnExactSimpleRepSpec.pre6 enc Try.prog Try.f6 Rows.fnExactSimpleRepRow.domain false) (Rows.fnExactSimpleRepSpec.post enc Try.prog Try.f6 false true false false) := by
  refine returnsInHanded_of_change (C := Try.checked) own started (by kernel_rfl) Try.func6
    (ChangeSpec.witness6 (enc := enc) (C := Try.checked) false ⟨#[], #[.int .i64 0, .agg #[.int .i64 0, .slice none 0 0, .slice none 0 0], .int .i64 0], []⟩ 8 (by kernel_rfl) (by kernel_rfl) (by kernel_rfl) (by kernel_rfl)) ?_
  intro W base args ds gs before hval0 hW hcnd _
  have hval : ∀ (j : Nat) t v, Try.f6.params[j]? = some t → args[j]? = some v → Value.okWide Try.prog W .any base t v := hval0
  have hW' := hW
  obtain ⟨p, q, hA0, hV, rfl, hfz, hnd⟩ := hW
  have hA : DataW.TrodAll enc Try.prog W 0 (fun _ => true) true Try.f6.params.toList args.toList ds p := hA0
  rw [Try.params6] at hA hval
  obtain ⟨v0, vs0, d0, ds0, p0, q0, hargs, rfl, rfl, h0, r0⟩ := trodAll_cons hA
  obtain ⟨v1, vs1, d1, ds1, p1, q1, rfl, rfl, rfl, h1, r1⟩ := trodAll_cons r0
  obtain ⟨v2, vs2, d2, ds2, p2, q2, rfl, rfl, rfl, h2, r2⟩ := trodAll_cons r1
  obtain ⟨rfl, rfl, rfl⟩ := trodAll_nil r2
  obtain rfl : args = #[v0, v1, v2] := by cases args; simp_all
  obtain ⟨rfl, rfl⟩ := trodVars_none hV
  obtain ⟨a0, rfl, rfl, rfl, w0⟩ := open_int Try.underlying3 (hval 0 3 v0 rfl rfl) h0
  have b0 : In64 a0 := by simpa [Lit.wf, IntKind.min, IntKind.max, IntKind.signed, IntKind.bits, In64] using w0
  obtain ⟨⟨l1⟩, rfl, hsz1⟩ := okWide_struct Try.underlying30 (hval 1 30 v1 rfl rfl)
  have k1 := h1
  have lt1 : ∀ x ∈ p1, x.block < W.heap.size := by obtain ⟨m, hm⟩ := k1; exact DataW.trod_lt m _ _ _ hm
  obtain ⟨x1, F1, R1⟩ := Rds.argG (inferInstance : Rds Try.prog 30 _) k1
  obtain ⟨a2, rfl, rfl, rfl, w2⟩ := open_int Try.underlying3 (hval 2 3 v2 rfl rfl) h2
  have b2 : In64 a2 := by simpa [Lit.wf, IntKind.min, IntKind.max, IntKind.signed, IntKind.bits, In64] using w2
  clear hA0 hval0
  refine (Run.calls (walk W a0 b0 x1 _ F1 R1 a2 b2)).mono fun e W' ⟨v, he, hv, bel⟩ => ?_
  subst he
  subst hv
  exact ⟨_, rfl, _, _, _, [], _, [], hW', trodAll_mk1 (shut_bool Try.underlying4 _), (trodAll_cons_mk (shut_int Try.underlying3 w0) (trodAll_cons_mk (Below.trod laidOut (by kernel_rfl) (of_decide_eq_true (by kernel_rfl)) k1 bel lt1) (trodAll_cons_mk (shut_int Try.underlying3 w2) trodAll_mk0))), rfl, bel.frame _, fun h => by cases h⟩
theorem down : V.downB Try.prog [] [61, 20, 64, 22, 73, 62, 69, 125, 126, 74, 30, 75, 123, 122, 154, 121, 67, 70, 76, 106, 127, 128, 77, 31, 37, 24, 92, 48, 32, 38, 25, 59, 33, 39, 78, 60, 34, 6] = true := by kernel_rfl
theorem rec0 : Program.recurses Try.pinned.checked.prog 6 = Program.unfollowed Try.pinned.checked.prog 6 := V.recurses_down _ down (by kernel_rfl)
theorem unf : Program.unfollowed Try.pinned.checked.prog 6 = Rows.fnExactSimpleRepRow.unfollowed := by kernel_rfl
theorem inp : Program.inPlace Try.pinned.checked.prog 6 = Rows.fnExactSimpleRepRow.inPlace := by kernel_rfl
theorem vnm : Program.varsNamed Try.pinned.checked.prog 6 = Rows.fnExactSimpleRepRow.named := by kernel_rfl
theorem closed : joinedFacts Try.pinned.checked.prog 6 Try.f6 Rows.fnExactSimpleRepSpec Rows.fnExactSimpleRepRow = true := by
  unfold joinedFacts
  rw [rec0, unf, inp, vnm, V.hdEnter, V.hdLifts, V.hdMake]
  change _ = _
  kernel_rfl
theorem over : Rows.fnExactSimpleRepRow.holds Try.pinned (OpenSpec.ofChange Rows.fnExactSimpleRepSpec) :=
  OpenClaim.holds_of_wide 6 Try.f6 rfl rfl rfl rfl rfl rfl rfl ⟨rfl, rfl, rfl, rfl, rfl⟩ rfl rfl rfl rfl rfl (by kernel_rfl) Try.func6 closed
    (of_decide_eq_true (by kernel_rfl)) (by unfold Func.isWrapper; first | (rw [if_pos (by decide +kernel)]; kernel_rfl) | (rw [if_neg (by decide +kernel)]; exact ⟨rfl, rfl⟩))
    (fun os started H enc _ => lifted os started H enc)
theorem proved : Rows.FnExactSimpleRepSaid := over
end fnExactSimpleRep
end Go.Proofs.Ytcalkmlaodjpaaa
