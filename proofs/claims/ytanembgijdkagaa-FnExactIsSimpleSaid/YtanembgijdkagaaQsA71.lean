/- Contracts: spaces within others, images of spaces, valid spaces, as the program finds them. -/
import Derived.Test.YtanembgijdkagaaQsUf
import Derived.Test.YtanembgijdkagaaQsA78
import Derived.Test.YtanembgijdkagaaQsB8
import Derived.Test.YtanembgijdkagaaQsB6
import Derived.Test.YtanembgijdkagaaQsB4
import Derived.Test.YtanembgijdkagaaQsB1
import Derived.Test.YtanembgijdkagaaQsUd
namespace Go.Proofs.Ytanembgijdkagaa.V
open V.Enc (enc)
open Go.RowKit G D
set_option linter.unusedVariables false
set_option linter.unusedSimpArgs false
set_option maxHeartbeats 4000000
set_option maxRecDepth 4000
attribute [local irreducible] AW ARg ARA ARet MRet ASil AC AM
theorem ent_fc (m : Mat) (v : List Int) (n r : Nat) (p : Int) : tab r 1 (mulF p (ent m) (fcF [v]) n) = rowL r fun i => sumN (fun k => ent m i k * v.getD k default) n % p := by
  rw [tab_one]
  refine rowL_ext fun i _ => ?_
  unfold mulF
  rw [dotK_sum]
  rfl
theorem apply_a {p : Int} {m : Mat} {v : List Int} (hm : isMat p m = true) (hn : v.length = m.c.toNat) (hb : ∀ j, j < m.c.toNat → 0 ≤ v.getD j default ∧ v.getD j default ≤ p - 1) : AC Try.prog 92 [.i p, .agg (enc false m), ar false v] [.dt true 1 (E true (appV p m v))] := by
  refine AC.go Try.func92 Try.ntmps92 rfl rfl fun w0 hw => ?_; simp [WfL, WfA, E_length, Enc.enc, In64] at hw
  obtain ⟨h0, h1, h2, h3, h4⟩ := isMat_spec hm
  have hFC := fromColumns_a m.c.toNat [v] (by omega) (by simp) (fun k hk => by
    obtain rfl : k = 0 := by simpa using hk
    exact hn)
  rw [show [v].length = 1 from rfl, Int.toNat_of_nonneg h2.1] at hFC
  have hT := times_a p m.r.toNat m.c.toNat 1 (ent m) (fcF [v]) h0 (by omega) (by omega) (by omega) (ent_bd hm) (fun i hi j hj => by
    obtain rfl : j = 0 := by omega
    exact hb i hi)
  rw [isMat_tm hm] at hT
  have e : tm m.r.toNat 1 (mulF p (ent m) (fcF [v]) m.c.toNat) = ⟨(m.r.toNat : Int), 1, appV p m v⟩ := by
    unfold tm appV
    rw [ent_fc]; rfl
  rw [e] at hT
  generalize appV p m v = X at hT ⊢
  generalize tm m.c.toNat 1 (fcF [v]) = T1 at hFC hT
  repeat' first | refine s1 ?_ | refine q1 ?_ | fail
  refine AW.draw 10 G.mixed (by kernel_rfl) ?_
  refine dP 0 ?_
  first | refine dL 1 ?_ | refine dLQ 1 ?_
  refine dP 2 ?_
  first | refine dL 3 ?_ | refine dLQ 3 ?_
  refine dP 4 ?_
  refine dO 5 true ?_
  refine s1 ?_
  refine ARg.nil (ATh.normal ?_)
  refine dO 6 true ?_
  first | refine s1 ?_ | refine F.c (hFC) ?_ | refine F.c (hT) ?_
  refine ARg.nil (ATh.normal ?_)
  refine dO 7 true ?_
  first | refine s1 ?_ | refine F.c (hFC) ?_ | refine F.c (hT) ?_
  refine ARg.nil (ATh.normal ?_)
  first | refine dP 8 ?_ (hs := by exact (A.fldG ⟨Try.underlying68⟩ rfl (inferInstance : One Try.prog 22) rfl rfl)) | refine dP 8 ?_
  refine dP 9 ?_
  refine dN ?_
  rotate_left
  all_goals
    repeat' first | refine s1 ?_ | refine q1 ?_ | fail
    (refine kZ ?_; exact F.ret rfl)
theorem imageOf_a {p : Int} {m : Mat} {s : Spc} (hm : isMat p m = true) (hs : isSpc p s = true) (hn : s.n = m.c) : AC Try.prog 130 [.i p, .agg (enc false m), .agg (enc false s)] [.agg (enc true (imgSp p m s))] := by
  refine AC.go Try.func130 Try.ntmps130 rfl rfl fun w0 hw => ?_; simp [WfL, WfA, E_length, Enc.enc, In64] at hw
  obtain ⟨h0, h1, h2, h3, h4⟩ := isMat_spec hm
  obtain ⟨_, _, g3, g4⟩ := isSpc_spec hs
  have hp := isF_pos h0
  have hll := imgL_len p m s
  have hS := span_a p m.r.toNat (imgL p m s) h0 (by omega) (by omega) (imgL_vec (by omega) m s)
  rw [Int.toNat_of_nonneg h1.1, show (⟨m.r, spanL p m.r.toNat (imgL p m s)⟩ : Spc) = imgSp p m s from rfl] at hS
  have hAp := fun k (hk : k < s.b.length) => apply_a hm (v := s.b.getD k default) (by rw [(g4 _ (gm hk)).1, hn]) (fun j hj => (g4 _ (gm hk)).2 j (by rw [hn]; exact hj))
  have hIt := fun k (hk : k < s.b.length) => imgL_take p m s hk
  generalize imgSp p m s = IM at hS ⊢
  generalize imgL p m s = L at hll hS hIt
  repeat' first | refine s1 ?_ | refine q1 ?_ | fail
  refine AW.open 7 1 (.inl rfl) ?_
  refine F.loop (σ := Nat) [7, 9, 13, 14, 15, 16, 17, 18, 19, 20, 21, 22, 23, 24] (fun k => [(7, .sl 3 k 0 k), (13, .i k)]) (fun k => [(3, .live false 1 (E true (L.take k)))]) (fun k => k ≤ s.b.length) (fun k => s.b.length - k) 0 ⟨rfl, rfl, trivial⟩ ⟨rfl, trivial⟩ (Nat.zero_le _) ?_
  rintro k k1
  have hp2 : (L.take k).length = k := by rw [List.length_take]; omega
  by_cases hk : k < s.b.length
  · have hA := hAp k hk
    have hts := hIt k hk
    generalize appV p m (s.b.getD k default) = X at hA hts
    repeat' first | refine s1 ?_ | refine q1 ?_ | (refine kR ?_; first | refine F.c (hA) ?_ | refine F.a1 (List Int) (a := X) ?_) | fail
    exact ⟨k + 1, F.fit ⟨rfl, rfl, trivial⟩ ⟨obE (by rw [hts]), trivial⟩, by omega, by omega⟩
  · obtain rfl : k = s.b.length := by omega
    have e : L.take s.b.length = L := List.take_of_length_le (by omega)
    rw [e]
    rw [← hll]
    clear hp2 e
    repeat' first | refine s1 ?_ | refine q1 ?_ | (refine kR ?_; first | refine F.c (hS) ?_) | fail
    (refine kZ ?_; exact F.ret rfl)
end Go.Proofs.Ytanembgijdkagaa.V
