/- How the laws' matrices and representations are read; marks as they are used. -/
import Derived.Test.YtcalkmlaodjpaaaLa
import Derived.Test.YtcalkmlaodjpaaaM4
import Derived.Test.YtcalkmlaodjpaaaHm
namespace Go.Proofs.Ytcalkmlaodjpaaa.V
open Go.RowKit G D
set_option linter.unusedVariables false
set_option linter.unusedSimpArgs false
instance : RdE quivR := ⟨rfl, fun h => by
  obtain ⟨v1, v2, F1, F2, h1, h2, rfl, rfl⟩ := h
  obtain ⟨v3, v4, F3, F4, h3, h4, rfl, rfl⟩ := h2
  exact (RdE.h h1).append ((RdE.h h3).append (RdE.h h4))⟩
def matR : Rp Mat := mapR (fun m => (m.r, m.c, m.m)) (seqR intR (seqR intR (listR intR)))
instance : RdE matR := ⟨rfl, fun h => by
  obtain ⟨v1, v2, F1, F2, h1, h2, rfl, rfl⟩ := h
  obtain ⟨v3, v4, F3, F4, h3, h4, rfl, rfl⟩ := h2
  exact (RdE.h h1).append ((RdE.h h3).append (RdE.h h4))⟩
def repR : Rp Rep := mapR (fun r => (r.p, r.q, r.d, r.m)) (seqR intR (seqR quivR (seqR (listR intR) (listR matR))))
instance : RdE repR := ⟨rfl, fun h => by
  obtain ⟨v1, v2, F1, F2, h1, h2, rfl, rfl⟩ := h
  obtain ⟨v3, v4, F3, F4, h3, h4, rfl, rfl⟩ := h2
  obtain ⟨v5, v6, F5, F6, h5, h6, rfl, rfl⟩ := h4
  exact (RdE.h h1).append ((RdE.h h3).append ((RdE.h h5).append (RdE.h h6)))⟩
instance : Rds Try.prog 86 matR := Rds.struct (fun x => ⟨x.1, x.2.1, x.2.2⟩) (fun _ => rfl) Try.underlying86 (by kernel_rfl) (RdsF.cons rfl (inferInstance : Rds Try.prog 3 intR) rfl (RdsF.cons rfl (inferInstance : Rds Try.prog 3 intR) rfl (RdsF.one rfl (inferInstance : Rds Try.prog 28 (listR intR)))))
instance : Rds Try.prog 51 (listR matR) := Rds.slice Try.underlying51 (by kernel_rfl) inferInstance (by decide)
instance : Rds Try.prog 53 repR := Rds.struct (fun x => ⟨x.1, x.2.1, x.2.2.1, x.2.2.2⟩) (fun _ => rfl) Try.underlying53 (by kernel_rfl) (RdsF.cons rfl (inferInstance : Rds Try.prog 3 intR) rfl (RdsF.cons rfl (inferInstance : Rds Try.prog 30 quivR) rfl (RdsF.cons rfl (inferInstance : Rds Try.prog 28 (listR intR)) rfl (RdsF.one rfl (inferInstance : Rds Try.prog 51 (listR matR))))))
theorem markQ_x (q : Quiv) (h : totQ q ≤ 1000000000) : ∃ f t : List Int, f.length = q.fr.length ∧ t.length = q.to.length ∧
    AM Try.prog 25 [.agg [.i q.n, .sl 0 q.fr.length 0 q.fr.length, .sl 1 q.to.length 0 q.to.length], .i 1] [(1, E true q.fr), (1, E true q.to)] [.i (1 + totQ q)] [(1, E true f), (1, E true t)] :=
  ⟨_, _, mkL_len _ _, mkL_len _ _, markQuiver_m q 1 (by omega) (by omega)⟩
theorem markI_x (xs : List Int) (h : xs.length ≤ 1000000000) : ∃ ys : List Int, ys.length = xs.length ∧
    AM Try.prog 38 [.sl 0 xs.length 0 xs.length, .i 1] [(1, E true xs)] [.i (1 + xs.length)] [(1, E true ys)] ∧ AC Try.prog 39 [ar false ys, .i 1] [.i (1 + xs.length)] :=
  ⟨_, mkL_len _ _, markIntS_m xs 1 (by omega) (by omega), heldIntS_a 1 xs.length (by omega) (by omega)⟩
theorem markSS_x (xs : List (List Int)) (h : xs.length + cnt ctL xs ≤ 1000000000) : ∃ ys : List (List Int), ys.length = xs.length ∧
    AM Try.prog 26 [.sl 0 xs.length 0 xs.length, .i 1] [(1, E true xs)] [.i (1 + cnt ctL xs)] [(1, E true ys)] ∧ AC Try.prog 27 [ar false ys, .i 1] [.i (1 + cnt ctL xs)] :=
  ⟨_, mkA_len _ _ _ _, markIntSS_m xs 1 (by omega) (by omega), heldIntSS_a 1 xs (by omega) (by omega)⟩
theorem markR_x (r : Rep) (h : ctR r ≤ 1000000000) : ∃ (f t d : List Int) (m : List Mat), f.length = r.q.fr.length ∧ t.length = r.q.to.length ∧ d.length = r.d.length ∧ m.length = r.m.length ∧
    AM Try.prog 33 [.agg [.i r.p, .i r.q.n, .sl 0 r.q.fr.length 0 r.q.fr.length, .sl 1 r.q.to.length 0 r.q.to.length, .sl 2 r.d.length 0 r.d.length, .sl 3 r.m.length 0 r.m.length], .i 1] [(1, E true r.q.fr), (1, E true r.q.to), (1, E true r.d), (3, E true r.m)] [.i (1 + ctR r)] [(1, E true f), (1, E true t), (1, E true d), (3, E true m)] ∧
    AC Try.prog 34 [.agg [.i r.p, .i r.q.n, ar false f, ar false t, ar false d, ar false m], .i 1] [.i (1 + ctR r)] :=
  ⟨_, _, _, _, mkL_len _ _, mkL_len _ _, mkL_len _ _, mkA_len _ _ _ _, markRep_m r 1 (by omega) (by omega), heldRep_a 1 r (by omega) (by omega)⟩
theorem markQ_k (q : Quiv) (k : Int) (h0 : 0 ≤ k) (h : k + totQ q ≤ 4611686018427387904) : ∃ f t : List Int, f.length = q.fr.length ∧ t.length = q.to.length ∧
    AM Try.prog 25 [.agg [.i q.n, .sl 0 q.fr.length 0 q.fr.length, .sl 1 q.to.length 0 q.to.length], .i k] [(1, E true q.fr), (1, E true q.to)] [.i (k + totQ q)] [(1, E true f), (1, E true t)] ∧
    AC Try.prog 78 [.agg [.i q.n, ar false f, ar false t], .i k] [.i (k + totQ q)] :=
  ⟨_, _, mkL_len _ _, mkL_len _ _, markQuiver_m q k h0 h, heldQuiver_a k q h0 h⟩
theorem markI_k (xs : List Int) (k : Int) (h0 : 0 ≤ k) (h : k + xs.length ≤ 4611686018427387904) : ∃ ys : List Int, ys.length = xs.length ∧
    AM Try.prog 38 [.sl 0 xs.length 0 xs.length, .i k] [(1, E true xs)] [.i (k + xs.length)] [(1, E true ys)] ∧ AC Try.prog 39 [ar false ys, .i k] [.i (k + xs.length)] :=
  ⟨_, mkL_len _ _, markIntS_m xs k h0 h, heldIntS_a k xs.length h0 h⟩
theorem markSS_k (xs : List (List Int)) (k : Int) (h0 : 0 ≤ k) (h : k + xs.length + cnt ctL xs ≤ 4611686018427387904) : ∃ ys : List (List Int), ys.length = xs.length ∧
    AM Try.prog 26 [.sl 0 xs.length 0 xs.length, .i k] [(1, E true xs)] [.i (k + cnt ctL xs)] [(1, E true ys)] ∧ AC Try.prog 27 [ar false ys, .i k] [.i (k + cnt ctL xs)] :=
  ⟨_, mkA_len _ _ _ _, markIntSS_m xs k h0 h, heldIntSS_a k xs h0 h⟩
theorem markMS_k (xs : List Mat) (k : Int) (h0 : 0 ≤ k) (h : k + cnt ctM xs ≤ 4611686018427387904) : ∃ ys : List Mat, ys.length = xs.length ∧
    AM Try.prog 59 [.sl 0 xs.length 0 xs.length, .i k] [(3, E true xs)] [.i (k + cnt ctM xs)] [(3, E true ys)] ∧ AC Try.prog 60 [ar false ys, .i k] [.i (k + cnt ctM xs)] :=
  ⟨_, mkA_len _ _ _ _, markMatrixS_m xs k h0 h, heldMatrixS_a k xs h0 h⟩
theorem markR_k (r : Rep) (k : Int) (h0 : 0 ≤ k) (h : k + ctR r ≤ 4611686018427387904) : ∃ (f t d : List Int) (m : List Mat), f.length = r.q.fr.length ∧ t.length = r.q.to.length ∧ d.length = r.d.length ∧ m.length = r.m.length ∧
    AM Try.prog 33 [.agg [.i r.p, .i r.q.n, .sl 0 r.q.fr.length 0 r.q.fr.length, .sl 1 r.q.to.length 0 r.q.to.length, .sl 2 r.d.length 0 r.d.length, .sl 3 r.m.length 0 r.m.length], .i k] [(1, E true r.q.fr), (1, E true r.q.to), (1, E true r.d), (3, E true r.m)] [.i (k + ctR r)] [(1, E true f), (1, E true t), (1, E true d), (3, E true m)] ∧
    AC Try.prog 34 [.agg [.i r.p, .i r.q.n, ar false f, ar false t, ar false d, ar false m], .i k] [.i (k + ctR r)] :=
  ⟨_, _, _, _, mkL_len _ _, mkL_len _ _, mkL_len _ _, mkA_len _ _ _ _, markRep_m r k h0 h, heldRep_a k r h0 h⟩
theorem ctMS_le : ∀ ms : List Mat, cnt ctM ms ≤ 2 * totMS ms
  | [] => by simp [cnt]
  | m :: ms => by
    have := ctMS_le ms
    simp only [totMS, cnt, List.map_cons, List.sum_cons, List.length_cons, ctM, totM] at *; omega
theorem ctR_le (r : Rep) : ctR r ≤ 2 * totR r := by
  have := ctMS_le r.m
  unfold ctR totR; omega
theorem cnt_bd {α : Type} {c : α → Nat} {B : Nat} : ∀ {xs : List α}, (∀ x ∈ xs, c x ≤ B) → cnt c xs ≤ xs.length * B
  | [], _ => by simp [cnt]
  | x :: xs, h => by
    have h1 := h x (by simp)
    have h2 := cnt_bd (xs := xs) fun y hy => h y (by simp [hy])
    simp only [cnt, List.map_cons, List.sum_cons, List.length_cons, Nat.add_mul, Nat.one_mul] at *; omega
end Go.Proofs.Ytcalkmlaodjpaaa.V
