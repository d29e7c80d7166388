/- Contracts: the representation of a part, as the program builds it. -/
import Derived.Test.YtanembgijdkagaaQeUi
import Derived.Test.YtanembgijdkagaaQeUf
import Derived.Test.YtanembgijdkagaaQeA78
import Derived.Test.YtanembgijdkagaaQeUq
import Derived.Test.YtanembgijdkagaaQeB6
import Derived.Test.YtanembgijdkagaaQeB2
import Derived.Test.YtanembgijdkagaaQeA6
import Derived.Test.YtanembgijdkagaaQeB4
import Derived.Test.YtanembgijdkagaaQeB1
import Derived.Test.YtanembgijdkagaaQeUd
import Derived.Test.YtanembgijdkagaaQeUm
import Derived.Test.YtanembgijdkagaaQeA64
namespace Go.Proofs.Ytanembgijdkagaa.V
open Go.RowKit G D
set_option linter.unusedVariables false
set_option linter.unusedSimpArgs false
set_option maxHeartbeats 4000000
set_option maxRecDepth 4000
attribute [local irreducible] AW ARg ARA ARet MRet ASil AC AM ARI
/-- the first k of one list, then those of another -/
def mixL {α : Type} (x y : List α) (k : Nat) : List α := x.take k ++ y.drop k
theorem mixL_zero {α : Type} (x y : List α) : mixL x y 0 = y := by simp [mixL]
theorem mixL_all {α : Type} {x y : List α} (h : x.length = y.length) : mixL x y x.length = x := by
  unfold mixL
  rw [List.take_length, List.drop_of_length_le (by omega), List.append_nil]
theorem mixL_len {α : Type} {x y : List α} (h : x.length = y.length) (k : Nat) : (mixL x y k).length = y.length := by
  simp [mixL]; omega
theorem mixL_set {α : Type} [Inhabited α] {x y : List α} (h : x.length = y.length) {k : Nat} (hk : k < x.length) : (mixL x y k).set k (x.getD k default) = mixL x y (k + 1) := by
  unfold mixL
  have h2 : k - (x.take k).length = 0 := by simp; omega
  have h3 : y.drop k = y[k]'(by omega) :: y.drop (k + 1) := List.drop_eq_getElem_cons (by omega)
  rw [h3, List.set_append_right _ _ (by simp; omega), h2, List.set_cons_zero, List.take_succ_eq_append_getElem hk, List.append_assoc]
  congr 1
  simp [hk]
theorem mixL_get {α : Type} [Inhabited α] {x y : List α} (h : x.length = y.length) {k : Nat} (hk : k < y.length) : (mixL x y k).getD k default = y.getD k default := by
  unfold mixL
  have h3 : y.drop k = y[k]'(by omega) :: y.drop (k + 1) := List.drop_eq_getElem_cons (by omega)
  have h2 : (x.take k).length = k := by simp; omega
  rw [h3]
  simp [List.getElem?_append_right, h2, hk]
end Go.Proofs.Ytanembgijdkagaa.V
