/- Texts that the proof needs: A161, A162, A166. -/
import Derived.Test.YtoilkinagffhiaaGreatQfeA160
import Derived.Test.YtoilkinagffhiaaGreatQfeUk
namespace Go.Proofs.YtoilkinagffhiaaGreat.V
open Go.RowKit G D
set_option linter.unusedVariables false
set_option linter.unusedSimpArgs false
set_option maxHeartbeats 4000000
set_option maxRecDepth 4000
attribute [local irreducible] AW ARg ARA ARet MRet ASil AC AM AMx
theorem l1Byte_x (b : List UInt8) (hl : b.length ≤ 1048576) : AD Tryz.prog 109 [] b (fun x : Int => 0 ≤ x ∧ x ≤ 255) (fun x => [.i x]) := by
 refine AD.go Tryz.func109 Tryz.ntmps109 rfl rfl fun i h hi w0 mp hw => ?_; simp [WfL, WfA, E_length, Enc.enc, In64] at hw
 unfold okI at *
 repeat' first | refine s1 ?_ | (refine kR ?_; first | refine F.sil (A.nilP rfl) rfl rfl ?_ | refine F.sil (A.addW rfl rfl) rfl rfl ?_ | refine F.sil (A.mulW rfl rfl) rfl rfl ?_) | fail
 refine AW.draw 13 G.mixed (by kernel_rfl) ?_
 first | refine dP 0 ?_ | refine dP 0 ?_ (hs := by exact (A.nilP rfl)) | refine dP 0 ?_ (hs := by exact (A.shrU (m := 33) rfl rfl (by omega))) | refine dP 0 ?_ (hs := by exact (A.shrU (m := 45) rfl rfl (by omega))) | refine dP 0 ?_ (hs := by exact (A.xorZ rfl rfl)) | refine dP 0 ?_ (hs := by exact (A.andZ rfl rfl))
 first | refine dP 1 ?_ | refine dP 1 ?_ (hs := by exact (A.nilP rfl)) | refine dP 1 ?_ (hs := by exact (A.shrU (m := 33) rfl rfl (by omega))) | refine dP 1 ?_ (hs := by exact (A.shrU (m := 45) rfl rfl (by omega))) | refine dP 1 ?_ (hs := by exact (A.xorZ rfl rfl)) | refine dP 1 ?_ (hs := by exact (A.andZ rfl rfl))
 first | refine dP 2 ?_ | refine dP 2 ?_ (hs := by exact (A.nilP rfl)) | refine dP 2 ?_ (hs := by exact (A.shrU (m := 33) rfl rfl (by omega))) | refine dP 2 ?_ (hs := by exact (A.shrU (m := 45) rfl rfl (by omega))) | refine dP 2 ?_ (hs := by exact (A.xorZ rfl rfl)) | refine dP 2 ?_ (hs := by exact (A.andZ rfl rfl))
 refine dL 3 ?_
 first | refine dP 4 ?_ | refine dP 4 ?_ (hs := by exact (A.nilP rfl)) | refine dP 4 ?_ (hs := by exact (A.shrU (m := 33) rfl rfl (by omega))) | refine dP 4 ?_ (hs := by exact (A.shrU (m := 45) rfl rfl (by omega))) | refine dP 4 ?_ (hs := by exact (A.xorZ rfl rfl)) | refine dP 4 ?_ (hs := by exact (A.andZ rfl rfl))
 first | refine dP 5 ?_ | refine dP 5 ?_ (hs := by exact (A.nilP rfl)) | refine dP 5 ?_ (hs := by exact (A.shrU (m := 33) rfl rfl (by omega))) | refine dP 5 ?_ (hs := by exact (A.shrU (m := 45) rfl rfl (by omega))) | refine dP 5 ?_ (hs := by exact (A.xorZ rfl rfl)) | refine dP 5 ?_ (hs := by exact (A.andZ rfl rfl))
 first | refine dP 6 ?_ | refine dP 6 ?_ (hs := by exact (A.nilP rfl)) | refine dP 6 ?_ (hs := by exact (A.shrU (m := 33) rfl rfl (by omega))) | refine dP 6 ?_ (hs := by exact (A.shrU (m := 45) rfl rfl (by omega))) | refine dP 6 ?_ (hs := by exact (A.xorZ rfl rfl)) | refine dP 6 ?_ (hs := by exact (A.andZ rfl rfl))
 first | refine dP 7 ?_ | refine dP 7 ?_ (hs := by exact (A.nilP rfl)) | refine dP 7 ?_ (hs := by exact (A.shrU (m := 33) rfl rfl (by omega))) | refine dP 7 ?_ (hs := by exact (A.shrU (m := 45) rfl rfl (by omega))) | refine dP 7 ?_ (hs := by exact (A.xorZ rfl rfl)) | refine dP 7 ?_ (hs := by exact (A.andZ rfl rfl))
 refine dL 8 ?_
 first | refine dP 9 ?_ | refine dP 9 ?_ (hs := by exact (A.nilP rfl)) | refine dP 9 ?_ (hs := by exact (A.shrU (m := 33) rfl rfl (by omega))) | refine dP 9 ?_ (hs := by exact (A.shrU (m := 45) rfl rfl (by omega))) | refine dP 9 ?_ (hs := by exact (A.xorZ rfl rfl)) | refine dP 9 ?_ (hs := by exact (A.andZ rfl rfl))
 first | refine dP 10 ?_ | refine dP 10 ?_ (hs := by exact (A.nilP rfl)) | refine dP 10 ?_ (hs := by exact (A.shrU (m := 33) rfl rfl (by omega))) | refine dP 10 ?_ (hs := by exact (A.shrU (m := 45) rfl rfl (by omega))) | refine dP 10 ?_ (hs := by exact (A.xorZ rfl rfl)) | refine dP 10 ?_ (hs := by exact (A.andZ rfl rfl))
 first | refine dP 11 ?_ | refine dP 11 ?_ (hs := by exact (A.nilP rfl)) | refine dP 11 ?_ (hs := by exact (A.shrU (m := 33) rfl rfl (by omega))) | refine dP 11 ?_ (hs := by exact (A.shrU (m := 45) rfl rfl (by omega))) | refine dP 11 ?_ (hs := by exact (A.xorZ rfl rfl)) | refine dP 11 ?_ (hs := by exact (A.andZ rfl rfl))
 first | refine dP 12 ?_ | refine dP 12 ?_ (hs := by exact (A.nilP rfl)) | refine dP 12 ?_ (hs := by exact (A.shrU (m := 33) rfl rfl (by omega))) | refine dP 12 ?_ (hs := by exact (A.shrU (m := 45) rfl rfl (by omega))) | refine dP 12 ?_ (hs := by exact (A.xorZ rfl rfl)) | refine dP 12 ?_ (hs := by exact (A.andZ rfl rfl))
 refine dN ?_
 rotate_left
 all_goals
  refine ATh.normal ?_
  generalize hx : andZ (xorZ (RowKit.wrap64 (RowKit.wrap64 (h * 6364136223846793005) + 1442695040888963407) / 2 ^ 33) (RowKit.wrap64 (RowKit.wrap64 (h * 6364136223846793005) + 1442695040888963407) / 2 ^ 45)) 255 = x
  have hb : 0 ≤ x ∧ x ≤ 255 := by rw [← hx]; exact andZ_bd _ 8 (by omega)
  clear hx
  refine AW.only [(0, .pt 0 1 0 0), (3, .i x)] [(0, .live false 3 (curO b i (RowKit.wrap64 (RowKit.wrap64 (h * 6364136223846793005) + 1442695040888963407))))] 1 ⟨rfl, rfl, trivial⟩ ⟨rfl, trivial⟩ rfl ?_
  generalize RowKit.wrap64 (RowKit.wrap64 (h * 6364136223846793005) + 1442695040888963407) = h'
  by_cases hlt : i < b.length
  ·obtain ⟨k, rfl⟩ : ∃ k : Nat, i = k := ⟨i.toNat, by omega⟩
   have hz : (b.getD k default).toNat < 256 := UInt8.toNat_lt _
   repeat' first | refine s1 ?_ | fail
   refine AW.draw 10 G.mixed (by kernel_rfl) ?_
   first | refine dP 0 ?_ | refine dP 0 ?_ (hs := by exact (A.nilP rfl))
   first | refine dP 1 ?_ | refine dP 1 ?_ (hs := by exact (A.nilP rfl))
   first | refine dP 2 ?_ | refine dP 2 ?_ (hs := by exact (A.nilP rfl))
   refine dL 3 ?_
   first | refine dP 4 ?_ | refine dP 4 ?_ (hs := by exact (A.nilP rfl))
   first | refine dP 5 ?_ | refine dP 5 ?_ (hs := by exact (A.nilP rfl))
   first | refine dP 6 ?_ | refine dP 6 ?_ (hs := by exact (A.nilP rfl))
   refine dL 7 ?_
   first | refine dP 8 ?_ | refine dP 8 ?_ (hs := by exact (A.nilP rfl))
   first | refine dP 9 ?_ | refine dP 9 ?_ (hs := by exact (A.nilP rfl))
   refine dN ?_
   rotate_left
   all_goals
    repeat' first | refine s1 ?_ | fail
    refine AW.draw 15 G.mixed (by kernel_rfl) ?_
    first | refine dP 0 ?_ | refine dP 0 ?_ (hs := by exact (A.nilP rfl)) | refine dP 0 ?_ (hs := by exact (A.cvQI rfl (In64.mk (by omega)))) | refine dP 0 ?_ (hs := by exact (A.andZ rfl rfl))
    first | refine dP 1 ?_ | refine dP 1 ?_ (hs := by exact (A.nilP rfl)) | refine dP 1 ?_ (hs := by exact (A.cvQI rfl (In64.mk (by omega)))) | refine dP 1 ?_ (hs := by exact (A.andZ rfl rfl))
    first | refine dP 2 ?_ | refine dP 2 ?_ (hs := by exact (A.nilP rfl)) | refine dP 2 ?_ (hs := by exact (A.cvQI rfl (In64.mk (by omega)))) | refine dP 2 ?_ (hs := by exact (A.andZ rfl rfl))
    first | refine dP 3 ?_ | refine dP 3 ?_ (hs := by exact (A.nilP rfl)) | refine dP 3 ?_ (hs := by exact (A.cvQI rfl (In64.mk (by omega)))) | refine dP 3 ?_ (hs := by exact (A.andZ rfl rfl))
    refine dL 4 ?_
    first | refine dP 5 ?_ | refine dP 5 ?_ (hs := by exact (A.nilP rfl)) | refine dP 5 ?_ (hs := by exact (A.cvQI rfl (In64.mk (by omega)))) | refine dP 5 ?_ (hs := by exact (A.andZ rfl rfl))
    first | refine dP 6 ?_ | refine dP 6 ?_ (hs := by exact (A.nilP rfl)) | refine dP 6 ?_ (hs := by exact (A.cvQI rfl (In64.mk (by omega)))) | refine dP 6 ?_ (hs := by exact (A.andZ rfl rfl))
    first | refine dP 7 ?_ | refine dP 7 ?_ (hs := by exact (A.nilP rfl)) | refine dP 7 ?_ (hs := by exact (A.cvQI rfl (In64.mk (by omega)))) | refine dP 7 ?_ (hs := by exact (A.andZ rfl rfl))
    refine dL 8 ?_
    first | refine dP 9 ?_ | refine dP 9 ?_ (hs := by exact (A.nilP rfl)) | refine dP 9 ?_ (hs := by exact (A.cvQI rfl (In64.mk (by omega)))) | refine dP 9 ?_ (hs := by exact (A.andZ rfl rfl))
    refine dL 10 ?_
    first | refine dP 11 ?_ | refine dP 11 ?_ (hs := by exact (A.nilP rfl)) | refine dP 11 ?_ (hs := by exact (A.cvQI rfl (In64.mk (by omega)))) | refine dP 11 ?_ (hs := by exact (A.andZ rfl rfl))
    first | refine dP 12 ?_ | refine dP 12 ?_ (hs := by exact (A.nilP rfl)) | refine dP 12 ?_ (hs := by exact (A.cvQI rfl (In64.mk (by omega)))) | refine dP 12 ?_ (hs := by exact (A.andZ rfl rfl))
    first | refine dP 13 ?_ | refine dP 13 ?_ (hs := by exact (A.nilP rfl)) | refine dP 13 ?_ (hs := by exact (A.cvQI rfl (In64.mk (by omega)))) | refine dP 13 ?_ (hs := by exact (A.andZ rfl rfl))
    first | refine dP 14 ?_ | refine dP 14 ?_ (hs := by exact (A.nilP rfl)) | refine dP 14 ?_ (hs := by exact (A.cvQI rfl (In64.mk (by omega)))) | refine dP 14 ?_ (hs := by exact (A.andZ rfl rfl))
    refine dN ?_
    rotate_left
    all_goals
     refine ATh.normal ?_
     generalize hx : andZ (x + ((b.getD k default).toNat : Int)) 255 = y
     have hy : 0 ≤ y ∧ y ≤ 255 := by rw [← hx]; exact andZ_bd _ 8 (by omega)
     clear hx
     repeat' first | refine s1 ?_ | (refine kR ?_; first | refine F.sil (A.nilP rfl) rfl rfl ?_) | fail
     refine F.rd y hy ?_ (F.retM rfl ⟨rfl, trivial⟩)
     exact ⟨by omega, by omega⟩
  ·repeat' first | refine s1 ?_ | fail
   refine AW.draw 10 G.mixed (by kernel_rfl) ?_
   first | refine dP 0 ?_ | refine dP 0 ?_ (hs := by exact (A.nilP rfl))
   first | refine dP 1 ?_ | refine dP 1 ?_ (hs := by exact (A.nilP rfl))
   first | refine dP 2 ?_ | refine dP 2 ?_ (hs := by exact (A.nilP rfl))
   refine dL 3 ?_
   first | refine dP 4 ?_ | refine dP 4 ?_ (hs := by exact (A.nilP rfl))
   first | refine dP 5 ?_ | refine dP 5 ?_ (hs := by exact (A.nilP rfl))
   first | refine dP 6 ?_ | refine dP 6 ?_ (hs := by exact (A.nilP rfl))
   refine dL 7 ?_
   first | refine dP 8 ?_ | refine dP 8 ?_ (hs := by exact (A.nilP rfl))
   first | refine dP 9 ?_ | refine dP 9 ?_ (hs := by exact (A.nilP rfl))
   refine dN ?_
   rotate_left
   all_goals
    repeat' first | refine s1 ?_ | fail
    exact F.rd x hb hi (F.retM rfl ⟨rfl, trivial⟩)
def belowI (n x : Int) : Prop := (0 < n → 0 ≤ x ∧ x < n) ∧ (n ≤ 0 → x = 0)
theorem l1Below_x (b : List UInt8) (hl : b.length ≤ 1048576) (n : Int) : AD Tryz.prog 83 [.i n] b (belowI n) (fun x => [.i x]) := by
 refine AD.go Tryz.func83 Tryz.ntmps83 rfl rfl fun i h hi w0 mp hw => ?_; simp [WfL, WfA, E_length, Enc.enc, In64] at hw
 have hB := l1Byte_x b hl
 by_cases h0 : n ≤ 0
 ·repeat' first | refine s1 ?_ | fail
  exact F.rd 0 ⟨fun h => by omega, fun _ => rfl⟩ hi (F.retM rfl ⟨rfl, trivial⟩)
 ·by_cases h1 : n ≤ 256
  ·repeat' first | refine s1 ?_ | (refine kR ?_; first | (refine F.dr 0 (hB) (by assumption) ?_; intro x i2 h2 hx hi2; refine F.xk ?_)) | fail
   refine F.rd _ ?_ hi2 (F.retM rfl ⟨rfl, trivial⟩)
   exact ⟨fun _ => ⟨Int.emod_nonneg _ (by omega), Int.emod_lt_of_pos _ (by omega)⟩, fun h => absurd h h0⟩
  ·repeat' first | refine s1 ?_ | (refine kR ?_; first | (refine F.dr 0 (hB) (by assumption) ?_; intro x i2 h2 hx hi2; refine F.xk ?_)) | fail
   refine F.rd _ ?_ hi2 (F.retM rfl ⟨rfl, trivial⟩)
   exact ⟨fun _ => ⟨Int.emod_nonneg _ (by omega), Int.emod_lt_of_pos _ (by omega)⟩, fun h => absurd h h0⟩
theorem l1Once_x (b : List UInt8) (hl : b.length ≤ 1048576) (n : Int) : AD Tryz.prog 82 [.i n] b (fun _ : Bool => True) (fun x => [.b x]) := by
 refine AD.go Tryz.func82 Tryz.ntmps82 rfl rfl fun i h hi w0 mp hw => ?_; simp [WfL, WfA, E_length, Enc.enc, In64] at hw
 have hB := l1Below_x b hl n
 repeat' first | refine s1 ?_ | (refine kR ?_; first | (refine F.dr 0 (hB) (by assumption) ?_; intro x i2 h2 hx hi2; refine F.xk ?_)) | fail
 exact F.rd _ trivial hi2 (F.retM rfl ⟨rfl, trivial⟩)
theorem l1PickInt_x (b : List UInt8) (hl : b.length ≤ 1048576) (l : List Int) (h0 : 0 < l.length) (h1 : l.length ≤ 1000) : AD Tryz.prog 89 [ar false l] b (fun x : Int => ∃ k, k < l.length ∧ x = l.getD k default) (fun x => [.i x]) := by
 refine AD.go Tryz.func89 Tryz.ntmps89 rfl rfl fun i h hi w0 mp hw => ?_; simp [WfL, WfA, E_length, Enc.enc, In64] at hw
 have hB := l1Below_x b hl l.length
 repeat' first | refine s1 ?_ | (refine kR ?_; first | (refine F.dr 0 (hB) (by assumption) ?_; intro x i2 h2 hx hi2; refine F.xk ?_)) | fail
 obtain ⟨k, rfl⟩ : ∃ k : Nat, x = k := ⟨x.toNat, by have := hx.1 (by omega); omega⟩
 have hk := hx.1 (by omega)
 clear hx
 repeat' first | refine s1 ?_ | fail
 exact F.rd (l.getD k default) ⟨k, by omega, rfl⟩ hi2 (F.retM rfl ⟨rfl, trivial⟩)
abbrev strA (s : ByteArray) : AV := .q fun v => v = .string s
theorem l1Pick_x (b : List UInt8) (hl : b.length ≤ 1048576) (l : List ByteArray) (h0 : 0 < l.length) (h1 : l.length ≤ 1000) : AD Tryz.prog 111 [ar false l] b (fun s : ByteArray => ∃ k, k < l.length ∧ s = l.getD k default) (fun s => [strA s]) := by
 refine AD.go Tryz.func111 Tryz.ntmps111 rfl rfl fun i h hi w0 mp hw => ?_; simp [WfL, WfA, E_length, Enc.enc, In64] at hw
 have hB := l1Below_x b hl l.length
 repeat' first | refine s1 ?_ | (refine kR ?_; first | (refine F.dr 0 (hB) (by assumption) ?_; intro x i2 h2 hx hi2; refine F.xk ?_)) | fail
 obtain ⟨k, rfl⟩ : ∃ k : Nat, x = k := ⟨x.toNat, by have := hx.1 (by omega); omega⟩
 have hk := hx.1 (by omega)
 clear hx
 repeat' first | refine s1 ?_ | fail
 exact F.rd (l.getD k default) ⟨k, by omega, rfl⟩ hi2 (F.retM rfl ⟨rfl, trivial⟩)
theorem digit_x (n : Int) (hn : 0 ≤ n ∧ n ≤ 9) : AMx Tryz.prog 133 [.i n] [] (fun s : ByteArray => s.size = 1) (fun s => [strA s]) (fun _ => []) := by
 refine AMx.go Tryz.func133 Tryz.ntmps133 rfl rfl fun w0 mp hw => ?_; simp [WfL, WfA, E_length, Enc.enc, In64] at hw
 by_cases h0 : n = 0
 ·repeat' first | refine s1 ?_ | fail
  exact F.rx _ rfl (F.retM rfl trivial)
 ·repeat' first | refine s1 ?_ | fail
  refine F.loop (σ := Nat × ByteArray) [0, 3, 5, 10, 11, 12, 13, 14, 15, 16, 17, 18, 19, 20, 21, 22, 23, 24, 25, 26] (fun s => [(0, .i (if s.1 = 0 then n else 0)), (3, strA s.2)]) (fun _ => []) (fun s => s.1 ≤ 1 ∧ s.2.size = s.1) (fun s => 1 - s.1) (0, _) ⟨rfl, rfl, trivial⟩ trivial ⟨by simp, rfl⟩ ?_
  rintro ⟨k, s⟩ ⟨h1, h2⟩
  dsimp only at h1 h2 ⊢
  by_cases hk : k = 0
  ·subst hk
   rw [if_pos rfl]
   repeat' first | refine s1 ?_ | (refine kR ?_; first | refine F.sil (A.remP rfl rfl (by omega) (by omega)) rfl rfl ?_ | refine F.sil (A.cvIQ rfl) rfl rfl ?_ | refine F.lit1C (a := .q _) rfl rfl rfl rfl ?_ | refine F.sil (A.cvB1 rfl rfl) rfl rfl ?_ | refine F.sil (A.addStr rfl rfl (by rw [strOfNums_size]; simp; omega)) rfl rfl ?_ | refine F.sil (A.quoP rfl rfl (by omega) (by omega)) rfl rfl ?_) | fail
   exact ⟨(1, _), F.fit ⟨iE (by simp; omega), rfl, trivial⟩ trivial, ⟨by simp, by simp [ByteArray.size_append, strOfNums_size, h2]⟩, by simp⟩
  ·rw [if_neg hk]
   repeat' first | refine s1 ?_ | fail
   exact F.rx s (by omega) (F.retM rfl trivial)
theorem specFormatQuiver_x (q : Quiv) : AMx Tryz.prog 131 [.agg (enc false q)] [] (fun s : ByteArray => s.size ≤ 20) (fun s => [strA s]) (fun _ => []) := by
 refine AMx.go Tryz.func131 Tryz.ntmps131 rfl rfl fun w0 mp hw => ?_; simp [WfL, WfA, E_length, Enc.enc, In64] at hw
 have hQ := specIsQuiver_a q
 cases hq : okQ q with
 | false =>
  rw [hq] at hQ
  repeat' first | refine s1 ?_ | (refine kR ?_; first | refine F.c (hQ) ?_) | fail
  exact F.rx .empty (by decide) (F.retM rfl trivial)
 | true =>
  rw [hq] at hQ
  have h5 := okQ_spec hq
  have hD := digit_x q.n (by omega)
  repeat' first | refine s1 ?_ | (refine kR ?_; first | refine F.c (hQ) ?_ | (refine F.x [] (hD) ?_; rintro s hs; refine F.xk ?_) | refine F.sil (A.addStr rfl rfl (by rw [hs]; decide)) rfl rfl ?_) | fail
  refine AW.freezeP (α := Quiv) (oo := false) q 1 rfl rfl ?_
  refine F.loop (σ := Nat × ByteArray) [3, 4, 12, 13, 14, 15, 16, 17, 18, 19, 20, 21, 22, 23, 24, 25, 26, 27, 28, 29, 30, 31, 32, 33, 34] (fun s => [(3, strA s.2), (4, .i s.1)]) (fun _ => []) (fun s => s.1 ≤ q.fr.length ∧ s.2.size = 2 + 3 * s.1) (fun s => q.fr.length - s.1) (0, _) ⟨rfl, rfl, trivial⟩ trivial ⟨Nat.zero_le _, by simp [ByteArray.size_append, hs]; rfl⟩ ?_
  rintro ⟨k, z⟩ ⟨k1, k2⟩
  dsimp only at k1 k2 ⊢
  by_cases hk : k < q.fr.length
  ·have f : 0 ≤ q.fr.getD k default ∧ q.fr.getD k default < q.n := okQ_fr hq (by omega)
   have t : 0 ≤ q.to.getD k default ∧ q.to.getD k default < q.n := okQ_to hq (by omega)
   have hF := digit_x (q.fr.getD k default) (by omega)
   have hT := digit_x (q.to.getD k default) (by omega)
   repeat' first | refine s1 ?_ | fail
   refine AW.draw 17 G.mixed (by kernel_rfl) ?_
   refine dP 0 ?_
   first | refine dP 1 ?_ (hs := by exact (A.addStr rfl rfl (show (z.size : Int) + ((1 : Nat) : Int) ≤ _ by omega))) | refine dP 1 ?_
   refine dP 2 ?_
   refine dL 3 ?_
   refine dP 4 ?_
   refine dP 5 ?_
   refine dL 6 ?_
   refine dP 9 ?_
   refine dL 10 ?_
   refine dP 11 ?_
   refine dP 12 ?_
   refine dL 13 ?_
   refine dO 7 true ?_
   first | refine s1 ?_ | (refine F.x [] (hF) ?_; rintro a ha; refine F.xk ?_)
   refine tN ?_
   first | refine dP 8 ?_ (hs := by exact (A.addStr rfl rfl (by rw [ByteArray.size_append, ha]; show ((z.size + 1 : Nat) : Int) + ((1 : Nat) : Int) ≤ _; omega))) | refine dP 8 ?_
   refine dO 14 true ?_
   first | refine s1 ?_ | (refine F.x [] (hT) ?_; rintro c hc'; refine F.xk ?_)
   refine tN ?_
   first | refine dP 15 ?_ (hs := by exact (A.addStr rfl rfl (by rw [ByteArray.size_append, ByteArray.size_append, ha, hc']; show ((z.size + 1 + 1 : Nat) : Int) + ((1 : Nat) : Int) ≤ _; omega))) | refine dP 15 ?_
   refine dP 16 ?_
   refine dN ?_
   rotate_left
   all_goals
    repeat' first | refine s1 ?_ | fail
    exact ⟨(k + 1, _), F.fit ⟨rfl, rfl, trivial⟩ trivial, ⟨by omega, by rw [ByteArray.size_append, ByteArray.size_append, ByteArray.size_append, ha, hc']; show z.size + 1 + 1 + 1 = 2 + 3 * (k + 1); omega⟩, by show q.fr.length - (k + 1) < q.fr.length - k; omega⟩
  ·repeat' first | refine s1 ?_ | fail
   exact F.rx z (by omega) (F.retM rfl trivial)
def cutP (n : Nat) (l : List ByteArray) : Prop := 0 < l.length ∧ l.length ≤ n + 1 ∧ ∀ k, k < l.length → (l.getD k default).size ≤ n
theorem l6Cut_x (s : ByteArray) (z : Int) (hs : s.size ≤ 1000) : AMx Tryz.prog 130 [strA s, .q fun v => v = .int .u8 z] [] (cutP s.size) (fun l => [.dt true 1 (E true l)]) (fun _ => []) := by
 refine AMx.go Tryz.func130 Tryz.ntmps130 rfl rfl fun w0 mp hw => ?_; simp [WfL, WfA, E_length, Enc.enc, In64] at hw
 repeat' first | refine s1 ?_ | fail
 refine AW.open 5 1 (.inr rfl) ?_
 refine F.loop (σ := Nat × List ByteArray × ByteArray) [5, 6, 7, 9, 10, 11, 12, 13, 14, 15, 16, 17, 18, 19, 20, 21, 22, 23, 24, 25, 26, 27, 28, 29, 30] (fun s => [(5, .sl 0 s.2.1.length 0 s.2.1.length), (6, strA s.2.2), (7, .i s.1)]) (fun s => [(0, .live false 1 (E true s.2.1))]) (fun x => x.1 ≤ s.size ∧ x.2.1.length ≤ x.1 ∧ x.2.2.size ≤ x.1 ∧ ∀ k, k < x.2.1.length → (x.2.1.getD k default).size ≤ s.size) (fun x => s.size - x.1) (0, [], _) ⟨rfl, rfl, rfl, trivial⟩ ⟨rfl, trivial⟩ ⟨Nat.zero_le _, Nat.zero_le _, Nat.zero_le _, fun k hk => absurd hk (Nat.not_lt_zero _)⟩ ?_
 rintro ⟨k, l, p⟩ ⟨k1, k2, k3, k4⟩
 dsimp only at k1 k2 k3 k4 ⊢
 by_cases hk : k < s.size
 ·obtain ⟨u, hu⟩ : ∃ u, s[k]? = some u := ⟨s[k], by simp [hk]⟩
  by_cases hz : (u.toNat : Int) = z
  ·repeat' first | refine s1 ?_ | (refine kR ?_; first | refine F.sil (A.lenStr (by omega) rfl) rfl rfl ?_ | refine F.sil (A.idxStr rfl rfl hu) rfl rfl ?_ | refine F.sil (A.eqlQ rfl rfl) rfl rfl ?_ | refine F.lit1C (a := .q _) rfl rfl rfl rfl ?_ | refine F.a1 ByteArray ?_) | fail
   exact ⟨(k + 1, l ++ [p], _), F.fit ⟨by show _ = AV.sl 0 (l ++ [p]).length 0 (l ++ [p]).length; rw [List.length_append]; rfl, rfl, rfl, trivial⟩ ⟨obE rfl, trivial⟩, ⟨by omega, by simp; omega, Nat.zero_le _, fun j hj => by
    by_cases h : j < l.length
    ·have := k4 j h
     simpa [List.getElem?_append_left h, List.getD_eq_getElem?_getD] using this
    ·obtain rfl : j = l.length := by simp at hj; omega
     simp; omega⟩, by show s.size - (k + 1) < s.size - k; omega⟩
  ·repeat' first | refine s1 ?_ | (refine kR ?_; first | refine F.sil (A.lenStr (by omega) rfl) rfl rfl ?_ | refine F.sil (A.idxStr rfl rfl hu) rfl rfl ?_ | refine F.sil (A.eqlQ rfl rfl) rfl rfl ?_ | refine F.sil (A.slcStr rfl rfl rfl (by omega) (by omega) (by omega)) rfl rfl ?_ | refine F.sil (A.addStr rfl rfl (by simp [ByteArray.size_extract]; omega)) rfl rfl ?_) | fail
   exact ⟨(k + 1, l, _), F.fit ⟨rfl, rfl, rfl, trivial⟩ ⟨rfl, trivial⟩, ⟨by omega, by show l.length ≤ k + 1; omega, by simp [ByteArray.size_append, ByteArray.size_extract]; omega, k4⟩, by show s.size - (k + 1) < s.size - k; omega⟩
 ·obtain rfl : k = s.size := by omega
  repeat' first | refine s1 ?_ | (refine kR ?_; first | refine F.sil (A.lenStr (by omega) rfl) rfl rfl ?_ | refine F.lit1C (a := .q _) rfl rfl rfl rfl ?_ | refine F.a1 ByteArray ?_) | fail
  refine F.rx (l ++ [p]) ⟨by simp, by simp; omega, fun j hj => ?_⟩ (F.retM rfl trivial)
  by_cases h : j < l.length
  ·have := k4 j h
   simpa [List.getElem?_append_left h, List.getD_eq_getElem?_getD] using this
  ·obtain rfl : j = l.length := by simp at hj; omega
   simp; omega
end Go.Proofs.YtoilkinagffhiaaGreat.V
namespace Go.Proofs.YtoilkinagffhiaaGreat.V
open Go.RowKit G D
set_option linter.unusedVariables false
set_option linter.unusedSimpArgs false
set_option maxHeartbeats 4000000
set_option maxRecDepth 4000
attribute [local irreducible] AW ARg ARA ARet MRet ASil AC AM AMx AD
theorem big_a (b : List UInt8) : AC Tryz.prog 4 [ar false b] [.b (decide ((1048576 : Int) < b.length))] := by
 refine AC.go Tryz.func4 Tryz.ntmps4 rfl rfl fun w0 hw => ?_; simp [WfL, WfA, E_length, Enc.enc, In64] at hw
 repeat' first | refine s1 ?_ | fail
 (refine kZ ?_; exact F.ret rfl)
theorem total_a (xs : List Int) (hl : xs.length ≤ 1000) (h : ∀ j, j < xs.length → -1000 ≤ xs.getD j default ∧ xs.getD j default ≤ 1000) : AC Tryz.prog 17 [ar false xs] [.i xs.sum] := by
 refine AC.go Tryz.func17 Tryz.ntmps17 rfl rfl fun w0 hw => ?_; simp [WfL, WfA, E_length, Enc.enc, In64] at hw
 have hs : ∀ k, k ≤ xs.length → -(1000 * (k : Int)) ≤ (xs.take k).sum ∧ (xs.take k).sum ≤ 1000 * (k : Int) := fun k => by
  induction k with
  | zero => intro _; simp
  | succ k ih =>
   intro hk
   have h1 := ih (by omega)
   have h2 := h k (by omega)
   rw [List.take_add_one, List.sum_append]
   rw [show xs[k]?.toList = [xs.getD k default] by simp [List.getElem?_eq_getElem (show k < xs.length by omega)]]
   simp only [List.sum_cons, List.sum_nil]
   omega
 have hst : ∀ k, k < xs.length → (xs.take (k + 1)).sum = (xs.take k).sum + xs.getD k default := fun k hk => by
  rw [List.take_add_one, List.sum_append]
  rw [show xs[k]?.toList = [xs.getD k default] by simp [List.getElem?_eq_getElem hk]]
  simp only [List.sum_cons, List.sum_nil]
  omega
 have he : (xs.take xs.length).sum = xs.sum := by rw [List.take_length]
 repeat' first | refine s1 ?_ | fail
 refine F.loop (σ := Nat) [3, 4, 5, 6, 7, 8, 9, 10, 11, 12, 13, 14, 15, 16] (fun k => [(3, .i (xs.take k).sum), (4, .i k)]) (fun _ => []) (fun k => k ≤ xs.length) (fun k => xs.length - k) 0 ⟨rfl, rfl, trivial⟩ trivial (Nat.zero_le _) ?_
 rintro k k1
 have hb := hs k k1
 by_cases hk : k < xs.length
 ·have h2 := h k hk
  have e := hst k hk
  generalize (xs.take k).sum = z at hb e ⊢
  repeat' first | refine s1 ?_ | fail
  exact ⟨k + 1, F.fit ⟨iE (by rw [e]), rfl, trivial⟩ trivial, by omega, by omega⟩
 ·obtain rfl : k = xs.length := by omega
  rw [← he]
  generalize (xs.take xs.length).sum = z at hb ⊢
  repeat' first | refine s1 ?_ | fail
  (refine kZ ?_; exact F.ret rfl)
end Go.Proofs.YtoilkinagffhiaaGreat.V
