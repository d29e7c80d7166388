/- Texts that the proof needs: A182. -/
import Derived.Test.YtoilkinagffhiaaGreatQfeA181
namespace Go.Proofs.YtoilkinagffhiaaGreat.V
open Go.RowKit G D
set_option linter.unusedVariables false
set_option linter.unusedSimpArgs false
set_option maxHeartbeats 4000000
set_option maxRecDepth 4000
section
variable {P : Program} {n : Nat} {w0 : World} {MP : Fr} {Q : Exit → St → Prop} {E : Nat → AV} {hp : Nat → Ob} {nx : Nat} {w : World} {st : St}
theorem Sim.freezeV {E : Env} {t o sz : Nat} {l : Bool} {cs ds : List AV} (ht : st.E t = .pt o 1 0 0) (hh : st.hp o = .live l sz [cs]) (hpu : cs.all pureB = true) (he : frzL cs = ds) (hs : Sim w0 MP st E w) : Sim w0 MP ⟨updA st.E t (.ip ds), updA st.hp o .dead, st.nx⟩ E w := by
 subst he
 obtain ⟨C, Im, hm⟩ := hs
 obtain ⟨cc, hcc, hO⟩ := hm.obj o l sz _ hh
 have hv := hm.slot t
 rw [ht] at hv
 obtain ⟨b, q, e1, h4, h5⟩ := hv
 obtain ⟨f1, f2⟩ := (h5 cc hcc).2 (by rw [hO.len]; rfl)
 have f2' : q = 0 := by rw [f2]; omega
 subst f2'
 have h1 := (hm.kill o).imAdd (blks cc) (fun k hk => (hO.wb k hk).lt) hO.ge (fun o' c' hc' k hk hk' => by
  by_cases e : o' = o
  ·subst e; rw [updA_same] at hc'; cases hc'
  ·rw [updA_ne _ _ e] at hc'; exact hm.dis o o' cc c' (Ne.symm e) hcc hc' k hk hk')
 have hI2 := (hO.lay.pure (show ([cs] : List (List AV)).flatten.all pureB = true by simpa using hpu)).frz (Im' := fun k => Im k ∨ k ∈ blks cc) (fun k hk => .inl hk) (fun k hk => .inr (by simp [blks, hk]))
 rw [show ([cs] : List (List AV)).flatten = cs by simp] at hI2
 have h2 := h1.upd t (a := .ip (frzL cs)) (v := E t) ⟨b, 0, cc.us, e1, .inr (by simp [blks, mem_ownL, f1]), fun i u hu => by rw [Nat.zero_add]; exact hO.cell f1 hu, hI2⟩
 rw [G.upd_eq_self rfl] at h2
 exact ⟨_, _, h2⟩
theorem AW.freezeV {c : Code} (ds : List AV) (t : Nat) {o sz : Nat} {l : Bool} {cs : List AV} (ht : E t = .pt o 1 0 0) (hh : hp o = .live l sz [cs]) (hpu : cs.all pureB = true) (he : frzL cs = ds) (h : AW P n w0 MP c Q ⟨updA E t (.ip ds), updA hp o .dead, nx⟩) : AW P n w0 MP c Q ⟨E, hp, nx⟩ :=
 AW.ghost (fun E' w hs => Sim.freezeV (st := ⟨E, hp, nx⟩) ht hh hpu he hs) h
theorem AW.takeW {c : Code} (o j : Nat) {sz sz2 m : Nat} {cs cs' : List AV} {ys : List (List AV)} (ho : hp o = .live false sz [cs]) (hj : cs[j]? = some (.dt true sz2 ys)) (hm : ys.length = m) (hc : cs.set j (.sl nx m 0 m) = cs')
  (h : AW P n w0 MP c Q ⟨E, updA (updA hp o (.live false sz [cs'])) nx (.live false sz2 ys), nx + 1⟩) : AW P n w0 MP c Q ⟨E, hp, nx⟩ := by
 subst hm hc
 exact AW.ghost (fun E' w hs => (Sim.take (st := ⟨E, hp, nx⟩) ho (k := 0) rfl hj hs).1) h
theorem izG {I0 : Nat → Prop} {T : Exit → Env → World → Prop} {fuel : Nat} {ops : Array Oper} {listed : Array Bool} {α : Type} [Enc α] (t j : Nat) {o m sz : Nat} {l oo : Bool} {ls : List α} {cs : List AV} (ht : E t = .agg cs) (hj : cs[j]? = some (.sl o m 0 m)) (hh : hp o = .live l sz (V.E oo ls)) (hn : ls.length = m) (h : ARI false I0 T P n w0 MP ops fuel listed Q ⟨updA E t (.agg (cs.set j (.dt false sz (V.E false ls)))), updA hp o .dead, nx⟩) : ARI false I0 T P n w0 MP ops fuel listed Q ⟨E, hp, nx⟩ :=
 ARI.ghost (fun E' w hs => Sim.freezeG (st := ⟨E, hp, nx⟩) ht hj hh (by rw [E_length, hn]) (E_pure oo ls) (by rw [E_drop, E_take, E_frz, take_all hn]) hs) h
theorem Sim.mvV {E : Env} {t o sz : Nat} {l : Bool} {xs : List (List AV)} (ht : st.E t = .pt o 1 0 0) (hh : st.hp o = .live l sz xs) (hs : Sim w0 MP st E w) : Sim w0 MP ⟨updA st.E t (.pt st.nx 1 0 0), updA (updA st.hp o .dead) st.nx (.live l sz xs), st.nx + 1⟩ E w := by
 obtain ⟨C, Im, hm⟩ := hs
 obtain ⟨cc, hcc, hO⟩ := hm.obj o l sz _ hh
 have hv := hm.slot t
 rw [ht] at hv
 obtain ⟨b, q, e1, h4, h5⟩ := hv
 have hle : CLe st.nx C (updA C o Option.none) := fun o1 ho1 c hc => by
  by_cases e : o1 = o
  ·subst e; rw [updA_same] at hc; cases hc
  ·rw [updA_ne _ _ e] at hc; exact ⟨c, hc, .inl ⟨rfl, rfl, rfl⟩⟩
 have hn := (hm.kill o).new (l := l) (sz := sz) (xs := xs) (cc := cc) ⟨hO.esz, hO.len, hO.buf, hO.lay.mono (fun _ h => h) (fun _ _ => rfl) (Nat.le_refl _) hle (fun _ _ => rfl), hO.lens, hO.nd, hO.ge, hO.nim, hO.lent⟩ (fun o' c' hc' k hk hk' => by
  by_cases e : o' = o
  ·subst e; rw [updA_same] at hc'; cases hc'
  ·rw [updA_ne _ _ e] at hc'; exact hm.dis o o' cc c' (Ne.symm e) hcc hc' k hk hk')
 have h2 := hn.upd t (a := .pt st.nx 1 0 0) (v := E t) ⟨b, q, e1, Nat.lt_succ_self _, fun c' hc' => by rw [updA_same] at hc'; cases hc'; exact h5 cc hcc⟩
 rw [G.upd_eq_self rfl] at h2
 exact ⟨_, _, h2⟩
theorem AW.mvV {c : Code} (t : Nat) {o sz : Nat} {l : Bool} {xs : List (List AV)} (ht : E t = .pt o 1 0 0) (hh : hp o = .live l sz xs) (h : AW P n w0 MP c Q ⟨updA E t (.pt nx 1 0 0), updA (updA hp o .dead) nx (.live l sz xs), nx + 1⟩) : AW P n w0 MP c Q ⟨E, hp, nx⟩ :=
 AW.ghost (fun E' w hs => Sim.mvV (st := ⟨E, hp, nx⟩) ht hh hs) h
end
abbrev repA (r : Rep) : AV := .agg [.i r.p, .i r.q.n, .dt false 1 (V.E false r.q.fr), .dt false 1 (V.E false r.q.to), .dt true 1 (V.E true r.d), .dt true 3 (V.E true r.m)]
theorem repA_frz (r : Rep) : frzL [.i r.p, .i r.q.n, .dt false 1 (V.E false r.q.fr), .dt false 1 (V.E false r.q.to), .dt true 1 (V.E true r.d), .dt true 3 (V.E true r.m)] = enc false r := by simp [frzL, frz, E_frz, enc, Enc.enc]; exact ⟨rfl, rfl⟩
theorem repA_pure (r : Rep) : ([.i r.p, .i r.q.n, .dt false 1 (V.E false r.q.fr), .dt false 1 (V.E false r.q.to), .dt true 1 (V.E true r.d), .dt true 3 (V.E true r.m)] : List AV).all pureB = true := by simp [pureB, E_pure]
attribute [local irreducible] AW ARg ARA ARet MRet ASil AC AM AMx ACx AD
def smallD (d : List Int) : Prop := d.length ≤ 5 ∧ ∀ j, j < d.length → 0 ≤ d.getD j default ∧ d.getD j default ≤ 8
theorem smallD.add {d : List Int} {x : Int} (h : smallD d) (hl : d.length < 5) (hx : 0 ≤ x ∧ x ≤ 8) : smallD (d ++ [x]) := by
 refine ⟨by simp; omega, fun j hj => ?_⟩
 by_cases e : j < d.length
 ·have := h.2 j e
  simpa [List.getElem?_append_left e, List.getD_eq_getElem?_getD] using this
 ·obtain rfl : j = d.length := by simp at hj; omega
  simpa using hx
theorem l8Dims_x (b : List UInt8) (hl : b.length ≤ 1048576) (q : Quiv) (most : Int) (hm : 0 ≤ most ∧ most ≤ 8) : AD Tryz.prog 114 [.agg (enc false q), .i most] b (fun d : List Int => smallD d ∧ (0 ≤ q.n → q.n ≤ 5 → (d.length : Int) = q.n)) (fun d => [.dt true 1 (E true d)]) := by
 refine AD.go Tryz.func114 Tryz.ntmps114 rfl rfl fun i h hi w0 mp hw => ?_; simp [WfL, WfA, E_length, Enc.enc, In64] at hw
 have hB := fun n => l1Below_x b hl n
 repeat' first | refine s1 ?_ | fail
 refine AW.freezeP (α := Quiv) (oo := false) q 4 rfl rfl ?_
 refine AW.open 7 1 (.inr rfl) ?_
 refine AW.only [(0, .pt 0 1 0 0), (2, .i most), (4, .ip (enc false q)), (7, .sl 2 0 0 0), (8, .i 8), (9, .i 0)] [(0, .live false 3 (curO b i h)), (2, .live false 1 (E true ([] : List Int)))] 3 ⟨rfl, rfl, rfl, rfl, rfl, rfl, trivial⟩ ⟨rfl, rfl, trivial⟩ rfl ?_
 refine F.loop (σ := Nat × Int × List Int × Int × Int) [7, 8, 9, 10, 12, 13, 14, 15, 16, 17, 18, 19, 20, 21, 22, 23, 24, 25, 26, 27, 28, 29, 30, 31, 32, 33, 34] (fun x => [(7, .sl 2 x.1 0 x.1), (8, .i x.2.1), (9, .i x.1)]) (fun x => [(0, .live false 3 (curO b x.2.2.2.1 x.2.2.2.2)), (2, .live false 1 (E true x.2.2.1))]) (fun x => x.1 ≤ 5 ∧ (x.1 = 0 ∨ (x.1 : Int) ≤ q.n) ∧ 0 ≤ x.2.1 ∧ x.2.1 ≤ 8 ∧ x.2.2.1.length = x.1 ∧ smallD x.2.2.1 ∧ okI b x.2.2.2.1) (fun x => 5 - x.1) (0, 8, [], i, h) ⟨rfl, rfl, rfl, trivial⟩ ⟨rfl, rfl, trivial⟩ ⟨by simp, .inl rfl, by simp, by simp, rfl, ⟨by simp, fun j hj => absurd hj (Nat.not_lt_zero _)⟩, hi⟩ ?_
 rintro ⟨k, left, d, i2, h2⟩ ⟨k1, k2, k3, k4, k5, k6, hi2⟩
 dsimp only at k1 k2 k3 k4 k5 k6 hi2 ⊢
 by_cases hk : (k : Int) < q.n
 ·by_cases hk5 : (k : Int) < 5
  ·repeat' first | refine s1 ?_ | (refine kR ?_; first | (refine F.dr 0 ((hB _)) (by assumption) ?_; intro e i6 h6 he hi6; replace he := he.1 (by omega); refine F.xk ?_) | refine F.sil (A.min2 rfl rfl) rfl rfl ?_ | refine F.a1 Int ?_) | fail
   exact ⟨(k + 1, left - min left e, d ++ [min left e], i6, h6), F.fit ⟨rfl, rfl, rfl, trivial⟩ ⟨rfl, obE rfl, trivial⟩, ⟨by show k + 1 ≤ 5; omega, .inr (by show ((k + 1 : Nat) : Int) ≤ q.n; omega), by show 0 ≤ left - min left e; omega, by show left - min left e ≤ 8; omega, by simp; omega, k6.add (by omega) (by omega), hi6⟩, by show 5 - (k + 1) < 5 - k; omega⟩
  ·repeat' first | refine s1 ?_ | fail
   exact F.rd d ⟨k6, fun h0 h5 => by omega⟩ hi2 (F.retM rfl ⟨rfl, trivial⟩)
 ·repeat' first | refine s1 ?_ | fail
  exact F.rd d ⟨k6, fun h0 h5 => by omega⟩ hi2 (F.retM rfl ⟨rfl, trivial⟩)
def mapsB (ms : List Mat) : Prop := ∀ j, j < ms.length → 0 ≤ (ms.getD j default).r ∧ (ms.getD j default).r ≤ 1024 ∧ 0 ≤ (ms.getD j default).c ∧ (ms.getD j default).c ≤ 1024
theorem mapsB.set {ms : List Mat} {k : Nat} {M : Mat} (h : mapsB ms) (hr : M.r = (ms.getD k default).r) (hc : M.c = (ms.getD k default).c) : mapsB (ms.set k M) := fun j hj => by
 rw [List.length_set] at hj
 by_cases e : k = j
 ·subst e
  have := h k hj
  simpa [hj, hr, hc] using this
 ·have := h j hj
  simpa [List.getD_eq_getElem?_getD, List.getElem?_set_ne e] using this
theorem mapsB_zero (q : Quiv) (d : List Int) (h : smallD d) : mapsB (zeroMs q d) := fun j hj => by
 have hg : ∀ v : Int, 0 ≤ gI d v ∧ gI d v ≤ 1024 := fun v => by
  unfold gI
  by_cases e : v.toNat < d.length
  ·have := h.2 _ e; omega
  ·rw [List.getD_eq_getElem?_getD, List.getElem?_eq_none (by omega)]; decide
 rw [zeroMs_len] at hj
 have e : (zeroMs q d).getD j default = zeroM (gI d (q.to.getD j default)) (gI d (q.fr.getD j default)) := by simp [zeroMs, hj]
 rw [e]
 exact ⟨(hg _).1, (hg _).2, (hg _).1, (hg _).2⟩
theorem tailedO {b : List UInt8} {α : Type} {p : α → Prop} {T : α → Int → Int → Prop} {G : Prop} (h : (∀ a i h, p a → okI b i → Tl (T a i h)) → G) (t : ∀ a i h, p a → okI b i → T a i h) : G := h fun a i h hp hi => ⟨t a i h hp hi⟩
theorem l8Of_x (b : List UInt8) (hl : b.length ≤ 1048576) (p : Int) (q : Quiv) (most : Int) (hm : 0 ≤ most ∧ most ≤ 8) : AD Tryz.prog 88 [.i p, .agg (enc false q), .i most] b (fun r : Rep => r.p = p ∧ r.q = q ∧ smallD r.d) (fun r => [repA r]) := by
 refine AD.go Tryz.func88 Tryz.ntmps88 rfl rfl fun i h hi w0 mp hw => ?_; simp [WfL, WfA, E_length, Enc.enc, In64] at hw
 have hQ := specIsQuiver_a q
 have hD := l8Dims_x b hl q most hm
 have hR := fun r c hr hc => l3Random_x b hl p r c hr hc
 cases hq : okQ q with
 | false =>
  rw [hq] at hQ
  repeat' first | refine s1 ?_ | (refine kR ?_; first | refine F.c (hQ) ?_) | fail
  exact F.rd ⟨p, q, [], []⟩ ⟨rfl, rfl, by simp, fun j hj => absurd hj (Nat.not_lt_zero _)⟩ hi (F.retM rfl ⟨rfl, trivial⟩)
 | true =>
  rw [hq] at hQ
  have h5 := okQ_spec hq
  repeat' first | refine s1 ?_ | (refine kR ?_; first | refine F.c (hQ) ?_) | fail
  refine AW.freezeP (α := Quiv) (oo := false) q 6 rfl rfl ?_
  have hZ := fun d hl hd => l8Zero_a p q d hq hl hd
  apply V.tailedO (b := b) (p := fun d : List Int => smallD d ∧ (0 ≤ q.n → q.n ≤ 5 → (d.length : Int) = q.n))
  ·intro tail
   refine AW.drawI G.mixed (by kernel_rfl) (by rfl) ?_
   intro T w1 MP1 I0
   refine iP 0 ?_
   refine iL 1 ?_
   refine iP 2 ?_
   refine iL 3 ?_
   refine iP 4 ?_
   refine ARI.any [5, 7] (by kernel_rfl) (by simp) ?_
   intro k hk
   simp only [List.mem_cons, List.not_mem_nil, or_false] at hk
   rcases hk with rfl | rfl
   refine ⟨_, rfl, ?_⟩
   first | refine s1 ?_ | (refine F.dr 0 (hD) (by assumption) ?_; intro d i2 h2 hd hi2; refine F.xk ?_)
   refine tN ?_
   refine ARI.any [6, 7] (by kernel_rfl) (by simp) ?_
   intro k hk
   simp only [List.mem_cons, List.not_mem_nil, or_false] at hk
   rcases hk with rfl | rfl
   refine ⟨_, rfl, ?_⟩
   first | refine s1 ?_ | refine F.c ((hZ d (hd.2 (by omega) (by omega)) (fun j hj => by have := hd.1.2 j hj; omega))) ?_
   refine tN ?_
   refine izG (α := Int) (oo := true) (ls := q.fr) 23 2 rfl rfl rfl rfl ?_; refine izG (α := Int) (oo := true) (ls := q.to) 23 3 rfl rfl rfl rfl ?_
   refine iO 7 ?_
   refine s1 ?_
   refine tN ?_
   refine iO 8 ?_
   refine s1 ?_
   refine tN ?_
   refine iN ?_
   rotate_left
   refine ⟨_, rfl, ?_⟩
   refine s1 ?_
   refine tN ?_
   refine iO 6 ?_
   first | refine s1 ?_ | refine F.c ((hZ d (hd.2 (by omega) (by omega)) (fun j hj => by have := hd.1.2 j hj; omega))) ?_
   refine tN ?_
   refine izG (α := Int) (oo := true) (ls := q.fr) 23 2 rfl rfl rfl rfl ?_; refine izG (α := Int) (oo := true) (ls := q.to) 23 3 rfl rfl rfl rfl ?_
   refine iO 8 ?_
   refine s1 ?_
   refine tN ?_
   refine iN ?_
   rotate_left
   refine ⟨_, rfl, ?_⟩
   refine s1 ?_
   refine tN ?_
   refine iO 5 ?_
   first | refine s1 ?_ | (refine F.dr 0 (hD) (by assumption) ?_; intro d i2 h2 hd hi2; refine F.xk ?_)
   refine tN ?_
   refine iO 6 ?_
   first | refine s1 ?_ | refine F.c ((hZ d (hd.2 (by omega) (by omega)) (fun j hj => by have := hd.1.2 j hj; omega))) ?_
   refine tN ?_
   refine izG (α := Int) (oo := true) (ls := q.fr) 23 2 rfl rfl rfl rfl ?_; refine izG (α := Int) (oo := true) (ls := q.to) 23 3 rfl rfl rfl rfl ?_
   refine iO 8 ?_
   refine s1 ?_
   refine tN ?_
   refine iN ?_
   rotate_left
   all_goals
    repeat' first | refine s1 ?_ | fail
    refine AW.putV 9 4 rfl rfl rfl rfl (E_length _ _) (E_pure _ _) rfl ?_; refine AW.putV 9 5 rfl rfl rfl rfl (E_length _ _) (E_pure _ _) rfl ?_
    first | (refine AW.takeW 3 4 rfl rfl (E_length _ _) rfl ?_; refine AW.takeW 3 5 rfl rfl (E_length _ _) rfl ?_) | (refine AW.takeW 4 4 rfl rfl (E_length _ _) rfl ?_; refine AW.takeW 4 5 rfl rfl (E_length _ _) rfl ?_) | (refine AW.takeW 8 4 rfl rfl (E_length _ _) rfl ?_; refine AW.takeW 8 5 rfl rfl (E_length _ _) rfl ?_)
    refine AW.mvV 9 rfl rfl ?_
    refine AW.only [(0, .pt 0 1 0 0), (1, .i p), (8, .pt 2 1 0 0), (9, .pt 11 1 0 0), (10, .i 0)] [(0, .live false 3 (curO b i2 h2)), (2, .live false 6 [[.i 0, .i 0, .nl, .nl, .nl, .nl]]), (9, .live false 1 (E true d)), (10, .live false 3 (E true (zeroMs q d))), (11, .live false 6 [[.i p, .i q.n, .dt false 1 (E false q.fr), .dt false 1 (E false q.to), .sl 9 d.length 0 d.length, .sl 10 (zeroMs q d).length 0 (zeroMs q d).length]])] 12 ⟨rfl, rfl, rfl, rfl, rfl, trivial⟩ ⟨rfl, rfl, rfl, rfl, rfl, trivial⟩ rfl ?_
    exact (tail d i2 h2 hd hi2).t
  ·intro d i2 h2 hd hi2
   have hzl : (zeroMs q d).length ≤ 6 := by rw [zeroMs_len]; omega
   have hz : mapsB (zeroMs q d) := mapsB_zero q d hd.1
   refine F.loop (σ := Nat × List Mat × Int × Int) [10, 24, 25, 26, 27, 28, 29, 30, 31, 32, 33, 34, 35, 36, 37, 38, 39, 40, 41, 42, 43, 44, 45, 46, 47, 48, 49] (fun x => [(10, .i x.1)]) (fun x => [(0, .live false 3 (curO b x.2.2.1 x.2.2.2)), (10, .live false 3 (E true x.2.1))]) (fun x => x.1 ≤ (zeroMs q d).length ∧ x.2.1.length = (zeroMs q d).length ∧ mapsB x.2.1 ∧ okI b x.2.2.1) (fun x => (zeroMs q d).length - x.1) (0, zeroMs q d, i2, h2) ⟨rfl, trivial⟩ ⟨rfl, rfl, trivial⟩ ⟨Nat.zero_le _, rfl, hz, hi2⟩ ?_
   rintro ⟨k, ms, i3, h3⟩ ⟨k1, k2, k3, hi3⟩
   dsimp only at k1 k2 k3 hi3 ⊢
   by_cases hk : k < (zeroMs q d).length
   ·have hkb := k3 (0 + k) (by omega)
    repeat' first | refine s1 ?_ | fail
    refine AW.draw 1 G.mixed (by kernel_rfl) ?_
    refine dP 0 ?_
    refine dP 2 ?_
    refine dP 3 ?_
    refine dP 4 ?_
    refine dP 5 ?_
    refine dP 7 ?_
    refine dP 11 ?_
    refine dP 13 ?_
    refine ARA.any [1, 6, 12] (by kernel_rfl) (by simp) ?_
    intro k hk
    simp only [List.mem_cons, List.not_mem_nil, or_false] at hk
    rcases hk with rfl | rfl | rfl
    refine ⟨_, true, rfl, rfl, ?_⟩
    refine s1 ?_
    refine tN ?_
    refine ARA.any [6, 12] (by kernel_rfl) (by simp) ?_
    intro k hk
    simp only [List.mem_cons, List.not_mem_nil, or_false] at hk
    rcases hk with rfl | rfl
    refine ⟨_, true, rfl, rfl, ?_⟩
    refine s1 ?_
    refine tN ?_
    refine dP 8 ?_
    refine dP 9 ?_
    refine ARA.any [10, 12] (by kernel_rfl) (by simp) ?_
    intro k hk
    simp only [List.mem_cons, List.not_mem_nil, or_false] at hk
    rcases hk with rfl | rfl
    refine ⟨_, true, rfl, rfl, ?_⟩
    refine s1 ?_
    refine tN ?_
    refine dO 12 true ?_
    refine s1 ?_
    refine tN ?_
    refine dP 14 ?_
    refine dP 15 ?_
    refine dO 16 true ?_
    refine s1 ?_
    refine tN ?_
    refine dO 17 false ?_
    first | refine s1 ?_ | (refine F.dr 0 ((hR _ _ ⟨hkb.1, hkb.2.1⟩ hkb.2.2)) (by assumption) ?_; intro M i6 h6 hM hi6; refine F.xk ?_)
    refine tN ?_
    refine dP 18 ?_
    refine dO 19 false ?_
    first | refine s1 ?_ | (refine F.stGE (α := Mat) (oo := true) (v := M) rfl rfl rfl rfl rfl (by omega) (by omega) (.at1 rfl (.at1 rfl (.mv rfl (by simp) (E_length _ _) (E_pure _ _) .nil))) rfl rfl rfl rfl rfl ?_)
    refine tN ?_
    refine dN ?_
    rotate_left
    refine ⟨_, true, rfl, rfl, ?_⟩
    refine s1 ?_
    refine tN ?_
    refine dP 14 ?_
    refine dP 15 ?_
    refine ARA.any [10, 16] (by kernel_rfl) (by simp) ?_
    intro k hk
    simp only [List.mem_cons, List.not_mem_nil, or_false] at hk
    rcases hk with rfl | rfl
    refine ⟨_, true, rfl, rfl, ?_⟩
    refine s1 ?_
    refine tN ?_
    refine dO 16 true ?_
    refine s1 ?_
    refine tN ?_
    refine dO 17 false ?_
    first | refine s1 ?_ | (refine F.dr 0 ((hR _ _ ⟨hkb.1, hkb.2.1⟩ hkb.2.2)) (by assumption) ?_; intro M i6 h6 hM hi6; refine F.xk ?_)
    refine tN ?_
    refine dP 18 ?_
    refine dO 19 false ?_
    first | refine s1 ?_ | (refine F.stGE (α := Mat) (oo := true) (v := M) rfl rfl rfl rfl rfl (by omega) (by omega) (.at1 rfl (.at1 rfl (.mv rfl (by simp) (E_length _ _) (E_pure _ _) .nil))) rfl rfl rfl rfl rfl ?_)
    refine tN ?_
    refine dN ?_
    rotate_left
    refine ⟨_, true, rfl, rfl, ?_⟩
    refine s1 ?_
    refine tN ?_
    refine dO 10 true ?_
    refine s1 ?_
    refine tN ?_
    refine dO 17 false ?_
    first | refine s1 ?_ | (refine F.dr 0 ((hR _ _ ⟨hkb.1, hkb.2.1⟩ hkb.2.2)) (by assumption) ?_; intro M i6 h6 hM hi6; refine F.xk ?_)
    refine tN ?_
    refine dP 18 ?_
    refine dO 19 false ?_
    first | refine s1 ?_ | (refine F.stGE (α := Mat) (oo := true) (v := M) rfl rfl rfl rfl rfl (by omega) (by omega) (.at1 rfl (.at1 rfl (.mv rfl (by simp) (E_length _ _) (E_pure _ _) .nil))) rfl rfl rfl rfl rfl ?_)
    refine tN ?_
    refine dN ?_
    rotate_left
    refine ⟨_, true, rfl, rfl, ?_⟩
    refine s1 ?_
    refine tN ?_
    refine dP 14 ?_
    refine dP 15 ?_
    refine ARA.any [6, 16] (by kernel_rfl) (by simp) ?_
    intro k hk
    simp only [List.mem_cons, List.not_mem_nil, or_false] at hk
    rcases hk with rfl | rfl
    refine ⟨_, true, rfl, rfl, ?_⟩
    refine s1 ?_
    refine tN ?_
    refine dP 8 ?_
    refine dP 9 ?_
    refine ARA.any [10, 16] (by kernel_rfl) (by simp) ?_
    intro k hk
    simp only [List.mem_cons, List.not_mem_nil, or_false] at hk
    rcases hk with rfl | rfl
    refine ⟨_, true, rfl, rfl, ?_⟩
    refine s1 ?_
    refine tN ?_
    refine dO 16 true ?_
    refine s1 ?_
    refine tN ?_
    refine dO 17 false ?_
    first | refine s1 ?_ | (refine F.dr 0 ((hR _ _ ⟨hkb.1, hkb.2.1⟩ hkb.2.2)) (by assumption) ?_; intro M i6 h6 hM hi6; refine F.xk ?_)
    refine tN ?_
    refine dP 18 ?_
    refine dO 19 false ?_
    first | refine s1 ?_ | (refine F.stGE (α := Mat) (oo := true) (v := M) rfl rfl rfl rfl rfl (by omega) (by omega) (.at1 rfl (.at1 rfl (.mv rfl (by simp) (E_length _ _) (E_pure _ _) .nil))) rfl rfl rfl rfl rfl ?_)
    refine tN ?_
    refine dN ?_
    rotate_left
    refine ⟨_, true, rfl, rfl, ?_⟩
    refine s1 ?_
    refine tN ?_
    refine dO 10 true ?_
    refine s1 ?_
    refine tN ?_
    refine dO 17 false ?_
    first | refine s1 ?_ | (refine F.dr 0 ((hR _ _ ⟨hkb.1, hkb.2.1⟩ hkb.2.2)) (by assumption) ?_; intro M i6 h6 hM hi6; refine F.xk ?_)
    refine tN ?_
    refine dP 18 ?_
    refine dO 19 false ?_
    first | refine s1 ?_ | (refine F.stGE (α := Mat) (oo := true) (v := M) rfl rfl rfl rfl rfl (by omega) (by omega) (.at1 rfl (.at1 rfl (.mv rfl (by simp) (E_length _ _) (E_pure _ _) .nil))) rfl rfl rfl rfl rfl ?_)
    refine tN ?_
    refine dN ?_
    rotate_left
    refine ⟨_, true, rfl, rfl, ?_⟩
    refine s1 ?_
    refine tN ?_
    refine dO 6 true ?_
    refine s1 ?_
    refine tN ?_
    refine dP 8 ?_
    refine dP 9 ?_
    refine dO 10 true ?_
    refine s1 ?_
    refine tN ?_
    refine dO 17 false ?_
    first | refine s1 ?_ | (refine F.dr 0 ((hR _ _ ⟨hkb.1, hkb.2.1⟩ hkb.2.2)) (by assumption) ?_; intro M i6 h6 hM hi6; refine F.xk ?_)
    refine tN ?_
    refine dP 18 ?_
    refine dO 19 false ?_
    first | refine s1 ?_ | (refine F.stGE (α := Mat) (oo := true) (v := M) rfl rfl rfl rfl rfl (by omega) (by omega) (.at1 rfl (.at1 rfl (.mv rfl (by simp) (E_length _ _) (E_pure _ _) .nil))) rfl rfl rfl rfl rfl ?_)
    refine tN ?_
    refine dN ?_
    rotate_left
    refine ⟨_, true, rfl, rfl, ?_⟩
    refine s1 ?_
    refine tN ?_
    refine dP 8 ?_
    refine dP 9 ?_
    refine ARA.any [1, 10, 12] (by kernel_rfl) (by simp) ?_
    intro k hk
    simp only [List.mem_cons, List.not_mem_nil, or_false] at hk
    rcases hk with rfl | rfl | rfl
    refine ⟨_, true, rfl, rfl, ?_⟩
    refine s1 ?_
    refine tN ?_
    refine ARA.any [10, 12] (by kernel_rfl) (by simp) ?_
    intro k hk
    simp only [List.mem_cons, List.not_mem_nil, or_false] at hk
    rcases hk with rfl | rfl
    refine ⟨_, true, rfl, rfl, ?_⟩
    refine s1 ?_
    refine tN ?_
    refine dO 12 true ?_
    refine s1 ?_
    refine tN ?_
    refine dP 14 ?_
    refine dP 15 ?_
    refine dO 16 true ?_
    refine s1 ?_
    refine tN ?_
    refine dO 17 false ?_
    first | refine s1 ?_ | (refine F.dr 0 ((hR _ _ ⟨hkb.1, hkb.2.1⟩ hkb.2.2)) (by assumption) ?_; intro M i6 h6 hM hi6; refine F.xk ?_)
    refine tN ?_
    refine dP 18 ?_
    refine dO 19 false ?_
    first | refine s1 ?_ | (refine F.stGE (α := Mat) (oo := true) (v := M) rfl rfl rfl rfl rfl (by omega) (by omega) (.at1 rfl (.at1 rfl (.mv rfl (by simp) (E_length _ _) (E_pure _ _) .nil))) rfl rfl rfl rfl rfl ?_)
    refine tN ?_
    refine dN ?_
    rotate_left
    refine ⟨_, true, rfl, rfl, ?_⟩
    refine s1 ?_
    refine tN ?_
    refine dP 14 ?_
    refine dP 15 ?_
    refine ARA.any [10, 16] (by kernel_rfl) (by simp) ?_
    intro k hk
    simp only [List.mem_cons, List.not_mem_nil, or_false] at hk
    rcases hk with rfl | rfl
    refine ⟨_, true, rfl, rfl, ?_⟩
    refine s1 ?_
    refine tN ?_
    refine dO 16 true ?_
    refine s1 ?_
    refine tN ?_
    refine dO 17 false ?_
    first | refine s1 ?_ | (refine F.dr 0 ((hR _ _ ⟨hkb.1, hkb.2.1⟩ hkb.2.2)) (by assumption) ?_; intro M i6 h6 hM hi6; refine F.xk ?_)
    refine tN ?_
    refine dP 18 ?_
    refine dO 19 false ?_
    first | refine s1 ?_ | (refine F.stGE (α := Mat) (oo := true) (v := M) rfl rfl rfl rfl rfl (by omega) (by omega) (.at1 rfl (.at1 rfl (.mv rfl (by simp) (E_length _ _) (E_pure _ _) .nil))) rfl rfl rfl rfl rfl ?_)
    refine tN ?_
    refine dN ?_
    rotate_left
    refine ⟨_, true, rfl, rfl, ?_⟩
    refine s1 ?_
    refine tN ?_
    refine dO 10 true ?_
    refine s1 ?_
    refine tN ?_
    refine dO 17 false ?_
    first | refine s1 ?_ | (refine F.dr 0 ((hR _ _ ⟨hkb.1, hkb.2.1⟩ hkb.2.2)) (by assumption) ?_; intro M i6 h6 hM hi6; refine F.xk ?_)
    refine tN ?_
    refine dP 18 ?_
    refine dO 19 false ?_
    first | refine s1 ?_ | (refine F.stGE (α := Mat) (oo := true) (v := M) rfl rfl rfl rfl rfl (by omega) (by omega) (.at1 rfl (.at1 rfl (.mv rfl (by simp) (E_length _ _) (E_pure _ _) .nil))) rfl rfl rfl rfl rfl ?_)
    refine tN ?_
    refine dN ?_
    rotate_left
    refine ⟨_, true, rfl, rfl, ?_⟩
    refine s1 ?_
    refine tN ?_
    refine ARA.any [1, 12] (by kernel_rfl) (by simp) ?_
    intro k hk
    simp only [List.mem_cons, List.not_mem_nil, or_false] at hk
    rcases hk with rfl | rfl
    refine ⟨_, true, rfl, rfl, ?_⟩
    refine s1 ?_
    refine tN ?_
    refine dO 12 true ?_
    refine s1 ?_
    refine tN ?_
    refine dP 14 ?_
    refine dP 15 ?_
    refine dO 16 true ?_
    refine s1 ?_
    refine tN ?_
    refine dO 17 false ?_
    first | refine s1 ?_ | (refine F.dr 0 ((hR _ _ ⟨hkb.1, hkb.2.1⟩ hkb.2.2)) (by assumption) ?_; intro M i6 h6 hM hi6; refine F.xk ?_)
    refine tN ?_
    refine dP 18 ?_
    refine dO 19 false ?_
    first | refine s1 ?_ | (refine F.stGE (α := Mat) (oo := true) (v := M) rfl rfl rfl rfl rfl (by omega) (by omega) (.at1 rfl (.at1 rfl (.mv rfl (by simp) (E_length _ _) (E_pure _ _) .nil))) rfl rfl rfl rfl rfl ?_)
    refine tN ?_
    refine dN ?_
    rotate_left
    refine ⟨_, true, rfl, rfl, ?_⟩
    refine s1 ?_
    refine tN ?_
    refine dP 14 ?_
    refine dP 15 ?_
    refine ARA.any [1, 16] (by kernel_rfl) (by simp) ?_
    intro k hk
    simp only [List.mem_cons, List.not_mem_nil, or_false] at hk
    rcases hk with rfl | rfl
    refine ⟨_, true, rfl, rfl, ?_⟩
    refine s1 ?_
    refine tN ?_
    refine dO 16 true ?_
    refine s1 ?_
    refine tN ?_
    refine dO 17 false ?_
    first | refine s1 ?_ | (refine F.dr 0 ((hR _ _ ⟨hkb.1, hkb.2.1⟩ hkb.2.2)) (by assumption) ?_; intro M i6 h6 hM hi6; refine F.xk ?_)
    refine tN ?_
    refine dP 18 ?_
    refine dO 19 false ?_
    first | refine s1 ?_ | (refine F.stGE (α := Mat) (oo := true) (v := M) rfl rfl rfl rfl rfl (by omega) (by omega) (.at1 rfl (.at1 rfl (.mv rfl (by simp) (E_length _ _) (E_pure _ _) .nil))) rfl rfl rfl rfl rfl ?_)
    refine tN ?_
    refine dN ?_
    rotate_left
    refine ⟨_, true, rfl, rfl, ?_⟩
    refine s1 ?_
    refine tN ?_
    refine ARA.any [1, 17] (by kernel_rfl) (by simp) ?_
    intro k hk
    simp only [List.mem_cons, List.not_mem_nil, or_false] at hk
    rcases hk with rfl | rfl
    refine ⟨_, true, rfl, rfl, ?_⟩
    refine s1 ?_
    refine tN ?_
    refine dO 17 false ?_
    first | refine s1 ?_ | (refine F.dr 0 ((hR _ _ ⟨hkb.1, hkb.2.1⟩ hkb.2.2)) (by assumption) ?_; intro M i6 h6 hM hi6; refine F.xk ?_)
    refine tN ?_
    refine dP 18 ?_
    refine dO 19 false ?_
    first | refine s1 ?_ | (refine F.stGE (α := Mat) (oo := true) (v := M) rfl rfl rfl rfl rfl (by omega) (by omega) (.at1 rfl (.at1 rfl (.mv rfl (by simp) (E_length _ _) (E_pure _ _) .nil))) rfl rfl rfl rfl rfl ?_)
    refine tN ?_
    refine dN ?_
    rotate_left
    refine ⟨_, false, rfl, rfl, ?_⟩
    first | refine s1 ?_ | (refine F.dr 0 ((hR _ _ ⟨hkb.1, hkb.2.1⟩ hkb.2.2)) (by assumption) ?_; intro M i6 h6 hM hi6; refine F.xk ?_)
    refine tN ?_
    refine dO 1 true ?_
    refine s1 ?_
    refine tN ?_
    refine dP 18 ?_
    refine dO 19 false ?_
    first | refine s1 ?_ | (refine F.stGE (α := Mat) (oo := true) (v := M) rfl rfl rfl rfl rfl (by omega) (by omega) (.at1 rfl (.at1 rfl (.mv rfl (by simp) (E_length _ _) (E_pure _ _) .nil))) rfl rfl rfl rfl rfl ?_)
    refine tN ?_
    refine dN ?_
    rotate_left
    refine ⟨_, true, rfl, rfl, ?_⟩
    refine s1 ?_
    refine tN ?_
    refine dP 14 ?_
    refine dP 15 ?_
    refine ARA.any [1, 10, 16] (by kernel_rfl) (by simp) ?_
    intro k hk
    simp only [List.mem_cons, List.not_mem_nil, or_false] at hk
    rcases hk with rfl | rfl | rfl
    refine ⟨_, true, rfl, rfl, ?_⟩
    refine s1 ?_
    refine tN ?_
    refine ARA.any [10, 16] (by kernel_rfl) (by simp) ?_
    intro k hk
    simp only [List.mem_cons, List.not_mem_nil, or_false] at hk
    rcases hk with rfl | rfl
    refine ⟨_, true, rfl, rfl, ?_⟩
    refine s1 ?_
    refine tN ?_
    refine dO 16 true ?_
    refine s1 ?_
    refine tN ?_
    refine dO 17 false ?_
    first | refine s1 ?_ | (refine F.dr 0 ((hR _ _ ⟨hkb.1, hkb.2.1⟩ hkb.2.2)) (by assumption) ?_; intro M i6 h6 hM hi6; refine F.xk ?_)
    refine tN ?_
    refine dP 18 ?_
    refine dO 19 false ?_
    first | refine s1 ?_ | (refine F.stGE (α := Mat) (oo := true) (v := M) rfl rfl rfl rfl rfl (by omega) (by omega) (.at1 rfl (.at1 rfl (.mv rfl (by simp) (E_length _ _) (E_pure _ _) .nil))) rfl rfl rfl rfl rfl ?_)
    refine tN ?_
    refine dN ?_
    rotate_left
    refine ⟨_, true, rfl, rfl, ?_⟩
    refine s1 ?_
    refine tN ?_
    refine dO 10 true ?_
    refine s1 ?_
    refine tN ?_
    refine dO 17 false ?_
    first | refine s1 ?_ | (refine F.dr 0 ((hR _ _ ⟨hkb.1, hkb.2.1⟩ hkb.2.2)) (by assumption) ?_; intro M i6 h6 hM hi6; refine F.xk ?_)
    refine tN ?_
    refine dP 18 ?_
    refine dO 19 false ?_
    first | refine s1 ?_ | (refine F.stGE (α := Mat) (oo := true) (v := M) rfl rfl rfl rfl rfl (by omega) (by omega) (.at1 rfl (.at1 rfl (.mv rfl (by simp) (E_length _ _) (E_pure _ _) .nil))) rfl rfl rfl rfl rfl ?_)
    refine tN ?_
    refine dN ?_
    rotate_left
    refine ⟨_, true, rfl, rfl, ?_⟩
    refine s1 ?_
    refine tN ?_
    refine ARA.any [1, 16] (by kernel_rfl) (by simp) ?_
    intro k hk
    simp only [List.mem_cons, List.not_mem_nil, or_false] at hk
    rcases hk with rfl | rfl
    refine ⟨_, true, rfl, rfl, ?_⟩
    refine s1 ?_
    refine tN ?_
    refine dO 16 true ?_
    refine s1 ?_
    refine tN ?_
    refine dO 17 false ?_
    first | refine s1 ?_ | (refine F.dr 0 ((hR _ _ ⟨hkb.1, hkb.2.1⟩ hkb.2.2)) (by assumption) ?_; intro M i6 h6 hM hi6; refine F.xk ?_)
    refine tN ?_
    refine dP 18 ?_
    refine dO 19 false ?_
    first | refine s1 ?_ | (refine F.stGE (α := Mat) (oo := true) (v := M) rfl rfl rfl rfl rfl (by omega) (by omega) (.at1 rfl (.at1 rfl (.mv rfl (by simp) (E_length _ _) (E_pure _ _) .nil))) rfl rfl rfl rfl rfl ?_)
    refine tN ?_
    refine dN ?_
    rotate_left
    refine ⟨_, true, rfl, rfl, ?_⟩
    refine s1 ?_
    refine tN ?_
    refine ARA.any [1, 17] (by kernel_rfl) (by simp) ?_
    intro k hk
    simp only [List.mem_cons, List.not_mem_nil, or_false] at hk
    rcases hk with rfl | rfl
    refine ⟨_, true, rfl, rfl, ?_⟩
    refine s1 ?_
    refine tN ?_
    refine dO 17 false ?_
    first | refine s1 ?_ | (refine F.dr 0 ((hR _ _ ⟨hkb.1, hkb.2.1⟩ hkb.2.2)) (by assumption) ?_; intro M i6 h6 hM hi6; refine F.xk ?_)
    refine tN ?_
    refine dP 18 ?_
    refine dO 19 false ?_
    first | refine s1 ?_ | (refine F.stGE (α := Mat) (oo := true) (v := M) rfl rfl rfl rfl rfl (by omega) (by omega) (.at1 rfl (.at1 rfl (.mv rfl (by simp) (E_length _ _) (E_pure _ _) .nil))) rfl rfl rfl rfl rfl ?_)
    refine tN ?_
    refine dN ?_
    rotate_left
    refine ⟨_, false, rfl, rfl, ?_⟩
    first | refine s1 ?_ | (refine F.dr 0 ((hR _ _ ⟨hkb.1, hkb.2.1⟩ hkb.2.2)) (by assumption) ?_; intro M i6 h6 hM hi6; refine F.xk ?_)
    refine tN ?_
    refine dO 1 true ?_
    refine s1 ?_
    refine tN ?_
    refine dP 18 ?_
    refine dO 19 false ?_
    first | refine s1 ?_ | (refine F.stGE (α := Mat) (oo := true) (v := M) rfl rfl rfl rfl rfl (by omega) (by omega) (.at1 rfl (.at1 rfl (.mv rfl (by simp) (E_length _ _) (E_pure _ _) .nil))) rfl rfl rfl rfl rfl ?_)
    refine tN ?_
    refine dN ?_
    rotate_left
    refine ⟨_, true, rfl, rfl, ?_⟩
    refine s1 ?_
    refine tN ?_
    refine ARA.any [1, 10] (by kernel_rfl) (by simp) ?_
    intro k hk
    simp only [List.mem_cons, List.not_mem_nil, or_false] at hk
    rcases hk with rfl | rfl
    refine ⟨_, true, rfl, rfl, ?_⟩
    refine s1 ?_
    refine tN ?_
    refine dO 10 true ?_
    refine s1 ?_
    refine tN ?_
    refine dO 17 false ?_
    first | refine s1 ?_ | (refine F.dr 0 ((hR _ _ ⟨hkb.1, hkb.2.1⟩ hkb.2.2)) (by assumption) ?_; intro M i6 h6 hM hi6; refine F.xk ?_)
    refine tN ?_
    refine dP 18 ?_
    refine dO 19 false ?_
    first | refine s1 ?_ | (refine F.stGE (α := Mat) (oo := true) (v := M) rfl rfl rfl rfl rfl (by omega) (by omega) (.at1 rfl (.at1 rfl (.mv rfl (by simp) (E_length _ _) (E_pure _ _) .nil))) rfl rfl rfl rfl rfl ?_)
    refine tN ?_
    refine dN ?_
    rotate_left
    refine ⟨_, true, rfl, rfl, ?_⟩
    refine s1 ?_
    refine tN ?_
    refine ARA.any [1, 17] (by kernel_rfl) (by simp) ?_
    intro k hk
    simp only [List.mem_cons, List.not_mem_nil, or_false] at hk
    rcases hk with rfl | rfl
    refine ⟨_, true, rfl, rfl, ?_⟩
    refine s1 ?_
    refine tN ?_
    refine dO 17 false ?_
    first | refine s1 ?_ | (refine F.dr 0 ((hR _ _ ⟨hkb.1, hkb.2.1⟩ hkb.2.2)) (by assumption) ?_; intro M i6 h6 hM hi6; refine F.xk ?_)
    refine tN ?_
    refine dP 18 ?_
    refine dO 19 false ?_
    first | refine s1 ?_ | (refine F.stGE (α := Mat) (oo := true) (v := M) rfl rfl rfl rfl rfl (by omega) (by omega) (.at1 rfl (.at1 rfl (.mv rfl (by simp) (E_length _ _) (E_pure _ _) .nil))) rfl rfl rfl rfl rfl ?_)
    refine tN ?_
    refine dN ?_
    rotate_left
    refine ⟨_, false, rfl, rfl, ?_⟩
    first | refine s1 ?_ | (refine F.dr 0 ((hR _ _ ⟨hkb.1, hkb.2.1⟩ hkb.2.2)) (by assumption) ?_; intro M i6 h6 hM hi6; refine F.xk ?_)
    refine tN ?_
    refine dO 1 true ?_
    refine s1 ?_
    refine tN ?_
    refine dP 18 ?_
    refine dO 19 false ?_
    first | refine s1 ?_ | (refine F.stGE (α := Mat) (oo := true) (v := M) rfl rfl rfl rfl rfl (by omega) (by omega) (.at1 rfl (.at1 rfl (.mv rfl (by simp) (E_length _ _) (E_pure _ _) .nil))) rfl rfl rfl rfl rfl ?_)
    refine tN ?_
    refine dN ?_
    rotate_left
    refine ⟨_, true, rfl, rfl, ?_⟩
    refine s1 ?_
    refine tN ?_
    refine dP 14 ?_
    refine dP 15 ?_
    refine ARA.any [1, 6, 16] (by kernel_rfl) (by simp) ?_
    intro k hk
    simp only [List.mem_cons, List.not_mem_nil, or_false] at hk
    rcases hk with rfl | rfl | rfl
    refine ⟨_, true, rfl, rfl, ?_⟩
    refine s1 ?_
    refine tN ?_
    refine ARA.any [6, 16] (by kernel_rfl) (by simp) ?_
    intro k hk
    simp only [List.mem_cons, List.not_mem_nil, or_false] at hk
    rcases hk with rfl | rfl
    refine ⟨_, true, rfl, rfl, ?_⟩
    refine s1 ?_
    refine tN ?_
    refine dP 8 ?_
    refine dP 9 ?_
    refine ARA.any [10, 16] (by kernel_rfl) (by simp) ?_
    intro k hk
    simp only [List.mem_cons, List.not_mem_nil, or_false] at hk
    rcases hk with rfl | rfl
    refine ⟨_, true, rfl, rfl, ?_⟩
    refine s1 ?_
    refine tN ?_
    refine dO 16 true ?_
    refine s1 ?_
    refine tN ?_
    refine dO 17 false ?_
    first | refine s1 ?_ | (refine F.dr 0 ((hR _ _ ⟨hkb.1, hkb.2.1⟩ hkb.2.2)) (by assumption) ?_; intro M i6 h6 hM hi6; refine F.xk ?_)
    refine tN ?_
    refine dP 18 ?_
    refine dO 19 false ?_
    first | refine s1 ?_ | (refine F.stGE (α := Mat) (oo := true) (v := M) rfl rfl rfl rfl rfl (by omega) (by omega) (.at1 rfl (.at1 rfl (.mv rfl (by simp) (E_length _ _) (E_pure _ _) .nil))) rfl rfl rfl rfl rfl ?_)
    refine tN ?_
    refine dN ?_
    rotate_left
    refine ⟨_, true, rfl, rfl, ?_⟩
    refine s1 ?_
    refine tN ?_
    refine dO 10 true ?_
    refine s1 ?_
    refine tN ?_
    refine dO 17 false ?_
    first | refine s1 ?_ | (refine F.dr 0 ((hR _ _ ⟨hkb.1, hkb.2.1⟩ hkb.2.2)) (by assumption) ?_; intro M i6 h6 hM hi6; refine F.xk ?_)
    refine tN ?_
    refine dP 18 ?_
    refine dO 19 false ?_
    first | refine s1 ?_ | (refine F.stGE (α := Mat) (oo := true) (v := M) rfl rfl rfl rfl rfl (by omega) (by omega) (.at1 rfl (.at1 rfl (.mv rfl (by simp) (E_length _ _) (E_pure _ _) .nil))) rfl rfl rfl rfl rfl ?_)
    refine tN ?_
    refine dN ?_
    rotate_left
    refine ⟨_, true, rfl, rfl, ?_⟩
    refine s1 ?_
    refine tN ?_
    refine dO 6 true ?_
    refine s1 ?_
    refine tN ?_
    refine dP 8 ?_
    refine dP 9 ?_
    refine dO 10 true ?_
    refine s1 ?_
    refine tN ?_
    refine dO 17 false ?_
    first | refine s1 ?_ | (refine F.dr 0 ((hR _ _ ⟨hkb.1, hkb.2.1⟩ hkb.2.2)) (by assumption) ?_; intro M i6 h6 hM hi6; refine F.xk ?_)
    refine tN ?_
    refine dP 18 ?_
    refine dO 19 false ?_
    first | refine s1 ?_ | (refine F.stGE (α := Mat) (oo := true) (v := M) rfl rfl rfl rfl rfl (by omega) (by omega) (.at1 rfl (.at1 rfl (.mv rfl (by simp) (E_length _ _) (E_pure _ _) .nil))) rfl rfl rfl rfl rfl ?_)
    refine tN ?_
    refine dN ?_
    rotate_left
    refine ⟨_, true, rfl, rfl, ?_⟩
    refine s1 ?_
    refine tN ?_
    refine dP 8 ?_
    refine dP 9 ?_
    refine ARA.any [1, 10, 16] (by kernel_rfl) (by simp) ?_
    intro k hk
    simp only [List.mem_cons, List.not_mem_nil, or_false] at hk
    rcases hk with rfl | rfl | rfl
    refine ⟨_, true, rfl, rfl, ?_⟩
    refine s1 ?_
    refine tN ?_
    refine ARA.any [10, 16] (by kernel_rfl) (by simp) ?_
    intro k hk
    simp only [List.mem_cons, List.not_mem_nil, or_false] at hk
    rcases hk with rfl | rfl
    refine ⟨_, true, rfl, rfl, ?_⟩
    refine s1 ?_
    refine tN ?_
    refine dO 16 true ?_
    refine s1 ?_
    refine tN ?_
    refine dO 17 false ?_
    first | refine s1 ?_ | (refine F.dr 0 ((hR _ _ ⟨hkb.1, hkb.2.1⟩ hkb.2.2)) (by assumption) ?_; intro M i6 h6 hM hi6; refine F.xk ?_)
    refine tN ?_
    refine dP 18 ?_
    refine dO 19 false ?_
    first | refine s1 ?_ | (refine F.stGE (α := Mat) (oo := true) (v := M) rfl rfl rfl rfl rfl (by omega) (by omega) (.at1 rfl (.at1 rfl (.mv rfl (by simp) (E_length _ _) (E_pure _ _) .nil))) rfl rfl rfl rfl rfl ?_)
    refine tN ?_
    refine dN ?_
    rotate_left
    refine ⟨_, true, rfl, rfl, ?_⟩
    refine s1 ?_
    refine tN ?_
    refine dO 10 true ?_
    refine s1 ?_
    refine tN ?_
    refine dO 17 false ?_
    first | refine s1 ?_ | (refine F.dr 0 ((hR _ _ ⟨hkb.1, hkb.2.1⟩ hkb.2.2)) (by assumption) ?_; intro M i6 h6 hM hi6; refine F.xk ?_)
    refine tN ?_
    refine dP 18 ?_
    refine dO 19 false ?_
    first | refine s1 ?_ | (refine F.stGE (α := Mat) (oo := true) (v := M) rfl rfl rfl rfl rfl (by omega) (by omega) (.at1 rfl (.at1 rfl (.mv rfl (by simp) (E_length _ _) (E_pure _ _) .nil))) rfl rfl rfl rfl rfl ?_)
    refine tN ?_
    refine dN ?_
    rotate_left
    refine ⟨_, true, rfl, rfl, ?_⟩
    refine s1 ?_
    refine tN ?_
    refine ARA.any [1, 16] (by kernel_rfl) (by simp) ?_
    intro k hk
    simp only [List.mem_cons, List.not_mem_nil, or_false] at hk
    rcases hk with rfl | rfl
    refine ⟨_, true, rfl, rfl, ?_⟩
    refine s1 ?_
    refine tN ?_
    refine dO 16 true ?_
    refine s1 ?_
    refine tN ?_
    refine dO 17 false ?_
    first | refine s1 ?_ | (refine F.dr 0 ((hR _ _ ⟨hkb.1, hkb.2.1⟩ hkb.2.2)) (by assumption) ?_; intro M i6 h6 hM hi6; refine F.xk ?_)
    refine tN ?_
    refine dP 18 ?_
    refine dO 19 false ?_
    first | refine s1 ?_ | (refine F.stGE (α := Mat) (oo := true) (v := M) rfl rfl rfl rfl rfl (by omega) (by omega) (.at1 rfl (.at1 rfl (.mv rfl (by simp) (E_length _ _) (E_pure _ _) .nil))) rfl rfl rfl rfl rfl ?_)
    refine tN ?_
    refine dN ?_
    rotate_left
    refine ⟨_, true, rfl, rfl, ?_⟩
    refine s1 ?_
    refine tN ?_
    refine ARA.any [1, 17] (by kernel_rfl) (by simp) ?_
    intro k hk
    simp only [List.mem_cons, List.not_mem_nil, or_false] at hk
    rcases hk with rfl | rfl
    refine ⟨_, true, rfl, rfl, ?_⟩
    refine s1 ?_
    refine tN ?_
    refine dO 17 false ?_
    first | refine s1 ?_ | (refine F.dr 0 ((hR _ _ ⟨hkb.1, hkb.2.1⟩ hkb.2.2)) (by assumption) ?_; intro M i6 h6 hM hi6; refine F.xk ?_)
    refine tN ?_
    refine dP 18 ?_
    refine dO 19 false ?_
    first | refine s1 ?_ | (refine F.stGE (α := Mat) (oo := true) (v := M) rfl rfl rfl rfl rfl (by omega) (by omega) (.at1 rfl (.at1 rfl (.mv rfl (by simp) (E_length _ _) (E_pure _ _) .nil))) rfl rfl rfl rfl rfl ?_)
    refine tN ?_
    refine dN ?_
    rotate_left
    refine ⟨_, false, rfl, rfl, ?_⟩
    first | refine s1 ?_ | (refine F.dr 0 ((hR _ _ ⟨hkb.1, hkb.2.1⟩ hkb.2.2)) (by assumption) ?_; intro M i6 h6 hM hi6; refine F.xk ?_)
    refine tN ?_
    refine dO 1 true ?_
    refine s1 ?_
    refine tN ?_
    refine dP 18 ?_
    refine dO 19 false ?_
    first | refine s1 ?_ | (refine F.stGE (α := Mat) (oo := true) (v := M) rfl rfl rfl rfl rfl (by omega) (by omega) (.at1 rfl (.at1 rfl (.mv rfl (by simp) (E_length _ _) (E_pure _ _) .nil))) rfl rfl rfl rfl rfl ?_)
    refine tN ?_
    refine dN ?_
    rotate_left
    refine ⟨_, true, rfl, rfl, ?_⟩
    refine s1 ?_
    refine tN ?_
    refine ARA.any [1, 10] (by kernel_rfl) (by simp) ?_
    intro k hk
    simp only [List.mem_cons, List.not_mem_nil, or_false] at hk
    rcases hk with rfl | rfl
    refine ⟨_, true, rfl, rfl, ?_⟩
    refine s1 ?_
    refine tN ?_
    refine dO 10 true ?_
    refine s1 ?_
    refine tN ?_
    refine dO 17 false ?_
    first | refine s1 ?_ | (refine F.dr 0 ((hR _ _ ⟨hkb.1, hkb.2.1⟩ hkb.2.2)) (by assumption) ?_; intro M i6 h6 hM hi6; refine F.xk ?_)
    refine tN ?_
    refine dP 18 ?_
    refine dO 19 false ?_
    first | refine s1 ?_ | (refine F.stGE (α := Mat) (oo := true) (v := M) rfl rfl rfl rfl rfl (by omega) (by omega) (.at1 rfl (.at1 rfl (.mv rfl (by simp) (E_length _ _) (E_pure _ _) .nil))) rfl rfl rfl rfl rfl ?_)
    refine tN ?_
    refine dN ?_
    rotate_left
    refine ⟨_, true, rfl, rfl, ?_⟩
    refine s1 ?_
    refine tN ?_
    refine ARA.any [1, 17] (by kernel_rfl) (by simp) ?_
    intro k hk
    simp only [List.mem_cons, List.not_mem_nil, or_false] at hk
    rcases hk with rfl | rfl
    refine ⟨_, true, rfl, rfl, ?_⟩
    refine s1 ?_
    refine tN ?_
    refine dO 17 false ?_
    first | refine s1 ?_ | (refine F.dr 0 ((hR _ _ ⟨hkb.1, hkb.2.1⟩ hkb.2.2)) (by assumption) ?_; intro M i6 h6 hM hi6; refine F.xk ?_)
    refine tN ?_
    refine dP 18 ?_
    refine dO 19 false ?_
    first | refine s1 ?_ | (refine F.stGE (α := Mat) (oo := true) (v := M) rfl rfl rfl rfl rfl (by omega) (by omega) (.at1 rfl (.at1 rfl (.mv rfl (by simp) (E_length _ _) (E_pure _ _) .nil))) rfl rfl rfl rfl rfl ?_)
    refine tN ?_
    refine dN ?_
    rotate_left
    refine ⟨_, false, rfl, rfl, ?_⟩
    first | refine s1 ?_ | (refine F.dr 0 ((hR _ _ ⟨hkb.1, hkb.2.1⟩ hkb.2.2)) (by assumption) ?_; intro M i6 h6 hM hi6; refine F.xk ?_)
    refine tN ?_
    refine dO 1 true ?_
    refine s1 ?_
    refine tN ?_
    refine dP 18 ?_
    refine dO 19 false ?_
    first | refine s1 ?_ | (refine F.stGE (α := Mat) (oo := true) (v := M) rfl rfl rfl rfl rfl (by omega) (by omega) (.at1 rfl (.at1 rfl (.mv rfl (by simp) (E_length _ _) (E_pure _ _) .nil))) rfl rfl rfl rfl rfl ?_)
    refine tN ?_
    refine dN ?_
    rotate_left
    refine ⟨_, true, rfl, rfl, ?_⟩
    refine s1 ?_
    refine tN ?_
    refine ARA.any [1, 6] (by kernel_rfl) (by simp) ?_
    intro k hk
    simp only [List.mem_cons, List.not_mem_nil, or_false] at hk
    rcases hk with rfl | rfl
    refine ⟨_, true, rfl, rfl, ?_⟩
    refine s1 ?_
    refine tN ?_
    refine dO 6 true ?_
    refine s1 ?_
    refine tN ?_
    refine dP 8 ?_
    refine dP 9 ?_
    refine dO 10 true ?_
    refine s1 ?_
    refine tN ?_
    refine dO 17 false ?_
    first | refine s1 ?_ | (refine F.dr 0 ((hR _ _ ⟨hkb.1, hkb.2.1⟩ hkb.2.2)) (by assumption) ?_; intro M i6 h6 hM hi6; refine F.xk ?_)
    refine tN ?_
    refine dP 18 ?_
    refine dO 19 false ?_
    first | refine s1 ?_ | (refine F.stGE (α := Mat) (oo := true) (v := M) rfl rfl rfl rfl rfl (by omega) (by omega) (.at1 rfl (.at1 rfl (.mv rfl (by simp) (E_length _ _) (E_pure _ _) .nil))) rfl rfl rfl rfl rfl ?_)
    refine tN ?_
    refine dN ?_
    rotate_left
    refine ⟨_, true, rfl, rfl, ?_⟩
    refine s1 ?_
    refine tN ?_
    refine dP 8 ?_
    refine dP 9 ?_
    refine ARA.any [1, 10] (by kernel_rfl) (by simp) ?_
    intro k hk
    simp only [List.mem_cons, List.not_mem_nil, or_false] at hk
    rcases hk with rfl | rfl
    refine ⟨_, true, rfl, rfl, ?_⟩
    refine s1 ?_
    refine tN ?_
    refine dO 10 true ?_
    refine s1 ?_
    refine tN ?_
    refine dO 17 false ?_
    first | refine s1 ?_ | (refine F.dr 0 ((hR _ _ ⟨hkb.1, hkb.2.1⟩ hkb.2.2)) (by assumption) ?_; intro M i6 h6 hM hi6; refine F.xk ?_)
    refine tN ?_
    refine dP 18 ?_
    refine dO 19 false ?_
    first | refine s1 ?_ | (refine F.stGE (α := Mat) (oo := true) (v := M) rfl rfl rfl rfl rfl (by omega) (by omega) (.at1 rfl (.at1 rfl (.mv rfl (by simp) (E_length _ _) (E_pure _ _) .nil))) rfl rfl rfl rfl rfl ?_)
    refine tN ?_
    refine dN ?_
    rotate_left
    refine ⟨_, true, rfl, rfl, ?_⟩
    refine s1 ?_
    refine tN ?_
    refine ARA.any [1, 17] (by kernel_rfl) (by simp) ?_
    intro k hk
    simp only [List.mem_cons, List.not_mem_nil, or_false] at hk
    rcases hk with rfl | rfl
    refine ⟨_, true, rfl, rfl, ?_⟩
    refine s1 ?_
    refine tN ?_
    refine dO 17 false ?_
    first | refine s1 ?_ | (refine F.dr 0 ((hR _ _ ⟨hkb.1, hkb.2.1⟩ hkb.2.2)) (by assumption) ?_; intro M i6 h6 hM hi6; refine F.xk ?_)
    refine tN ?_
    refine dP 18 ?_
    refine dO 19 false ?_
    first | refine s1 ?_ | (refine F.stGE (α := Mat) (oo := true) (v := M) rfl rfl rfl rfl rfl (by omega) (by omega) (.at1 rfl (.at1 rfl (.mv rfl (by simp) (E_length _ _) (E_pure _ _) .nil))) rfl rfl rfl rfl rfl ?_)
    refine tN ?_
    refine dN ?_
    rotate_left
    refine ⟨_, false, rfl, rfl, ?_⟩
    first | refine s1 ?_ | (refine F.dr 0 ((hR _ _ ⟨hkb.1, hkb.2.1⟩ hkb.2.2)) (by assumption) ?_; intro M i6 h6 hM hi6; refine F.xk ?_)
    refine tN ?_
    refine dO 1 true ?_
    refine s1 ?_
    refine tN ?_
    refine dP 18 ?_
    refine dO 19 false ?_
    first | refine s1 ?_ | (refine F.stGE (α := Mat) (oo := true) (v := M) rfl rfl rfl rfl rfl (by omega) (by omega) (.at1 rfl (.at1 rfl (.mv rfl (by simp) (E_length _ _) (E_pure _ _) .nil))) rfl rfl rfl rfl rfl ?_)
    refine tN ?_
    refine dN ?_
    rotate_left
    all_goals
     rw [Nat.zero_add k] at hM ⊢
     repeat' first | refine s1 ?_ | fail
     exact ⟨(k + 1, ms.set k M, i6, h6), F.fit ⟨rfl, trivial⟩ ⟨rfl, obE rfl, trivial⟩, ⟨by show k + 1 ≤ (zeroMs q d).length; omega, by simp; omega, k3.set hM.1 hM.2.1, hi6⟩, by show (zeroMs q d).length - (k + 1) < (zeroMs q d).length - k; omega⟩
   ·obtain rfl : k = (zeroMs q d).length := by omega
    repeat' first | refine s1 ?_ | fail
    exact F.rd ⟨p, q, d, ms⟩ ⟨rfl, rfl, hd.1⟩ hi3 (F.retM rfl ⟨rfl, trivial⟩)
theorem l8Any_x (b : List UInt8) (hl : b.length ≤ 1048576) : AD Tryz.prog 52 [] b (fun r : Rep => True) (fun r => [repA r]) := by
 refine AD.go Tryz.func52 Tryz.ntmps52 rfl rfl fun i h hi w0 mp hw => ?_; simp [WfL, WfA, E_length, Enc.enc, In64] at hw
 have hB := fun n => l1Below_x b hl n
 have hP := l2Prime_x b hl
 have hA := l6Any_x b hl
 have hM := fun p => l3Any_x b hl p
 have hO := fun p q => l8Of_x b hl p q 2 (by omega)
 have hI := l1PickInt_x b hl [-1, 5, 0] (by decide) (by decide)
 repeat' first | (refine AW.putV 4 1 rfl rfl rfl rfl (E_length _ _) (E_pure _ _) rfl ?_; refine AW.putV 4 2 rfl rfl rfl rfl (E_length _ _) (E_pure _ _) rfl ?_; refine AW.freezeP (α := Quiv) (oo := true) q 4 rfl rfl ?_) | refine s1 ?_ | (refine kR ?_; first | (refine F.dr 0 (hP) (by assumption) ?_; intro p i1 h1 hp hi1; refine F.xk ?_) | (refine F.dr 0 (hA) (by assumption) ?_; intro q i2 h2 hq hi2; refine F.xk ?_) | (refine F.dr 0 ((hO _ _)) (by assumption) ?_; intro r i3 h3 hr hi3; refine F.xk ?_) | (refine F.dr 0 ((hB _)) (by assumption) ?_; intro y i4 h4 hy hi4; replace hy := hy.1 (by omega); refine F.xk ?_)) | fail
 obtain ⟨hr1, hr2, hr3, hr4⟩ := hr
 by_cases h0 : y = 0
 ·repeat' first | refine s1 ?_ | (refine kR ?_; first | refine F.a1 Int (a := 1) ?_) | fail
  exact F.rd ⟨r.p, r.q, r.d ++ [1], r.m⟩ trivial hi4 (F.retM rfl ⟨rfl, trivial⟩)
 ·by_cases h1 : y = 1
  ·by_cases hm : 0 < r.m.length
   ·repeat' first | refine s1 ?_ | fail
    refine AW.draw 1 G.mixed (by kernel_rfl) ?_
    refine dP 0 ?_
    refine dP 2 ?_
    refine dP 3 ?_
    refine ARA.any [1, 4] (by kernel_rfl) (by simp) ?_
    intro k hk
    simp only [List.mem_cons, List.not_mem_nil, or_false] at hk
    rcases hk with rfl | rfl
    refine ⟨_, true, rfl, rfl, ?_⟩
    refine s1 ?_
    refine tN ?_
    refine dO 4 false ?_
    first | refine s1 ?_ | (refine F.dr 0 ((hM _)) (by assumption) ?_; intro M i6 h6 hM' hi6; refine F.xk ?_)
    refine tN ?_
    refine dP 5 ?_
    refine dO 6 false ?_
    first | refine s1 ?_ | (refine F.stGE (α := Mat) (oo := true) (v := M) rfl rfl rfl rfl rfl (by omega) (by omega) (.at1 rfl (.at1 rfl (.mv rfl (by simp) (E_length _ _) (E_pure _ _) .nil))) rfl rfl rfl rfl rfl ?_)
    refine tN ?_
    refine dN ?_
    rotate_left
    refine ⟨_, false, rfl, rfl, ?_⟩
    first | refine s1 ?_ | (refine F.dr 0 ((hM _)) (by assumption) ?_; intro M i6 h6 hM' hi6; refine F.xk ?_)
    refine tN ?_
    refine dO 1 true ?_
    refine s1 ?_
    refine tN ?_
    refine dP 5 ?_
    refine dO 6 false ?_
    first | refine s1 ?_ | (refine F.stGE (α := Mat) (oo := true) (v := M) rfl rfl rfl rfl rfl (by omega) (by omega) (.at1 rfl (.at1 rfl (.mv rfl (by simp) (E_length _ _) (E_pure _ _) .nil))) rfl rfl rfl rfl rfl ?_)
    refine tN ?_
    refine dN ?_
    rotate_left
    all_goals
     repeat' first | refine s1 ?_ | fail
     exact F.rd ⟨r.p, r.q, r.d, r.m.set (0 + 0) M⟩ trivial hi6 (F.retM rfl ⟨rfl, trivial⟩)
   ·repeat' first | refine s1 ?_ | fail
    exact F.rd r trivial hi4 (F.retM rfl ⟨rfl, trivial⟩)
  ·by_cases h2' : y = 2
   ·by_cases hd : 0 < r.d.length
    ·repeat' first | refine s1 ?_ | fail
     refine AW.draw 1 G.mixed (by kernel_rfl) ?_
     refine dP 0 ?_
     refine dP 2 ?_
     refine ARA.any [1, 3] (by kernel_rfl) (by simp) ?_
     intro k hk
     simp only [List.mem_cons, List.not_mem_nil, or_false] at hk
     rcases hk with rfl | rfl
     refine ⟨_, true, rfl, rfl, ?_⟩
     refine s1 ?_
     refine tN ?_
     refine dO 3 true ?_
     first | refine s1 ?_ | refine F.litN (xs := V.E true ([-1, 5, 0] : List Int)) rfl rfl rfl rfl rfl rfl rfl rfl ?_
     refine tN ?_
     refine dzA (α := Int) (oo := true) (ls := [-1, 5, 0]) 44 rfl rfl rfl ?_
     refine dO 4 false ?_
     first | refine s1 ?_ | (refine F.dr 0 (hI) (by assumption) ?_; intro v i6 h6 hv hi6; refine F.xk ?_)
     refine tN ?_
     refine dP 5 ?_
     refine dO 6 false ?_
     refine s1 ?_
     refine tN ?_
     refine dN ?_
     rotate_left
     refine ⟨_, true, rfl, rfl, ?_⟩
     first | refine s1 ?_ | refine F.litN (xs := V.E true ([-1, 5, 0] : List Int)) rfl rfl rfl rfl rfl rfl rfl rfl ?_
     refine tN ?_
     refine dzA (α := Int) (oo := true) (ls := [-1, 5, 0]) 44 rfl rfl rfl ?_
     refine ARA.any [1, 4] (by kernel_rfl) (by simp) ?_
     intro k hk
     simp only [List.mem_cons, List.not_mem_nil, or_false] at hk
     rcases hk with rfl | rfl
     refine ⟨_, true, rfl, rfl, ?_⟩
     refine s1 ?_
     refine tN ?_
     refine dO 4 false ?_
     first | refine s1 ?_ | (refine F.dr 0 (hI) (by assumption) ?_; intro v i6 h6 hv hi6; refine F.xk ?_)
     refine tN ?_
     refine dP 5 ?_
     refine dO 6 false ?_
     refine s1 ?_
     refine tN ?_
     refine dN ?_
     rotate_left
     refine ⟨_, false, rfl, rfl, ?_⟩
     first | refine s1 ?_ | (refine F.dr 0 (hI) (by assumption) ?_; intro v i6 h6 hv hi6; refine F.xk ?_)
     refine tN ?_
     refine dO 1 true ?_
     refine s1 ?_
     refine tN ?_
     refine dP 5 ?_
     refine dO 6 false ?_
     refine s1 ?_
     refine tN ?_
     refine dN ?_
     rotate_left
     all_goals
      repeat' first | refine s1 ?_ | fail
      exact F.rd ⟨r.p, r.q, r.d.set (0 + 0) v, r.m⟩ trivial hi6 (F.retM rfl ⟨rfl, trivial⟩)
    ·repeat' first | refine s1 ?_ | fail
     exact F.rd r trivial hi4 (F.retM rfl ⟨rfl, trivial⟩)
   ·repeat' first | refine s1 ?_ | fail
    exact F.rd r trivial hi4 (F.retM rfl ⟨rfl, trivial⟩)
theorem l9Pair_x (b : List UInt8) (hl : b.length ≤ 1048576) : AD Tryz.prog 57 [] b (fun x : Rep × Rep => smallD x.1.d) (fun x => [repA x.1, repA x.2]) := by
 refine AD.go Tryz.func57 Tryz.ntmps57 rfl rfl fun i h hi w0 mp hw => ?_; simp [WfL, WfA, E_length, Enc.enc, In64] at hw
 have hP := l8Prime_x b hl
 have hA := l6Acyclic_x b hl
 have hN := l8Any_x b hl
 have hO := l1Once_x b hl 14
 have h2 := fun p q => l8Of_x b hl p q 2 (by omega)
 have h1 := fun p q => l8Of_x b hl p q 1 (by omega)
 repeat' first | (refine AW.putV 5 1 rfl rfl rfl rfl (E_length _ _) (E_pure _ _) rfl ?_; refine AW.putV 5 2 rfl rfl rfl rfl (E_length _ _) (E_pure _ _) rfl ?_; refine AW.freezeP (α := Quiv) (oo := true) q 5 rfl rfl ?_) | refine s1 ?_ | (refine kR ?_; first | (refine F.dr 0 (hP) (by assumption) ?_; intro p i1 k1 hp hi1; refine F.xk ?_) | (refine F.dr 0 (hA) (by assumption) ?_; intro q i2 k2 hq hi2; refine F.xk ?_) | (refine F.dr 0 ((h2 _ _)) (by assumption) ?_; intro r i3 k3 hr hi3; refine F.xk ?_) | (refine F.dr 0 (hO) (by assumption) ?_; intro c i4 k4 hc4 hi4; refine F.xk ?_)) | fail
 cases c with
 | true =>
  repeat' first | refine s1 ?_ | fail
  refine AW.draw 0 G.mixed (by kernel_rfl) ?_
  refine dP 1 ?_
  refine ARA.any [0, 2] (by kernel_rfl) (by simp) ?_
  intro k hk
  simp only [List.mem_cons, List.not_mem_nil, or_false] at hk
  rcases hk with rfl | rfl
  refine ⟨_, true, rfl, rfl, ?_⟩
  refine s1 ?_
  refine tN ?_
  refine dO 2 false ?_
  first | refine s1 ?_ | (refine F.dr 0 (hN) (by assumption) ?_; intro r2 i5 k5 hr5 hi5; refine F.xk ?_)
  refine tN ?_
  refine dO 3 false ?_
  refine s1 ?_
  refine tN ?_
  refine dO 4 false ?_
  refine s1 ?_
  refine tN ?_
  refine dN ?_
  rotate_left
  refine ⟨_, false, rfl, rfl, ?_⟩
  first | refine s1 ?_ | (refine F.dr 0 (hN) (by assumption) ?_; intro r2 i5 k5 hr5 hi5; refine F.xk ?_)
  refine tN ?_
  refine dO 0 true ?_
  refine s1 ?_
  refine tN ?_
  refine dO 3 false ?_
  refine s1 ?_
  refine tN ?_
  refine dO 4 false ?_
  refine s1 ?_
  refine tN ?_
  refine dN ?_
  rotate_left
  all_goals
   repeat' first | refine s1 ?_ | fail
   exact F.rd (r, r2) hr.2.2 hi5 (F.retM rfl ⟨rfl, trivial⟩)
 | false =>
  repeat' first | refine s1 ?_ | fail
  refine AW.draw 0 G.mixed (by kernel_rfl) ?_
  refine dP 1 ?_
  refine dP 2 ?_
  refine ARA.any [0, 3] (by kernel_rfl) (by simp) ?_
  intro k hk
  simp only [List.mem_cons, List.not_mem_nil, or_false] at hk
  rcases hk with rfl | rfl
  refine ⟨_, true, rfl, rfl, ?_⟩
  refine s1 ?_
  refine tN ?_
  refine dO 3 true ?_
  refine s1 ?_
  refine tN ?_
  refine dO 4 false ?_
  first | refine s1 ?_ | (refine F.dr 0 ((h1 _ _)) (by assumption) ?_; intro r2 i5 k5 hr5 hi5; refine F.xk ?_)
  refine tN ?_
  refine dO 5 false ?_
  refine s1 ?_
  refine tN ?_
  refine dO 6 false ?_
  refine s1 ?_
  refine tN ?_
  refine dN ?_
  rotate_left
  refine ⟨_, true, rfl, rfl, ?_⟩
  refine s1 ?_
  refine tN ?_
  refine ARA.any [0, 4] (by kernel_rfl) (by simp) ?_
  intro k hk
  simp only [List.mem_cons, List.not_mem_nil, or_false] at hk
  rcases hk with rfl | rfl
  refine ⟨_, true, rfl, rfl, ?_⟩
  refine s1 ?_
  refine tN ?_
  refine dO 4 false ?_
  first | refine s1 ?_ | (refine F.dr 0 ((h1 _ _)) (by assumption) ?_; intro r2 i5 k5 hr5 hi5; refine F.xk ?_)
  refine tN ?_
  refine dO 5 false ?_
  refine s1 ?_
  refine tN ?_
  refine dO 6 false ?_
  refine s1 ?_
  refine tN ?_
  refine dN ?_
  rotate_left
  refine ⟨_, false, rfl, rfl, ?_⟩
  first | refine s1 ?_ | (refine F.dr 0 ((h1 _ _)) (by assumption) ?_; intro r2 i5 k5 hr5 hi5; refine F.xk ?_)
  refine tN ?_
  refine dO 0 true ?_
  refine s1 ?_
  refine tN ?_
  refine dO 5 false ?_
  refine s1 ?_
  refine tN ?_
  refine dO 6 false ?_
  refine s1 ?_
  refine tN ?_
  refine dN ?_
  rotate_left
  all_goals
   repeat' first | refine s1 ?_ | fail
   exact F.rd (r, r2) hr.2.2 hi5 (F.retM rfl ⟨rfl, trivial⟩)
end Go.Proofs.YtoilkinagffhiaaGreat.V
