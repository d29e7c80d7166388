/- Slices cut short, and appended zeros (slices.Grow, slices.DeleteFunc). Over any program; nothing is claimed of the given one. -/
import Derived.Test.YtcalkmlaodjpaaaHk
import Derived.Lib.AppendZeros
namespace Go.Proofs.Ytcalkmlaodjpaaa.V
open Go.RowKit G
set_option linter.unusedVariables false
set_option linter.unusedSimpArgs false
section
variable {P : Program} {n : Nat} {w0 : World} {MP : Fr} {Q : Exit → St → Prop} {st : St} {lb : Bool} {ops : Array Oper} {os : List Oper} {d : Option Tmp} {ty : TypeId} {pos : String} {af : Array Edge} {g : Option (Nat × Bool)} {x y : Operand}
/-- the object of the first k elements -/
theorem Sm.cut {C : Nat → Option Conc} {Im : Nat → Prop} {E : Env} {w : World} (hm : Sm w0 MP st C Im E w) {o sz k : Nat} {l : Bool} {xs : List (List AV)} {cc : Conc} (hh : st.hp o = .live l sz xs) (hcc : C o = some cc) (hk : k ≤ xs.length) {v : Value}
    (hv : ∃ p c, cc.hv = .slice p xs.length c ∧ v = .slice p k c) :
    ∃ C', Sm w0 MP ⟨st.E, updA (updA st.hp o .dead) st.nx (.live l sz (xs.take k)), st.nx + 1⟩ C' Im E w ∧ RV (st.nx + 1) C' Im w (.sl st.nx k 0 k) v := by
  obtain ⟨cc1, hcc1, hO⟩ := hm.obj o l sz xs hh
  rw [hcc] at hcc1
  cases hcc1
  obtain ⟨p, c, h1, rfl⟩ := hv
  have hlen := hO.len
  have hxt : (xs.take k).length = k := by rw [List.length_take]; omega
  have hlay := hO.lay
  rw [← List.take_append_drop k xs, List.flatten_append] at hlay
  obtain ⟨v1, v2, F1, F2, e1, e2, L1, L2⟩ := hlay.split
  have hv1 : v1.length = k * cc.sz := by
    rw [L1.length]
    exact flatten_take hO.lens hk
  have hown : ∀ b, own (.slice p k c) = some b → own cc.hv = some b := fun b hb => by
    rw [h1]
    cases p <;> cases c <;> simp_all [own]
  have hsub : ∀ b, b ∈ ownL (.slice p k c) ++ F1 → b ∈ blks cc := fun b hb => by
    rcases List.mem_append.1 hb with hb | hb
    · exact List.mem_append.2 (.inl (mem_ownL.2 (hown b (mem_ownL.1 hb))))
    · exact List.mem_append.2 (.inr (by rw [e2]; exact List.mem_append.2 (.inl hb)))
  have hownE : ownL (.slice p k c) = ownL cc.hv := by
    unfold ownL; rw [h1]; cases p <;> cases c <;> rfl
  let cc2 : Conc := ⟨.slice p k c, k, cc.sz, v1, F1⟩
  have hle : CLe st.nx C (updA C o Option.none) := fun o1 ho1 c1 hc => by
    by_cases e : o1 = o
    · subst e; rw [updA_same] at hc; cases hc
    · rw [updA_ne _ _ e] at hc; exact ⟨c1, hc, .inl ⟨rfl, rfl, rfl⟩⟩
  have hB : Buf' w cc.sz (.slice p k c) k v1 := by
    obtain ⟨e0, hB1, hB2⟩ := hO.buf
    refine ⟨e0, hv1, ?_⟩
    rcases hB2 with ⟨h0, q, hq⟩ | ⟨b, c', cur, hq, q2, q3, q4, q5, q6⟩
    · rw [h1] at hq
      injection hq with hq1 hq2 hq3
      have : k = 0 := by omega
      subst this
      subst hq3
      exact .inl ⟨rfl, _, rfl⟩
    · rw [h1] at hq
      injection hq with hq1 hq2 hq3
      subst hq1
      subst hq3
      refine .inr ⟨b, c', cur, rfl, q2, by omega, q4, q5, ?_⟩
      have : v1 = cc.us.take (k * cc.sz) := by rw [e1, ← hv1, List.take_left]
      rw [this, ← q6, List.take_take]
      congr 1
      have := Nat.mul_le_mul_right cc.sz hk
      rw [← hlen] at this
      omega
  have hO2 : OR w0 MP st.nx (updA C o Option.none) Im w l sz (xs.take k) cc2 := by
    refine ⟨hO.esz, hxt.symm, hB, L1.mono (fun _ h => h) (fun _ _ => rfl) (Nat.le_refl _) hle (fun _ _ => rfl), fun x hx => hO.lens x (List.mem_of_mem_take hx), ?_, fun b hb => hO.ge b (hsub b hb), fun b hb => hO.nim b (hown b hb), fun b hb => hO.lent b (by rw [e2]; exact List.mem_append.2 (.inl hb))⟩
    have := hO.nd
    unfold blks at this ⊢
    rw [e2, ← List.append_assoc] at this
    have h3 := (List.nodup_append.1 this).1
    show (ownL (.slice p k c) ++ F1).Nodup
    rw [hownE]; exact h3
  have hS := (hm.kill o).new hO2 (fun o1 c1 hc1 b hb hb1 => by
    by_cases e : o1 = o
    · subst e; rw [updA_same] at hc1; cases hc1
    · rw [updA_ne _ _ e] at hc1
      exact hm.dis o o1 cc c1 (Ne.symm e) hcc hc1 b (hsub b hb) hb1)
  refine ⟨_, hS, ?_⟩
  obtain ⟨c2, q1, q2⟩ := hS.obj st.nx l sz (xs.take k) (updA_same ..)
  have := RV.slNew q2 q1 (Nat.lt_succ_self _)
  rw [updA_same] at q1
  cases q1
  rw [hxt] at this
  exact this
theorem A.capN {t e : TypeId} [hu : HasU P t (.slice e)] (hx : evA st x = .nl) : ASil true P w0 MP st ⟨d, .call ⟨.builtin .cap, #[x], #[t]⟩, ty, pos, af, g⟩ (.i 0) := fun C Im E w hm => by
  have h := hm.ev x
  rw [hx] at h
  exact ⟨_, fun w' => Sil.cap (show G.ev E x = .slice none 0 0 from h), rfl, by decide, by decide⟩
/-- x[:k], where x is not used any more -/
theorem F.slcut {E : Nat → AV} {hp : Nat → Ob} {nx : Nat} {t e sz bys o m k : Nat} {zz : Value} {l : Bool} {xs ys : List (List AV)} {oh : Option Operand} [hu : HasU P t (.slice e)] [hi : HasI P e sz bys zz] (hx : evA ⟨E, hp, nx⟩ x = .sl o m 0 m) (hh : hp o = .live l sz xs) (hn : xs.length = m) (hr : bndA ⟨E, hp, nx⟩ oh m k) (hk : k ≤ m) (hy : xs.take k = ys)
    (hw : awant n ops ⟨d, .slice t x none oh none, ty, pos, af, g⟩ E true = true) (hd : fits n d = true)
    (h : ARg P n w0 MP lb ops os Q ⟨putE E d (.sl nx k 0 k), updA (updA hp o .dead) nx (.live l sz ys), nx + 1⟩) : ARg P n w0 MP lb ops (⟨d, .slice t x none oh none, ty, pos, af, g⟩ :: os) Q ⟨E, hp, nx⟩ :=
  ARg.val (st' := putA ⟨E, updA (updA hp o .dead) nx (.live l sz ys), nx + 1⟩ d (.sl nx k 0 k)) hw hd (fun C Im E' w hm => by
    subst hy
    have hv := hm.ev x
    rw [hx] at hv
    obtain ⟨p, c, g1, g2, g3, g4, g5⟩ := hv
    obtain ⟨cc, hcc, hO⟩ := hm.obj o l sz xs hh
    obtain ⟨s1, s2, s3⟩ := (g5 cc hcc).2 (by rw [hO.len, hn])
    have hval : G.ev E' x = cc.hv := s2 rfl (by rw [hO.len, hn])
    refine ⟨_, w, run_slc g1 (lo := 0) (rfl : bndV E' none 0 0) (hm.bnd hr) (Nat.zero_le _) (by omega), fun _ => Later.refl _, ?_⟩
    have hval2 : (Value.slice (if c = 0 then p else p.map (·.add (0 * sz))) (k - 0) (c - 0)) = .slice p k c := by
      cases c with
      | zero => rfl
      | succ c =>
        cases p with
        | none => rfl
        | some a => obtain ⟨b, of, sp⟩ := a; cases sp <;> simp [Addr.add]
    rw [hval2]
    obtain ⟨C', q1, q2⟩ := hm.cut hh hcc (k := k) (v := .slice p k c) (by omega) ⟨p, c, by rw [← hval, g1, hn], rfl⟩
    exact putS q1 d q2) (by rw [putA_eq]; exact h)
theorem mkB {e sz0 bys0 m b : Nat} {z0 : Value} [h0 : HasI P e sz0 bys0 z0] (h : bys0 * m ≤ b) : ∀ sz bys zz, HasI P e sz bys zz → bys * m ≤ b := fun sz bys zz h1 => by
  obtain ⟨i, i1, _, _, i4⟩ := h0.ex
  obtain ⟨j, j1, _, _, j4⟩ := h1.ex
  rw [i1] at j1
  cases j1
  rw [← j4, i4]; exact h
theorem zeroCells_one (z : Value) (n : Nat) : Builtin.zeroCells #[z] n = (List.replicate n z).toArray := by
  apply Array.ext'
  simp only [Builtin.zeroCells, Array.toList_map, Array.toList_range]
  apply List.ext_getElem
  · simp
  · intro i h1 h2
    simp [Nat.mod_one]
/-- append(nil, make([]int, m)...) -/
theorem F.appZ {E : Nat → AV} {hp : Nat → Ob} {nx : Nat} {t tn e m : Nat} {kn : IntKind} {l : Int} (α : Type) [Enc α] {z : α} (h1c : Enc.nc α = 1) [hu : HasU P t (.slice e)] [hun : HasU P tn (.int kn)] [hz : ZeroE P e α z] (hx : evA ⟨E, hp, nx⟩ x = .nl) (hy : evA ⟨E, hp, nx⟩ y = .i l) (hl : l = (m : Int)) (h0 : 0 < m) (hb : ∀ sz bys zz, HasI P e sz bys zz → bys * m ≤ 281474976710656) (hmx : m ≤ 9223372036854775807)
    (hw : awant n ops ⟨d, .call ⟨.builtin .append, #[x, y], #[t, tn]⟩, ty, pos, af, g⟩ E true = true) (hd : fits n d = true)
    (h : ARg P n w0 MP lb ops os Q ⟨putE E d (.sl nx m 0 m), updA hp nx (.live false (Enc.nc α) (V.E true (List.replicate m z))), nx + 1⟩) : ARg P n w0 MP lb ops (⟨d, .call ⟨.builtin .append, #[x, y], #[t, tn]⟩, ty, pos, af, g⟩ :: os) Q ⟨E, hp, nx⟩ :=
  ARg.val (st' := putA (newS ⟨E, hp, nx⟩ (Enc.nc α) (V.E true (List.replicate m z))) d (.sl nx m 0 m)) hw hd (fun C Im E' w hm => by
    subst hl
    obtain ⟨bys, zz, us, hi, h1, h2, h3, h4⟩ := hz.h
    have hbb := hb _ _ _ hi
    obtain ⟨i, i1, i2, i3, i4⟩ := hi.ex
    have hvx : G.ev E' x = .slice none 0 0 := by have := hm.ev x; rw [hx] at this; exact this
    have hvy := (hm.evI hy).1
    have hus : 0 < us.length := List.length_pos_iff.2 h2
    have hr := Lib.run_append_nil_zeros (P := P) w t tn ty e i zz .i64 kn hu.u hun.u i1 i2 m h0 (by rw [i3]; omega) (by omega) (by rw [i4, Nat.mul_comm]; exact hbb)
    rw [← hvx, ← hvy] at hr
    refine ⟨.slice (some ⟨w.heap.size, 0, none⟩) m (grownCap w m 0 e), w.drew.alloc (.cells (Builtin.zeroCells zz.cells m ++ Builtin.zeroCells zz.cells (grownCap w m 0 e - m)) e), (by simp [execOp, resolve, invoke, builtin, hr]), fun _ => (Later.refl w).drew.trans (Later.alloc _ _), ?_⟩
    obtain ⟨u, rfl⟩ : ∃ u, us = [u] := by
      match us, h3.trans h1c with
      | [u], _ => exact ⟨u, rfl⟩
    have hge := grownCap_ge w m 0 e
    have hcm : grownCap w m 0 e ≤ maxLen := grownCap_le_maxLen w m 0 e (by simp only [maxLen]; omega)
    obtain ⟨gc, hgc⟩ : ∃ gc, grownCap w m 0 e = gc + 1 := ⟨grownCap w m 0 e - 1, by omega⟩
    rw [hgc] at hge hcm ⊢
    rw [h1, show ([u].toArray) = #[u] from rfl, zeroCells_one, zeroCells_one, show (List.replicate m u).toArray ++ (List.replicate (gc + 1 - m) u).toArray = (List.replicate m u ++ List.replicate (gc + 1 - m) u).toArray by simp]
    have hll : Later w (w.drew.alloc (.cells (List.replicate m u ++ List.replicate (gc + 1 - m) u).toArray e)) := (Later.refl w).drew.trans (Later.alloc _ _)
    have hlen : (V.E true (List.replicate m z)).length = m := by simp [E_length]
    have hfl : (List.replicate m [u]).flatten = List.replicate m u := by simp [List.flatten_replicate_singleton]
    have hlay := (h4 Im (w.drew.alloc (.cells (List.replicate m u ++ List.replicate (gc + 1 - m) u).toArray e))).rep m
    rw [hfl] at hlay
    let cc : Conc := ⟨.slice (some ⟨w.heap.size, 0, none⟩) m (gc + 1), m, 1, List.replicate m u, []⟩
    have hS := hm.fresh hll (cc := cc) (sz := Enc.nc α) (xs := V.E true (List.replicate m z)) h1c.symm hlen.symm ⟨e, by simp [cc], .inr ⟨w.heap.size, gc, _, rfl, Blk.new w.drew _ e, hge, hcm, by show _ = (gc + 1) * 1; simp; omega, by simp [cc]⟩⟩ (LayC.own hlay) (fun x hx => by rw [E_len true _ x hx, h1c])
      (by simp [blks, ownL, own, cc]) (fun k hk => by simp [blks, ownL, own, cc] at hk; omega)
    obtain ⟨c2, q1, q2⟩ := hS.obj nx false (Enc.nc α) _ (updA_same ..)
    have hrv := RV.slNew q2 q1 (Nat.lt_succ_self _)
    rw [updA_same] at q1
    cases q1
    rw [hlen] at hrv
    exact putS hS d hrv) (by rw [putA_eq]; exact h)
end
theorem iE {a b : Int} (h : a = b) : AV.i a = AV.i b := by rw [h]
theorem slE {o a b : Nat} (h : a = b) : AV.sl o a 0 a = AV.sl o b 0 b := by rw [h]
theorem obE {l : Bool} {sz : Nat} {xs ys : List (List AV)} (h : xs = ys) : Ob.live l sz xs = Ob.live l sz ys := by rw [h]
end Go.Proofs.Ytcalkmlaodjpaaa.V
