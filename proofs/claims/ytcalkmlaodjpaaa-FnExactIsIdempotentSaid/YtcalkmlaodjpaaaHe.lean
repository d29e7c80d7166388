/- Operations that make or write memory, by abstract states. Over any program; nothing is claimed of the given one. -/
import Derived.Test.YtcalkmlaodjpaaaHd
namespace Go.Proofs.Ytcalkmlaodjpaaa.V
open Go.RowKit G
set_option linter.unusedVariables false
set_option linter.unusedSimpArgs false

/-! ### append to a buffer in a block of any type -/
theorem run_append_room' {P : Program} {w : World} (t ty e e0 : TypeId) (i : TypeInfo) (ht : P.underlying t = some (.slice e)) (hi : P.info? e = some i)
    (g sLen sCap : Nat) (cur : Array Value) (hg : w.heap[g]? = some (.cells cur e0 (0, 0)))
    (a : Addr) (m c : Nat) (news : List Value) (hl : news.length = m * i.size) (hnews : ∀ j u, news[j]? = some u → w.cell? (a.add j) = some u) (h1 : ∀ u ∈ news, u.oneCell' = true)
    (hroom : sLen + m ≤ sCap) (hfit : sLen * i.size + news.length ≤ cur.size) :
    (Builtin.append_ #[t, t] ty #[.slice (some ⟨g, 0, none⟩) sLen sCap, .slice (some a) m c]).run P w =
      .ok (.slice (some ⟨g, 0, none⟩) (sLen + m) sCap) (w.setRow g (cur.toList.take (sLen * i.size) ++ news ++ cur.toList.drop (sLen * i.size + news.length)).toArray) := by
  have hf := run_firstCells_some (P := P) w i.size m a m c news hl hnews
  have hst := run_storeCells_at P g (sLen * i.size) e0 news 0 cur w hg (by simpa using hfit) h1
  simp only [Nat.add_zero] at hst
  simp [Builtin.append_, run_underlying ht, sizeOf, typeInfo, hi, Builtin.lenOf, hroom, hf, Addr.add_lit, hst]
theorem run_append_buf' {P : Program} {t e sz bys : Nat} {zz : Value} [hu : HasU P t (.slice e)] [hi : HasI P e sz bys zz] (hz : zz.cells.size = sz) (hs0 : 0 < sz) {ty : Nat} {w : World} {v x : Value} {m k : Nat} {cs news : List Value}
    (hb : Buf' w sz v m cs) (hx : Src w x k news) (hl : news.length = k * sz) (h1 : oneAll news) (h63 : m + k ≤ maxLen) (hby : (m + k) * bys ≤ 140737488355328) :
    ∃ v' w', (Builtin.append_ #[t, t] ty #[v, x]).run P w = .ok v' w' ∧ Buf' w' sz v' (m + k) (cs ++ news) ∧ Grew w w' v v' ∧ (k = 0 → v' = v ∧ w' = w) := by
  obtain ⟨e0, hb⟩ := hb
  obtain ⟨i, i1, i2, i3, i4⟩ := hi.ex
  subst i3
  subst i4
  obtain ⟨p, c, rfl, hx⟩ := hx
  have hsmall : m + k ≤ 9223372036854775807 := by simp only [maxLen] at h63; omega
  have hlen : (cs ++ news).length = (m + k) * i.size := by rw [List.length_append, hb.1, hl, Nat.add_mul]
  -- the same slice, nothing appended
  by_cases hk : k = 0
  · subst hk
    have hn : news = [] := List.eq_nil_of_length_eq_zero (by simpa using hl)
    subst hn
    simp only [Nat.add_zero, List.append_nil]
    refine ⟨v, w, ?_, ⟨e0, hb⟩, ⟨fun _ _ _ => rfl, Nat.le_refl _, rfl, rfl, rfl, .inl rfl⟩, fun _ => ⟨rfl, rfl⟩⟩
    rcases hb.2 with ⟨rfl, q, rfl⟩ | ⟨b, c', cur, rfl, h2, h3, h4, h5, h6⟩
    · cases p <;> cases q <;> simp [Builtin.append_, run_underlying hu.u, sizeOf, typeInfo, i1, Builtin.lenOf, Builtin.firstCells, loadCells, loadCellsFrom, storeCells]
    · cases p <;> simp [Builtin.append_, run_underlying hu.u, sizeOf, typeInfo, i1, Builtin.lenOf, h3, Builtin.firstCells, loadCells, loadCellsFrom, storeCells]
  obtain ⟨ab, ao, rfl, hcells⟩ : ∃ b o, p = some ⟨b, o, none⟩ ∧ Cells w b o news := by
    rcases hx with rfl | h
    · have h0 : 0 < k * i.size := Nat.mul_pos (by omega) hs0
      rw [← hl] at h0; exact absurd h0 (by simp)
    · exact h
  have hnews : ∀ j u, news[j]? = some u → w.cell? ((⟨ab, ao, none⟩ : Addr).add j) = some u := fun j u hj => by rw [add_none]; exact hcells j u hj
  have grown : ∀ (old : Nat) (v : Value), old < m + k →
      Buf' (w.drew.alloc (.cells (cs.toArray ++ news.toArray ++ Builtin.zeroCells zz.cells (grownCap w (m + k) old e - (m + k))) e)) i.size
        (.slice (some ⟨w.heap.size, 0, none⟩) (m + k) (grownCap w (m + k) old e)) (m + k) (cs ++ news) ∧
      Grew w (w.drew.alloc (.cells (cs.toArray ++ news.toArray ++ Builtin.zeroCells zz.cells (grownCap w (m + k) old e - (m + k))) e)) v (.slice (some ⟨w.heap.size, 0, none⟩) (m + k) (grownCap w (m + k) old e)) := by
    intro old v ho
    have hge := grownCap_ge w (m + k) old e
    have hcm : grownCap w (m + k) old e ≤ maxLen := grownCap_le_maxLen w (m + k) old e h63
    obtain ⟨gc, hgc⟩ : ∃ gc, grownCap w (m + k) old e = gc + 1 := ⟨grownCap w (m + k) old e - 1, by omega⟩
    rw [hgc] at hge hcm ⊢
    have hb' : (cs.toArray ++ news.toArray ++ Builtin.zeroCells zz.cells (gc + 1 - (m + k))) = (cs ++ news ++ (Builtin.zeroCells zz.cells (gc + 1 - (m + k))).toList).toArray := by
      apply Array.ext'; simp
    refine ⟨⟨e, hlen, .inr ⟨w.heap.size, gc, cs ++ news ++ (Builtin.zeroCells zz.cells (gc + 1 - (m + k))).toList, rfl, ?_, hge, hcm, ?_, ?_⟩⟩, ⟨fun j hj _ => Below.heap_alloc w.drew _ j hj, by simp, rfl, rfl, rfl, .inr ⟨w.heap.size, rfl, Nat.le_refl _⟩⟩⟩
    · rw [hb']; exact Blk.new w.drew _ e
    · simp only [List.length_append, Array.length_toList, size_zeroCells, hz, hb.1, hl, ← Nat.add_mul]
      congr 1
      omega
    · rw [← hlen]
      exact List.take_left
  rcases hb.2 with ⟨rfl, q, rfl⟩ | ⟨b, c', cur, rfl, h2, h3, h4, h5, h6⟩
  · have hcs : cs = [] := List.eq_nil_of_length_eq_zero (by simpa using hb.1)
    subst hcs
    have hgr := grown 0 (.slice q 0 0) (by omega)
    cases q with
    | none =>
      have hr := run_append_nil (P := P) w t ty e i zz hu.u i1 i2 ⟨ab, ao, none⟩ k c news hl hnews (by omega) (by omega) (by simp only [Nat.zero_add] at hby; omega)
      simp only [Nat.zero_add, List.nil_append, Array.empty_append] at hgr ⊢
      exact ⟨_, _, hr, hgr.1, hgr.2, fun h => absurd h hk⟩
    | some q =>
      have hr := run_append_grow (P := P) w t ty e i zz hu.u i1 i2 q 0 0 [] (by simp) (fun j u hj => by simp at hj) ⟨ab, ao, none⟩ k c news hl hnews (by omega) (by omega) (growslice_fits (by omega) hby)
      exact ⟨_, _, hr, hgr.1, hgr.2, fun h => absurd h hk⟩
  · by_cases hroom : m + k ≤ c' + 1
    · have hfit : m * i.size + news.length ≤ cur.toArray.size := by
        simp only [List.size_toArray]
        rw [hl, h5, ← Nat.add_mul]; exact Nat.mul_le_mul_right _ hroom
      have hr := run_append_room' (P := P) t ty e e0 i hu.u i1 b m (c' + 1) cur.toArray h2 ⟨ab, ao, none⟩ k c news hl hnews h1 hroom hfit
      have hset := setRow_heap w b cur.toArray (cur.toArray.toList.take (m * i.size) ++ news ++ cur.toArray.toList.drop (m * i.size + news.length)).toArray e0 _ h2
      refine ⟨_, _, hr, ⟨e0, hlen, .inr ⟨b, c', _, rfl, hset, hroom, h4, ?_, ?_⟩⟩, ⟨fun k _ hk => setRow_other w b k _ (fun e => hk (by simp [G.own, e])), by simp, rfl, rfl, rfl, .inl rfl⟩, fun h => absurd h hk⟩
      · simp only [List.length_append, List.length_take, List.length_drop]
        simp only [List.size_toArray] at hfit
        omega
      · simp only
        rw [h6, ← hlen]
        exact List.take_left
    · have holds : ∀ j u, cs[j]? = some u → w.cell? ((⟨b, 0, none⟩ : Addr).add j) = some u := fun j u hj => by
        rw [add_none]
        refine h2.cells j u ?_
        rw [← h6, List.getElem?_take] at hj
        split at hj
        · exact hj
        · cases hj
      have hr := run_append_grow (P := P) w t ty e i zz hu.u i1 i2 ⟨b, 0, none⟩ m (c' + 1) cs hb.1 holds ⟨ab, ao, none⟩ k c news hl hnews (by omega) (by omega) (growslice_fits (by omega) hby)
      have hgr := grown (c' + 1) (.slice (some ⟨b, 0, none⟩) m (c' + 1)) (by omega)
      exact ⟨_, _, hr, hgr.1, hgr.2, fun h => absurd h hk⟩

/-! ### objects are made, grow and are written: the state -/
/-- a cell that stands for itself -/
def cellB : AV → Bool
  | .i _ | .b _ | .dt false _ _ | .sl _ _ _ _ | .pt _ _ _ _ | .ip _ | .fn _ _ | .nl | .em => true
  | _ => false
section
variable {w0 w w' : World} {MP : Fr} {st : St} {C : Nat → Option Conc} {Im : Nat → Prop} {E : Env} {N : Nat}
theorem RV.one {a : AV} {v : Value} (h : RV N C Im w a v) (hc : cellB a = true) : v.oneCell' = true := by
  cases a with
  | i n => rw [h.1]; rfl
  | b x => have : v = .bool x := h; rw [this]; rfl
  | dt o sz xs => obtain ⟨rfl, h⟩ := h; obtain ⟨p, c, rfl, _⟩ := h.sl_inv; rfl
  | sl o n off m => obtain ⟨p, c, rfl, _⟩ := h; rfl
  | pt o n k j => obtain ⟨b, q, rfl, _⟩ := h; rfl
  | ip cs => obtain ⟨b, q, us, rfl, _⟩ := h; rfl
  | fn f cs => obtain ⟨us, rfl, _⟩ := h; rfl
  | nl => have : v = .slice none 0 0 := h; rw [this]; rfl
  | em => obtain ⟨p, rfl⟩ := h; rfl
  | _ => cases hc
theorem LayC.cells : ∀ {cs : List AV} {us : List Value}, RVL N C Im w cs us → cs.all cellB = true → LayC N C Im w cs us []
  | [], us, h, _ => by subst h; exact .nil
  | a :: cs, us, ⟨v, vs, h1, h2, h3⟩, hc => by
    subst h1
    rw [List.all_cons, Bool.and_eq_true] at hc
    exact .at1 h2 (h2.one hc.1) (LayC.cells h3 hc.2)
theorem RVL.length : ∀ {cs : List AV} {us : List Value}, RVL N C Im w cs us → us.length = cs.length
  | [], us, h => by have : us = [] := h; rw [this]; rfl
  | a :: cs, us, ⟨v, vs, h1, h2, h3⟩ => by subst h1; simp [RVL.length h3]

theorem Touched.grew {v v' : Value} (ht : Touched MP.bl w0 w) (hg : Grew w w' v v') (hv : ∀ b, own v = some b → w0.heap.size ≤ b ∨ b ∈ MP.bl) : Touched MP.bl w0 w' :=
  ⟨fun k hk hm => (hg.same k (by have := ht.size; omega) fun e => (hv k e.symm).elim (by omega) (fun h => hm h)).trans (ht.same k hk hm), Nat.le_trans ht.size hg.size, hg.os.trans ht.os, hg.tape.trans ht.tape, hg.output.trans ht.output⟩
theorem Touched.wrote {b : Nat} (ht : Touched MP.bl w0 w) (hg : Wrote b w w') (hv : w0.heap.size ≤ b ∨ b ∈ MP.bl) : Touched MP.bl w0 w' :=
  ⟨fun k hk hm => (hg.same k fun e => by subst e; exact hv.elim (by omega) (fun h => hm h)).trans (ht.same k hk hm), by rw [hg.size]; exact ht.size, hg.os.trans ht.os, hg.tape.trans ht.tape, hg.output.trans ht.output⟩
/-- what is new in memory, as an object -/
theorem Sm.fresh (hm : Sm w0 MP st C Im E w) (hl : Later w w') {cc : Conc} {sz : Nat} {xs : List (List AV)} (he : cc.sz = sz) (hlen : cc.len = xs.length) (hbuf : Buf' w' cc.sz cc.hv cc.len cc.us) (hlay : LayC st.nx C Im w' xs.flatten cc.us cc.F) (hx : ∀ x ∈ xs, x.length = cc.sz)
    (hn : (blks cc).Nodup) (hge : ∀ k ∈ blks cc, w.heap.size ≤ k) : Sm w0 MP ⟨st.E, updA st.hp st.nx (.live false sz xs), st.nx + 1⟩ (updA C st.nx (some cc)) Im E w' := by
  have hsz := hm.tch.size
  refine (hm.later hl).new ⟨he, hlen, hbuf, hlay, hx, hn, fun k hk => .inl (by have := hge k hk; omega), fun b hb hk => ?_, fun k hk => ⟨fun hk' => ?_, fun h => by cases h⟩⟩ fun o c hc k hk hk' => ?_
  · have := hm.im b hk; have := hge b (by simp [blks, mem_ownL, hb]); omega
  · have := hm.im k hk'; have := hge k (by simp [blks, hk]); omega
  · obtain ⟨_, _, _, _, hO⟩ := hm.objOf hc
    have := (hO.wb k hk').lt; have := hge k hk; omega
theorem RV.slNew {cc : Conc} {xs : List (List AV)} {l : Bool} {sz : Nat} (hO : OR w0 MP N C Im w l sz xs cc) {o : Nat} (ho : C o = some cc) (hlt : o < N) : RV N C Im w (.sl o xs.length 0 xs.length) cc.hv := by
  obtain ⟨p, c, h1, h2, h3⟩ := hO.buf.slice
  rw [hO.len] at h1 h2
  refine ⟨p, c, h1, h2, h3, hlt, fun cc' hc' => ?_⟩
  rw [ho] at hc'
  cases hc'
  refine ⟨by rw [hO.len]; exact Nat.le_refl _, fun _ => ⟨by rw [hO.len]; omega, fun _ _ => rfl, fun hne => ?_⟩⟩
  obtain ⟨e, hB⟩ := hO.buf
  rcases hB.2 with ⟨h0, q, hq⟩ | ⟨b, c', cur, hq, g2, g3, g4, g5, g6⟩
  · rw [hO.len] at h0; exact absurd h0 hne
  · rw [hO.len] at hq; exact ⟨b, c' + 1, by rw [hq]; rfl, by simpa using hq⟩
theorem RV.ptNew {cc : Conc} {b n o : Nat} (ho : C o = some cc) (hlt : o < N) (hn : cc.len = n) (hb : own cc.hv = some b) : RV N C Im w (.pt o n 0 0) (.pointer (some ⟨b, 0, Option.none⟩)) :=
  ⟨b, 0, rfl, hlt, fun cc' hc' => by
    rw [ho] at hc'
    cases hc'
    exact ⟨by omega, fun _ => ⟨hb, by simp⟩⟩⟩
/-- more blocks are not written any more -/
theorem Sm.imAdd (h : Sm w0 MP st C Im E w) (G : List Nat) (hG : ∀ k ∈ G, k < w.heap.size) (hge : ∀ k ∈ G, w0.heap.size ≤ k ∨ k ∈ MP.bl) (hd : ∀ o c, C o = some c → ∀ k ∈ G, k ∉ blks c) : Sm w0 MP st C (fun k => Im k ∨ k ∈ G) E w := by
  have hI : ∀ k, Im k → Im k ∨ k ∈ G := fun k hk => .inl hk
  refine ⟨h.tch, fun k hk => hk.elim (h.im k) (hG k), fun t => RV.mono hI (fun _ _ => rfl) (Nat.le_refl _) (CLe.refl _ _) _ _ (h.slot t), h.nod, fun o l sz xs ho => ?_, h.lt, h.dis, fun k hk => hk.elim (h.imJ k) fun hk => .inr (hge k hk), fun p hp => RV.mono hI (fun _ _ => rfl) (Nat.le_refl _) (CLe.refl _ _) _ _ (h.gst p hp)⟩
  obtain ⟨c, g1, g2⟩ := h.obj o l sz xs ho
  refine ⟨c, g1, g2.esz, g2.len, g2.buf, g2.lay.mono hI (fun _ _ => rfl) (Nat.le_refl _) (CLe.refl _ _) (fun _ _ => rfl), g2.lens, g2.nd, g2.ge, fun b hb hk => hk.elim (g2.nim b hb) fun hk => hd o c g1 b hk (by simp [blks, mem_ownL, hb]), fun k hk => ⟨fun hk' => hk'.elim (fun hk' => (g2.lent k hk).1 hk') fun hk' => absurd (show k ∈ blks c by simp [blks, hk]) (hd o c g1 k hk'), fun hl => .inl ((g2.lent k hk).2 hl)⟩⟩
/-- blocks that belong to no object -/
structure Loose (w0 : World) (MP : Fr) (C : Nat → Option Conc) (w : World) (G : List Nat) : Prop where
  nd : G.Nodup
  ge : ∀ k ∈ G, w0.heap.size ≤ k ∨ k ∈ MP.bl
  wb : ∀ k ∈ G, Wb w k
  off : ∀ o c, C o = some c → ∀ k ∈ G, k ∉ blks c
theorem Loose.nil : Loose w0 MP C w [] := ⟨List.nodup_nil, (fun k hk => by cases hk), (fun k hk => by cases hk), fun o c _ k hk => by cases hk⟩
/-- cells as they are kept in a list: what they name is taken along -/
inductive Mv (lt : Bool) : (Nat → Ob) → List AV → List AV → (Nat → Ob) → Prop
  | nil {hp : Nat → Ob} : Mv lt hp [] [] hp
  | at1 {hp hp' : Nat → Ob} {a : AV} {cs ds : List AV} : cellB a = true → Mv lt hp cs ds hp' → Mv lt hp (a :: cs) (a :: ds) hp'
  | ow {hp hp' : Nat → Ob} {sz : Nat} {xs : List (List AV)} {cs ds : List AV} : Mv lt hp cs ds hp' → Mv lt hp (.dt true sz xs :: cs) (.dt true sz xs :: ds) hp'
  | nl {hp hp' : Nat → Ob} {cs ds : List AV} (sz : Nat) : Mv lt hp cs ds hp' → Mv lt hp (.nl :: cs) (.dt true sz [] :: ds) hp'
  | em {hp hp' : Nat → Ob} {cs ds : List AV} (sz : Nat) : Mv lt hp cs ds hp' → Mv lt hp (.em :: cs) (.dt true sz [] :: ds) hp'
  | mv {hp hp' : Nat → Ob} {o n sz : Nat} {l : Bool} {xs : List (List AV)} {cs ds : List AV} : hp o = .live l sz xs → (l || lt) = lt → xs.length = n → xs.flatten.all pureB = true → Mv lt (updA hp o .dead) cs ds hp' → Mv lt hp (.sl o n 0 n :: cs) (.dt true sz xs :: ds) hp'
theorem Loose.later {G : List Nat} (h : Loose w0 MP C w G) (hs : ∀ k ∈ G, w'.heap[k]? = w.heap[k]?) : Loose w0 MP C w' G := ⟨h.nd, h.ge, fun k hk => (h.wb k hk).same (hs k hk), h.off⟩
theorem Mv.lay {lt : Bool} {hp hp' : Nat → Ob} {cs ds : List AV} (hmv : Mv lt hp cs ds hp') : ∀ {C : Nat → Option Conc} {us : List Value} {F H : List Nat}, Sm w0 MP ⟨st.E, hp, st.nx⟩ C Im E w → LayC st.nx C Im w cs us F → Loose w0 MP C w (F ++ H) → (lt = false → ∀ k ∈ F, ¬ Im k) →
    ∃ C' G, (lt = false → ∀ k ∈ G, ¬ Im k) ∧ Sm w0 MP ⟨st.E, hp', st.nx⟩ C' Im E w ∧ LayC st.nx C' Im w ds us G ∧ Loose w0 MP C' w (G ++ H) ∧ (∀ o c, C' o = some c → C o = some c) := by
  induction hmv with
  | nil =>
    intro C us F H hm hl hL hF
    cases hl
    exact ⟨C, [], (fun _ k hk => by cases hk), hm, .nil, hL, fun _ _ h => h⟩
  | @at1 hp hp' a cs ds ha _ ih =>
    intro C us F H hm hl hL hF
    cases hl with
    | @at1 _ v _ vs _ h1 h2 h3 =>
      obtain ⟨C', G, g0, g1, g2, g3, g4⟩ := ih hm h3 hL hF
      exact ⟨C', G, g0, g1, .at1 (RV.mono (fun _ h => h) (fun _ _ => rfl) (Nat.le_refl _) (fun o _ c hc => ⟨c, g4 o c hc, .inl ⟨rfl, rfl, rfl⟩⟩) _ _ h1) h2 g2, g3, g4⟩
    | ow h1 h2 => cases ha
  | @ow hp hp' sz xs cs ds _ ih =>
    intro C us F H hm hl hL hF
    cases hl with
    | at1 h1 h2 h3 => cases h1.1
    | @ow _ _ v F1 _ vs F2 h1 h2 =>
      rw [List.append_assoc] at hL
      have hL' : Loose w0 MP C w (F2 ++ (F1 ++ H)) := by
        have hp : (F1 ++ (F2 ++ H)).Perm (F2 ++ (F1 ++ H)) := by
          rw [← List.append_assoc, ← List.append_assoc]; exact List.Perm.append_right _ List.perm_append_comm
        exact ⟨hp.nodup hL.nd, fun k hk => hL.ge k (hp.mem_iff.2 hk), fun k hk => hL.wb k (hp.mem_iff.2 hk), fun o c hc k hk => hL.off o c hc k (hp.mem_iff.2 hk)⟩
      obtain ⟨C', G, g0, g1, g2, g3, g4⟩ := ih hm h2 hL' fun h k hk => hF h k (by simp [hk])
      have hp : (G ++ (F1 ++ H)).Perm (F1 ++ G ++ H) := by
        rw [← List.append_assoc]; exact List.Perm.append_right _ List.perm_append_comm
      exact ⟨C', F1 ++ G, fun h k hk => (List.mem_append.1 hk).elim (fun hk => hF h k (by simp [hk])) (g0 h k), g1, .ow h1 g2, ⟨hp.nodup g3.nd, fun k hk => g3.ge k (hp.mem_iff.2 hk), fun k hk => g3.wb k (hp.mem_iff.2 hk), fun o c hc k hk => g3.off o c hc k (hp.mem_iff.2 hk)⟩, g4⟩
  | @nl hp hp' cs ds sz _ ih =>
    intro C us F H hm hl hL hF
    cases hl with
    | @at1 _ v _ vs _ h1 h2 h3 =>
      obtain ⟨C', G, g0, g1, g2, g3, g4⟩ := ih hm h3 hL hF
      have hv : v = .slice Option.none 0 0 := h1
      subst hv
      refine ⟨C', G, g0, g1, ?_, g3, g4⟩
      have : OwnC Im w [.dt true sz []] [.slice Option.none 0 0] [] := by
        simpa [ownL, own] using OwnC.ow (Im := Im) (w := w) (sz := sz) (xs := []) (us := []) ⟨0, Buf.nil w 0 sz⟩ .nil (fun x hx => by cases hx) .nil
      exact LayC.ow (F1 := []) this g2
  | @em hp hp' cs ds sz _ ih =>
    intro C us F H hm hl hL hF
    cases hl with
    | @at1 _ v _ vs _ h1 h2 h3 =>
      obtain ⟨C', G, g0, g1, g2, g3, g4⟩ := ih hm h3 hL hF
      obtain ⟨p, rfl⟩ := h1
      refine ⟨C', G, g0, g1, ?_, g3, g4⟩
      have : OwnC Im w [.dt true sz []] [.slice p 0 0] [] := by
        have hp : ownL (.slice p 0 0) = [] := by cases p <;> rfl
        have := OwnC.ow (Im := Im) (w := w) (sz := sz) (xs := []) (us := []) ⟨0, ⟨by simp, .inl ⟨rfl, p, rfl⟩⟩⟩ .nil (fun x hx => by cases hx) .nil
        rw [hp] at this; exact this
      exact LayC.ow (F1 := []) this g2
  | @mv hp hp' o n sz l xs cs ds ho hlt hn hp1 _ ih =>
    intro C us F H hm hl hL hF
    cases hl with
    | @at1 _ v _ vs _ h1 h2 h3 =>
      obtain ⟨cc, hcc, hO⟩ := hm.obj o l sz xs ho
      obtain ⟨p, c, _, _, _, _, h5⟩ := h1
      obtain ⟨s1, s2, s3⟩ := (h5 cc hcc).2 (by rw [hO.len, hn])
      have hv := s2 rfl (by rw [hO.len, hn])
      subst hv
      have hbl : ∀ k ∈ blks cc, k ∉ F ++ H := fun k hk hk' => hL.off o cc hcc k hk' hk
      have hm' := hm.kill o
      have hC' : ∀ o1 c1, updA C o Option.none o1 = some c1 → o1 ≠ o ∧ C o1 = some c1 := fun o1 c1 h => by
        by_cases e : o1 = o
        · subst e; rw [updA_same] at h; cases h
        · rw [updA_ne _ _ e] at h; exact ⟨e, h⟩
      have hl3 : LayC st.nx (updA C o Option.none) Im w cs vs F := h3.mono (fun _ h => h) (fun _ _ => rfl) (Nat.le_refl _) (fun o1 _ c1 h => ⟨c1, (hC' o1 c1 h).2, .inl ⟨rfl, rfl, rfl⟩⟩) (fun _ _ => rfl)
      have hL' : Loose w0 MP (updA C o Option.none) w (F ++ (blks cc ++ H)) := by
        refine ⟨?_, fun k hk => ?_, fun k hk => ?_, fun o1 c1 h k hk => ?_⟩
        · obtain ⟨n1, n2, n3⟩ := List.nodup_append.1 hL.nd
          refine List.nodup_append.2 ⟨n1, List.nodup_append.2 ⟨hO.nd, n2, fun a ha b hb e => ?_⟩, fun a ha b hb e => ?_⟩
          · subst e; exact hbl a ha (by simp [hb])
          · subst e
            rcases List.mem_append.1 hb with hb | hb
            · exact hbl a hb (by simp [ha])
            · exact n3 a ha a hb rfl
        · rcases List.mem_append.1 hk with hk | hk
          · exact hL.ge k (by simp [hk])
          · rcases List.mem_append.1 hk with hk | hk
            · exact hO.ge k hk
            · exact hL.ge k (by simp [hk])
        · rcases List.mem_append.1 hk with hk | hk
          · exact hL.wb k (by simp [hk])
          · rcases List.mem_append.1 hk with hk | hk
            · exact hO.wb k hk
            · exact hL.wb k (by simp [hk])
        · obtain ⟨e, h⟩ := hC' o1 c1 h
          rcases List.mem_append.1 hk with hk | hk
          · exact hL.off o1 c1 h k (by simp [hk])
          · rcases List.mem_append.1 hk with hk | hk
            · exact fun hk' => hm.dis o o1 cc c1 (Ne.symm e) hcc h k hk hk'
            · exact hL.off o1 c1 h k (by simp [hk])
      obtain ⟨C', G, g0, g1, g2, g3, g4⟩ := ih hm' hl3 hL' hF
      have hp : (G ++ (blks cc ++ H)).Perm (blks cc ++ G ++ H) := by
        rw [← List.append_assoc]; exact List.Perm.append_right _ List.perm_append_comm
      refine ⟨C', blks cc ++ G, fun h k hk => (List.mem_append.1 hk).elim (fun hk => (List.mem_append.1 hk).elim (fun hk => hO.nim k (mem_ownL.1 hk)) fun hk hk' => by have := (hO.lent k hk).1 hk'; subst h; subst this; cases hlt) (g0 h k), g1, ?_, ⟨hp.nodup g3.nd, fun k hk => g3.ge k (hp.mem_iff.2 hk), fun k hk => g3.wb k (hp.mem_iff.2 hk), fun o c hc k hk => g3.off o c hc k (hp.mem_iff.2 hk)⟩, fun o1 c1 h => (hC' o1 c1 (g4 o1 c1 h)).2⟩
      refine .ow ?_ g2
      have hb := hO.buf
      rw [hO.len, hO.esz] at hb
      have := OwnC.ow hb (hO.lay.pure hp1) (fun x hx => by rw [hO.lens x hx, hO.esz]) (cs := []) (vs := []) (F := []) .nil
      simpa [blks] using this
/-- an object grows -/
theorem Sm.app (hm : Sm w0 MP st C Im E w) {o sz : Nat} {lt : Bool} {xs : List (List AV)} {cc : Conc} (ho : st.hp o = .live lt sz xs) (hcc : C o = some cc) {zs : List (List AV)} {news : List Value} {G : List Nat}
    (hy : LayC st.nx C Im w zs.flatten news G) (hG : Loose w0 MP C w G) (hGl : ∀ k ∈ G, Im k ↔ lt = true) (hz : ∀ z ∈ zs, z.length = sz) {v' : Value} (hB : Buf' w' sz v' (cc.len + zs.length) (cc.us ++ news)) (hg : Grew w w' cc.hv v') (h0 : zs.length = 0 → v' = cc.hv) :
    ∃ cc', Sm w0 MP ⟨st.E, updA st.hp o (.live lt sz (xs ++ zs)), st.nx⟩ (updA C o (some cc')) Im E w' ∧ cc'.hv = v' ∧ OR w0 MP st.nx (updA C o (some cc')) Im w' lt sz (xs ++ zs) cc' := by
  obtain ⟨cc1, hcc1, hO⟩ := hm.obj o lt sz xs ho
  rw [hcc] at hcc1
  cases hcc1
  have hown : ∀ b, own v' = some b → own cc.hv = some b ∨ w.heap.size ≤ b := fun b hb => by
    rcases hg.own with e | ⟨b', e, h⟩
    · exact .inl (e ▸ hb)
    · rw [e] at hb; cases hb; exact .inr h
  have hsame : ∀ k, k < w.heap.size → own cc.hv ≠ some k → w'.heap[k]? = w.heap[k]? := fun k hk hne => hg.same k hk fun e => hne e.symm
  have hIs : ∀ k, Im k → w'.heap[k]? = w.heap[k]? := fun k hk => hsame k (hm.im k hk) fun e => hO.nim k e hk
  have hblk : ∀ k ∈ cc.F ++ G, w'.heap[k]? = w.heap[k]? := fun k hk => by
    rcases List.mem_append.1 hk with hk | hk
    · refine hsame k (hO.wb k (by simp [blks, hk])).lt fun e => ?_
      have := hO.nd
      unfold blks at this
      exact (List.nodup_append.1 this).2.2 k (mem_ownL.2 e) k hk rfl
    · exact hsame k (hG.wb k hk).lt fun e => hG.off o cc hcc k hk (by simp [blks, mem_ownL, e])
  let cc' : Conc := ⟨v', cc.len + zs.length, sz, cc.us ++ news, cc.F ++ G⟩
  have hlay : LayC st.nx C Im w' (xs ++ zs).flatten cc'.us cc'.F := by
    rw [List.flatten_append]
    exact (hO.lay.append hy).mono (fun _ h => h) hIs (Nat.le_refl _) (CLe.refl _ _) hblk
  have hOR : OR w0 MP st.nx C Im w' lt sz (xs ++ zs) cc' := by
    refine ⟨rfl, by simp [cc', hO.len], hB, hlay, fun x hx => ?_, ?_, fun k hk => ?_, fun b hb hk => ?_, fun k hk => ?_⟩
    · rcases List.mem_append.1 hx with hx | hx
      · rw [hO.lens x hx]; exact hO.esz
      · exact hz x hx
    · have h1 := hO.nd
      unfold blks at h1 ⊢
      obtain ⟨n1, n2, n3⟩ := List.nodup_append.1 h1
      refine List.nodup_append.2 ⟨?_, List.nodup_append.2 ⟨n2, hG.nd, fun a ha b hb e => ?_⟩, fun a ha b hb e => ?_⟩
      · unfold ownL; cases own v' <;> simp [cc']
      · subst e; exact hG.off o cc hcc a hb (by simp [blks, ha])
      · subst e
        rcases hown a (mem_ownL.1 ha) with e | e
        · rcases List.mem_append.1 hb with hb | hb
          · exact n3 a (mem_ownL.2 e) a hb rfl
          · exact hG.off o cc hcc a hb (by simp [blks, mem_ownL, e])
        · rcases List.mem_append.1 hb with hb | hb
          · have := (hO.wb a (by simp [blks, hb])).lt; omega
          · have := (hG.wb a hb).lt; omega
    · unfold blks at hk
      rcases List.mem_append.1 hk with hk | hk
      · rcases hown k (mem_ownL.1 hk) with e | e
        · exact hO.ge k (by simp [blks, mem_ownL, e])
        · have := hm.tch.size; exact .inl (by omega)
      · rcases List.mem_append.1 hk with hk | hk
        · exact hO.ge k (by simp [blks, hk])
        · exact hG.ge k hk
    · rcases hown b hb with e | e
      · exact hO.nim b e hk
      · have := hm.im b hk; omega
    · rcases List.mem_append.1 hk with hk | hk
      · exact hO.lent k hk
      · exact hGl k hk
  have hdis : ∀ o' c, o' ≠ o → C o' = some c → ∀ k ∈ blks cc', k ∉ blks c := fun o' c ho' hc k hk hk' => by
    unfold blks at hk
    rcases List.mem_append.1 hk with hk | hk
    · rcases hown k (mem_ownL.1 hk) with e | e
      · exact hm.dis o o' cc c (Ne.symm ho') hcc hc k (by simp [blks, mem_ownL, e]) hk'
      · obtain ⟨_, _, _, _, hO'⟩ := hm.objOf hc
        have := (hO'.wb k hk').lt; omega
    · rcases List.mem_append.1 hk with hk | hk
      · exact hm.dis o o' cc c (Ne.symm ho') hcc hc k (by simp [blks, hk]) hk'
      · exact hG.off o' c hc k hk hk'
  have hl : (cc.len = cc'.len ∧ cc.hv = cc'.hv ∧ cc.sz = cc'.sz) ∨ cc.len < cc'.len := by
    by_cases hz0 : zs.length = 0
    · exact .inl ⟨by simp [cc', hz0], (h0 hz0).symm, hO.esz⟩
    · exact .inr (by simp only [cc']; omega)
  have hT := hm.turn o (xs' := xs ++ zs) ho hcc hl (V.Touched.grew hm.tch hg fun b hb => hO.ge b (by simp [blks, mem_ownL, hb])) hg.size hIs (fun o' c ho' hc k hk => by
    obtain ⟨_, _, _, _, hO'⟩ := hm.objOf hc
    exact hsame k (hO'.wb k hk).lt fun e => hm.dis o o' cc c (Ne.symm ho') hcc hc k (by simp [blks, mem_ownL, e]) hk) hOR hdis
  refine ⟨cc', hT, rfl, ?_⟩
  obtain ⟨c2, q1, q2⟩ := hT.obj o lt sz (xs ++ zs) (updA_same ..)
  rw [updA_same] at q1
  cases q1
  exact q2
/-- cells of an object are written -/
theorem Sm.store (hm : Sm w0 MP st C Im E w) {o sz : Nat} {l : Bool} {xs xs' : List (List AV)} {cc : Conc} (ho : st.hp o = .live l sz xs) (hcc : C o = some cc) {A B B' D : List AV} {vs : List Value} {G : List Nat}
    (hx : xs.flatten = A ++ (B ++ D)) (hx' : xs'.flatten = A ++ (B' ++ D)) (hlen : xs'.length = xs.length) (hsz : ∀ x ∈ xs', x.length = sz) (hBl : B'.length = B.length) {b : Nat} (hb : own cc.hv = some b)
    (hy : LayC st.nx C Im w B' vs G) (hG : Loose w0 MP C w G) (hGl : ∀ k ∈ G, Im k ↔ l = true) (hW : Wrote b w w')
    (hBk : ∀ cur e, Blk w b cur e → ∃ e', Blk w' b (cur.take A.length ++ vs ++ cur.drop (A.length + vs.length)) e') :
    ∃ cc', Sm w0 MP ⟨st.E, updA st.hp o (.live l sz xs'), st.nx⟩ (updA C o (some cc')) Im E w' ∧ cc'.hv = cc.hv ∧ cc'.len = cc.len ∧ cc'.sz = cc.sz := by
  obtain ⟨cc1, hcc1, hO⟩ := hm.obj o l sz xs ho
  rw [hcc] at hcc1
  cases hcc1
  obtain ⟨u1, u2, u3, F1, F2, F3, e1, e2, l1, l2, q1, q2, q3⟩ := hO.lay.cut hx
  have hbk : b ∈ blks cc := by simp [blks, mem_ownL, hb]
  have hsame : ∀ k, k ≠ b → w'.heap[k]? = w.heap[k]? := hW.same
  have hIs : ∀ k, Im k → w'.heap[k]? = w.heap[k]? := fun k hk => hsame k fun e => by subst e; exact hO.nim k hb hk
  have hnd := hO.nd
  unfold blks at hnd
  obtain ⟨n1, n2, n3⟩ := List.nodup_append.1 hnd
  have hFb : ∀ k ∈ cc.F, k ≠ b := fun k hk e => n3 b (mem_ownL.2 hb) k hk e.symm
  have hGb : ∀ k ∈ G, k ≠ b := fun k hk e => by subst e; exact hG.off o cc hcc k hk hbk
  have hvl : vs.length = B.length := by rw [hy.length, hBl]
  let cc' : Conc := ⟨cc.hv, cc.len, cc.sz, u1 ++ (vs ++ u3), F1 ++ (G ++ F3)⟩
  have hF' : ∀ k ∈ cc'.F, k ∈ cc.F ∨ k ∈ G := fun k hk => by
    simp only [cc', List.mem_append] at hk
    rw [e2]; simp only [List.mem_append]
    rcases hk with h | h | h
    · exact .inl (.inl h)
    · exact .inr h
    · exact .inl (.inr (.inr h))
  have hlay : LayC st.nx C Im w' xs'.flatten cc'.us cc'.F := by
    rw [hx']
    exact (q1.append (hy.append q3)).mono (fun _ h => h) hIs (Nat.le_refl _) (CLe.refl _ _) fun k hk => hsame k ((hF' k hk).elim (hFb k) (hGb k))
  have hbuf : Buf' w' cc.sz cc.hv cc.len (u1 ++ (vs ++ u3)) := by
    obtain ⟨e, hB⟩ := hO.buf
    rcases hB.2 with ⟨_, p, h⟩ | ⟨b', c, cur, h, h2, h3, h4, h5, h6⟩
    · rw [h] at hb; cases p <;> simp [own] at hb
    · rw [h] at hb
      simp [own] at hb
      subst hb
      obtain ⟨e', hBk'⟩ := hBk cur e h2
      have hus : cc.us.length = cc.len * cc.sz := hB.1
      rw [e1] at h6 hus
      simp only [List.length_append] at hus
      have hle : cc.len * cc.sz ≤ cur.length := by
        rw [h5]; exact Nat.mul_le_mul_right _ h3
      have hc1 : cur.take A.length = u1 := by
        have : cur.take (cc.len * cc.sz) = u1 ++ (u2 ++ u3) := h6
        have h7 := congrArg (List.take A.length) this
        have hmin : min A.length (cc.len * cc.sz) = A.length := Nat.min_eq_left (by omega)
        rw [List.take_take, hmin, List.take_append_of_le_length (by omega), List.take_of_length_le (l := u1) (by omega)] at h7
        exact h7
      refine ⟨e', by simp only [List.length_append]; omega, .inr ⟨b', c, _, h, hBk', h3, h4, ?_, ?_⟩⟩
      · simp only [List.length_append, List.length_take, List.length_drop]; omega
      · rw [hc1, List.append_assoc]
        have h8 : (cur.drop (A.length + vs.length)).take (cc.len * cc.sz - (A.length + vs.length)) = u3 := by
          rw [← List.drop_take, h6, ← List.append_assoc, List.drop_append_of_le_length (by simp; omega), List.drop_of_length_le (by simp; omega), List.nil_append]
        rw [List.take_append, List.take_of_length_le (by omega), List.take_append, List.take_of_length_le (by omega)]
        congr 2
        rw [← h8]; congr 1; omega
  have hOR : OR w0 MP st.nx C Im w' l sz xs' cc' := by
    refine ⟨hO.esz, by simp [cc', hO.len, hlen], hbuf, hlay, fun x hx => by rw [hsz x hx]; exact hO.esz.symm, ?_, fun k hk => ?_, hO.nim, fun k hk => ?_⟩
    · rw [e2] at n2
      obtain ⟨m1, m2, m3⟩ := List.nodup_append.1 n2
      obtain ⟨m4, m5, m6⟩ := List.nodup_append.1 m2
      refine List.nodup_append.2 ⟨n1, List.nodup_append.2 ⟨m1, List.nodup_append.2 ⟨hG.nd, m5, fun a ha c hc e => ?_⟩, fun a ha c hc e => ?_⟩, fun a ha c hc e => ?_⟩
      · subst e; exact hG.off o cc hcc a ha (by simp [blks, e2, hc])
      · subst e
        rcases List.mem_append.1 hc with hc | hc
        · exact hG.off o cc hcc a hc (by simp [blks, e2, ha])
        · exact m3 a ha a (by simp [hc]) rfl
      · subst e
        rcases hF' a hc with h | h
        · exact n3 a ha a h rfl
        · exact hG.off o cc hcc a h (List.mem_append_left _ ha)
    · unfold blks at hk
      rcases List.mem_append.1 hk with hk | hk
      · exact hO.ge k (List.mem_append_left _ hk)
      · rcases hF' k hk with h | h
        · exact hO.ge k (by simp [blks, h])
        · exact hG.ge k h
    · rcases hF' k hk with h | h
      · exact hO.lent k h
      · exact hGl k h
  refine ⟨cc', hm.turn o (xs' := xs') ho hcc (.inl ⟨rfl, rfl, rfl⟩) (V.Touched.wrote hm.tch hW (hO.ge b hbk)) (by rw [hW.size]; exact Nat.le_refl _) hIs (fun o' c ho' hc k hk => hsame k fun e => ?_) hOR (fun o' c ho' hc k hk hk' => ?_), rfl, rfl, rfl⟩
  · subst e; exact hm.dis o o' cc c (Ne.symm ho') hcc hc k hbk hk
  · unfold blks at hk
    rcases List.mem_append.1 hk with hk | hk
    · exact hm.dis o o' cc c (Ne.symm ho') hcc hc k (List.mem_append_left _ hk) hk'
    · rcases hF' k hk with h | h
      · exact hm.dis o o' cc c (Ne.symm ho') hcc hc k (by simp [blks, h]) hk'
      · exact hG.off o' c hc k h hk'
end
end Go.Proofs.Ytcalkmlaodjpaaa.V
