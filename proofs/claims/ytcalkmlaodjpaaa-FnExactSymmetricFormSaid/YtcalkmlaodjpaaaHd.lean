/- Operations that write nothing, by abstract states. Over any program; nothing is claimed of the given one. -/
import Derived.Test.YtcalkmlaodjpaaaHc
import Derived.WalkSpells
namespace Go.Proofs.Ytcalkmlaodjpaaa.V
open V.Enc (enc)
open Go.RowKit G
set_option linter.unusedVariables false
set_option linter.unusedSimpArgs false

section
variable {P : Program} {w0 : World} {MP : Fr} {st : St} {d : Option Tmp} {ty : TypeId} {pos : String} {af : Array Edge} {g : Option (Nat × Bool)} {x y z : Operand}
theorem Sm.evI {C : Nat → Option Conc} {Im : Nat → Prop} {E : Env} {w : World} (hm : Sm w0 MP st C Im E w) {x : Operand} {a : Int} (hx : evA st x = .i a) : G.ev E x = .int .i64 a ∧ In64 a := by
  have := hm.ev x; rwa [hx] at this
theorem Sm.evB {C : Nat → Option Conc} {Im : Nat → Prop} {E : Env} {w : World} (hm : Sm w0 MP st C Im E w) {x : Operand} {a : Bool} (hx : evA st x = .b a) : G.ev E x = .bool a := by
  have := hm.ev x; rwa [hx] at this

theorem A.mov {a : AV} (hx : evA st x = a) : ASil true P w0 MP st ⟨d, .move x, ty, pos, af, g⟩ a := fun C Im E w hm => ⟨_, fun w' => Sil.move rfl, hx ▸ hm.ev x⟩
theorem A.asg {a : AV} (hx : evA st x = a) : ASil true P w0 MP st ⟨d, .assign x, ty, pos, af, g⟩ a := fun C Im E w hm => ⟨_, fun w' => Sil.assign rfl, hx ▸ hm.ev x⟩
theorem A.pickT {a : AV} (hx : evA st x = .b true) (hy : evA st y = a) : ASil true P w0 MP st ⟨d, .pick x y z, ty, pos, af, g⟩ a := fun C Im E w hm => ⟨_, fun w' => Sil.pickT (hm.evB hx) rfl rfl, hy ▸ hm.ev y⟩
theorem A.pickF {a : AV} (hx : evA st x = .b false) (hz : evA st z = a) : ASil true P w0 MP st ⟨d, .pick x y z, ty, pos, af, g⟩ a := fun C Im E w hm => ⟨_, fun w' => Sil.pickF (hm.evB hx) rfl rfl, hz ▸ hm.ev z⟩
theorem A.notT {t : TypeId} (hx : evA st x = .b true) : ASil true P w0 MP st ⟨d, .unOp .not t x, ty, pos, af, g⟩ (.b false) := fun C Im E w hm => ⟨_, fun w' => Sil.notT (hm.evB hx), rfl⟩
theorem A.notF {t : TypeId} (hx : evA st x = .b false) : ASil true P w0 MP st ⟨d, .unOp .not t x, ty, pos, af, g⟩ (.b true) := fun C Im E w hm => ⟨_, fun w' => Sil.notF (hm.evB hx), rfl⟩
theorem A.not {t : TypeId} {b : Bool} (hx : evA st x = .b b) : ASil true P w0 MP st ⟨d, .unOp .not t x, ty, pos, af, g⟩ (.b (!b)) := fun C Im E w hm => ⟨_, fun w' => Sil.not (hm.evB hx), rfl⟩
theorem A.neg {t : TypeId} {a : Int} (hx : evA st x = .i a) (h : In64 (-a)) : ASil true P w0 MP st ⟨d, .unOp .neg t x, ty, pos, af, g⟩ (.i (-a)) := fun C Im E w hm =>
  ⟨_, fun w' => Sil.neg (hm.evI hx).1, by rw [wrap_in h], h⟩
section
variable {t t' : TypeId} {a b : Int} (hx : evA st x = .i a) (hy : evA st y = .i b)
include hx hy
theorem A.lss : ASil true P w0 MP st ⟨d, .binOp .lss t x y t', ty, pos, af, g⟩ (.b (decide (a < b))) := fun C Im E w hm => ⟨_, fun w' => Sil.lss (hm.evI hx).1 (hm.evI hy).1, rfl⟩
theorem A.leq : ASil true P w0 MP st ⟨d, .binOp .leq t x y t', ty, pos, af, g⟩ (.b (decide (a ≤ b))) := fun C Im E w hm => ⟨_, fun w' => Sil.leq (hm.evI hx).1 (hm.evI hy).1, rfl⟩
theorem A.gtr : ASil true P w0 MP st ⟨d, .binOp .gtr t x y t', ty, pos, af, g⟩ (.b (decide (b < a))) := fun C Im E w hm => ⟨_, fun w' => Sil.gtr (hm.evI hx).1 (hm.evI hy).1, rfl⟩
theorem A.geq : ASil true P w0 MP st ⟨d, .binOp .geq t x y t', ty, pos, af, g⟩ (.b (decide (b ≤ a))) := fun C Im E w hm => ⟨_, fun w' => Sil.geq (hm.evI hx).1 (hm.evI hy).1, rfl⟩
theorem A.eql : ASil true P w0 MP st ⟨d, .binOp .eql t x y t', ty, pos, af, g⟩ (.b (decide (a = b))) := fun C Im E w hm => ⟨_, fun w' => Sil.eql (hm.evI hx).1 (hm.evI hy).1, rfl⟩
theorem A.neq : ASil true P w0 MP st ⟨d, .binOp .neq t x y t', ty, pos, af, g⟩ (.b (decide (a ≠ b))) := fun C Im E w hm => ⟨_, fun w' => Sil.neq (hm.evI hx).1 (hm.evI hy).1, rfl⟩
theorem A.add (h : In64 (a + b)) : ASil true P w0 MP st ⟨d, .binOp .add t x y t', ty, pos, af, g⟩ (.i (a + b)) := fun C Im E w hm => ⟨_, fun w' => Sil.add (hm.evI hx).1 (hm.evI hy).1 h, rfl, h⟩
theorem A.sub (h : In64 (a - b)) : ASil true P w0 MP st ⟨d, .binOp .sub t x y t', ty, pos, af, g⟩ (.i (a - b)) := fun C Im E w hm => ⟨_, fun w' => Sil.sub (hm.evI hx).1 (hm.evI hy).1 h, rfl, h⟩
theorem A.mul (h : In64 (a * b)) : ASil true P w0 MP st ⟨d, .binOp .mul t x y t', ty, pos, af, g⟩ (.i (a * b)) := fun C Im E w hm => ⟨_, fun w' => Sil.mul (hm.evI hx).1 (hm.evI hy).1 h, rfl, h⟩
omit hx hy in
theorem In64.wr (a : Int) : In64 (RowKit.wrap64 a) := by rw [← IntWalk.i64_left, IntKind.wrap_i64]; unfold In64; omega
omit hx hy in
theorem wr_in {a : Int} (h : In64 a) : RowKit.wrap64 a = a := by rw [← IntWalk.i64_left]; exact wrap_in h
theorem A.addW : ASil true P w0 MP st ⟨d, .binOp .add t x y t', ty, pos, af, g⟩ (.i (RowKit.wrap64 (a + b))) := fun C Im E w hm => ⟨_, fun w' => Sil.addW (hm.evI hx).1 (hm.evI hy).1, IntWalk.i64_left _ ▸ rfl, V.In64.wr _⟩
theorem A.subW : ASil true P w0 MP st ⟨d, .binOp .sub t x y t', ty, pos, af, g⟩ (.i (RowKit.wrap64 (a - b))) := fun C Im E w hm => ⟨_, fun w' => Sil.subW (hm.evI hx).1 (hm.evI hy).1, IntWalk.i64_left _ ▸ rfl, V.In64.wr _⟩
theorem A.mulW : ASil true P w0 MP st ⟨d, .binOp .mul t x y t', ty, pos, af, g⟩ (.i (RowKit.wrap64 (a * b))) := fun C Im E w hm => ⟨_, fun w' => Sil.mulW (hm.evI hx).1 (hm.evI hy).1, IntWalk.i64_left _ ▸ rfl, V.In64.wr _⟩
omit hx hy in
theorem In64.tmod {a b : Int} (h : In64 a) : In64 (a.tmod b) := by
  have h1 := Int.natAbs_tmod a b
  have h2 : a.natAbs % b.natAbs ≤ a.natAbs := Nat.mod_le _ _
  unfold In64 at *
  rcases Int.lt_or_le a 0 with ha | ha
  · have h3 := Int.tmod_nonneg (a := -a) b (by omega); rw [Int.neg_tmod] at h3; omega
  · have h3 := Int.tmod_nonneg b ha; omega
theorem A.rem (hb : b ≠ 0) : ASil true P w0 MP st ⟨d, .binOp .rem t x y t', ty, pos, af, g⟩ (.i (a.tmod b)) := fun C Im E w hm => ⟨_, fun w' => Sil.remW (hm.evI hx).1 (hm.evI hy).1 hb, rfl, V.In64.tmod (hm.evI hx).2⟩
theorem A.remP (ha : 0 ≤ a) (hb : 0 < b) : ASil true P w0 MP st ⟨d, .binOp .rem t x y t', ty, pos, af, g⟩ (.i (a % b)) := by
  have := A.rem (P := P) (w0 := w0) (MP := MP) (d := d) (ty := ty) (pos := pos) (af := af) (g := g) (t := t) (t' := t') hx hy (by omega)
  rwa [Int.tmod_eq_emod_of_nonneg ha] at this
theorem A.quoP (ha : 0 ≤ a) (hb : 0 < b) : ASil true P w0 MP st ⟨d, .binOp .quo t x y t', ty, pos, af, g⟩ (.i (a / b)) := fun C Im E w hm => by
  have h1 := (hm.evI hx).2
  have h2 : 0 ≤ a / b := Int.ediv_nonneg ha (by omega)
  have h3 : a / b ≤ a := Int.ediv_le_self b ha
  have h4 : In64 (a / b) := by unfold In64 at *; omega
  exact ⟨_, fun w' => Sil.quoW (hm.evI hx).1 (hm.evI hy).1 (by omega), by rw [Int.tdiv_eq_ediv_of_nonneg ha, wrap_in h4], h4⟩
end
theorem Imm.sl_inv {Im : Nat → Prop} {w : World} {sz : Nat} {xs : List (List AV)} {v : Value} (h : Imm Im w [.dt false sz xs] [v]) : ∃ p c, v = .slice p xs.length c ∧ xs.length ≤ c ∧ c ≤ maxLen ∧
    (xs = [] ∨ ∃ b o us, p = some ⟨b, o, none⟩ ∧ Im b ∧ Cells w b o us ∧ Imm Im w xs.flatten us ∧ ∀ x ∈ xs, x.length = sz) := by
  cases h with
  | sl0 h1 _ => exact ⟨_, _, rfl, Nat.zero_le _, h1, .inl rfl⟩
  | sl h1 h2 h3 h4 h5 h6 _ => exact ⟨_, _, rfl, h1, h2, .inr ⟨_, _, _, rfl, h3, h4, h5, h6⟩⟩
theorem maxLen_le : (maxLen : Nat) = 9223372036854775807 := rfl
theorem In64.len {m c : Nat} (h1 : m ≤ c) (h2 : c ≤ maxLen) : In64 (m : Int) := by rw [maxLen_le] at h2; exact ⟨by omega, by omega⟩
theorem A.lenS {t e : TypeId} [hu : HasU P t (.slice e)] {o n off m : Nat} (hx : evA st x = .sl o n off m) : ASil true P w0 MP st ⟨d, .call ⟨.builtin .len, #[x], #[t]⟩, ty, pos, af, g⟩ (.i m) := fun C Im E w hm => by
  have h := hm.ev x
  rw [hx] at h
  obtain ⟨p, c, h1, h2, h3, _⟩ := h
  exact ⟨_, fun w' => Sil.len h1, rfl, In64.len h2 h3⟩
theorem A.lenD {t e : TypeId} [hu : HasU P t (.slice e)] {o : Bool} {sz : Nat} {xs : List (List AV)} (hx : evA st x = .dt o sz xs) : ASil true P w0 MP st ⟨d, .call ⟨.builtin .len, #[x], #[t]⟩, ty, pos, af, g⟩ (.i xs.length) := fun C Im E w hm => by
  have h := hm.ev x
  rw [hx] at h
  obtain ⟨p, c, h1, h2, h3, _⟩ := h.2.sl_inv
  exact ⟨_, fun w' => Sil.len h1, rfl, In64.len h2 h3⟩
theorem A.lenE {t e : TypeId} [hu : HasU P t (.slice e)] {α : Type} [Enc α] {o o' : Bool} {sz : Nat} {l : List α} (hx : evA st x = .dt o sz (V.E o' l)) : ASil true P w0 MP st ⟨d, .call ⟨.builtin .len, #[x], #[t]⟩, ty, pos, af, g⟩ (.i l.length) := by
  have := A.lenD (P := P) (w0 := w0) (MP := MP) (d := d) (ty := ty) (pos := pos) (af := af) (g := g) (t := t) hx
  rwa [E_length] at this
theorem A.lenN {t e : TypeId} [hu : HasU P t (.slice e)] (hx : evA st x = .nl) : ASil true P w0 MP st ⟨d, .call ⟨.builtin .len, #[x], #[t]⟩, ty, pos, af, g⟩ (.i 0) := fun C Im E w hm => by
  have h := hm.ev x
  rw [hx] at h
  exact ⟨_, fun w' => Sil.len (show G.ev E x = .slice none 0 0 from h), rfl, by decide, by decide⟩
theorem A.lenM {t e : TypeId} [hu : HasU P t (.slice e)] (hx : evA st x = .em) : ASil true P w0 MP st ⟨d, .call ⟨.builtin .len, #[x], #[t]⟩, ty, pos, af, g⟩ (.i 0) := fun C Im E w hm => by
  have h := hm.ev x
  rw [hx] at h
  obtain ⟨p, h⟩ := h
  exact ⟨_, fun w' => Sil.len h, rfl, by decide, by decide⟩
theorem A.fldP {s i off : Nat} [hf : HasF P s i off] {o n k j : Nat} (hx : evA st x = .pt o n k j) : ASil true P w0 MP st ⟨d, .fieldAddr s x i, ty, pos, af, g⟩ (.pt o n k (j + off)) := fun C Im E w hm => by
  have h := hm.ev x
  rw [hx] at h
  obtain ⟨b, q, h1, h2, h3⟩ := h
  refine ⟨_, fun w' => Sil.fieldAddr h1, b, q + off, rfl, h2, fun cc hc => ⟨(h3 cc hc).1, fun hn => ?_⟩⟩
  obtain ⟨g1, rfl⟩ := (h3 cc hc).2 hn
  exact ⟨g1, by rw [Nat.add_assoc]⟩
theorem A.fldI {s i off : Nat} [hf : HasF P s i off] {cs : List AV} (hx : evA st x = .ip cs) (hlt : Nat.ble off cs.length = true) : ASil true P w0 MP st ⟨d, .fieldAddr s x i, ty, pos, af, g⟩ (.ip (cs.drop off)) := fun C Im E w hm => by
  have h := hm.ev x
  rw [hx] at h
  obtain ⟨b, q, us, h1, h2, h3, h4⟩ := h
  have hle := leB hlt
  rw [← List.take_append_drop off cs] at h4
  obtain ⟨v1, v2, rfl, h5, h6⟩ := h4.split
  have hl := h5.length
  rw [List.length_take, Nat.min_eq_left hle] at hl
  have h7 := h3.drop
  rw [hl] at h7
  exact ⟨_, fun w' => Sil.fieldAddr h1, b, q + off, v2, rfl, h2, h7, h6⟩
/-! elements -/
theorem A.idxS {t e sz bys : Nat} {zz : Value} [hu : HasU P t (.slice e)] [hi : HasI P e sz bys zz] {o n off m k : Nat} {i : Int} {l : Bool} {xs : List (List AV)} (hx : evA st x = .sl o n off m) (hy : evA st y = .i i) (hh : st.hp o = .live l sz xs) (hn : xs.length = n)
    (hk : i = (k : Int)) (hlt : k < m) : ASil true P w0 MP st ⟨d, .indexAddr t x y, ty, pos, af, g⟩ (.pt o n (off + k) 0) := fun C Im E w hm => by
  have h := hm.ev x
  rw [hx] at h
  obtain ⟨p, c, h1, h2, h3, h4, h5⟩ := h
  obtain ⟨cc, g1, hO⟩ := hm.obj o l _ xs hh
  have hlen : cc.len = n := by rw [hO.len, hn]
  obtain ⟨s1, s2, s3⟩ := (h5 cc g1).2 hlen
  obtain ⟨b, c', f1, f2⟩ := s3 (by omega)
  have hv := h1.symm.trans f2
  simp only [Value.slice.injEq] at hv
  obtain ⟨rfl, _, rfl⟩ := hv
  have hsz : cc.sz = sz := hO.esz
  refine ⟨_, fun w' => Sil.indexAddr h1 (hm.evI hy).1 hk hlt, b, off * cc.sz + k * sz, rfl, h4, fun cc' hc' => ?_⟩
  rw [g1] at hc'
  cases hc'
  exact ⟨by omega, fun _ => ⟨f1, by rw [hsz, Nat.add_mul, Nat.add_zero]⟩⟩
theorem A.idxE {α : Type} [Enc α] {t e sz bys : Nat} {zz : Value} [hu : HasU P t (.slice e)] [hi : HasI P e sz bys zz] {o n off m k : Nat} {i : Int} {l oo : Bool} {ls : List α} (hx : evA st x = .sl o n off m) (hy : evA st y = .i i) (hh : st.hp o = .live l sz (V.E oo ls)) (hn : ls.length = n)
    (hk : i = (k : Int)) (hlt : k < m) : ASil true P w0 MP st ⟨d, .indexAddr t x y, ty, pos, af, g⟩ (.pt o n (off + k) 0) :=
  A.idxS hx hy hh (by rw [E_length, hn]) hk hlt
theorem A.idxD {t e sz bys : Nat} {zz : Value} [hu : HasU P t (.slice e)] [hi : HasI P e sz bys zz] {o : Bool} {xs : List (List AV)} {cs : List AV} {k : Nat} {i : Int} (hx : evA st x = .dt o sz xs) (hy : evA st y = .i i) (hk : i = (k : Int)) (hc : xs[k]? = some cs) :
    ASil true P w0 MP st ⟨d, .indexAddr t x y, ty, pos, af, g⟩ (.ip cs) := fun C Im E w hm => by
  have h := hm.ev x
  rw [hx] at h
  have hlt : k < xs.length := (List.getElem?_eq_some_iff.1 hc).1
  obtain ⟨p, c, h1, h2, h3, h4⟩ := h.2.sl_inv
  rcases h4 with rfl | ⟨b, q, us, rfl, g1, g2, g3, g4⟩
  · simp at hlt
  rw [flatten_cut hc] at g3
  obtain ⟨v1, v2, rfl, f1, f2⟩ := g3.split
  obtain ⟨v3, v4, rfl, f3, f4⟩ := f2.split
  have l1 := f1.length
  rw [flatten_take g4 (by omega)] at l1
  have h7 := g2.drop
  rw [l1] at h7
  exact ⟨_, fun w' => Sil.indexAddr h1 (hm.evI hy).1 hk hlt, b, q + k * sz, v3, rfl, g1, h7.take, f3⟩
theorem A.idxF {α : Type} [Enc α] [Inhabited α] {t e sz bys : Nat} {zz : Value} [hu : HasU P t (.slice e)] [hi : HasI P e sz bys zz] {o oo : Bool} {ls : List α} {k : Nat} {i : Int} (hx : evA st x = .dt o sz (V.E oo ls)) (hy : evA st y = .i i) (hk : i = (k : Int)) (hlt : k < ls.length) :
    ASil true P w0 MP st ⟨d, .indexAddr t x y, ty, pos, af, g⟩ (.ip (enc oo (ls.getD k default))) :=
  A.idxD hx hy hk (E_get oo ls hlt)
/-! loads -/
theorem A.ldI {t : TypeId} [h1 : One P t] {a : AV} {cs : List AV} (hx : evA st x = .ip (a :: cs)) : ASil false P w0 MP st ⟨d, .load t x, ty, pos, af, g⟩ a := fun C Im E w hm => by
  have h := hm.ev x
  rw [hx] at h
  obtain ⟨b, q, us, h1, h2, h3, h4⟩ := h
  cases us with
  | nil => cases h4
  | cons v us => exact ⟨v, Sil.load h1 (by simpa using h3 0 v rfl), RV.imm h4.head⟩
theorem RVL.imm {N : Nat} {C : Nat → Option Conc} {Im : Nat → Prop} {w : World} {cs : List AV} {us : List Value} (h : Imm Im w cs us) : RVL N C Im w cs us := by
  induction h with
  | nil => rfl
  | int h1 _ ih => exact ⟨_, _, rfl, ⟨rfl, h1⟩, ih⟩
  | bool _ ih => exact ⟨_, _, rfl, rfl, ih⟩
  | no h1 _ ih => exact ⟨_, _, rfl, trivial, ih⟩
  | sl0 h1 _ ih => exact ⟨_, _, rfl, ⟨rfl, .sl0 h1 .nil⟩, ih⟩
  | sl h1 h2 h3 h4 h5 h6 _ _ ih => exact ⟨_, _, rfl, ⟨rfl, .sl h1 h2 h3 h4 h5 h6 .nil⟩, ih⟩
theorem A.ldG {t sz bys : Nat} {zz : Value} [h1 : Agg P t] [hi : HasI P t sz bys zz] {cs ds : List AV} (hx : evA st x = .ip cs) (hl : Nat.ble sz cs.length = true) (hd : cs.take sz = ds) : ASil false P w0 MP st ⟨d, .load t x, ty, pos, af, g⟩ (.agg ds) := fun C Im E w hm => by
  subst hd
  have hle := leB hl
  have h := hm.ev x
  rw [hx] at h
  obtain ⟨b, q, us, h1, h2, h3, h4⟩ := h
  rw [← List.take_append_drop sz cs] at h4
  obtain ⟨v1, v2, rfl, h5, h6⟩ := h4.split
  have hl := h5.length
  rw [List.length_take, Nat.min_eq_left hle] at hl
  exact ⟨_, Sil.loadAgg h1 h3.take hl, v1, rfl, RVL.imm h5⟩
theorem OR.cell {w0 : World} {MP : Fr} {N : Nat} {C : Nat → Option Conc} {Im : Nat → Prop} {w : World} {l : Bool} {sz : Nat} {xs : List (List AV)} {cc : Conc} (hO : OR w0 MP N C Im w l sz xs cc) {b i : Nat} {v : Value} (hb : own cc.hv = some b) (hi : cc.us[i]? = some v) : w.cell? ⟨b, i, none⟩ = some v := by
  obtain ⟨e, hB⟩ := hO.buf
  rcases hB.2 with ⟨_, p, h⟩ | ⟨b', c, cur, h, h2, h3, h4, h5, h6⟩
  · rw [h] at hb; cases p <;> simp [own] at hb
  · rw [h] at hb
    simp [own] at hb
    subst hb
    refine h2.cell ?_
    rw [← h6, List.getElem?_take] at hi
    split at hi
    · exact hi
    · cases hi
/-- not in memory of its own -/
def shr : AV → Bool
  | .dt true _ _ => false
  | _ => true
theorem shr_ne {a : AV} (h : shr a = true) : ∀ sz xs, a ≠ .dt true sz xs := fun sz xs e => by subst e; cases h
theorem A.ldR {t : TypeId} [h1 : One P t] {esz o n k j : Nat} {l : Bool} {xs : List (List AV)} {c : List AV} {a : AV} (hx : evA st x = .pt o n k j) (hh : st.hp o = .live l esz xs) (hn : xs.length = n) (hc : xs[k]? = some c) (hj : c[j]? = some a) (hs : shr a = true) :
    ASil false P w0 MP st ⟨d, .load t x, ty, pos, af, g⟩ a := fun C Im E w hm => by
  have h := hm.ev x
  rw [hx] at h
  obtain ⟨b, q, h1, h2, h3⟩ := h
  obtain ⟨cc, g1, hO⟩ := hm.obj o l _ xs hh
  obtain ⟨f1, rfl⟩ := (h3 cc g1).2 (by rw [hO.len, hn])
  obtain ⟨v, hv, hr⟩ := hO.lay.get (flatten_get hO.lens hc hj) (shr_ne hs)
  exact ⟨v, Sil.load h1 (hO.cell f1 hv), hr⟩
theorem OwnC.head {Im : Nat → Prop} {w : World} {a : AV} {v : Value} {F : List Nat} (h : OwnC Im w [a] [v] F) {Im' : Nat → Prop} (hI : ∀ k, Im k → Im' k) (hF : ∀ k ∈ F, Im' k) : Imm Im' w [V.frz a] [v] := h.frz hI hF
/-- data of one's own that are not written any more are read as what does not change -/
theorem A.ldL {t : TypeId} [h1 : One P t] {esz o n k j : Nat} {xs : List (List AV)} {c : List AV} {a : AV} (hx : evA st x = .pt o n k j) (hh : st.hp o = .live true esz xs) (hn : xs.length = n) (hc : xs[k]? = some c) (hj : c[j]? = some a) (hp : pureB a = true) :
    ASil false P w0 MP st ⟨d, .load t x, ty, pos, af, g⟩ (V.frz a) := fun C Im E w hm => by
  have h := hm.ev x
  rw [hx] at h
  obtain ⟨b, q, h1, h2, h3⟩ := h
  obtain ⟨cc, g1, hO⟩ := hm.obj o true _ xs hh
  obtain ⟨f1, rfl⟩ := (h3 cc g1).2 (by rw [hO.len, hn])
  obtain ⟨u1, u2, u3, F1, F2, F3, e1, e2, l1, l2, q1, q2, q3⟩ := hO.lay.cut (cutAt (flatten_get hO.lens hc hj))
  have hlt : k * cc.sz + j < xs.flatten.length := (List.getElem?_eq_some_iff.1 (flatten_get hO.lens hc hj)).1
  rw [List.length_take, Nat.min_eq_left (by omega)] at l1
  cases u2 with
  | nil => simp at l2
  | cons v u2 =>
    obtain rfl : u2 = [] := List.eq_nil_of_length_eq_zero (by simpa using l2)
    have hv : cc.us[k * cc.sz + j]? = some v := by rw [e1, List.getElem?_append_right (by omega), l1]; simp
    have hp' := q2.pure (by simpa using hp)
    refine ⟨v, Sil.load h1 (hO.cell f1 hv), RV.imm (hp'.head (fun _ h => h) fun k hk => ?_)⟩
    exact (hO.lent k (by rw [e2]; simp [hk])).2 rfl
theorem A.ldE {α : Type} [Enc α] [Inhabited α] {t : TypeId} [h1 : One P t] {esz o n k j : Nat} {l oo : Bool} {ls : List α} {a : AV} (hx : evA st x = .pt o n k j) (hh : st.hp o = .live l esz (V.E oo ls)) (hn : ls.length = n) (hk : k < ls.length) (hj : (enc oo (ls.getD k default))[j]? = some a) (hs : shr a = true) :
    ASil false P w0 MP st ⟨d, .load t x, ty, pos, af, g⟩ a := A.ldR hx hh (by rw [E_length, hn]) (E_get oo ls hk) hj hs
theorem A.ldF {α : Type} [Enc α] [Inhabited α] {t : TypeId} [h1 : One P t] {esz o n k j : Nat} {oo : Bool} {ls : List α} {a : AV} (hx : evA st x = .pt o n k j) (hh : st.hp o = .live true esz (V.E oo ls)) (hn : ls.length = n) (hk : k < ls.length) (hj : (enc false (ls.getD k default))[j]? = some a) :
    ASil false P w0 MP st ⟨d, .load t x, ty, pos, af, g⟩ a := by
  rw [← Enc.frz oo (ls.getD k default), frzL_map, List.getElem?_map] at hj
  obtain ⟨a', h1', rfl⟩ := Option.map_eq_some_iff.1 hj
  exact A.ldL hx hh (by rw [E_length, hn]) (E_get oo ls hk) h1' (List.all_eq_true.1 (Enc.pure oo _) _ (List.mem_of_getElem? h1'))
/-- a struct of an object -/
theorem A.ldRG {t sz bys : Nat} {zz : Value} [h1 : Agg P t] [hi : HasI P t sz bys zz] {esz o n k j : Nat} {l : Bool} {xs : List (List AV)} {c ds : List AV} (hx : evA st x = .pt o n k j) (hh : st.hp o = .live l esz xs) (hn : xs.length = n) (hc : xs[k]? = some c) (hj : (c.drop j).take sz = ds) (hl : ds.length = sz) (hs : ds.all shr = true) :
    ASil false P w0 MP st ⟨d, .load t x, ty, pos, af, g⟩ (.agg ds) := fun C Im E w hm => by
  have h := hm.ev x
  rw [hx] at h
  obtain ⟨b, q, h1, h2, h3⟩ := h
  obtain ⟨cc, g1, hO⟩ := hm.obj o l _ xs hh
  obtain ⟨f1, rfl⟩ := (h3 cc g1).2 (by rw [hO.len, hn])
  have key : ∀ (ds' : List AV) (j' : Nat), (∀ i a, ds'[i]? = some a → c[j' + i]? = some a) → ds'.all shr = true → ∃ us, us.length = ds'.length ∧ (∀ i v, us[i]? = some v → cc.us[k * cc.sz + (j' + i)]? = some v) ∧ RVL st.nx C Im w ds' us := by
    intro ds'
    induction ds' with
    | nil => intro j' _ _; exact ⟨[], rfl, fun i v h => by simp at h, rfl⟩
    | cons a ds' ih =>
      intro j' hd hs
      rw [List.all_cons, Bool.and_eq_true] at hs
      obtain ⟨us, u1, u2, u3⟩ := ih (j' + 1) (fun i a hi => by have := hd (i + 1) a (by simpa using hi); rwa [show j' + (i + 1) = j' + 1 + i by omega] at this) hs.2
      obtain ⟨v, hv, hr⟩ := hO.lay.get (flatten_get hO.lens hc (hd 0 a rfl)) (shr_ne hs.1)
      refine ⟨v :: us, by simp [u1], fun i u hi => ?_, v, us, rfl, hr, u3⟩
      cases i with
      | zero =>
        simp only [List.getElem?_cons_zero, Option.some.injEq] at hi
        subst hi; exact hv
      | succ i => have := u2 i u (by simpa using hi); rwa [show j' + 1 + i = j' + (i + 1) by omega] at this
  obtain ⟨us, u1, u2, u3⟩ := key ds j (fun i a hi => by
    rw [← hj, List.getElem?_take] at hi
    split at hi
    · rwa [List.getElem?_drop] at hi
    · cases hi) hs
  refine ⟨.agg us.toArray, Sil.loadAgg h1 (fun i v hi => ?_) (u1.trans hl), us, rfl, u3⟩
  have := hO.cell f1 (u2 i v hi)
  rwa [show k * cc.sz + j + i = k * cc.sz + (j + i) by omega]
theorem A.ldEG {α : Type} [Enc α] [Inhabited α] {t sz bys : Nat} {zz : Value} [h1 : Agg P t] [hi : HasI P t sz bys zz] {esz o n k : Nat} {l oo : Bool} {ls : List α} (hx : evA st x = .pt o n k 0) (hh : st.hp o = .live l esz (V.E oo ls)) (hn : ls.length = n) (hk : k < ls.length) (hz : Enc.nc α = sz) (hs : (enc oo (ls.getD k default)).all shr = true) :
    ASil false P w0 MP st ⟨d, .load t x, ty, pos, af, g⟩ (.agg (enc oo (ls.getD k default))) :=
  A.ldRG hx hh (by rw [E_length, hn]) (E_get oo ls hk) (by rw [List.drop_zero, List.take_of_length_le (by rw [Enc.len, hz]; exact Nat.le_refl _)]) (by rw [Enc.len, hz]) hs
theorem A.ldFG {α : Type} [Enc α] [Inhabited α] {t sz bys : Nat} {zz : Value} [h1 : Agg P t] [hi : HasI P t sz bys zz] {esz o n k : Nat} {oo : Bool} {ls : List α} (hx : evA st x = .pt o n k 0) (hh : st.hp o = .live true esz (V.E oo ls)) (hn : ls.length = n) (hk : k < ls.length) (hz : Enc.nc α = sz) :
    ASil false P w0 MP st ⟨d, .load t x, ty, pos, af, g⟩ (.agg (enc false (ls.getD k default))) := fun C Im E w hm => by
  have h := hm.ev x
  rw [hx] at h
  obtain ⟨b, q, h1, h2, h3⟩ := h
  obtain ⟨cc, g1, hO⟩ := hm.obj o true _ _ hh
  obtain ⟨f1, rfl⟩ := (h3 cc g1).2 (by rw [hO.len, E_length, hn])
  obtain ⟨u1, u2, u3, F1, F2, F3, e1, e2, l1, l2, q1, q2, q3⟩ := hO.lay.cut (flatten_cut (E_get oo ls hk))
  rw [flatten_take hO.lens (by rw [E_length]; omega)] at l1
  have hp' := (q2.pure (Enc.pure oo _)).frz (fun _ h => h) fun k hk => (hO.lent k (by rw [e2]; simp [hk])).2 rfl
  rw [Enc.frz] at hp'
  refine ⟨_, Sil.loadAgg h1 (vs := u2) (fun i v hi => ?_) (by rw [l2, Enc.len, hz]), u2, rfl, RVL.imm hp'⟩
  refine hO.cell f1 ?_
  rw [e1, List.getElem?_append_right (by omega), l1, Nat.add_zero, Nat.add_sub_cancel_left, List.getElem?_append_left (List.getElem?_eq_some_iff.1 hi).1, hi]
theorem RVL.get {N : Nat} {C : Nat → Option Conc} {Im : Nat → Prop} {w : World} : ∀ {cs : List AV} {us : List Value} {i : Nat} {a : AV}, RVL N C Im w cs us → cs[i]? = some a → ∃ v, us[i]? = some v ∧ RV N C Im w a v
  | [], us, i, a, _, hi => by simp at hi
  | b :: cs, us, 0, a, ⟨v, vs, h1, h2, h3⟩, hi => by
    simp only [List.getElem?_cons_zero, Option.some.injEq] at hi
    subst hi; subst h1; exact ⟨v, rfl, h2⟩
  | b :: cs, us, i + 1, a, ⟨v, vs, h1, h2, h3⟩, hi => by
    subst h1
    obtain ⟨u, g1, g2⟩ := RVL.get h3 (i := i) (by simpa using hi)
    exact ⟨u, by simpa using g1, g2⟩
theorem A.ext {i : Nat} {cs : List AV} {a : AV} (hx : evA st x = .tu cs) (hi : cs[i]? = some a) : ASil true P w0 MP st ⟨d, .extract x i, ty, pos, af, g⟩ a := fun C Im E w hm => by
  have h := hm.ev x
  rw [hx] at h
  obtain ⟨us, h1, h2⟩ := h
  obtain ⟨v, g1, g2⟩ := h2.get hi
  exact ⟨v, fun w' => Sil.extract h1 (by simpa using g1), g2⟩
theorem A.mkF {f : FuncId} {cs : Array Operand} {as : List AV} (hc : cs.toList.map (evA st) = as) : ASil true P w0 MP st ⟨d, .makeFunc (.func f) #[] cs, ty, pos, af, g⟩ (.fn f as) := fun C Im E w hm => by
  subst hc
  exact ⟨_, fun w' => Sil.makeFunc (vs := []) rfl rfl, _, rfl, hm.evL _⟩
end
end Go.Proofs.Ytcalkmlaodjpaaa.V
