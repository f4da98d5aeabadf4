/- Plain: points by their bytes. -/
import Derived.Test.YtdeihgcgglhhcaaPaZLHME
section
set_option linter.unusedVariables false
namespace Go.Proofs.Ytdeihgcgglhhcaa.V
def tbx : Pt → List UInt8
  | none => z0
  | some (x, _) => beN 32 x.val
def tby : Pt → List UInt8
  | none => z0
  | some (_, y) => beN 32 y.val
def tbi : Pt → Bool
  | none => true
  | some _ => false
/-- A point's value. -/
abbrev pP (P : Pt) : Value := pnt (tbx P) (tby P) (tbi P)
theorem tbx_len (P : Pt) : (tbx P).length = 32 := by cases P with | none => rfl | some p => exact beN_len _ _
theorem tby_len (P : Pt) : (tby P).length = 32 := by cases P with | none => rfl | some p => exact beN_len _ _
theorem px_tb {X Y Z : Fp} {P : Pt} (h : Rp X Y Z P) : px X Z = tbx P ∧ px Y Z = tby P ∧ decide (Z = 0) = tbi P := by
  cases P with
  | none =>
    obtain ⟨_, h2, _⟩ := h
    unfold px
    rw [if_pos h2, if_pos h2, decide_eq_true h2]
    exact ⟨rfl, rfl, rfl⟩
  | some p =>
    obtain ⟨x, y⟩ := p
    obtain ⟨h1, h2, h3⟩ := h
    unfold px
    rw [if_neg h1, if_neg h1, decide_eq_false h1]
    have i1 := fld.inv Z h1
    have e1 : finv Z * X = x := by rw [h2]; generalize finv Z = i at i1; grind
    have e2 : finv Z * Y = y := by rw [h3]; generalize finv Z = i at i1; grind
    rw [e1, e2]
    exact ⟨rfl, rfl, rfl⟩
theorem qx_tb {X Y Z : Fp} {P : Pt} (h : Rj X Y Z P) : qx X Z = tbx P ∧ qy Y Z = tby P ∧ decide (Z = 0) = tbi P := by
  cases P with
  | none =>
    have h : Z = 0 := h
    unfold qx qy
    rw [if_pos h, if_pos h, decide_eq_true h]
    exact ⟨rfl, rfl, rfl⟩
  | some p =>
    obtain ⟨x, y⟩ := p
    obtain ⟨h1, h2, h3⟩ := h
    unfold qx qy
    rw [if_neg h1, if_neg h1, decide_eq_false h1]
    have i1 := fld.inv Z h1
    have e1 : X * (finv Z * finv Z) = x := by rw [h2]; generalize finv Z = i at i1; grind
    have e2 : Y * (finv Z * finv Z * finv Z) = y := by rw [h3]; generalize finv Z = i at i1; grind
    rw [e1, e2]
    exact ⟨rfl, rfl, rfl⟩
theorem be_val (x : Fp) : be (beN 32 x.val) = x.val := by
  rw [be_beN]
  exact Nat.mod_eq_of_lt (Nat.lt_trans x.isLt p_lt)
/-- The point that bytes are. -/
def toP (x y : List UInt8) (i : Bool) : Pt := if i then none else some (of (be x), of (be y))
theorem on_tb {x y : List UInt8} {i : Bool} (hx : x.length = 32) (hy : y.length = 32) (h : onP x y i = true) : Oc (toP x y i) ∧ x = tbx (toP x y i) ∧ y = tby (toP x y i) ∧ i = tbi (toP x y i) := by
  cases i with
  | true =>
    obtain ⟨rfl, rfl⟩ := on_far h
    exact ⟨trivial, rfl, rfl, rfl⟩
  | false =>
    obtain ⟨h1, h2⟩ := on_lt h
    have e1 : beN 32 (of (be x)).val = x := by rw [of_val, Nat.mod_eq_of_lt h1, beN_be' hx]
    have e2 : beN 32 (of (be y)).val = y := by rw [of_val, Nat.mod_eq_of_lt h2, beN_be' hy]
    refine ⟨?_, e1.symm, e2.symm, rfl⟩
    simp only [onP, Bool.false_eq_true, if_false, Bool.and_eq_true, decide_eq_true_eq, onC] at h
    exact h.2.2
theorem tb_on {P : Pt} (h : Oc P) : onP (tbx P) (tby P) (tbi P) = true := by
  cases P with
  | none => rfl
  | some p =>
    obtain ⟨x, y⟩ := p
    show onP (beN 32 x.val) (beN 32 y.val) false = true
    simp only [onP, Bool.false_eq_true, if_false, Bool.and_eq_true, decide_eq_true_eq, onC, be_val, of_inj]
    exact ⟨x.isLt, y.isLt, h⟩
theorem at3_tb (P : Pt) (hP : Oc P) : RT (at3 (tbx P) (tby P) (tbi P)) P := by
  cases P with
  | none => exact ⟨rfl, rfl, one_ne⟩
  | some p =>
    obtain ⟨x, y⟩ := p
    obtain ⟨h1, h2⟩ := on_lt (tb_on hP)
    have e : at3 (tbx (some (x, y))) (tby (some (x, y))) (tbi (some (x, y))) = (x, y, 1) := by
      show at3 (tbx (some (x, y))) (tby (some (x, y))) false = _
      unfold at3
      rw [if_neg (by decide), if_pos ⟨h1, h2⟩]
      show (of (be (beN 32 x.val)), of (be (beN 32 y.val)), (1 : Fp)) = _
      rw [be_val, be_val, of_inj, of_inj]
    rw [e]
    exact RT_one x y
theorem aj_tb (P : Pt) : Rj (aX (tbx P) (tbi P)) (aX (tby P) (tbi P)) (aZ (tbi P)) P := by
  cases P with
  | none => rfl
  | some p =>
    obtain ⟨x, y⟩ := p
    have e : aX (tbx (some (x, y))) (tbi (some (x, y))) = x := by
      show of (be (beN 32 x.val)) = x
      rw [be_val, of_inj]
    have e2 : aX (tby (some (x, y))) (tbi (some (x, y))) = y := by
      show of (be (beN 32 y.val)) = y
      rw [be_val, of_inj]
    rw [e, e2]
    show Rj x y 1 (some (x, y))
    exact ⟨one_ne, by grind, by grind⟩
/-- The document's sum. -/
theorem refAddP (P Q : Pt) (G : GH) (hP : Oc P) (hQ : Oc Q) : HC Try.prog 17 #[pP P, pP Q] G fun v G' => v = pP (ad P Q) ∧ G.le G' := by
  have h := refAddR (tbx P) (tby P) (tbx Q) (tby Q) (tbi P) (tbi Q) G (tbx_len P) (tby_len P) (tbx_len Q) (tby_len Q)
  obtain ⟨e1, e2, e3⟩ := qx_tb (rj_add fld hP hQ (aj_tb P) (aj_tb Q))
  unfold arX arY arI rX rY rZ at h
  rw [e1, e2, e3] at h
  exact h
end Go.Proofs.Ytdeihgcgglhhcaa.V
end
section
/- Sums of points: the program's Sum and Add. -/
set_option linter.unusedSimpArgs false
set_option linter.unusedVariables false
set_option maxRecDepth 20000
-- @retp
-- @extra s_nilck s_fptr0
-- @pre g_lload s_lloadL s_lloadPI s_lloadPX s_lloadPY s_lloadPP
-- @pre g_lstore s_lstoreL s_lstoreP
-- @pre g_lbox s_lboxL s_lboxP
-- @pre g_build s_bp3 s_bp2 s_bp1 s_bp0
namespace Go.Proofs.Ytdeihgcgglhhcaa.V
open Go.RowKit Go.ChangeShapes Go.WideShapes
/-- A point's bytes. -/
abbrev BP := List UInt8 × List UInt8 × Bool
abbrev BP.ok (t : BP) : Prop := t.1.length = 32 ∧ t.2.1.length = 32
abbrev BP.val (t : BP) : Value := pnt t.1 t.2.1 t.2.2
def BP.cs (t : BP) : List Value := t.1.map bv ++ (t.2.1.map bv ++ [Value.bool t.2.2])
theorem BP.cs_len {t : BP} (h : t.ok) : t.cs.length = 65 := by simp [BP.cs, h.1, h.2]
abbrev BP.on (t : BP) : Bool := onP t.1 t.2.1 t.2.2
abbrev BP.pt (t : BP) : Pt := toP t.1 t.2.1 t.2.2
/-- A row of points. -/
abbrev Ps (G : GH) (u : Value) (l : List BP) : Prop := Sl 65 G u (l.flatMap BP.cs)
theorem flatP_len : ∀ l : List BP, (∀ t ∈ l, t.ok) → (l.flatMap BP.cs).length = l.length * 65
  | [], _ => rfl
  | t :: l, h => by
    rw [List.flatMap_cons, List.length_append, BP.cs_len (h t (List.mem_cons_self)), flatP_len l fun t ht => h t (List.mem_cons_of_mem _ ht), List.length_cons]
    omega
theorem flatP_drop : ∀ (l : List BP) (j : Nat) (h : ∀ t ∈ l, t.ok) (hj : j < l.length), ((l.flatMap BP.cs).drop (j * 65)).take 65 = (l[j]).cs
  | t :: l, 0, h, _ => by
    have := BP.cs_len (h t (List.mem_cons_self))
    rw [List.flatMap_cons, Nat.zero_mul, List.drop_zero, List.take_append_of_le_length (by omega), List.take_of_length_le (by omega)]
    rfl
  | t :: l, j + 1, h, hj => by
    have e := BP.cs_len (h t (List.mem_cons_self))
    rw [List.flatMap_cons, List.drop_append, List.drop_of_length_le (by omega), List.nil_append, e, show (j + 1) * 65 - 65 = j * 65 by omega]
    exact flatP_drop l j (fun t ht => h t (List.mem_cons_of_mem _ ht)) (by simpa using hj)
theorem Ps.len {G : GH} {u : Value} {l : List BP} (h : Ps G u l) (hl : ∀ t ∈ l, t.ok) : lenS u = l.length := by
  have := Sl.len h
  rw [flatP_len l hl] at this
  omega
theorem Ps.idx {G : GH} {u : Value} {l : List BP} (h : Ps G u l) (hl : ∀ t ∈ l, t.ok) {j : Nat} (hj : j < l.length) : ∃ p, pureV (.iptrS 65) [u, .int .i64 j] = some p ∧ PtR G p 65 true (l[j]).val := by
  obtain ⟨b, q, cs, e, fr, h1, h2, h3, h4⟩ := h.idxA (k := .i64) (j := (j : Int)) (by omega) (by rw [h.len hl]; omega) (by decide)
  refine ⟨_, h1, b, q, cs, e, fr, rfl, h2, ?_⟩
  rw [Int.toNat_natCast, flatP_drop l j hl hj] at h4
  show (if q + 65 ≤ cs.size then some (Value.agg (cs.extract q (q + 65))) else none) = some (Value.agg (pcells _ _ _))
  rw [if_pos h3]
  congr 2
  apply Array.ext'
  rw [h4]
  rfl
section
variable {P : Program} {E : Env} {K : St → Prop} {r : List Stp} {dd : Option Nat} {L : SL} {A : AL} {G : GH}
theorem o_idxP {d : Nat} {x y : Operand} {u : Value} {j : Nat} {l : List BP} (hx : evo L x = some u) (hb : Ps G u l) (hl : ∀ t ∈ l, t.ok) (hy : evo L y = some (.int .i64 j)) (hj : j < l.length) (h : ∀ p, PtR G p 65 true (l[j]).val → vops P E r K (S (.set d p L) A G)) : vops P E (⟨none, dd, .pure d (.iptrS 65) [x, y]⟩ :: r) K (S L A G) := by
  obtain ⟨p, h1, h2⟩ := hb.idx hl hj
  exact o_pure (vs := [u, .int .i64 j]) (by simp only [evs, hx, hy]) h1 (h p h2)
end
/-- What Sum tells of points, behind a sum. -/
def sumV : List BP → Pt → Value
  | [], acc => .tuple #[pP acc, .int .i64 0]
  | t :: l, acc => if t.on then sumV l (ad acc t.pt) else .tuple #[pnt z0 z0 false, .int .i64 100]
theorem sumV_drop {l : List BP} {j : Nat} (hj : j < l.length) (acc : Pt) : sumV (l.drop j) acc = if (l[j]).on then sumV (l.drop (j + 1)) (ad acc (l[j]).pt) else .tuple #[pnt z0 z0 false, .int .i64 100] := by
  rw [List.drop_eq_getElem_cons hj]
  rfl
theorem at_RT {t : BP} (ht : t.ok) (h : t.on = true) : Oc t.pt ∧ RT (at3 t.1 t.2.1 t.2.2) t.pt := by
  obtain ⟨h1, h2, h3, h4⟩ := on_tb ht.1 ht.2 h
  refine ⟨h1, ?_⟩
  have := at3_tb t.pt h1
  rw [← h2, ← h3, ← h4] at this
  exact this
theorem at3F (t : BP) (ht : t.ok) (G : GH) : HC Try.prog 34 #[t.val] G fun v G' => v = .tuple #[plc (at3 t.1 t.2.1 t.2.2).1 (at3 t.1 t.2.1 t.2.2).2.1 (at3 t.1 t.2.1 t.2.2).2.2, .bool t.on] ∧ G.le G' := by
  have := atF t.1 t.2.1 t.2.2 G ht.1 ht.2
  rw [atV_eq] at this
  exact this
theorem pointP {X Y Z : Fp} {P : Pt} (h : RT (X, Y, Z) P) (G : GH) : HC Try.prog 36 #[plc X Y Z] G fun v G' => v = pP P ∧ G.le G' := by
  have := pointF X Y Z G
  obtain ⟨e1, e2, e3⟩ := px_tb h
  rw [e1, e2, e3] at this
  exact this
theorem plusP {X Y Z X' Y' Z' : Fp} (G : GH) : HC Try.prog 35 #[plc X Y Z, plc X' Y' Z'] G fun v G' => v = plc (cP (X, Y, Z) (X', Y', Z')).1 (cP (X, Y, Z) (X', Y', Z')).2.1 (cP (X, Y, Z) (X', Y', Z')).2.2 ∧ G.le G' := placePlusF X Y Z X' Y' Z' G
theorem sumF (u : Value) (l : List BP) (G : GH) (hu : Ps G u l) (hl : ∀ t ∈ l, t.ok) : HC Try.prog 14 #[u] G fun v G' => v = sumV l none ∧ G.le G' := by
  have hn := hu.len hl
  have hm := hu.len_le
  rw [hn] at hm
  have hlen := Sl.lenL hu
  rw [hn] at hlen
  refine HC.start comp14 rfl ?_; unfold pc14
  (repeat' (first | (with_reducible refine i_ops ?_; first | (refine g_mv ?_; refine s_mv ?_) | refine o_nil ?_ | (refine g_lstore ?_; refine s_lstoreL ?_) | (refine g_lalloc ?_; refine s_lalloc ?_) | (refine o_callg qrf (by exact farF _) ?_; intro G' hle)) | (with_reducible refine i_vc ?_; first | refine v_seq ?_ | refine v_ops ?_) | (with_reducible refine n_then ?_)))
  refine o_pure (vs := [u]) (v := .int .i64 l.length) qrf hlen ?_
  (repeat' (first | (with_reducible refine i_ops ?_; first | (refine g_mv ?_; refine s_mv ?_) | refine o_nil ?_) | (with_reducible refine i_vc ?_; refine v_block ?_) | (with_reducible refine n_then ?_)))
  refine v_loopX (α := Nat × GH × Pt × Fp × Fp × Fp) (fun y => y.1 ≤ l.length ∧ G.le y.2.1 ∧ Oc y.2.2.1 ∧ RT y.2.2.2 y.2.2.1 ∧ sumV (l.drop y.1) y.2.2.1 = sumV l none)
    (fun y => [(2, .int .u64 0), (3, .int .i64 0), (4, .int .u64 0), (10, u), (11, .int .i64 l.length), (12, .int .i64 y.1)]) (fun y => [(2, pcells z0 z0 false), (4, lcells y.2.2.2.1 y.2.2.2.2.1 y.2.2.2.2.2)]) (fun y => y.2.1) (fun y => l.length - y.1) (0, _, none, 0, 1, 0)
    ⟨Nat.zero_le _, by assumption, trivial, ⟨rfl, rfl, one_ne⟩, rfl⟩ qhs qhl rfl ?_
  rintro ⟨i, H, acc, X, Y, Z⟩ s ll ⟨k1, k2, k3, k4, k5⟩
  dsimp only at k1 k2 k3 k4 k5
  dsimp only [SL.sets, AL.sets]
  have hz0 := z0_len
  have ht := tbx_len acc
  have ht' := tby_len acc
  (repeat' (first | (with_reducible refine i_ops ?_; first | (refine g_mv ?_; refine s_mv ?_) | refine o_nil ?_ | (refine g_pure ?_; refine s_pure ?_) | (refine g_lload ?_; refine s_lloadL ?_) | (refine g_lstore ?_; refine s_lstoreP ?_) | (refine o_callg qrf (by exact pointP k4 _) ?_; intro G' hle)) | (with_reducible refine i_vc ?_; first | refine v_seq ?_ | refine v_ops ?_ | (refine g_cond ?_; first | refine s_cond_t ?_ | refine s_cond_f ?_) | refine v_block ?_ | refine v_skip ?_ | refine v_exit ?_ | refine v_ret ?_) | (with_reducible first | refine n_then ?_ | refine e_then ?_ | refine e_block_eq qrf ?_) | ((with_reducible refine s_cond_c ?_ ?_) <;> intro hb <;> rw [hb] <;> (try simp only [decide_eq_true_eq, decide_eq_false_iff_not, beq_iff_eq, bne_iff_ne, beq_eq_false_iff_ne, bne_eq_false_iff_eq, ne_eq, Int.not_lt, Int.not_le, gt_iff_lt, ge_iff_le, Bool.not_eq_true', Bool.not_eq_false'] at hb)) | ((with_reducible refine s_retP2 ?_); try simp only [x_tup0, x_tup1, x_tup2, x_tup3, x_tup4, x_tup5, and_true, true_and])))
  · have hi : i < l.length := by omega
    refine o_idxP qrf (hu.le k2) hl qrf hi ?_
    intro p hp
    have hok := hl _ (List.getElem_mem hi)
    have e5 := sumV_drop hi acc
    obtain ⟨hok1, hok2⟩ := hok
    have c1 := at3F l[i] ⟨hok1, hok2⟩
    (repeat' (first | (with_reducible refine i_ops ?_; first | (refine g_mv ?_; refine s_mv ?_) | refine o_nil ?_ | (refine g_build ?_; refine s_bp0 ?_) | (refine g_pure ?_; refine s_pure ?_) | (refine g_lload ?_; first | refine s_lloadL ?_ | refine s_lloadPP ?_) | (refine g_lstore ?_; first | refine s_lstoreL ?_ | refine s_lstoreP ?_) | (refine g_lalloc ?_; refine s_lalloc ?_) | (refine g_hload ?_; refine s_hloadP ?_) | (refine o_callg qrf (by first | exact c1 _ | exact plusP _) ?_; intro G' hle)) | (with_reducible refine i_vc ?_; first | refine v_seq ?_ | refine v_ops ?_ | (refine g_cond ?_; first | refine s_cond_t ?_ | refine s_cond_f ?_) | refine v_skip ?_ | refine v_ret ?_) | (with_reducible first | refine n_then ?_ | refine r_then ?_ | refine n_block ?_ | refine r_block ?_) | ((with_reducible refine s_cond_c ?_ ?_) <;> intro hb <;> rw [hb] <;> (try simp only [decide_eq_true_eq, decide_eq_false_iff_not, beq_iff_eq, bne_iff_ne, beq_eq_false_iff_ne, bne_eq_false_iff_eq, ne_eq, Int.not_lt, Int.not_le, gt_iff_lt, ge_iff_le, Bool.not_eq_true', Bool.not_eq_false'] at hb)) | ((with_reducible refine s_retP2 ?_); try simp only [x_tup0, x_tup1, x_tup2, x_tup3, x_tup4, x_tup5, and_true, true_and])))
    · refine ⟨?_, qle⟩
      rw [← k5, e5, if_neg]
      rw [hb]; decide
    · rw [if_pos hb] at e5
      obtain ⟨o1, o2⟩ := at_RT ⟨hok1, hok2⟩ hb
      exact ⟨l.length - (i + 1), by omega, (i + 1, _, ad acc (l[i]).pt, _, _, _), rfl, ⟨by dsimp only; omega, by dsimp only; exact qle, oc_ad fld k3 o1, RT_add k3 o1 k4 o2, by dsimp only; rw [← e5, k5]⟩, qhs, qhl, rfl⟩
  · have hi : i = l.length := by omega
    rw [← k5, hi, List.drop_length]
    exact ⟨rfl, qle⟩
end Go.Proofs.Ytdeihgcgglhhcaa.V
end
section
/- Sums of two and three points, multiples: the program's Add and Mul. -/
set_option linter.unusedSimpArgs false
set_option linter.unusedVariables false
set_option maxRecDepth 20000
-- @retp
-- @extra s_bshr s_bandc s_beqc s_bremc s_nquoc s_nremc s_nsubL s_nilck s_fptr0
-- @pre g_lload s_lloadL s_lloadPI s_lloadPX s_lloadPY s_lloadPP s_lloadK
-- @pre g_lstore s_lstoreL s_lstoreP
-- @pre g_lbox s_lboxL s_lboxP s_lboxD
-- @pre g_build s_bp3 s_bp2 s_bp1 s_bp0
namespace Go.Proofs.Ytdeihgcgglhhcaa.V
open Go.RowKit Go.ChangeShapes Go.WideShapes
theorem bshr (b : UInt8) (n : Nat) (k : IntKind) (hn : n < 8) : pureV (.bin .shr) [bv b, .int k (n : Int)] = some (iv .u8 (b.toNat / 2 ^ n)) := by
  have h8 := b.toNat_lt
  rw [x_shr, if_neg (by omega)]
  have e : min (Int.toNat (n : Int)) IntKind.u8.bits = n := by rw [x_bits8]; omega
  have e2 : ((2 : Int) ^ n) = ((2 ^ n : Nat) : Int) := by rw [Int.natCast_pow]; rfl
  rw [e, e2, Int.fdiv_eq_ediv_of_nonneg _ (Int.natCast_nonneg _), ← Int.natCast_ediv]
theorem band1 (x : Nat) (hx : x < 256) : pureV (.bin .and) [iv .u8 x, .int .u8 1] = some (iv .u8 (x % 2)) := by
  rw [x_and]
  have e1 : (BitVec.ofInt IntKind.u8.bits (x : Int) &&& BitVec.ofInt IntKind.u8.bits (1 : Int)).toNat = x % 2 := by
    have e2 : (BitVec.ofInt IntKind.u8.bits (x : Int)).toNat = x := by
      rw [x_bits8, BitVec.toNat_ofInt]; omega
    have e3 : (BitVec.ofInt IntKind.u8.bits (1 : Int)).toNat = 1 := by rw [x_bits8]; rfl
    rw [BitVec.toNat_and, e2, e3, Nat.and_one_is_mod]
  rw [e1, wrap_u8, Int.emod_eq_of_lt (by omega) (by omega)]
theorem brem2 (x : Nat) : pureV (.bin .rem) [iv .u8 x, .int .u8 2] = some (iv .u8 (x % 2)) := by
  rw [x_rem, if_neg (by decide), Int.tmod_eq_emod_of_nonneg (by omega)]
  rfl
section
variable {P : Program} {E : Env} {K : St → Prop} {r : List Stp} {dd : Option Nat} {L : SL} {A : AL} {G : GH}
theorem s_bshr {d : Nat} {xs : List Operand} {k : IntKind} {b : UInt8} {n : Nat} (h : vops P E r K (S (.set d (iv .u8 (b.toNat / 2 ^ n)) L) A G)) (hx : evs L xs = some [bv b, .int k (n : Int)] := by with_unfolding_all rfl) (hn : n < 8 := by omega) : vops P E (⟨none, dd, .pure d (.bin .shr) xs⟩ :: r) K (S L A G) := o_pure hx (bshr b n k hn) h
theorem s_bandc {d : Nat} {a : Operand} {b : UInt8} {n : Nat} (h : vops P E r K (S (.set d (iv .u8 (b.toNat / 2 ^ n % 2)) L) A G)) (hx : evs L [a, .const (.int .u8 1)] = some [iv .u8 (b.toNat / 2 ^ n), .int .u8 1] := by with_unfolding_all rfl) : vops P E (⟨none, dd, .pure d (.bin .and) [a, .const (.int .u8 1)]⟩ :: r) K (S L A G) :=
  o_pure hx (band1 _ (Nat.lt_of_le_of_lt (Nat.div_le_self _ _) b.toNat_lt)) h
theorem s_bremc {d : Nat} {a : Operand} {x : Nat} (h : vops P E r K (S (.set d (iv .u8 (x % 2)) L) A G)) (hx : evs L [a, .const (.int .u8 2)] = some [iv .u8 x, .int .u8 2] := by with_unfolding_all rfl) : vops P E (⟨none, dd, .pure d (.bin .rem) [a, .const (.int .u8 2)]⟩ :: r) K (S L A G) := o_pure hx (brem2 x) h
theorem s_beqc {d : Nat} {a : Operand} {x : Nat} (h : vops P E r K (S (.set d (.bool (decide (x % 2 = 1))) L) A G)) (hx : evs L [a, .const (.int .u8 1)] = some [iv .u8 (x % 2), .int .u8 1] := by with_unfolding_all rfl) : vops P E (⟨none, dd, .pure d (.bin .eql) [a, .const (.int .u8 1)]⟩ :: r) K (S L A G) := by
  refine o_pure hx ?_ h
  rw [x_eql]
  congr 2
  rw [Bool.eq_iff_iff, beq_iff_eq, decide_eq_true_eq]
  omega
/-- Rows of points made. -/
theorem o_bslice2 {d : Nat} {e : TypeId} {z : Array Value} {xs : List Operand} {a b : BP} (ha : a.ok) (hb : b.ok) (hx : evs L xs = some [a.val, b.val]) (hz : z.size = 130) (h : ∀ u G', G.le G' → Ps G' u [a, b] → vops P E r K (S (.set d u L) A G')) : vops P E (⟨none, dd, .bslice d e 2 z [(0, 65), (65, 65)] xs⟩ :: r) K (S L A G) := by
  have ea := BP.cs_len ha
  have eb := BP.cs_len hb
  have hzl : z = z.toList.toArray := by simp
  refine o_bslice (cs := (a.cs ++ b.cs).toArray) hx ?_ fun c hc => h _ _ (GH.le_put _ hc) ?_
  · rw [hzl, fill_step (v := a.val) (ws := a.cs) rfl ea (by simp [hz]), fill_step (v := b.val) (ws := b.cs) rfl eb (by simp [hz, ea])]
    show some _ = _
    congr 2
    have e2 : List.take 65 a.cs = a.cs := List.take_of_length_le (by omega)
    have e4 : List.drop 130 a.cs = [] := List.drop_of_length_le (by omega)
    have e3 : List.drop 130 z.toList = [] := List.drop_of_length_le (by simp [hz])
    simp [List.take_append, List.drop_append, ea, e2, e3, e4]
  · have e1 : ((a.cs ++ b.cs).toArray).size = 130 := by simp [ea, eb]
    refine ⟨?_, by simp [okS]⟩
    rw [rd_of (n := 65) (GH.put_same _ _ _) (by rw [e1]; decide)]
    have : (a.cs ++ b.cs).toArray.extract 0 (0 + 2 * 65) = (a.cs ++ b.cs).toArray := by
      rw [show 0 + 2 * 65 = (a.cs ++ b.cs).toArray.size from e1.symm, Array.extract_size]
    rw [this]
    simp
theorem o_bslice3 {d : Nat} {e : TypeId} {z : Array Value} {xs : List Operand} {a b c : BP} (ha : a.ok) (hb : b.ok) (hc : c.ok) (hx : evs L xs = some [a.val, b.val, c.val]) (hz : z.size = 195) (h : ∀ u G', G.le G' → Ps G' u [a, b, c] → vops P E r K (S (.set d u L) A G')) : vops P E (⟨none, dd, .bslice d e 3 z [(0, 65), (65, 65), (130, 65)] xs⟩ :: r) K (S L A G) := by
  have ea := BP.cs_len ha
  have eb := BP.cs_len hb
  have ec := BP.cs_len hc
  have hzl : z = z.toList.toArray := by simp
  refine o_bslice (cs := (a.cs ++ (b.cs ++ c.cs)).toArray) hx ?_ fun c' hc' => h _ _ (GH.le_put _ hc') ?_
  · rw [hzl, fill_step (v := a.val) (ws := a.cs) rfl ea (by simp [hz]), fill_step (v := b.val) (ws := b.cs) rfl eb (by simp [hz, ea]), fill_step (v := c.val) (ws := c.cs) rfl ec (by simp [hz, ea, eb])]
    show some _ = _
    congr 2
    have e2 : List.take 65 a.cs = a.cs := List.take_of_length_le (by omega)
    have e4 : List.drop 130 a.cs = [] := List.drop_of_length_le (by omega)
    have e5 : List.drop 195 a.cs = [] := List.drop_of_length_le (by omega)
    have e6 : List.take 130 a.cs = a.cs := List.take_of_length_le (by omega)
    have e7 : List.take 65 b.cs = b.cs := List.take_of_length_le (by omega)
    have e8 : List.drop 130 b.cs = [] := List.drop_of_length_le (by omega)
    have e3 : List.drop 195 z.toList = [] := List.drop_of_length_le (by simp [hz])
    simp [List.take_append, List.drop_append, ea, eb, e2, e3, e4, e5, e6, e7, e8]
  · have e1 : ((a.cs ++ (b.cs ++ c.cs)).toArray).size = 195 := by simp [ea, eb, ec]
    refine ⟨?_, by simp [okS]⟩
    rw [rd_of (n := 65) (GH.put_same _ _ _) (by rw [e1]; decide)]
    have : (a.cs ++ (b.cs ++ c.cs)).toArray.extract 0 (0 + 3 * 65) = (a.cs ++ (b.cs ++ c.cs)).toArray := by
      rw [show 0 + 3 * 65 = (a.cs ++ (b.cs ++ c.cs)).toArray.size from e1.symm, Array.extract_size]
    rw [this]
    simp
end
/-- What a call tells of points. -/
theorem sumV_shape : ∀ (l : List BP) (acc : Pt), (∃ P, sumV l acc = .tuple #[pP P, .int .i64 0]) ∨ sumV l acc = .tuple #[pnt z0 z0 false, .int .i64 100]
  | [], acc => .inl ⟨acc, rfl⟩
  | t :: l, acc => by
    rw [sumV]
    split
    · exact sumV_shape l _
    · exact .inr rfl
theorem addF (a b : BP) (G : GH) (ha : a.ok) (hb : b.ok) : HC Try.prog 13 #[a.val, b.val] G fun v G' => v = sumV [a, b] none ∧ G.le G' := by
  obtain ⟨a1, a2⟩ := ha
  obtain ⟨b1, b2⟩ := hb
  refine HC.start comp13 rfl ?_; unfold pc13
  (repeat' (first | (with_reducible refine i_ops ?_; first | (refine g_mv ?_; refine s_mv ?_) | refine o_nil ?_ | (refine g_lload ?_; refine s_lloadPP ?_) | (refine g_lalloc ?_; refine s_lalloc ?_) | (refine g_lbox ?_; refine s_lboxP ?_)) | (with_reducible refine i_vc ?_; first | refine v_seq ?_ | refine v_ops ?_) | (with_reducible refine n_then ?_)))
  refine o_bslice2 ⟨a1, a2⟩ ⟨b1, b2⟩ qrf qrf ?_
  intro u G1 hle1 hu
  have hl : ∀ t ∈ [a, b], t.ok := by
    intro t ht
    simp only [List.mem_cons, List.not_mem_nil, or_false] at ht
    rcases ht with rfl | rfl
    · exact ⟨a1, a2⟩
    · exact ⟨b1, b2⟩
  have hz0 := z0_len
  rcases sumV_shape [a, b] none with ⟨P, hs⟩ | hs
  · have c1 := sumF u [a, b] G1 hu hl
    rw [hs] at c1 ⊢
    have l1 := tbx_len P
    have l2 := tby_len P
    (repeat' (first | (with_reducible refine i_ops ?_; first | (refine g_mv ?_; refine s_mv ?_) | refine o_nil ?_ | (refine g_pure ?_; refine s_pure ?_) | (refine g_lstore ?_; refine s_lstoreP ?_) | (refine o_callg qrf (by exact c1) ?_; intro G' hle)) | (with_reducible refine i_vc ?_; refine v_ret ?_) | (with_reducible refine n_then ?_) | ((with_reducible refine s_retP2 ?_); try simp only [x_tup0, x_tup1, x_tup2, x_tup3, x_tup4, x_tup5, and_true, true_and])))
    exact qle
  · have c1 := sumF u [a, b] G1 hu hl
    rw [hs] at c1 ⊢
    (repeat' (first | (with_reducible refine i_ops ?_; first | (refine g_mv ?_; refine s_mv ?_) | refine o_nil ?_ | (refine g_pure ?_; refine s_pure ?_) | (refine g_lstore ?_; refine s_lstoreP ?_) | (refine o_callg qrf (by exact c1) ?_; intro G' hle)) | (with_reducible refine i_vc ?_; refine v_ret ?_) | (with_reducible refine n_then ?_) | ((with_reducible refine s_retP2 ?_); try simp only [x_tup0, x_tup1, x_tup2, x_tup3, x_tup4, x_tup5, and_true, true_and])))
    exact qle
end Go.Proofs.Ytdeihgcgglhhcaa.V
end
section
/- CurveAdds: any two points have the sum that the document says, and so have three, or are refused. -/
set_option linter.unusedSimpArgs false
set_option linter.unusedVariables false
set_option maxRecDepth 20000
-- @retp
-- @extra s_eqPn s_eqP s_eqD s_nilck s_fptr0
-- @pre g_lload s_lloadPI s_lloadPX s_lloadPY s_lloadPP s_lloadD
-- @pre g_lstore s_lstoreP s_lstoreD
-- @pre g_lbox s_lboxP s_lboxD
-- @pre g_build s_bp3 s_bp2 s_bp1 s_bp0
namespace Go.Proofs.Ytdeihgcgglhhcaa.V
open Go.RowKit Go.ChangeShapes Go.WideShapes
section
variable {P : Program} {E : Env} {K : St → Prop} {r : List Stp} {dd : Option Nat} {L : SL} {A : AL} {G : GH}
theorem s_eqPn {d : Nat} {sh : Sh} {xs : List Operand} {x y x' y' : List UInt8} {i i' : Bool} (h : vops P E r K (S (.set d (.bool (!decide (x = x' ∧ y = y' ∧ i = i'))) L) A G)) (hx : evs L xs = some [pnt x y i, pnt x' y' i'] := by with_unfolding_all rfl) (hs : sh = shP := by with_unfolding_all rfl) (hl : (x.length = 32 ∧ y.length = 32) ∧ x'.length = 32 ∧ y'.length = 32 := by (refine ⟨⟨?_, ?_⟩, ?_, ?_⟩ <;> first | assumption | exact z0_len | exact beN_len _ _)) : vops P E (⟨none, dd, .pure d (.eqA true sh) xs⟩ :: r) K (S L A G) := by
  subst hs
  exact o_pure hx (by rw [x_eqA, eqSh_p hl.1.1 hl.1.2 hl.2.1 hl.2.2]; rfl) h
end
theorem sum0 (G : GH) : HC Try.prog 14 #[.slice none 0 0] G fun v G' => v = .tuple #[pnt z0 z0 true, .int .i64 0] ∧ G.le G' := sumF (.slice none 0 0) [] G (Sl.nil 65 G) (fun t h => by cases h)
theorem sum3 {a b c : BP} (ha : a.ok) (hb : b.ok) (hc : c.ok) : ∀ t ∈ [a, b, c], t.ok := by
  intro t ht
  simp only [List.mem_cons, List.not_mem_nil, or_false] at ht
  rcases ht with rfl | rfl | rfl <;> assumption
theorem lawAdds1 (a b c : BP) (G : GH) (ha : a.ok) (hb : b.ok) (hc : c.ok) (oa : a.on = true) (ob : b.on = true) : HC Try.prog 4 #[a.val, b.val, c.val] G fun v G' => v = .bool true ∧ G.le G' := by
  have hz0 := z0_len
  have cA := fun G => addF a b G ha hb
  have hl3 := sum3 ha hb hc
  have hac := ha
  have hbc := hb
  have hcc := hc
  obtain ⟨a1, a2⟩ := ha
  obtain ⟨b1, b2⟩ := hb
  obtain ⟨c1, c2⟩ := hc
  obtain ⟨oa1, ea1, ea2, ea3⟩ := on_tb a1 a2 oa
  obtain ⟨ob1, eb1, eb2, eb3⟩ := on_tb b1 b2 ob
  have o2 := oc_ad fld oa1 ob1
  have s2 : sumV [a, b] none = .tuple #[pP (ad a.pt b.pt), .int .i64 0] := by
    rw [sumV, if_pos oa, sumV, if_pos ob, none_ad, sumV]
  rw [s2] at cA
  have t1 := fun G => theirsR a.1 a.2.1 a.2.2 G a1 a2
  have t2 := fun G => theirsR b.1 b.2.1 b.2.2 G b1 b2
  have t3 := fun G => theirsR c.1 c.2.1 c.2.2 G c1 c2
  have q1 := fun G => onR a.1 a.2.1 a.2.2 G a1 a2
  have q2 := fun G => onR b.1 b.2.1 b.2.2 G b1 b2
  have q3 := fun G => onR c.1 c.2.1 c.2.2 G c1 c2
  rw [show onP a.1 a.2.1 a.2.2 = true from oa] at q1
  rw [show onP b.1 b.2.1 b.2.2 = true from ob] at q2
  have rA : ∀ G, HC Try.prog 17 #[a.val, b.val] G fun v G' => v = pP (ad a.pt b.pt) ∧ G.le G' := fun G => by
    have := refAddP a.pt b.pt G oa1 ob1
    unfold pP at this
    rw [← ea1, ← ea2, ← ea3, ← eb1, ← eb2, ← eb3] at this
    exact this
  have lx := tbx_len (ad a.pt b.pt)
  have ly := tby_len (ad a.pt b.pt)
  by_cases oc : c.on = true
  · obtain ⟨oc1, ec1, ec2, ec3⟩ := on_tb c1 c2 oc
    rw [show onP c.1 c.2.1 c.2.2 = true from oc] at q3
    have s3 : sumV [a, b, c] none = .tuple #[pP (ad (ad a.pt b.pt) c.pt), .int .i64 0] := by
      rw [sumV, if_pos oa, sumV, if_pos ob, none_ad, sumV, if_pos oc, sumV]
    have rB : ∀ G, HC Try.prog 17 #[pP (ad a.pt b.pt), c.val] G fun v G' => v = pP (ad (ad a.pt b.pt) c.pt) ∧ G.le G' := fun G => by
      have := refAddP (ad a.pt b.pt) c.pt G o2 oc1
      unfold pP at this
      rw [← ec1, ← ec2, ← ec3] at this
      exact this
    have mx := tbx_len (ad (ad a.pt b.pt) c.pt)
    have my := tby_len (ad (ad a.pt b.pt) c.pt)
    generalize ad (ad a.pt b.pt) c.pt = U at *
    generalize ad a.pt b.pt = T at *
    have cs := fun G => sameR (tbx T) (tby T) (tbx T) (tby T) (tbi T) (tbi T) G lx ly lx ly
    have cu := fun G => sameR (tbx U) (tby U) (tbx U) (tby U) (tbi U) (tbi U) G mx my mx my
    clear ea1 ea2 ea3 eb1 eb2 eb3 ec1 ec2 ec3
    refine HC.start comp4 rfl ?_; unfold pc4
    (repeat' (first | (with_reducible refine i_ops ?_; first | (refine g_mv ?_; refine s_mv ?_) | refine o_nil ?_ | (refine g_pure ?_; refine s_pure ?_) | (refine g_lload ?_; refine s_lloadPP ?_) | (refine g_lstore ?_; refine s_lstoreP ?_) | (refine g_lalloc ?_; refine s_lalloc ?_) | (refine g_lbox ?_; refine s_lboxP ?_) | (refine o_callg qrf (by exact cA _) ?_; intro G' hle)) | (with_reducible refine i_vc ?_; first | refine v_seq ?_ | refine v_ops ?_) | (with_reducible refine n_then ?_)))
    refine o_bslice3 hac hbc hcc qrf qrf ?_
    intro u G1 hle1 hu
    have c3 := sumF u [a, b, c] G1 hu hl3
    rw [s3] at c3
    (repeat' (first | (with_reducible refine i_ops ?_; first | (refine g_mv ?_; refine s_mv ?_) | refine o_nil ?_ | (refine g_some ?_; first | refine s_g_t ?_ | refine s_g_f' ?_) | (refine g_pick ?_; first | refine s_pick_t ?_ | refine s_pick_f ?_) | (refine g_build ?_; refine s_bp1 ?_) | (refine g_pure ?_; first | refine s_eqPn ?_ | refine s_pure ?_) | (refine g_lload ?_; refine s_lloadPP ?_) | (refine g_lstore ?_; refine s_lstoreP ?_) | (refine g_lalloc ?_; refine s_lalloc ?_) | refine o_callp qrf (by first | exact t1 _ | exact t2 _ | exact t3 _ | exact cs _ | exact namesR _) ?_ | (refine o_callg qrf (by first | exact c3 | exact sum0 _ | exact q1 _ | exact q2 _ | exact q3 _ | exact rA _) ?_; intro G' hle)) | (with_reducible refine i_vc ?_; first | refine v_seq ?_ | refine v_ops ?_ | (refine g_cond ?_; first | refine s_cond_t ?_ | refine s_cond_f ?_) | refine v_skip ?_ | refine v_ret ?_ | refine v_draw0 ?_) | (with_reducible refine i_plan ?_; first | refine p_done ?_ | refine s_pre ?_ | refine s_preN ?_ | refine s_ag_t ?_ | refine p_callp qrf (by first | exact t1 _ | exact t2 _ | exact t3 _ | exact cu _) qle ?_ p_no | (refine p_callg qrf (by first | exact rA _ | exact rB _) qle ?_ p_no; intro G' hle) | refine s_alt ?_ | refine p_alt ?_ ?_) | (with_reducible first | refine n_then ?_ | refine r_then ?_ | (refine g_stand ?_; first | refine s_stand ?_ | refine s_standL ?_)) | ((with_reducible first | refine s_g_c ?_ ?_ | refine s_cond_c ?_ ?_) <;> intro hb <;> rw [hb] <;> (try simp only [decide_eq_true_eq, decide_eq_false_iff_not, beq_iff_eq, bne_iff_ne, beq_eq_false_iff_ne, bne_eq_false_iff_eq, ne_eq, Int.not_lt, Int.not_le, gt_iff_lt, ge_iff_le, Bool.not_eq_true', Bool.not_eq_false'] at hb)) | ((with_reducible refine s_ret ?_); try simp only [x_tup0, x_tup1, x_tup2, x_tup3, x_tup4, x_tup5, and_true, true_and])))
    all_goals first | exact qle | exact absurd ⟨trivial, trivial, trivial⟩ hb | exact ⟨by simp, qle⟩
  · have of : c.on = false := by cases h : c.on with
      | true => exact absurd h oc
      | false => rfl
    rw [show onP c.1 c.2.1 c.2.2 = false from of] at q3
    have s3 : sumV [a, b, c] none = .tuple #[pnt z0 z0 false, .int .i64 100] := by
      rw [sumV, if_pos oa, sumV, if_pos ob, none_ad, sumV, if_neg oc]
    generalize ad a.pt b.pt = T at *
    have cs := fun G => sameR (tbx T) (tby T) (tbx T) (tby T) (tbi T) (tbi T) G lx ly lx ly
    clear ea1 ea2 ea3 eb1 eb2 eb3
    refine HC.start comp4 rfl ?_; unfold pc4
    (repeat' (first | (with_reducible refine i_ops ?_; first | (refine g_mv ?_; refine s_mv ?_) | refine o_nil ?_ | (refine g_pure ?_; refine s_pure ?_) | (refine g_lload ?_; refine s_lloadPP ?_) | (refine g_lstore ?_; refine s_lstoreP ?_) | (refine g_lalloc ?_; refine s_lalloc ?_) | (refine g_lbox ?_; refine s_lboxP ?_) | (refine o_callg qrf (by exact cA _) ?_; intro G' hle)) | (with_reducible refine i_vc ?_; first | refine v_seq ?_ | refine v_ops ?_) | (with_reducible refine n_then ?_)))
    refine o_bslice3 hac hbc hcc qrf qrf ?_
    intro u G1 hle1 hu
    have c3 := sumF u [a, b, c] G1 hu hl3
    rw [s3] at c3
    (repeat' (first | (with_reducible refine i_ops ?_; first | (refine g_mv ?_; refine s_mv ?_) | refine o_nil ?_ | (refine g_some ?_; first | refine s_g_t ?_ | refine s_g_f' ?_) | (refine g_pick ?_; first | refine s_pick_t ?_ | refine s_pick_f ?_) | (refine g_build ?_; first | refine s_bp1 ?_ | refine s_bp0 ?_) | (refine g_pure ?_; first | refine s_eqPn ?_ | refine s_eqP ?_ | refine s_pure ?_) | (refine g_lload ?_; refine s_lloadPP ?_) | (refine g_lstore ?_; refine s_lstoreP ?_) | (refine g_lalloc ?_; refine s_lalloc ?_) | refine o_callp qrf (by first | exact t1 _ | exact t2 _ | exact t3 _ | exact cs _ | exact namesR _) ?_ | (refine o_callg qrf (by first | exact c3 | exact sum0 _ | exact q1 _ | exact q2 _ | exact q3 _ | exact rA _) ?_; intro G' hle)) | (with_reducible refine i_vc ?_; first | refine v_seq ?_ | refine v_ops ?_ | (refine g_cond ?_; first | refine s_cond_t ?_ | refine s_cond_f ?_) | refine v_skip ?_ | refine v_ret ?_ | refine v_draw0 ?_) | (with_reducible refine i_plan ?_; first | refine p_done ?_ | refine s_pre ?_ | refine p_callp qrf (by first | exact t1 _ | exact t2 _) qle ?_ p_no | (refine p_callg qrf (by exact rA _) qle ?_ p_no; intro G' hle) | refine s_alt ?_ | refine p_alt ?_ ?_) | (with_reducible first | refine n_then ?_ | refine r_then ?_ | (refine g_stand ?_; first | refine s_stand ?_ | refine s_standL ?_)) | ((with_reducible first | refine s_g_c ?_ ?_ | refine s_cond_c ?_ ?_) <;> intro hb <;> rw [hb] <;> (try simp only [decide_eq_true_eq, decide_eq_false_iff_not, beq_iff_eq, bne_iff_ne, beq_eq_false_iff_ne, bne_eq_false_iff_eq, ne_eq, Int.not_lt, Int.not_le, gt_iff_lt, ge_iff_le, Bool.not_eq_true', Bool.not_eq_false'] at hb)) | ((with_reducible refine s_ret ?_); try simp only [x_tup0, x_tup1, x_tup2, x_tup3, x_tup4, x_tup5, and_true, true_and])))
    all_goals first | exact qle | exact absurd ⟨trivial, trivial, trivial⟩ hb | exact ⟨by simp, qle⟩
theorem lawAdds2 (a b c : BP) (G : GH) (ha : a.ok) (hb : b.ok) (hc : c.ok) (oab : a.on = false ∨ (a.on = true ∧ b.on = false)) : HC Try.prog 4 #[a.val, b.val, c.val] G fun v G' => v = .bool true ∧ G.le G' := by
  have hz0 := z0_len
  have cA := fun G => addF a b G ha hb
  have hl3 := sum3 ha hb hc
  have hac := ha
  have hbc := hb
  have hcc := hc
  obtain ⟨a1, a2⟩ := ha
  obtain ⟨b1, b2⟩ := hb
  obtain ⟨c1, c2⟩ := hc
  have s2 : sumV [a, b] none = .tuple #[pnt z0 z0 false, .int .i64 100] := by
    rcases oab with h | ⟨h, g⟩
    · rw [sumV, if_neg (by rw [h]; decide)]
    · rw [sumV, if_pos h, sumV, if_neg (by rw [g]; decide)]
  have s3 : sumV [a, b, c] none = .tuple #[pnt z0 z0 false, .int .i64 100] := by
    rcases oab with h | ⟨h, g⟩
    · rw [sumV, if_neg (by rw [h]; decide)]
    · rw [sumV, if_pos h, sumV, if_neg (by rw [g]; decide)]
  rw [s2] at cA
  have t1 := fun G => theirsR a.1 a.2.1 a.2.2 G a1 a2
  have t2 := fun G => theirsR b.1 b.2.1 b.2.2 G b1 b2
  have q1 := fun G => onR a.1 a.2.1 a.2.2 G a1 a2
  have q2 := fun G => onR b.1 b.2.1 b.2.2 G b1 b2
  rcases oab with oa | ⟨oa, ob⟩
  · rw [show onP a.1 a.2.1 a.2.2 = false from oa] at q1
    refine HC.start comp4 rfl ?_; unfold pc4
    (repeat' (first | (with_reducible refine i_ops ?_; first | (refine g_mv ?_; refine s_mv ?_) | refine o_nil ?_ | (refine g_pure ?_; refine s_pure ?_) | (refine g_lload ?_; refine s_lloadPP ?_) | (refine g_lstore ?_; refine s_lstoreP ?_) | (refine g_lalloc ?_; refine s_lalloc ?_) | (refine g_lbox ?_; refine s_lboxP ?_) | (refine o_callg qrf (by exact cA _) ?_; intro G' hle)) | (with_reducible refine i_vc ?_; first | refine v_seq ?_ | refine v_ops ?_) | (with_reducible refine n_then ?_)))
    refine o_bslice3 hac hbc hcc qrf qrf ?_
    intro u G1 hle1 hu
    have c3 := sumF u [a, b, c] G1 hu hl3
    rw [s3] at c3
    (repeat' (first | (with_reducible refine i_ops ?_; first | (refine g_mv ?_; refine s_mv ?_) | refine o_nil ?_ | (refine g_some ?_; first | refine s_g_t ?_ | refine s_g_f ?_ | refine s_g_f' ?_) | (refine g_pick ?_; first | refine s_pick_t ?_ | refine s_pick_f ?_) | (refine g_build ?_; first | refine s_bp1 ?_ | refine s_bp0 ?_) | (refine g_pure ?_; first | refine s_eqPn ?_ | refine s_eqP ?_ | refine s_pure ?_) | (refine g_lload ?_; refine s_lloadPP ?_) | (refine g_lstore ?_; refine s_lstoreP ?_) | (refine g_lalloc ?_; refine s_lalloc ?_) | refine o_callp qrf (by first | exact t1 _ | exact namesR _) ?_ | (refine o_callg qrf (by first | exact c3 | exact sum0 _ | exact q1 _) ?_; intro G' hle)) | (with_reducible refine i_vc ?_; first | refine v_seq ?_ | refine v_ops ?_ | (refine g_cond ?_; first | refine s_cond_t ?_ | refine s_cond_f ?_) | refine v_skip ?_ | refine v_ret ?_) | (with_reducible first | refine n_then ?_ | refine r_then ?_) | ((with_reducible refine s_g_c ?_ ?_) <;> intro hb <;> rw [hb] <;> (try simp only [decide_eq_true_eq, decide_eq_false_iff_not, beq_iff_eq, bne_iff_ne, beq_eq_false_iff_ne, bne_eq_false_iff_eq, ne_eq, Int.not_lt, Int.not_le, gt_iff_lt, ge_iff_le, Bool.not_eq_true', Bool.not_eq_false'] at hb)) | ((with_reducible refine s_ret ?_); try simp only [x_tup0, x_tup1, x_tup2, x_tup3, x_tup4, x_tup5, and_true, true_and])))
    all_goals first | exact qle | exact absurd ⟨trivial, trivial, trivial⟩ hb | exact ⟨by simp, qle⟩
  · rw [show onP a.1 a.2.1 a.2.2 = true from oa] at q1
    rw [show onP b.1 b.2.1 b.2.2 = false from ob] at q2
    refine HC.start comp4 rfl ?_; unfold pc4
    (repeat' (first | (with_reducible refine i_ops ?_; first | (refine g_mv ?_; refine s_mv ?_) | refine o_nil ?_ | (refine g_pure ?_; refine s_pure ?_) | (refine g_lload ?_; refine s_lloadPP ?_) | (refine g_lstore ?_; refine s_lstoreP ?_) | (refine g_lalloc ?_; refine s_lalloc ?_) | (refine g_lbox ?_; refine s_lboxP ?_) | (refine o_callg qrf (by exact cA _) ?_; intro G' hle)) | (with_reducible refine i_vc ?_; first | refine v_seq ?_ | refine v_ops ?_) | (with_reducible refine n_then ?_)))
    refine o_bslice3 hac hbc hcc qrf qrf ?_
    intro u G1 hle1 hu
    have c3 := sumF u [a, b, c] G1 hu hl3
    rw [s3] at c3
    (repeat' (first | (with_reducible refine i_ops ?_; first | (refine g_mv ?_; refine s_mv ?_) | refine o_nil ?_ | (refine g_some ?_; first | refine s_g_t ?_ | refine s_g_f ?_ | refine s_g_f' ?_) | (refine g_pick ?_; first | refine s_pick_t ?_ | refine s_pick_f ?_) | (refine g_build ?_; first | refine s_bp1 ?_ | refine s_bp0 ?_) | (refine g_pure ?_; first | refine s_eqPn ?_ | refine s_eqP ?_ | refine s_pure ?_) | (refine g_lload ?_; refine s_lloadPP ?_) | (refine g_lstore ?_; refine s_lstoreP ?_) | (refine g_lalloc ?_; refine s_lalloc ?_) | refine o_callp qrf (by first | exact t1 _ | exact t2 _ | exact namesR _) ?_ | (refine o_callg qrf (by first | exact c3 | exact sum0 _ | exact q1 _ | exact q2 _) ?_; intro G' hle)) | (with_reducible refine i_vc ?_; first | refine v_seq ?_ | refine v_ops ?_ | (refine g_cond ?_; first | refine s_cond_t ?_ | refine s_cond_f ?_) | refine v_skip ?_ | refine v_ret ?_) | (with_reducible first | refine n_then ?_ | refine r_then ?_) | ((with_reducible refine s_g_c ?_ ?_) <;> intro hb <;> rw [hb] <;> (try simp only [decide_eq_true_eq, decide_eq_false_iff_not, beq_iff_eq, bne_iff_ne, beq_eq_false_iff_ne, bne_eq_false_iff_eq, ne_eq, Int.not_lt, Int.not_le, gt_iff_lt, ge_iff_le, Bool.not_eq_true', Bool.not_eq_false'] at hb)) | ((with_reducible refine s_ret ?_); try simp only [x_tup0, x_tup1, x_tup2, x_tup3, x_tup4, x_tup5, and_true, true_and])))
    all_goals first | exact qle | exact absurd ⟨trivial, trivial, trivial⟩ hb | exact ⟨by simp, qle⟩
theorem lawAdds (a b c : BP) (G : GH) (ha : a.ok) (hb : b.ok) (hc : c.ok) : HC Try.prog 4 #[a.val, b.val, c.val] G fun v G' => v = .bool true ∧ G.le G' := by
  cases oa : a.on with
  | false => exact lawAdds2 a b c G ha hb hc (.inl oa)
  | true =>
    cases ob : b.on with
    | false => exact lawAdds2 a b c G ha hb hc (.inr ⟨oa, ob⟩)
    | true => exact lawAdds1 a b c G ha hb hc oa ob
end Go.Proofs.Ytdeihgcgglhhcaa.V
end
section
/- Rows of 32 bytes that come in; the walks of CurveAdds and CurveMuls. -/
set_option linter.unusedVariables false
set_option maxRecDepth 100000
namespace Go.Proofs.Ytdeihgcgglhhcaa.V
open Go.RowKit Go.ChangeShapes Go.WideShapes
theorem top_bp {H : Type} {enc : TypeId × Value → H} {W : World} {r : Reach} {base : Nat} {v : Value} {d : DataW H} {ps : List MemPlace} (hv : Value.okWide Try.prog W r base 26 v) (h : DataW.Trod enc Try.prog W 0 (fun _ => true) true 26 v d ps) : ∃ t : BP, t.ok ∧ v = t.val := by
  obtain ⟨x, y, i, lx, ly, e⟩ := top_point hv h
  exact ⟨(x, y, i), ⟨lx, ly⟩, e⟩
theorem curveAdds_walk {H : Type} {enc : TypeId × Value → H} {W : World} {base : Nat} {v0 v1 v2 : Value} {d0 d1 d2 : DataW H} {p0 p1 p2 : List MemPlace}
    (hv0 : Value.okWide Try.prog W .any base 26 v0) (h0 : DataW.Trod enc Try.prog W 0 (fun _ => true) true 26 v0 d0 p0)
    (hv1 : Value.okWide Try.prog W .any base 26 v1) (h1 : DataW.Trod enc Try.prog W 0 (fun _ => true) true 26 v1 d1 p1)
    (hv2 : Value.okWide Try.prog W .any base 26 v2) (h2 : DataW.Trod enc Try.prog W 0 (fun _ => true) true 26 v2 d2 p2)
    (hsz : (DataW.weightsEach Try.prog [26, 26, 26] [d0, d1, d2]).all (· ≤ reachBytes) = true) :
    HC Try.prog 4 #[v0, v1, v2] (whole W) fun v G' => v = .bool true ∧ (whole W).le G' := by
  obtain ⟨a, ha, rfl⟩ := top_bp hv0 h0
  obtain ⟨b, hb, rfl⟩ := top_bp hv1 h1
  obtain ⟨c, hc, rfl⟩ := top_bp hv2 h2
  exact lawAdds a b c _ ha hb hc
end Go.Proofs.Ytdeihgcgglhhcaa.V
end
