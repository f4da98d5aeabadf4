/- Points written. -/
import Derived.Test.YtdeihgcgglhhcaaPtcZKNVO
import Derived.Test.YtdeihgcgglhhcaaPtcZLCCC
section
set_option linter.unusedSimpArgs false
set_option linter.unusedVariables false
set_option maxRecDepth 20000
-- @retp
-- @extra s_eqP s_slcAq s_eqD s_naddc s_nadd s_naddL s_nilck s_fptr0
-- @pre g_lload s_lloadPI s_lloadPX s_lloadPY s_lloadPP
-- @pre g_lstore s_lstoreP
-- @pre g_lbox s_lboxP
-- @pre g_build s_bp3 s_bp2 s_bp1 s_bp0
namespace Go.Proofs.Ytdeihgcgglhhcaa.V
open Go.RowKit Go.ChangeShapes Go.WideShapes
section
variable {P : Program} {E : Env} {K : St → Prop} {r : List Stp} {dd : Option Nat} {L : SL} {A : AL} {G : GH}
theorem s_slcAq {d b q len : Nat} {x : Operand} (h : vops P E r K (S (.set d (.slice (some ⟨b, q, none⟩) len len) L) A G)) (hx : evo L x = some (.pointer (some ⟨b, q, none⟩)) := by with_unfolding_all rfl) : vops P E (⟨none, dd, .pure d (.slcA len 1 false false false) [x]⟩ :: r) K (S L A G) := by
  refine o_pure (vs := [.pointer (some ⟨b, q, none⟩)]) (by simp only [evs, hx]) ?_ h
  simp [pureV, bnds, cutV, addO, Addr.add]
end
section
variable {x y : List UInt8} {i : Bool} {G : GH} {b : Nat} {e : TypeId} {fr : Nat × Nat}
theorem box_i (hG : G b = some (.cells (pcells x y i) e fr)) (hx : x.length = 32) (hy : y.length = 32) : PtR G (.pointer (some ⟨b, 64, none⟩)) 1 false (.bool i) := ⟨b, 64, _, e, fr, rfl, hG, take_i hx hy⟩
theorem box_p (hG : G b = some (.cells (pcells x y i) e fr)) (hx : x.length = 32) (hy : y.length = 32) : PtR G (.pointer (some ⟨b, 0, none⟩)) 65 true (pnt x y i) := ⟨b, 0, _, e, fr, rfl, hG, take_p hx hy⟩
theorem row_sl {cs : Array Value} {q : Nat} {l : List UInt8} (hG : G b = some (.cells cs e fr)) (ht : takeV true cs q 32 = some (dK l)) : By G (.slice (some ⟨b, q, none⟩) 32 32) l := by
  refine ⟨?_, by simp [okS]⟩
  have h : (if q + 32 ≤ cs.size then some (Value.agg (cs.extract q (q + 32))) else none) = some (dK l) := ht
  by_cases hs : q + 32 ≤ cs.size
  · rw [if_pos hs] at h
    have h2 : cs.extract q (q + 32) = bca l := by injection (Option.some.inj h)
    rw [rd_of hG (by simpa using hs)]
    show some (cs.extract q (q + 32 * 1)).toList = _
    rw [Nat.mul_one, h2]
  · rw [if_neg hs] at h; cases h
theorem box_x (hG : G b = some (.cells (pcells x y i) e fr)) (hx : x.length = 32) : By G (.slice (some ⟨b, 0, none⟩) 32 32) x := row_sl hG (take_x hx)
theorem box_y (hG : G b = some (.cells (pcells x y i) e fr)) (hx : x.length = 32) (hy : y.length = 32) : By G (.slice (some ⟨b, 32, none⟩) 32 32) y := row_sl hG (take_y hx hy)
end
/-- A point's bytes; why there are none. -/
def enB (x y : List UInt8) (i : Bool) : List UInt8 := if i then [] else if onP x y i then 4 :: (x ++ y) else []
def enE (x y : List UInt8) (i : Bool) : Int := if i then 100 else if onP x y i then 0 else 100
theorem encodeF (x y : List UInt8) (i : Bool) (G : GH) (hx : x.length = 32) (hy : y.length = 32) : HC Try.prog 23 #[pnt x y i] G fun v G' => G.le G' ∧ ∃ w, v = .tuple #[w, .int .i64 (enE x y i)] ∧ Own 1 G G' w ((enB x y i).map bv) := by
  refine HC.start comp23 rfl ?_; unfold pc23
  refine v_seq ?_
  refine v_ops ?_
  refine o_hbox (z := pcells x y i) qrf rfl ?_
  intro b hbn
  generalize hG1 : G.put b _ = G1
  have hle1 : G.le G1 := by rw [← hG1]; exact GH.le_put _ hbn
  obtain ⟨e, hGb⟩ : ∃ e, G1 b = some (.cells (pcells x y i) e (0, 0)) := ⟨_, by rw [← hG1]; exact GH.put_same _ _ _⟩
  clear hG1
  have P1 := box_i hGb hx hy
  have P2 := box_p hGb hx hy
  (repeat' (first | (with_reducible refine i_ops ?_; first | (refine g_mv ?_; refine s_mv ?_) | refine o_nil ?_ | (refine g_some ?_; first | refine s_g_t ?_ | refine s_g_f' ?_) | (refine g_pick ?_; first | refine s_pick_t ?_ | refine s_pick_f ?_) | (refine g_pure ?_; first | refine s_slcAq ?_ | refine s_fptr0 ?_ | refine s_pure ?_) | (refine g_hload ?_; refine s_hloadP ?_) | (refine o_callg qrf (by exact onF x y i _ hx hy) ?_; intro G' hle)) | (with_reducible refine i_vc ?_; first | refine v_seq ?_ | refine v_ops ?_ | (refine g_cond ?_; first | refine s_cond_t ?_ | refine s_cond_f ?_) | refine v_skip ?_ | refine v_ret ?_ | refine v_draw0 ?_) | (with_reducible refine i_plan ?_; first | refine s_pre ?_ | refine s_alt ?_) | (with_reducible first | refine n_then ?_ | refine r_then ?_) | ((with_reducible first | refine s_g_c ?_ ?_ | refine s_cond_c ?_ ?_) <;> intro hb <;> rw [hb] <;> (try simp only [decide_eq_true_eq, decide_eq_false_iff_not, beq_iff_eq, bne_iff_ne, beq_eq_false_iff_ne, bne_eq_false_iff_eq, ne_eq, Int.not_lt, Int.not_le, gt_iff_lt, ge_iff_le, Bool.not_eq_true', Bool.not_eq_false'] at hb)) | ((with_reducible refine s_ret ?_); try simp only [x_tup0, x_tup1, x_tup2, x_tup3, x_tup4, x_tup5, and_true, true_and])))
  · exact ⟨hle1, _, rfl, .inl ⟨rfl, rfl⟩⟩
  · have hi : i = false := by assumption
    subst hi
    have e1 : enE x y false = 100 := by unfold enE; rw [if_neg (by decide), if_neg (by rw [hb]; decide)]
    have e2 : enB x y false = [] := by unfold enB; rw [if_neg (by decide), if_neg (by rw [hb]; decide)]
    rw [e1, e2]
    exact ⟨qle, _, rfl, .inl ⟨rfl, rfl⟩⟩
  · have hi : i = false := by assumption
    subst hi
    have e1 : enE x y false = 0 := by unfold enE; rw [if_neg (by decide), if_pos hb]
    have e2 : enB x y false = 4 :: (x ++ y) := by unfold enB; rw [if_neg (by decide), if_pos hb]
    rw [e1, e2]
    have hbx := (box_x hGb hx).le hle
    have hby := (box_y hGb hx hy).le hle
    refine o_bsliceB [4] qrf rfl rfl rfl rfl rfl ?_
    intro w3 G3 hle3 ho3 hw3
    obtain ⟨a3, n3, c3, rfl⟩ := ho3.sl.shape
    (repeat' (first | (with_reducible refine i_ops ?_; refine o_nil ?_) | (with_reducible refine i_plan ?_; refine s_alt ?_) | (with_reducible (refine g_stand ?_; refine s_stand ?_))))
    refine o_bsliceO qrf rfl rfl rfl rfl rfl ?_
    intro u4 G4 hle4 ho4 hu4
    (repeat' (first | (with_reducible refine i_ops ?_; refine o_nil ?_) | (with_reducible refine i_plan ?_; refine s_alt ?_) | (with_reducible (refine g_stand ?_; refine s_stand ?_))))
    refine o_callc qrf (concat u4 _ [[4], x, y] G4 ⟨ho4.sl, rfl, fun i hi => ?_⟩ (by simp [hx, hy])) ?_
    · match i, hi with
      | 0, _ => exact ⟨_, rfl, Sl.le ho3.sl hle4⟩
      | 1, _ => exact ⟨_, rfl, Sl.le hbx (GH.le_trans hle3 hle4)⟩
      | 2, _ => exact ⟨_, rfl, Sl.le hby (GH.le_trans hle3 hle4)⟩
    rintro w5 G5 ⟨hle5, hw5⟩
    (repeat' (first | (with_reducible refine i_ops ?_; first | (refine g_mv ?_; refine s_mv ?_) | refine o_nil ?_) | (with_reducible refine i_vc ?_; refine v_ret ?_) | (with_reducible refine i_plan ?_; first | refine p_done ?_ | refine s_preN ?_) | (with_reducible first | refine n_then ?_ | (refine g_stand ?_; refine s_stand ?_)) | ((with_reducible refine s_ret ?_); try simp only [x_tup0, x_tup1, x_tup2, x_tup3, x_tup4, x_tup5, and_true, true_and])))
    have e4 : ([[4], x, y] : List (List UInt8)).flatten = 4 :: (x ++ y) := by simp
    rw [e4] at hw5
    exact ⟨qle, _, rfl, hw5.base qle⟩
end Go.Proofs.Ytdeihgcgglhhcaa.V
end
section
/- Points that come in. -/
set_option linter.unusedSimpArgs false
set_option linter.unusedVariables false
set_option maxRecDepth 100000
namespace Go.Proofs.Ytdeihgcgglhhcaa.V
open Go.RowKit Go.ChangeShapes Go.WideShapes
section
variable {H : Type} {enc : TypeId × Value → H} {P : Program} {w : World} {t e : TypeId} {cs : List Value} {d : DataW H} {n : Nat}
/-- A row of n bytes. -/
theorem Td.arr (ht : P.underlying t = some (.array n e)) (he : P.underlying e = some (.int .u8)) (hn : P.cellsOf e = 1) (hl : P.cellsOf t = n) (h : Td enc P w t cs d) : ∃ l : List UInt8, l.length = n ∧ cs = l.map bv := by
  obtain ⟨h1, ds, rfl, h2, h3⟩ := Td.array ht h
  rw [hl] at h1
  rw [hn] at h3
  obtain ⟨bs, hb⟩ := bytes_of cs fun i hi => by
    obtain ⟨di, _, hd⟩ := h3 i (by omega)
    obtain ⟨m, hc, _, hw⟩ := Td.int he hd
    obtain ⟨b, rfl⟩ := wf_u8 hw
    refine ⟨b, ?_⟩
    rw [Nat.mul_one] at hc
    have := congrArg (fun l => l[0]?) hc
    simpa [List.getElem?_take, List.getElem?_drop] using this
  exact ⟨bs, by rw [← h1, hb]; simp, hb⟩
end
end Go.Proofs.Ytdeihgcgglhhcaa.V
end
section
/- Plain: points by their bytes. -/
set_option linter.unusedVariables false
namespace Go.Proofs.Ytdeihgcgglhhcaa.V
def tbx : Pt → List UInt8
  | none => z0
  | some (x, _) => beN 32 x.val
def tby : Pt → List UInt8
  | none => z0
  | some (_, y) => beN 32 y.val
def tbi : Pt → Bool
  | none => true
  | some _ => false
/-- A point's value. -/
abbrev pP (P : Pt) : Value := pnt (tbx P) (tby P) (tbi P)
theorem tbx_len (P : Pt) : (tbx P).length = 32 := by cases P with | none => rfl | some p => exact beN_len _ _
theorem tby_len (P : Pt) : (tby P).length = 32 := by cases P with | none => rfl | some p => exact beN_len _ _
theorem px_tb {X Y Z : Fp} {P : Pt} (h : Rp X Y Z P) : px X Z = tbx P ∧ px Y Z = tby P ∧ decide (Z = 0) = tbi P := by
  cases P with
  | none =>
    obtain ⟨_, h2, _⟩ := h
    unfold px
    rw [if_pos h2, if_pos h2, decide_eq_true h2]
    exact ⟨rfl, rfl, rfl⟩
  | some p =>
    obtain ⟨x, y⟩ := p
    obtain ⟨h1, h2, h3⟩ := h
    unfold px
    rw [if_neg h1, if_neg h1, decide_eq_false h1]
    have i1 := fld.inv Z h1
    have e1 : finv Z * X = x := by rw [h2]; generalize finv Z = i at i1; grind
    have e2 : finv Z * Y = y := by rw [h3]; generalize finv Z = i at i1; grind
    rw [e1, e2]
    exact ⟨rfl, rfl, rfl⟩
theorem be_val (x : Fp) : be (beN 32 x.val) = x.val := by
  rw [be_beN]
  exact Nat.mod_eq_of_lt (Nat.lt_trans x.isLt p_lt)
/-- The point that bytes are. -/
def toP (x y : List UInt8) (i : Bool) : Pt := if i then none else some (of (be x), of (be y))
theorem toP_tb (P : Pt) : toP (tbx P) (tby P) (tbi P) = P := by
  cases P with
  | none => rfl
  | some p =>
    obtain ⟨x, y⟩ := p
    show some (of (be (beN 32 x.val)), of (be (beN 32 y.val))) = _
    rw [be_val, be_val, of_inj, of_inj]
theorem on_tb {x y : List UInt8} {i : Bool} (hx : x.length = 32) (hy : y.length = 32) (h : onP x y i = true) : Oc (toP x y i) ∧ x = tbx (toP x y i) ∧ y = tby (toP x y i) ∧ i = tbi (toP x y i) := by
  cases i with
  | true =>
    obtain ⟨rfl, rfl⟩ := on_far h
    exact ⟨trivial, rfl, rfl, rfl⟩
  | false =>
    obtain ⟨h1, h2⟩ := on_lt h
    have e1 : beN 32 (of (be x)).val = x := by rw [of_val, Nat.mod_eq_of_lt h1, beN_be' hx]
    have e2 : beN 32 (of (be y)).val = y := by rw [of_val, Nat.mod_eq_of_lt h2, beN_be' hy]
    refine ⟨?_, e1.symm, e2.symm, rfl⟩
    simp only [onP, Bool.false_eq_true, if_false, Bool.and_eq_true, decide_eq_true_eq, onC] at h
    exact h.2.2
theorem tb_on {P : Pt} (h : Oc P) : onP (tbx P) (tby P) (tbi P) = true := by
  cases P with
  | none => rfl
  | some p =>
    obtain ⟨x, y⟩ := p
    show onP (beN 32 x.val) (beN 32 y.val) false = true
    simp only [onP, Bool.false_eq_true, if_false, Bool.and_eq_true, decide_eq_true_eq, onC, be_val, of_inj]
    exact ⟨x.isLt, y.isLt, h⟩
theorem at3_tb (P : Pt) (hP : Oc P) : RT (at3 (tbx P) (tby P) (tbi P)) P := by
  cases P with
  | none => exact ⟨rfl, rfl, one_ne⟩
  | some p =>
    obtain ⟨x, y⟩ := p
    obtain ⟨h1, h2⟩ := on_lt (tb_on hP)
    have e : at3 (tbx (some (x, y))) (tby (some (x, y))) (tbi (some (x, y))) = (x, y, 1) := by
      show at3 (tbx (some (x, y))) (tby (some (x, y))) false = _
      unfold at3
      rw [if_neg (by decide), if_pos ⟨h1, h2⟩]
      show (of (be (beN 32 x.val)), of (be (beN 32 y.val)), (1 : Fp)) = _
      rw [be_val, be_val, of_inj, of_inj]
    rw [e]
    exact RT_one x y
end Go.Proofs.Ytdeihgcgglhhcaa.V
end
section
/- Sums of points: the program's Sum and Add. -/
set_option linter.unusedSimpArgs false
set_option linter.unusedVariables false
set_option maxRecDepth 20000
-- @retp
-- @extra s_nilck s_fptr0
-- @pre g_lload s_lloadL s_lloadPI s_lloadPX s_lloadPY s_lloadPP
-- @pre g_lstore s_lstoreL s_lstoreP
-- @pre g_lbox s_lboxL s_lboxP
-- @pre g_build s_bp3 s_bp2 s_bp1 s_bp0
namespace Go.Proofs.Ytdeihgcgglhhcaa.V
open Go.RowKit Go.ChangeShapes Go.WideShapes
/-- A point's bytes. -/
abbrev BP := List UInt8 × List UInt8 × Bool
abbrev BP.ok (t : BP) : Prop := t.1.length = 32 ∧ t.2.1.length = 32
abbrev BP.val (t : BP) : Value := pnt t.1 t.2.1 t.2.2
def BP.cs (t : BP) : List Value := t.1.map bv ++ (t.2.1.map bv ++ [Value.bool t.2.2])
theorem BP.cs_len {t : BP} (h : t.ok) : t.cs.length = 65 := by simp [BP.cs, h.1, h.2]
abbrev BP.on (t : BP) : Bool := onP t.1 t.2.1 t.2.2
abbrev BP.pt (t : BP) : Pt := toP t.1 t.2.1 t.2.2
/-- A row of points. -/
abbrev Ps (G : GH) (u : Value) (l : List BP) : Prop := Sl 65 G u (l.flatMap BP.cs)
theorem flatP_len : ∀ l : List BP, (∀ t ∈ l, t.ok) → (l.flatMap BP.cs).length = l.length * 65
  | [], _ => rfl
  | t :: l, h => by
    rw [List.flatMap_cons, List.length_append, BP.cs_len (h t (List.mem_cons_self)), flatP_len l fun t ht => h t (List.mem_cons_of_mem _ ht), List.length_cons]
    omega
theorem flatP_drop : ∀ (l : List BP) (j : Nat) (h : ∀ t ∈ l, t.ok) (hj : j < l.length), ((l.flatMap BP.cs).drop (j * 65)).take 65 = (l[j]).cs
  | t :: l, 0, h, _ => by
    have := BP.cs_len (h t (List.mem_cons_self))
    rw [List.flatMap_cons, Nat.zero_mul, List.drop_zero, List.take_append_of_le_length (by omega), List.take_of_length_le (by omega)]
    rfl
  | t :: l, j + 1, h, hj => by
    have e := BP.cs_len (h t (List.mem_cons_self))
    rw [List.flatMap_cons, List.drop_append, List.drop_of_length_le (by omega), List.nil_append, e, show (j + 1) * 65 - 65 = j * 65 by omega]
    exact flatP_drop l j (fun t ht => h t (List.mem_cons_of_mem _ ht)) (by simpa using hj)
theorem Ps.len {G : GH} {u : Value} {l : List BP} (h : Ps G u l) (hl : ∀ t ∈ l, t.ok) : lenS u = l.length := by
  have := Sl.len h
  rw [flatP_len l hl] at this
  omega
theorem Ps.idx {G : GH} {u : Value} {l : List BP} (h : Ps G u l) (hl : ∀ t ∈ l, t.ok) {j : Nat} (hj : j < l.length) : ∃ p, pureV (.iptrS 65) [u, .int .i64 j] = some p ∧ PtR G p 65 true (l[j]).val := by
  obtain ⟨b, q, cs, e, fr, h1, h2, h3, h4⟩ := h.idxA (k := .i64) (j := (j : Int)) (by omega) (by rw [h.len hl]; omega) (by decide)
  refine ⟨_, h1, b, q, cs, e, fr, rfl, h2, ?_⟩
  rw [Int.toNat_natCast, flatP_drop l j hl hj] at h4
  show (if q + 65 ≤ cs.size then some (Value.agg (cs.extract q (q + 65))) else none) = some (Value.agg (pcells _ _ _))
  rw [if_pos h3]
  congr 2
  apply Array.ext'
  rw [h4]
  rfl
section
variable {P : Program} {E : Env} {K : St → Prop} {r : List Stp} {dd : Option Nat} {L : SL} {A : AL} {G : GH}
end
theorem at_RT {t : BP} (ht : t.ok) (h : t.on = true) : Oc t.pt ∧ RT (at3 t.1 t.2.1 t.2.2) t.pt := by
  obtain ⟨h1, h2, h3, h4⟩ := on_tb ht.1 ht.2 h
  refine ⟨h1, ?_⟩
  have := at3_tb t.pt h1
  rw [← h2, ← h3, ← h4] at this
  exact this
theorem at3F (t : BP) (ht : t.ok) (G : GH) : HC Try.prog 34 #[t.val] G fun v G' => v = .tuple #[plc (at3 t.1 t.2.1 t.2.2).1 (at3 t.1 t.2.1 t.2.2).2.1 (at3 t.1 t.2.1 t.2.2).2.2, .bool t.on] ∧ G.le G' := by
  have := atF t.1 t.2.1 t.2.2 G ht.1 ht.2
  rw [atV_eq] at this
  exact this
theorem pointP {X Y Z : Fp} {P : Pt} (h : RT (X, Y, Z) P) (G : GH) : HC Try.prog 36 #[plc X Y Z] G fun v G' => v = pP P ∧ G.le G' := by
  have := pointF X Y Z G
  obtain ⟨e1, e2, e3⟩ := px_tb h
  rw [e1, e2, e3] at this
  exact this
theorem plusP {X Y Z X' Y' Z' : Fp} (G : GH) : HC Try.prog 35 #[plc X Y Z, plc X' Y' Z'] G fun v G' => v = plc (cP (X, Y, Z) (X', Y', Z')).1 (cP (X, Y, Z) (X', Y', Z')).2.1 (cP (X, Y, Z) (X', Y', Z')).2.2 ∧ G.le G' := placePlusF X Y Z X' Y' Z' G
end Go.Proofs.Ytdeihgcgglhhcaa.V
end
section
/- Sums of two and three points, multiples: the program's Add and Mul. -/
set_option linter.unusedSimpArgs false
set_option linter.unusedVariables false
set_option maxRecDepth 20000
-- @retp
-- @extra s_bshr s_bandc s_beqc s_bremc s_nquoc s_nremc s_nsubL s_nilck s_fptr0
-- @pre g_lload s_lloadL s_lloadPI s_lloadPX s_lloadPY s_lloadPP s_lloadK
-- @pre g_lstore s_lstoreL s_lstoreP
-- @pre g_lbox s_lboxL s_lboxP s_lboxD
-- @pre g_build s_bp3 s_bp2 s_bp1 s_bp0
namespace Go.Proofs.Ytdeihgcgglhhcaa.V
open Go.RowKit Go.ChangeShapes Go.WideShapes
theorem bshr (b : UInt8) (n : Nat) (k : IntKind) (hn : n < 8) : pureV (.bin .shr) [bv b, .int k (n : Int)] = some (iv .u8 (b.toNat / 2 ^ n)) := by
  have h8 := b.toNat_lt
  rw [x_shr, if_neg (by omega)]
  have e : min (Int.toNat (n : Int)) IntKind.u8.bits = n := by rw [x_bits8]; omega
  have e2 : ((2 : Int) ^ n) = ((2 ^ n : Nat) : Int) := by rw [Int.natCast_pow]; rfl
  rw [e, e2, Int.fdiv_eq_ediv_of_nonneg _ (Int.natCast_nonneg _), ← Int.natCast_ediv]
theorem band1 (x : Nat) (hx : x < 256) : pureV (.bin .and) [iv .u8 x, .int .u8 1] = some (iv .u8 (x % 2)) := by
  rw [x_and]
  have e1 : (BitVec.ofInt IntKind.u8.bits (x : Int) &&& BitVec.ofInt IntKind.u8.bits (1 : Int)).toNat = x % 2 := by
    have e2 : (BitVec.ofInt IntKind.u8.bits (x : Int)).toNat = x := by
      rw [x_bits8, BitVec.toNat_ofInt]; omega
    have e3 : (BitVec.ofInt IntKind.u8.bits (1 : Int)).toNat = 1 := by rw [x_bits8]; rfl
    rw [BitVec.toNat_and, e2, e3, Nat.and_one_is_mod]
  rw [e1, wrap_u8, Int.emod_eq_of_lt (by omega) (by omega)]
theorem brem2 (x : Nat) : pureV (.bin .rem) [iv .u8 x, .int .u8 2] = some (iv .u8 (x % 2)) := by
  rw [x_rem, if_neg (by decide), Int.tmod_eq_emod_of_nonneg (by omega)]
  rfl
section
variable {P : Program} {E : Env} {K : St → Prop} {r : List Stp} {dd : Option Nat} {L : SL} {A : AL} {G : GH}
theorem s_bshr {d : Nat} {xs : List Operand} {k : IntKind} {b : UInt8} {n : Nat} (h : vops P E r K (S (.set d (iv .u8 (b.toNat / 2 ^ n)) L) A G)) (hx : evs L xs = some [bv b, .int k (n : Int)] := by with_unfolding_all rfl) (hn : n < 8 := by omega) : vops P E (⟨none, dd, .pure d (.bin .shr) xs⟩ :: r) K (S L A G) := o_pure hx (bshr b n k hn) h
theorem s_bandc {d : Nat} {a : Operand} {b : UInt8} {n : Nat} (h : vops P E r K (S (.set d (iv .u8 (b.toNat / 2 ^ n % 2)) L) A G)) (hx : evs L [a, .const (.int .u8 1)] = some [iv .u8 (b.toNat / 2 ^ n), .int .u8 1] := by with_unfolding_all rfl) : vops P E (⟨none, dd, .pure d (.bin .and) [a, .const (.int .u8 1)]⟩ :: r) K (S L A G) :=
  o_pure hx (band1 _ (Nat.lt_of_le_of_lt (Nat.div_le_self _ _) b.toNat_lt)) h
theorem s_bremc {d : Nat} {a : Operand} {x : Nat} (h : vops P E r K (S (.set d (iv .u8 (x % 2)) L) A G)) (hx : evs L [a, .const (.int .u8 2)] = some [iv .u8 x, .int .u8 2] := by with_unfolding_all rfl) : vops P E (⟨none, dd, .pure d (.bin .rem) [a, .const (.int .u8 2)]⟩ :: r) K (S L A G) := o_pure hx (brem2 x) h
theorem s_beqc {d : Nat} {a : Operand} {x : Nat} (h : vops P E r K (S (.set d (.bool (decide (x % 2 = 1))) L) A G)) (hx : evs L [a, .const (.int .u8 1)] = some [iv .u8 (x % 2), .int .u8 1] := by with_unfolding_all rfl) : vops P E (⟨none, dd, .pure d (.bin .eql) [a, .const (.int .u8 1)]⟩ :: r) K (S L A G) := by
  refine o_pure hx ?_ h
  rw [x_eql]
  congr 2
  rw [Bool.eq_iff_iff, beq_iff_eq, decide_eq_true_eq]
  omega
end
theorem bit_be {kb : List UInt8} (hk : kb.length = 32) {i : Nat} (hi : i < 256) : (kb.getD (i / 8) 0).toNat / 2 ^ (7 - i % 8) % 2 = be kb / 2 ^ (255 - i) % 2 := by
  have hq : i / 8 < kb.length := by omega
  have e : kb = kb.take (i / 8) ++ (kb.getD (i / 8) 0 :: kb.drop (i / 8 + 1)) := by
    conv => lhs; rw [← List.take_append_drop (i / 8) kb, List.drop_eq_getElem_cons hq]
    rw [List.getD_eq_getElem?_getD, List.getElem?_eq_getElem hq]
    rfl
  have hb := (kb.getD (i / 8) 0).toNat_lt
  generalize kb.getD (i / 8) 0 = b at *
  have hl : (kb.drop (i / 8 + 1)).length = 31 - i / 8 := by rw [List.length_drop, hk]; omega
  have hbe : be kb = (be (kb.take (i / 8)) * 256 + b.toNat) * 256 ^ (31 - i / 8) + be (kb.drop (i / 8 + 1)) := by
    conv => lhs; rw [e]
    rw [be_app, be_cons, List.length_cons, hl, Nat.pow_succ, Nat.add_mul]
    rw [Nat.mul_comm (256 ^ (31 - i / 8)) 256, ← Nat.mul_assoc, Nat.add_assoc]
  have hlt := be_lt (kb.drop (i / 8 + 1))
  rw [hl] at hlt
  have h2 : 255 - i = 8 * (31 - i / 8) + (7 - i % 8) := by omega
  rw [hbe, h2, Nat.pow_add, ← Nat.div_div_eq_div_mul, show (2 : Nat) ^ (8 * (31 - i / 8)) = 256 ^ (31 - i / 8) by rw [Nat.pow_mul]]
  have hp : 0 < 256 ^ (31 - i / 8) := Nat.pow_pos (by decide)
  rw [Nat.mul_comm _ (256 ^ (31 - i / 8)), Nat.mul_add_div hp, Nat.div_eq_of_lt hlt, Nat.add_zero]
  have h3 : be (kb.take (i / 8)) * 256 + b.toNat = 2 ^ (7 - i % 8) * (2 * (be (kb.take (i / 8)) * 2 ^ (i % 8))) + b.toNat := by
    congr 1
    have : (256 : Nat) = 2 ^ (7 - i % 8) * 2 * 2 ^ (i % 8) := by
      rw [← Nat.pow_succ, ← Nat.pow_add, show (7 - i % 8).succ + i % 8 = 8 by omega]
    conv => lhs; rw [this]
    simp only [Nat.mul_assoc, Nat.mul_comm, Nat.mul_left_comm]
  rw [h3, Nat.mul_add_div (Nat.pow_pos (by decide))]
  omega
/-- So many times a point. -/
def mulV (kb : List UInt8) (t : BP) : Value := if t.on then .tuple #[pP (dm t.pt (be kb) 256), .int .i64 0] else .tuple #[pnt z0 z0 false, .int .i64 100]
theorem mulF (kb : List UInt8) (t : BP) (G : GH) (hk : kb.length = 32) (ht : t.ok) : HC Try.prog 18 #[dK kb, t.val] G fun v G' => v = mulV kb t ∧ G.le G' := by
  obtain ⟨t1, t2⟩ := ht
  have c1 := at3F t ⟨t1, t2⟩
  have hz0 := z0_len
  refine HC.start comp18 rfl ?_; unfold pc18
  (repeat' (first | (with_reducible refine i_ops ?_; first | (refine g_mv ?_; refine s_mv ?_) | refine o_nil ?_ | (refine g_build ?_; refine s_bp0 ?_) | (refine g_pure ?_; refine s_pure ?_) | (refine g_lload ?_; refine s_lloadPP ?_) | (refine g_lstore ?_; first | refine s_lstoreL ?_ | refine s_lstoreP ?_) | (refine g_lalloc ?_; refine s_lalloc ?_) | (refine g_lbox ?_; first | refine s_lboxP ?_ | refine s_lboxD ?_) | (refine o_callg qrf (by first | exact farF _ | exact c1 _) ?_; intro G' hle)) | (with_reducible refine i_vc ?_; first | refine v_seq ?_ | refine v_ops ?_ | (refine g_cond ?_; first | refine s_cond_t ?_ | refine s_cond_f ?_) | refine v_block ?_ | refine v_skip ?_ | refine v_ret ?_) | (with_reducible first | refine n_then ?_ | refine r_then ?_) | ((with_reducible refine s_cond_c ?_ ?_) <;> intro hb <;> rw [hb] <;> (try simp only [decide_eq_true_eq, decide_eq_false_iff_not, beq_iff_eq, bne_iff_ne, beq_eq_false_iff_ne, bne_eq_false_iff_eq, ne_eq, Int.not_lt, Int.not_le, gt_iff_lt, ge_iff_le, Bool.not_eq_true', Bool.not_eq_false'] at hb)) | ((with_reducible refine s_retP2 ?_); try simp only [x_tup0, x_tup1, x_tup2, x_tup3, x_tup4, x_tup5, and_true, true_and])))
  · exact ⟨by rw [mulV, if_neg (by rw [hb]; decide)], qle⟩
  obtain ⟨o1, o2⟩ := at_RT ⟨t1, t2⟩ hb
  rw [mulV, if_pos hb]
  refine v_loopX (α := Nat × GH × Fp × Fp × Fp) (fun y => y.1 ≤ 256 ∧ G.le y.2.1 ∧ RT y.2.2 (dm t.pt (be kb) y.1))
    (fun y => [(2, .int .u64 0), (4, .int .u64 0), (5, .int .i64 0), (6, .int .u64 0), (8, .int .u64 0), (19, iv .i64 y.1)]) (fun y => [(2, bca kb), (4, pcells z0 z0 false), (6, lcells (at3 t.1 t.2.1 t.2.2).1 (at3 t.1 t.2.1 t.2.2).2.1 (at3 t.1 t.2.1 t.2.2).2.2), (8, lcells y.2.2.1 y.2.2.2.1 y.2.2.2.2)]) (fun y => y.2.1) (fun y => 256 - y.1) (0, _, 0, 1, 0)
    ⟨Nat.zero_le _, by dsimp only; exact qle, ⟨rfl, rfl, one_ne⟩⟩ qhs qhl rfl ?_
  rintro ⟨i, H, X, Y, Z⟩ s ll ⟨k1, k2, k3⟩
  dsimp only at k1 k2 k3
  dsimp only [SL.sets, AL.sets]
  have hz0 := z0_len
  have od := oc_dm o1 (be kb) i
  have lt := tbx_len (dm t.pt (be kb) i)
  have lt' := tby_len (dm t.pt (be kb) i)
  obtain ⟨T, hT⟩ : ∃ T, T = cP (X, Y, Z) (X, Y, Z) := ⟨_, rfl⟩
  obtain ⟨U, hU⟩ : ∃ U, U = cP T (at3 t.1 t.2.1 t.2.2) := ⟨_, rfl⟩
  have rT : RT T (ad (dm t.pt (be kb) i) (dm t.pt (be kb) i)) := by rw [hT]; exact RT_add od od k3 k3
  have rU : RT U (ad (ad (dm t.pt (be kb) i) (dm t.pt (be kb) i)) t.pt) := by rw [hU]; exact RT_add (oc_ad fld od od) o1 rT o2
  have c2 : ∀ G, HC Try.prog 35 #[plc X Y Z, plc X Y Z] G fun v G' => v = plc T.1 T.2.1 T.2.2 ∧ G.le G' := fun G => by rw [hT]; exact plusP G
  have c3 : ∀ G, HC Try.prog 35 #[plc T.1 T.2.1 T.2.2, plc (at3 t.1 t.2.1 t.2.2).1 (at3 t.1 t.2.1 t.2.2).2.1 (at3 t.1 t.2.1 t.2.2).2.2] G fun v G' => v = plc U.1 U.2.1 U.2.2 ∧ G.le G' := fun G => by rw [hU]; exact plusP G
  clear hT hU
  have hs : dm t.pt (be kb) (i + 1) = if be kb / 2 ^ (255 - i) % 2 = 1 then ad (ad (dm t.pt (be kb) i) (dm t.pt (be kb) i)) t.pt else ad (dm t.pt (be kb) i) (dm t.pt (be kb) i) := rfl
  (repeat' (first | (with_reducible refine i_ops ?_; first | (refine g_mv ?_; refine s_mv ?_) | refine o_nil ?_ | (refine g_pure ?_; first | refine s_bshr ?_ | refine s_bandc ?_ | refine s_beqc ?_ | refine s_nquoc ?_ | refine s_nremc ?_ | refine s_nsubL ?_ | refine s_pure ?_) | (refine g_lload ?_; first | refine s_lloadL ?_ | refine s_lloadK ?_) | (refine g_lstore ?_; first | refine s_lstoreL ?_ | refine s_lstoreP ?_) | (refine g_lindex ?_; refine s_lindex ?_) | (refine o_callg qrf (by first | exact pointP k3 _ | exact c2 _ | exact c3 _) ?_; intro G' hle)) | (with_reducible refine i_vc ?_; first | refine v_seq ?_ | refine v_ops ?_ | (refine g_cond ?_; first | refine s_cond_t ?_ | refine s_cond_f ?_) | refine v_block ?_ | refine v_skip ?_ | refine v_exit ?_ | refine v_ret ?_) | (with_reducible first | refine n_then ?_ | refine e_then ?_ | refine n_block ?_ | refine e_block_eq qrf ?_) | ((with_reducible refine s_cond_c ?_ ?_) <;> intro hb <;> rw [hb] <;> (try simp only [decide_eq_true_eq, decide_eq_false_iff_not, beq_iff_eq, bne_iff_ne, beq_eq_false_iff_ne, bne_eq_false_iff_eq, ne_eq, Int.not_lt, Int.not_le, gt_iff_lt, ge_iff_le, Bool.not_eq_true', Bool.not_eq_false'] at hb)) | ((with_reducible refine s_retP2 ?_); try simp only [x_tup0, x_tup1, x_tup2, x_tup3, x_tup4, x_tup5, and_true, true_and])))
  · have e := bit_be hk (i := i) (by omega)
    rw [if_pos (by omega), ] at hs
    exact ⟨256 - (i + 1), by omega, (i + 1, _, U), rfl, ⟨by dsimp only; omega, by dsimp only; exact qle, by dsimp only; rw [hs]; exact rU⟩, qhs, qhl, rfl⟩
  · have e := bit_be hk (i := i) (by omega)
    rw [if_neg (by omega)] at hs
    exact ⟨256 - (i + 1), by omega, (i + 1, _, T), rfl, ⟨by dsimp only; omega, by dsimp only; exact qle, by dsimp only; rw [hs]; exact rT⟩, qhs, qhl, rfl⟩
  · have hi : i = 256 := by omega
    subst hi
    exact ⟨rfl, qle⟩
end Go.Proofs.Ytdeihgcgglhhcaa.V
end
section
/- CurveAdds: any two points have the sum that the document says, and so have three, or are refused. -/
set_option linter.unusedSimpArgs false
set_option linter.unusedVariables false
set_option maxRecDepth 20000
-- @retp
-- @extra s_eqPn s_eqP s_eqD s_nilck s_fptr0
-- @pre g_lload s_lloadPI s_lloadPX s_lloadPY s_lloadPP s_lloadD
-- @pre g_lstore s_lstoreP s_lstoreD
-- @pre g_lbox s_lboxP s_lboxD
-- @pre g_build s_bp3 s_bp2 s_bp1 s_bp0
namespace Go.Proofs.Ytdeihgcgglhhcaa.V
open Go.RowKit Go.ChangeShapes Go.WideShapes
section
variable {P : Program} {E : Env} {K : St → Prop} {r : List Stp} {dd : Option Nat} {L : SL} {A : AL} {G : GH}
theorem s_eqPn {d : Nat} {sh : Sh} {xs : List Operand} {x y x' y' : List UInt8} {i i' : Bool} (h : vops P E r K (S (.set d (.bool (!decide (x = x' ∧ y = y' ∧ i = i'))) L) A G)) (hx : evs L xs = some [pnt x y i, pnt x' y' i'] := by with_unfolding_all rfl) (hs : sh = shP := by with_unfolding_all rfl) (hl : (x.length = 32 ∧ y.length = 32) ∧ x'.length = 32 ∧ y'.length = 32 := by (refine ⟨⟨?_, ?_⟩, ?_, ?_⟩ <;> first | assumption | exact z0_len | exact beN_len _ _)) : vops P E (⟨none, dd, .pure d (.eqA true sh) xs⟩ :: r) K (S L A G) := by
  subst hs
  exact o_pure hx (by rw [x_eqA, eqSh_p hl.1.1 hl.1.2 hl.2.1 hl.2.2]; rfl) h
end
end Go.Proofs.Ytdeihgcgglhhcaa.V
end
section
/- Rows of 32 bytes that come in; the walks of CurveAdds and CurveMuls. -/
set_option linter.unusedVariables false
set_option maxRecDepth 100000
namespace Go.Proofs.Ytdeihgcgglhhcaa.V
open Go.RowKit Go.ChangeShapes Go.WideShapes
theorem okWide_array {P : Program} {w : World} {r : Reach} {base n : Nat} {t e : TypeId} {v : Value} (ht : P.underlying t = some (.array n e)) (h : Value.okWide P w r base t v) : ∃ cs, v = .agg cs ∧ cs.size = P.cellsOf t := by
  simp only [Value.okWide, ht] at h
  obtain ⟨cs, h1, h2, _⟩ := h
  exact ⟨cs, h1, h2⟩
theorem top_digest {H : Type} {enc : TypeId × Value → H} {W : World} {r : Reach} {base : Nat} {v : Value} {d : DataW H} {ps : List MemPlace} (hv : Value.okWide Try.prog W r base 24 v) (h : DataW.Trod enc Try.prog W 0 (fun _ => true) true 24 v d ps) : ∃ l : List UInt8, l.length = 32 ∧ v = dK l := by
  obtain ⟨cs, rfl, h1⟩ := okWide_array Try.underlying24 hv
  have hc24 : Try.prog.cellsOf 24 = 32 := by kernel_rfl
  have hc5 : Try.prog.cellsOf 5 = 1 := by kernel_rfl
  obtain ⟨l, ll, e⟩ := Td.arr Try.underlying24 Try.underlying5 hc5 hc24 (Td.of h)
  refine ⟨l, ll, ?_⟩
  show Value.agg cs = Value.agg (l.map bv).toArray
  congr 1
  apply Array.ext'
  exact e
end Go.Proofs.Ytdeihgcgglhhcaa.V
end
section
/- Calls on points, by the points that they tell; rows of five points. -/
set_option linter.unusedSimpArgs false
set_option linter.unusedVariables false
set_option maxRecDepth 20000
namespace Go.Proofs.Ytdeihgcgglhhcaa.V
open Go.RowKit Go.ChangeShapes Go.WideShapes
def bp (P : Pt) : BP := (tbx P, tby P, tbi P)
theorem bp_ok (P : Pt) : (bp P).ok := ⟨tbx_len P, tby_len P⟩
theorem bp_on {P : Pt} (h : Oc P) : (bp P).on = true := tb_on h
theorem bp_pt (P : Pt) : (bp P).pt = P := toP_tb P
theorem baseP (G : GH) : HC Try.prog 20 #[] G fun v G' => v = pP (mG 1) ∧ G' = G := baseF G
theorem onPt (P : Pt) (G : GH) (h : Oc P) : HC Try.prog 21 #[pP P] G fun v G' => v = .bool true ∧ G.le G' := by
  have := onF (tbx P) (tby P) (tbi P) G (tbx_len P) (tby_len P)
  rw [tb_on h] at this
  exact this
theorem mulP (kb : List UInt8) (a : Nat) (G : GH) (hk : kb.length = 32) : HC Try.prog 18 #[dK kb, pP (mG a)] G fun v G' => v = .tuple #[pP (mG (a * be kb)), .int .i64 0] ∧ G.le G' := by
  have h := mulF kb (bp (mG a)) G hk (bp_ok _)
  have hlt := be_lt kb
  rw [hk] at hlt
  rw [mulV, if_pos (bp_on (oc_mG a)), bp_pt, dm_all a (be kb) (by rw [show (2 : Nat) ^ 256 = 256 ^ 32 by rw [show (256 : Nat) = 2 ^ 8 from rfl, ← Nat.pow_mul]]; exact hlt)] at h
  exact h
/-- Rows of points, as they stand in a variable. -/
def ptsC (l : List BP) : Array Value := (l.flatMap BP.cs).toArray
def pts (l : List BP) : Value := .agg (ptsC l)
theorem cs_one (t : BP) : cells1 t.cs = true := pcells_one _ _ _
theorem cells1_app : ∀ (a b : List Value), cells1 a = true → cells1 b = true → cells1 (a ++ b) = true := by
  intro a b ha hb
  simp only [cells1, List.all_append, Bool.and_eq_true] at *
  exact ⟨ha, hb⟩
theorem pts_one : ∀ l : List BP, cells1 (l.flatMap BP.cs) = true
  | [] => rfl
  | t :: l => by rw [List.flatMap_cons]; exact cells1_app _ _ (cs_one t) (pts_one l)
theorem build5 {a b c d e : BP} (ha : a.ok) (hb : b.ok) (hc : c.ok) (hd : d.ok) (he : e.ok) {z : Array Value} (hz : z.size = 325) : pureV (.build z [(0, 65), (65, 65), (130, 65), (195, 65), (260, 65)]) [a.val, b.val, c.val, d.val, e.val] = some (pts [a, b, c, d, e]) := by
  have la := BP.cs_len ha
  have lb := BP.cs_len hb
  have lc := BP.cs_len hc
  have ld := BP.cs_len hd
  have le := BP.cs_len he
  have hzl : z = z.toList.toArray := by simp
  rw [hzl, pure_build', fill_step (v := a.val) (ws := a.cs) rfl la (by simp [hz]), fill_step (v := b.val) (ws := b.cs) rfl lb (by simp [hz, la]), fill_step (v := c.val) (ws := c.cs) rfl lc (by simp [hz, la, lb]), fill_step (v := d.val) (ws := d.cs) rfl ld (by simp [hz, la, lb, lc]), fill_step (v := e.val) (ws := e.cs) rfl le (by simp [hz, la, lb, lc, ld])]
  show some (Value.agg _) = some (Value.agg (ptsC _))
  congr 2
  unfold ptsC
  congr 1
  have t (l : List Value) (n : Nat) (h : l.length = 65) (g : 65 ≤ n) : List.take n l = l := List.take_of_length_le (by omega)
  have r (l : List Value) (n : Nat) (h : l.length = 65) (g : 65 ≤ n) : List.drop n l = [] := List.drop_of_length_le (by omega)
  have rz : List.drop 325 z.toList = [] := List.drop_of_length_le (by simp [hz])
  simp [List.take_append, List.drop_append, la, lb, lc, ld, le, t _ _ la, t _ _ lb, t _ _ lc, t _ _ ld, t _ _ le, r _ _ la, r _ _ lb, r _ _ lc, r _ _ ld, r _ _ le, rz]
section
variable {P : Program} {E : Env} {K : St → Prop} {r : List Stp} {dd : Option Nat} {L : SL} {A : AL} {G : GH}
theorem s_lstore5 {k s0 : Nat} {o : Operand} {l : List BP} {cs : Array Value} (h : vops P E r K (S L (.set k (ptsC l) A) G)) (hp : L.get s0 = some (.int .u64 0) := by with_unfolding_all rfl) (hx : evo L o = some (pts l) := by with_unfolding_all rfl) (hc : A.get k = some cs ∧ cs.size = 325 := by (refine ⟨by with_unfolding_all rfl, ?_⟩; with_unfolding_all rfl)) (hl : (l.flatMap BP.cs).length = 325 := by assumption) : vops P E (⟨none, dd, .lstore k s0 325 o⟩ :: r) K (S L A G) := by
  refine o_lstoreA (y := pts l) hp hc.1 hx rfl hl hc.2.symm (pts_one l) h
theorem s_lload5 {d k s0 j : Nat} {l : List BP} {Q : Pt} (h : vops P E r K (S (.set d (pP Q) L) A G)) (hp : L.get s0 = some (.int .u64 (0 + (j : Int) * 65)) := by with_unfolding_all rfl) (hc : A.get k = some (ptsC l) := by with_unfolding_all rfl) (hl : takeV true (ptsC l) (j * 65) 65 = some (pP Q) := by assumption) : vops P E (⟨none, dd, .lload d k s0 65 true⟩ :: r) K (S L A G) :=
  o_lload hp hc (by rw [show (0 + (j : Int) * 65).toNat = j * 65 by omega]; exact hl) h
theorem s_lload5' {d k s0 j : Nat} {l : List BP} {Q : Pt} (h : vops P E r K (S (.set d (pP Q) L) A G)) (hp : L.get s0 = some (.int .u64 ((j : Int) * 65)) := by with_unfolding_all rfl) (hc : A.get k = some (ptsC l) := by with_unfolding_all rfl) (hl : takeV true (ptsC l) (j * 65) 65 = some (pP Q) := by assumption) : vops P E (⟨none, dd, .lload d k s0 65 true⟩ :: r) K (S L A G) :=
  o_lload hp hc (by rw [show ((j : Int) * 65).toNat = j * 65 by omega]; exact hl) h
theorem s_convW {d : Nat} {xs : List Operand} {n : Int} (h : vops P E r K (S (.set d (iv .u64 (n % 18446744073709551616).toNat) L) A G)) (hx : evs L xs = some [.int .i64 n] := by with_unfolding_all rfl) : vops P E (⟨none, dd, .pure d (.convI .u64) xs⟩ :: r) K (S L A G) := by
  refine o_pure hx ?_ h
  rw [x_convI, wrap_u64]
  congr 2
  exact (Int.toNat_of_nonneg (Int.emod_nonneg _ (by decide))).symm
theorem s_convN {d : Nat} {xs : List Operand} {y : Nat} (h : vops P E r K (S (.set d (iv .i64 y) L) A G)) (hx : evs L xs = some [iv .u64 y] := by with_unfolding_all rfl) (hy : y < 9223372036854775808 := by omega) : vops P E (⟨none, dd, .pure d (.convI .i64) xs⟩ :: r) K (S L A G) := by
  refine o_pure hx ?_ h
  rw [x_convI, wrap_i64 (by omega) (by omega)]
end
end Go.Proofs.Ytdeihgcgglhhcaa.V
end
section
/- CurveBrackets: sums of three points are the same in any brackets, also where points are alike, or across. -/
set_option linter.unusedSimpArgs false
set_option linter.unusedVariables false
set_option maxRecDepth 20000
-- @retp
-- @extra s_eqP s_eqD s_convW s_convN s_wremc
-- @pre g_lload s_lload5 s_lload5' s_lloadPI s_lloadPX s_lloadPY s_lloadPP s_lloadD
-- @pre g_lstore s_lstore5 s_lstoreP s_lstoreD
-- @pre g_lbox s_lboxP s_lboxD
-- @pre g_build s_buildF s_bp3 s_bp2 s_bp1 s_bp0
namespace Go.Proofs.Ytdeihgcgglhhcaa.V
open Go.RowKit Go.ChangeShapes Go.WideShapes
def fiveP (p q : Nat) : List BP := [bp (mG p), bp (mG q), bp (mG 0), bp (mG 1), bp (mG p)]
section
variable {P : Program} {E : Env} {K : St → Prop} {r : List Stp} {dd : Option Nat} {L : SL} {A : AL} {G : GH}
theorem s_buildF {d p q : Nat} {z : Array Value} {xs : List Operand} (h : vops P E r K (S (.set d (pts (fiveP p q)) L) A G)) (hx : evs L xs = some [pP (mG p), pP (mG q), pnt z0 z0 true, pP (mG 1), pP (mG p)] := by with_unfolding_all rfl) (hz : z.size = 325 := by with_unfolding_all rfl) : vops P E (⟨none, dd, .pure d (.build z [(0, 65), (65, 65), (130, 65), (195, 65), (260, 65)]) xs⟩ :: r) K (S L A G) :=
  o_pure (vs := [pP (mG p), pP (mG q), pP (mG 0), pP (mG 1), pP (mG p)]) hx (build5 (bp_ok (mG p)) (bp_ok (mG q)) (bp_ok (mG 0)) (bp_ok (mG 1)) (bp_ok (mG p)) hz) h
end
end Go.Proofs.Ytdeihgcgglhhcaa.V
end
section
/- CurveCodes: a point's bytes are read as that point; n times it is the far point. -/
set_option linter.unusedSimpArgs false
set_option linter.unusedVariables false
set_option maxRecDepth 20000
-- @retp
-- @extra s_eqPm s_eqP s_eqD
-- @pre g_lload s_lloadPI s_lloadPX s_lloadPY s_lloadPP s_lloadD
-- @pre g_lstore s_lstoreP s_lstoreD
-- @pre g_lbox s_lboxP s_lboxD
-- @pre g_build s_bp3 s_bp2 s_bp1 s_bp0
namespace Go.Proofs.Ytdeihgcgglhhcaa.V
open Go.RowKit Go.ChangeShapes Go.WideShapes
section
variable {P : Program} {E : Env} {K : St → Prop} {r : List Stp} {dd : Option Nat} {L : SL} {A : AL} {G : GH}
theorem s_eqPm {d : Nat} {sh : Sh} {xs : List Operand} {x y x' y' : List UInt8} {i i' : Bool} (h : vops P E r K (S (.set d (.bool (!decide (x = x' ∧ y = y' ∧ i = i'))) L) A G)) (hx : evs L xs = some [pnt x y i, pnt x' y' i'] := by with_unfolding_all rfl) (hs : sh = shP := by with_unfolding_all rfl) (hl : (x.length = 32 ∧ y.length = 32) ∧ x'.length = 32 ∧ y'.length = 32 := by (refine ⟨⟨?_, ?_⟩, ?_, ?_⟩ <;> first | assumption | exact z0_len | exact beN_len _ _)) : vops P E (⟨none, dd, .pure d (.eqA true sh) xs⟩ :: r) K (S L A G) := by
  subst hs
  exact o_pure hx (by rw [x_eqA, eqSh_p hl.1.1 hl.1.2 hl.2.1 hl.2.2]; rfl) h
end
theorem mG_times (a : Nat) : mG (a * n256) = none := by
  have := mG_nmul 0 a
  rw [Nat.zero_add, Nat.mul_comm] at this
  exact this
theorem farOf (p : Nat) (G : GH) : HC Try.prog 18 #[dK (beN 32 n256), pP (mG p)] G fun v G' => v = .tuple #[pnt z0 z0 true, .int .i64 0] ∧ G.le G' := by
  have h := mulP (beN 32 n256) p G (beN_len _ _)
  have e : be (beN 32 n256) = n256 := by
    rw [be_beN]
    exact Nat.mod_eq_of_lt (by decide)
  rw [e, mG_times] at h
  exact h
theorem decV_some (x y : Fp) (h : Cv kb x y) : decV (4 :: (beN 32 x.val ++ beN 32 y.val)) = .tuple #[pP (some (x, y)), .int .i64 0] := by
  have lx := beN_len 32 x.val
  have ly := beN_len 32 y.val
  have hon : onP (beN 32 x.val) (beN 32 y.val) false = true := tb_on (P := some (x, y)) h
  have e1 : List.take 32 (List.drop 1 (4 :: (beN 32 x.val ++ beN 32 y.val))) = beN 32 x.val := by
    rw [List.drop_succ_cons, List.drop_zero, List.take_append_of_le_length (by omega), List.take_of_length_le (by omega)]
  have e2 : List.take 32 (List.drop 33 (4 :: (beN 32 x.val ++ beN 32 y.val))) = beN 32 y.val := by
    rw [List.drop_succ_cons, List.drop_append, List.drop_of_length_le (by omega), List.nil_append, lx, Nat.sub_self, List.drop_zero, List.take_of_length_le (by omega)]
  have e3 : (4 :: (beN 32 x.val ++ beN 32 y.val)).length = 65 := by simp [lx, ly]
  unfold decV
  rw [e1, e2, if_pos ⟨e3, rfl⟩, if_pos hon]
  rfl
theorem lawCodes (kb : List UInt8) (G : GH) (hk : kb.length = 32) : HC Try.prog 8 #[dK kb] G fun v G' => v = .bool true ∧ G.le G' := by
  have hz0 := z0_len
  have cm := fun G => mulP kb 1 G hk
  rw [Nat.one_mul] at cm
  generalize be kb = p at cm
  have x1 := tbx_len (mG p)
  have y1 := tby_len (mG p)
  have x2 := tbx_len (mG 1)
  have y2 := tby_len (mG 1)
  have o1 := fun G => onPt (mG p) G (oc_mG p)
  have o2 := fun G => onPt (mG 1) G (oc_mG 1)
  have cf := farOf p
  have ce := fun G => encodeF (tbx (mG p)) (tby (mG p)) (tbi (mG p)) G x1 y1
  have oc := oc_mG p
  refine HC.start comp8 rfl ?_; unfold pc8
  refine v_seq ?_
  generalize hQ : thenQ _ _ = Q'
  (repeat' (first | (with_reducible refine i_ops ?_; first | (refine g_mv ?_; refine s_mv ?_) | refine o_nil ?_ | (refine g_lbox ?_; refine s_lboxD ?_)) | (with_reducible refine i_vc ?_; refine v_ops ?_)))
  subst hQ
  refine n_then ?_
  refine v_seq ?_
  generalize hQ : thenQ _ _ = Q'
  have tail : ∀ G1, G.le G1 → ∀ s l, Q' .normal (S (SL.sets s [(1, .int .u64 0), (2, .bool false), (3, .int .u64 0), (4, .int .i64 0)]) (AL.sets l [(1, bca kb), (3, pcells (tbx (mG p)) (tby (mG p)) (tbi (mG p)))]) G1) := by
    intro G1 hle1 s l
    dsimp only [SL.sets, AL.sets]
    subst hQ
    refine n_then ?_
    refine v_seq ?_
    generalize hQ : thenQ _ _ = Q'
    (repeat' (first | (with_reducible refine i_ops ?_; first | (refine g_mv ?_; refine s_mv ?_) | refine o_nil ?_ | (refine g_some ?_; refine s_g_t ?_) | (refine g_pick ?_; refine s_pick_f ?_) | (refine g_pure ?_; refine s_pure ?_) | (refine g_lload ?_; refine s_lloadPP ?_) | refine o_callp qrf (by exact baseP _) ?_ | (refine o_callg qrf (by first | exact o1 _ | exact o2 _) ?_; intro G' hle)) | (with_reducible refine i_vc ?_; first | refine v_seq ?_ | refine v_ops ?_ | (refine g_cond ?_; refine s_cond_f ?_) | refine v_skip ?_) | (with_reducible refine n_then ?_)))
    subst hQ
    refine n_then ?_
    refine v_seq ?_
    generalize hQ : thenQ _ _ = Q'
    have tail : ∀ G2, G.le G2 → ∀ s l, Q' .normal (S (SL.sets s [(1, .int .u64 0), (2, .bool false), (3, .int .u64 0), (4, .int .i64 0), (5, .int .u64 0), (6, .int .i64 0)]) (AL.sets l [(1, bca kb), (3, pcells (tbx (mG p)) (tby (mG p)) (tbi (mG p))), (5, pcells z0 z0 true)]) G2) := by
      intro G2 hle2 s l
      dsimp only [SL.sets, AL.sets]
      subst hQ
      refine n_then ?_
      (repeat' (first | (with_reducible refine i_ops ?_; first | (refine g_mv ?_; refine s_mv ?_) | refine o_nil ?_ | (refine g_some ?_; refine s_g_t ?_) | (refine g_pick ?_; refine s_pick_f ?_) | (refine g_build ?_; refine s_bp1 ?_) | (refine g_pure ?_; first | refine s_eqPm ?_ | refine s_pure ?_) | (refine g_lload ?_; refine s_lloadPP ?_)) | (with_reducible refine i_vc ?_; first | refine v_seq ?_ | refine v_ops ?_ | (refine g_cond ?_; first | refine s_cond_t ?_ | refine s_cond_f ?_) | refine v_skip ?_ | refine v_ret ?_) | (with_reducible first | refine n_then ?_ | refine r_then ?_) | ((with_reducible refine s_cond_c ?_ ?_) <;> intro hb <;> rw [hb] <;> (try simp only [decide_eq_true_eq, decide_eq_false_iff_not, beq_iff_eq, bne_iff_ne, beq_eq_false_iff_ne, bne_eq_false_iff_eq, ne_eq, Int.not_lt, Int.not_le, gt_iff_lt, ge_iff_le, Bool.not_eq_true', Bool.not_eq_false'] at hb)) | ((with_reducible refine s_ret ?_); try simp only [x_tup0, x_tup1, x_tup2, x_tup3, x_tup4, x_tup5, and_true, true_and])))
      · exact absurd ⟨trivial, trivial, trivial⟩ hb
      · clear hb
        refine o_callc qrf (ce _) ?_
        rintro _ G3 ⟨hle3, w3, rfl, ho3⟩
        have b3 : By G3 w3 (enB (tbx (mG p)) (tby (mG p)) (tbi (mG p))) := ho3.sl
        clear ho3 ce cf cm o1 o2
        cases hP : mG p with
        | none =>
          rw [hP] at b3
          have e1 : enB (tbx none) (tby none) (tbi none) = [] := rfl
          have e2 : enE (tbx none) (tby none) (tbi none) = 100 := rfl
          rw [e1] at b3
          rw [e2]
          have l1 : (tbx none).length = 32 := rfl
          have l2 : (tby none).length = 32 := rfl
          have ei : tbi none = true := rfl
          (repeat' (first | (with_reducible refine i_ops ?_; first | (refine g_mv ?_; refine s_mv ?_) | refine o_nil ?_ | (refine g_some ?_; refine s_g_t ?_) | (refine g_pick ?_; refine s_pick_t ?_) | (refine g_len ?_; refine s_lenB ?_) | (refine g_pure ?_; refine s_pure ?_) | (refine g_lfield ?_; refine s_lfield ?_) | (refine g_lload ?_; refine s_lloadPI ?_)) | (with_reducible refine i_vc ?_; first | refine v_seq ?_ | refine v_ops ?_ | (refine g_cond ?_; first | refine s_cond_t ?_ | refine s_cond_f ?_) | refine v_skip ?_ | refine v_ret ?_) | (with_reducible first | refine n_then ?_ | refine r_then ?_) | ((with_reducible refine s_cond_c ?_ ?_) <;> intro hb <;> rw [hb] <;> (try simp only [decide_eq_true_eq, decide_eq_false_iff_not, beq_iff_eq, bne_iff_ne, beq_eq_false_iff_ne, bne_eq_false_iff_eq, ne_eq, Int.not_lt, Int.not_le, gt_iff_lt, ge_iff_le, Bool.not_eq_true', Bool.not_eq_false'] at hb)) | ((with_reducible refine s_ret ?_); try simp only [x_tup0, x_tup1, x_tup2, x_tup3, x_tup4, x_tup5, and_true, true_and])))
          all_goals first | exact ⟨rfl, qle⟩ | exact qle | exact absurd (ei.symm.trans hb) (by decide)
        | some q =>
          obtain ⟨x, y⟩ := q
          rw [hP] at b3 oc
          have ef : ¬(tbi (some (x, y)) = true) := fun h => Bool.false_ne_true h
          have e1 : enB (tbx (some (x, y))) (tby (some (x, y))) (tbi (some (x, y))) = 4 :: (beN 32 x.val ++ beN 32 y.val) := by
            unfold enB
            rw [if_neg ef, if_pos (tb_on (P := some (x, y)) oc)]
            rfl
          have e2 : enE (tbx (some (x, y))) (tby (some (x, y))) (tbi (some (x, y))) = 0 := by
            unfold enE
            rw [if_neg ef, if_pos (tb_on (P := some (x, y)) oc)]
          rw [e1] at b3
          rw [e2]
          have lx := beN_len 32 x.val
          have ly := beN_len 32 y.val
          have e3 : (4 :: (beN 32 x.val ++ beN 32 y.val)).length = 65 := by simp [lx, ly]
          have cd := decodeF w3 _ G3 b3
          rw [decV_some x y oc] at cd
          have lx' : (tbx (some (x, y))).length = 32 := lx
          have ly' : (tby (some (x, y))).length = 32 := ly
          dsimp only [tbi]
          (repeat' (first | (with_reducible refine i_ops ?_; first | (refine g_mv ?_; refine s_mv ?_) | refine o_nil ?_ | (refine g_some ?_; first | refine s_g_t ?_ | refine s_g_f ?_) | (refine g_pick ?_; first | refine s_pick_t ?_ | refine s_pick_f ?_) | (refine g_len ?_; refine s_lenB ?_) | (refine g_pure ?_; first | refine s_eqP ?_ | refine s_pure ?_) | (refine g_lfield ?_; refine s_lfield ?_) | (refine g_lload ?_; first | refine s_lloadPI ?_ | refine s_lloadPP ?_) | (refine g_lstore ?_; refine s_lstoreP ?_) | (refine g_lalloc ?_; refine s_lalloc ?_) | (refine o_callg qrf (by exact cd) ?_; intro G' hle)) | (with_reducible refine i_vc ?_; first | refine v_seq ?_ | refine v_ops ?_ | (refine g_cond ?_; refine s_cond_f ?_) | refine v_skip ?_ | refine v_ret ?_) | (with_reducible refine n_then ?_) | ((with_reducible refine s_g_c ?_ ?_) <;> intro hb <;> rw [hb] <;> (try simp only [decide_eq_true_eq, decide_eq_false_iff_not, beq_iff_eq, bne_iff_ne, beq_eq_false_iff_ne, bne_eq_false_iff_eq, ne_eq, Int.not_lt, Int.not_le, gt_iff_lt, ge_iff_le, Bool.not_eq_true', Bool.not_eq_false'] at hb)) | ((with_reducible refine s_ret ?_); try simp only [x_tup0, x_tup1, x_tup2, x_tup3, x_tup4, x_tup5, and_true, true_and])))
          all_goals first | exact absurd ⟨trivial, trivial, rfl⟩ hb | exact ⟨by rw [e3]; rfl, qle⟩ | skip
    (repeat' (first | (with_reducible refine i_ops ?_; first | (refine g_mv ?_; refine s_mv ?_) | refine o_nil ?_ | (refine g_pure ?_; refine s_pure ?_) | (refine g_lload ?_; refine s_lloadPP ?_) | (refine g_lstore ?_; refine s_lstoreP ?_) | (refine g_lalloc ?_; refine s_lalloc ?_) | refine o_callp qrf (by exact orderF _) ?_ | (refine o_callg qrf (by exact cf _) ?_; intro G' hle)) | (with_reducible refine i_vc ?_; refine v_draw0 ?_) | (with_reducible refine i_plan ?_; first | refine p_done ?_ | refine s_pre ?_ | refine s_preN ?_ | refine p_callp qrf (by exact orderF _) qle ?_ p_no | (refine p_callg qrf (by exact cf _) qle ?_ p_no; intro G' hle) | refine s_alt ?_ | refine p_alt ?_ ?_) | (with_reducible (refine g_stand ?_; first | refine s_stand ?_ | refine s_standL ?_))))
    all_goals exact k_trim [(1, .int .u64 0), (2, .bool false), (3, .int .u64 0), (4, .int .i64 0), (5, .int .u64 0), (6, .int .i64 0)] [(1, bca kb), (3, pcells (tbx (mG p)) (tby (mG p)) (tbi (mG p))), (5, pcells z0 z0 true)] qhs qhl (tail _ qle)
  (repeat' (first | (with_reducible refine i_ops ?_; first | (refine g_mv ?_; refine s_mv ?_) | refine o_nil ?_ | (refine g_pure ?_; refine s_pure ?_) | (refine g_lload ?_; refine s_lloadD ?_) | (refine g_lstore ?_; refine s_lstoreP ?_) | (refine g_lalloc ?_; refine s_lalloc ?_) | refine o_callp qrf (by exact baseP _) ?_ | (refine o_callg qrf (by exact cm _) ?_; intro G' hle)) | (with_reducible refine i_vc ?_; refine v_draw0 ?_) | (with_reducible refine i_plan ?_; first | refine p_done ?_ | refine s_pre ?_ | refine s_preN ?_ | refine p_callp qrf (by exact baseP _) qle ?_ p_no | (refine p_callg qrf (by exact cm _) qle ?_ p_no; intro G' hle) | refine s_alt ?_ | refine p_alt ?_ ?_) | (with_reducible (refine g_stand ?_; first | refine s_stand ?_ | refine s_standL ?_))))
  all_goals exact k_trim [(1, .int .u64 0), (2, .bool false), (3, .int .u64 0), (4, .int .i64 0)] [(1, bca kb), (3, pcells (tbx (mG p)) (tby (mG p)) (tbi (mG p)))] qhs qhl (tail _ qle)
end Go.Proofs.Ytdeihgcgglhhcaa.V
end
section
/- The walks of CurveBrackets and CurveCodes. -/
set_option linter.unusedVariables false
set_option maxRecDepth 100000
namespace Go.Proofs.Ytdeihgcgglhhcaa.V
open Go.RowKit Go.ChangeShapes Go.WideShapes
theorem curveCodes_walk {H : Type} {enc : TypeId × Value → H} {W : World} {base : Nat} {v0 : Value} {d0 : DataW H} {p0 : List MemPlace}
    (hv0 : Value.okWide Try.prog W .any base 24 v0) (h0 : DataW.Trod enc Try.prog W 0 (fun _ => true) true 24 v0 d0 p0)
    (hsz : (DataW.weightsEach Try.prog [24] [d0]).all (· ≤ reachBytes) = true) :
    HC Try.prog 8 #[v0] (whole W) fun v G' => v = .bool true ∧ (whole W).le G' := by
  obtain ⟨k, hk, rfl⟩ := top_digest hv0 h0
  exact lawCodes k _ hk
end Go.Proofs.Ytdeihgcgglhhcaa.V
end
