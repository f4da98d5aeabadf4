/- Sums of points: the program's Sum and Add. -/
import Derived.Test.YtdeihgcgglhhcaaPmZLHMQ
section
set_option linter.unusedSimpArgs false
set_option linter.unusedVariables false
set_option maxRecDepth 20000
-- @retp
-- @extra s_nilck s_fptr0
-- @pre g_lload s_lloadL s_lloadPI s_lloadPX s_lloadPY s_lloadPP
-- @pre g_lstore s_lstoreL s_lstoreP
-- @pre g_lbox s_lboxL s_lboxP
-- @pre g_build s_bp3 s_bp2 s_bp1 s_bp0
namespace Go.Proofs.Ytdeihgcgglhhcaa.V
open Go.RowKit Go.ChangeShapes Go.WideShapes
/-- A point's bytes. -/
abbrev BP := List UInt8 × List UInt8 × Bool
abbrev BP.ok (t : BP) : Prop := t.1.length = 32 ∧ t.2.1.length = 32
abbrev BP.val (t : BP) : Value := pnt t.1 t.2.1 t.2.2
def BP.cs (t : BP) : List Value := t.1.map bv ++ (t.2.1.map bv ++ [Value.bool t.2.2])
theorem BP.cs_len {t : BP} (h : t.ok) : t.cs.length = 65 := by simp [BP.cs, h.1, h.2]
abbrev BP.on (t : BP) : Bool := onP t.1 t.2.1 t.2.2
abbrev BP.pt (t : BP) : Pt := toP t.1 t.2.1 t.2.2
/-- A row of points. -/
abbrev Ps (G : GH) (u : Value) (l : List BP) : Prop := Sl 65 G u (l.flatMap BP.cs)
theorem flatP_len : ∀ l : List BP, (∀ t ∈ l, t.ok) → (l.flatMap BP.cs).length = l.length * 65
  | [], _ => rfl
  | t :: l, h => by
    rw [List.flatMap_cons, List.length_append, BP.cs_len (h t (List.mem_cons_self)), flatP_len l fun t ht => h t (List.mem_cons_of_mem _ ht), List.length_cons]
    omega
theorem Ps.len {G : GH} {u : Value} {l : List BP} (h : Ps G u l) (hl : ∀ t ∈ l, t.ok) : lenS u = l.length := by
  have := Sl.len h
  rw [flatP_len l hl] at this
  omega
section
variable {P : Program} {E : Env} {K : St → Prop} {r : List Stp} {dd : Option Nat} {L : SL} {A : AL} {G : GH}
end
theorem at_RT {t : BP} (ht : t.ok) (h : t.on = true) : Oc t.pt ∧ RT (at3 t.1 t.2.1 t.2.2) t.pt := by
  obtain ⟨h1, h2, h3, h4⟩ := on_tb ht.1 ht.2 h
  refine ⟨h1, ?_⟩
  have := at3_tb t.pt h1
  rw [← h2, ← h3, ← h4] at this
  exact this
theorem at3F (t : BP) (ht : t.ok) (G : GH) : HC Try.prog 34 #[t.val] G fun v G' => v = .tuple #[plc (at3 t.1 t.2.1 t.2.2).1 (at3 t.1 t.2.1 t.2.2).2.1 (at3 t.1 t.2.1 t.2.2).2.2, .bool t.on] ∧ G.le G' := by
  have := atF t.1 t.2.1 t.2.2 G ht.1 ht.2
  rw [atV_eq] at this
  exact this
theorem pointP {X Y Z : Fp} {P : Pt} (h : RT (X, Y, Z) P) (G : GH) : HC Try.prog 36 #[plc X Y Z] G fun v G' => v = pP P ∧ G.le G' := by
  have := pointF X Y Z G
  obtain ⟨e1, e2, e3⟩ := px_tb h
  rw [e1, e2, e3] at this
  exact this
theorem plusP {X Y Z X' Y' Z' : Fp} (G : GH) : HC Try.prog 35 #[plc X Y Z, plc X' Y' Z'] G fun v G' => v = plc (cP (X, Y, Z) (X', Y', Z')).1 (cP (X, Y, Z) (X', Y', Z')).2.1 (cP (X, Y, Z) (X', Y', Z')).2.2 ∧ G.le G' := placePlusF X Y Z X' Y' Z' G
end Go.Proofs.Ytdeihgcgglhhcaa.V
end
section
/- Sums of two and three points, multiples: the program's Add and Mul. -/
set_option linter.unusedSimpArgs false
set_option linter.unusedVariables false
set_option maxRecDepth 20000
-- @retp
-- @extra s_bshr s_bandc s_beqc s_bremc s_nquoc s_nremc s_nsubL s_nilck s_fptr0
-- @pre g_lload s_lloadL s_lloadPI s_lloadPX s_lloadPY s_lloadPP s_lloadK
-- @pre g_lstore s_lstoreL s_lstoreP
-- @pre g_lbox s_lboxL s_lboxP s_lboxD
-- @pre g_build s_bp3 s_bp2 s_bp1 s_bp0
namespace Go.Proofs.Ytdeihgcgglhhcaa.V
open Go.RowKit Go.ChangeShapes Go.WideShapes
theorem bshr (b : UInt8) (n : Nat) (k : IntKind) (hn : n < 8) : pureV (.bin .shr) [bv b, .int k (n : Int)] = some (iv .u8 (b.toNat / 2 ^ n)) := by
  have h8 := b.toNat_lt
  rw [x_shr, if_neg (by omega)]
  have e : min (Int.toNat (n : Int)) IntKind.u8.bits = n := by rw [x_bits8]; omega
  have e2 : ((2 : Int) ^ n) = ((2 ^ n : Nat) : Int) := by rw [Int.natCast_pow]; rfl
  rw [e, e2, Int.fdiv_eq_ediv_of_nonneg _ (Int.natCast_nonneg _), ← Int.natCast_ediv]
theorem band1 (x : Nat) (hx : x < 256) : pureV (.bin .and) [iv .u8 x, .int .u8 1] = some (iv .u8 (x % 2)) := by
  rw [x_and]
  have e1 : (BitVec.ofInt IntKind.u8.bits (x : Int) &&& BitVec.ofInt IntKind.u8.bits (1 : Int)).toNat = x % 2 := by
    have e2 : (BitVec.ofInt IntKind.u8.bits (x : Int)).toNat = x := by
      rw [x_bits8, BitVec.toNat_ofInt]; omega
    have e3 : (BitVec.ofInt IntKind.u8.bits (1 : Int)).toNat = 1 := by rw [x_bits8]; rfl
    rw [BitVec.toNat_and, e2, e3, Nat.and_one_is_mod]
  rw [e1, wrap_u8, Int.emod_eq_of_lt (by omega) (by omega)]
theorem brem2 (x : Nat) : pureV (.bin .rem) [iv .u8 x, .int .u8 2] = some (iv .u8 (x % 2)) := by
  rw [x_rem, if_neg (by decide), Int.tmod_eq_emod_of_nonneg (by omega)]
  rfl
section
variable {P : Program} {E : Env} {K : St → Prop} {r : List Stp} {dd : Option Nat} {L : SL} {A : AL} {G : GH}
theorem s_bshr {d : Nat} {xs : List Operand} {k : IntKind} {b : UInt8} {n : Nat} (h : vops P E r K (S (.set d (iv .u8 (b.toNat / 2 ^ n)) L) A G)) (hx : evs L xs = some [bv b, .int k (n : Int)] := by with_unfolding_all rfl) (hn : n < 8 := by omega) : vops P E (⟨none, dd, .pure d (.bin .shr) xs⟩ :: r) K (S L A G) := o_pure hx (bshr b n k hn) h
theorem s_bandc {d : Nat} {a : Operand} {b : UInt8} {n : Nat} (h : vops P E r K (S (.set d (iv .u8 (b.toNat / 2 ^ n % 2)) L) A G)) (hx : evs L [a, .const (.int .u8 1)] = some [iv .u8 (b.toNat / 2 ^ n), .int .u8 1] := by with_unfolding_all rfl) : vops P E (⟨none, dd, .pure d (.bin .and) [a, .const (.int .u8 1)]⟩ :: r) K (S L A G) :=
  o_pure hx (band1 _ (Nat.lt_of_le_of_lt (Nat.div_le_self _ _) b.toNat_lt)) h
theorem s_bremc {d : Nat} {a : Operand} {x : Nat} (h : vops P E r K (S (.set d (iv .u8 (x % 2)) L) A G)) (hx : evs L [a, .const (.int .u8 2)] = some [iv .u8 x, .int .u8 2] := by with_unfolding_all rfl) : vops P E (⟨none, dd, .pure d (.bin .rem) [a, .const (.int .u8 2)]⟩ :: r) K (S L A G) := o_pure hx (brem2 x) h
theorem s_beqc {d : Nat} {a : Operand} {x : Nat} (h : vops P E r K (S (.set d (.bool (decide (x % 2 = 1))) L) A G)) (hx : evs L [a, .const (.int .u8 1)] = some [iv .u8 (x % 2), .int .u8 1] := by with_unfolding_all rfl) : vops P E (⟨none, dd, .pure d (.bin .eql) [a, .const (.int .u8 1)]⟩ :: r) K (S L A G) := by
  refine o_pure hx ?_ h
  rw [x_eql]
  congr 2
  rw [Bool.eq_iff_iff, beq_iff_eq, decide_eq_true_eq]
  omega
end
theorem bit_be {kb : List UInt8} (hk : kb.length = 32) {i : Nat} (hi : i < 256) : (kb.getD (i / 8) 0).toNat / 2 ^ (7 - i % 8) % 2 = be kb / 2 ^ (255 - i) % 2 := by
  have hq : i / 8 < kb.length := by omega
  have e : kb = kb.take (i / 8) ++ (kb.getD (i / 8) 0 :: kb.drop (i / 8 + 1)) := by
    conv => lhs; rw [← List.take_append_drop (i / 8) kb, List.drop_eq_getElem_cons hq]
    rw [List.getD_eq_getElem?_getD, List.getElem?_eq_getElem hq]
    rfl
  have hb := (kb.getD (i / 8) 0).toNat_lt
  generalize kb.getD (i / 8) 0 = b at *
  have hl : (kb.drop (i / 8 + 1)).length = 31 - i / 8 := by rw [List.length_drop, hk]; omega
  have hbe : be kb = (be (kb.take (i / 8)) * 256 + b.toNat) * 256 ^ (31 - i / 8) + be (kb.drop (i / 8 + 1)) := by
    conv => lhs; rw [e]
    rw [be_app, be_cons, List.length_cons, hl, Nat.pow_succ, Nat.add_mul]
    rw [Nat.mul_comm (256 ^ (31 - i / 8)) 256, ← Nat.mul_assoc, Nat.add_assoc]
  have hlt := be_lt (kb.drop (i / 8 + 1))
  rw [hl] at hlt
  have h2 : 255 - i = 8 * (31 - i / 8) + (7 - i % 8) := by omega
  rw [hbe, h2, Nat.pow_add, ← Nat.div_div_eq_div_mul, show (2 : Nat) ^ (8 * (31 - i / 8)) = 256 ^ (31 - i / 8) by rw [Nat.pow_mul]]
  have hp : 0 < 256 ^ (31 - i / 8) := Nat.pow_pos (by decide)
  rw [Nat.mul_comm _ (256 ^ (31 - i / 8)), Nat.mul_add_div hp, Nat.div_eq_of_lt hlt, Nat.add_zero]
  have h3 : be (kb.take (i / 8)) * 256 + b.toNat = 2 ^ (7 - i % 8) * (2 * (be (kb.take (i / 8)) * 2 ^ (i % 8))) + b.toNat := by
    congr 1
    have : (256 : Nat) = 2 ^ (7 - i % 8) * 2 * 2 ^ (i % 8) := by
      rw [← Nat.pow_succ, ← Nat.pow_add, show (7 - i % 8).succ + i % 8 = 8 by omega]
    conv => lhs; rw [this]
    simp only [Nat.mul_assoc, Nat.mul_comm, Nat.mul_left_comm]
  rw [h3, Nat.mul_add_div (Nat.pow_pos (by decide))]
  omega
/-- So many times a point. -/
def mulV (kb : List UInt8) (t : BP) : Value := if t.on then .tuple #[pP (dm t.pt (be kb) 256), .int .i64 0] else .tuple #[pnt z0 z0 false, .int .i64 100]
theorem mulF (kb : List UInt8) (t : BP) (G : GH) (hk : kb.length = 32) (ht : t.ok) : HC Try.prog 18 #[dK kb, t.val] G fun v G' => v = mulV kb t ∧ G.le G' := by
  obtain ⟨t1, t2⟩ := ht
  have c1 := at3F t ⟨t1, t2⟩
  have hz0 := z0_len
  refine HC.start comp18 rfl ?_; unfold pc18
  (repeat' (first | (with_reducible refine i_ops ?_; first | (refine g_mv ?_; refine s_mv ?_) | refine o_nil ?_ | (refine g_build ?_; refine s_bp0 ?_) | (refine g_pure ?_; refine s_pure ?_) | (refine g_lload ?_; refine s_lloadPP ?_) | (refine g_lstore ?_; first | refine s_lstoreL ?_ | refine s_lstoreP ?_) | (refine g_lalloc ?_; refine s_lalloc ?_) | (refine g_lbox ?_; first | refine s_lboxP ?_ | refine s_lboxD ?_) | (refine o_callg qrf (by first | exact farF _ | exact c1 _) ?_; intro G' hle)) | (with_reducible refine i_vc ?_; first | refine v_seq ?_ | refine v_ops ?_ | (refine g_cond ?_; first | refine s_cond_t ?_ | refine s_cond_f ?_) | refine v_block ?_ | refine v_skip ?_ | refine v_ret ?_) | (with_reducible first | refine n_then ?_ | refine r_then ?_) | ((with_reducible refine s_cond_c ?_ ?_) <;> intro hb <;> rw [hb] <;> (try simp only [decide_eq_true_eq, decide_eq_false_iff_not, beq_iff_eq, bne_iff_ne, beq_eq_false_iff_ne, bne_eq_false_iff_eq, ne_eq, Int.not_lt, Int.not_le, gt_iff_lt, ge_iff_le, Bool.not_eq_true', Bool.not_eq_false'] at hb)) | ((with_reducible refine s_retP2 ?_); try simp only [x_tup0, x_tup1, x_tup2, x_tup3, x_tup4, x_tup5, and_true, true_and])))
  · exact ⟨by rw [mulV, if_neg (by rw [hb]; decide)], qle⟩
  obtain ⟨o1, o2⟩ := at_RT ⟨t1, t2⟩ hb
  rw [mulV, if_pos hb]
  refine v_loopX (α := Nat × GH × Fp × Fp × Fp) (fun y => y.1 ≤ 256 ∧ G.le y.2.1 ∧ RT y.2.2 (dm t.pt (be kb) y.1))
    (fun y => [(2, .int .u64 0), (4, .int .u64 0), (5, .int .i64 0), (6, .int .u64 0), (8, .int .u64 0), (19, iv .i64 y.1)]) (fun y => [(2, bca kb), (4, pcells z0 z0 false), (6, lcells (at3 t.1 t.2.1 t.2.2).1 (at3 t.1 t.2.1 t.2.2).2.1 (at3 t.1 t.2.1 t.2.2).2.2), (8, lcells y.2.2.1 y.2.2.2.1 y.2.2.2.2)]) (fun y => y.2.1) (fun y => 256 - y.1) (0, _, 0, 1, 0)
    ⟨Nat.zero_le _, by dsimp only; exact qle, ⟨rfl, rfl, one_ne⟩⟩ qhs qhl rfl ?_
  rintro ⟨i, H, X, Y, Z⟩ s ll ⟨k1, k2, k3⟩
  dsimp only at k1 k2 k3
  dsimp only [SL.sets, AL.sets]
  have hz0 := z0_len
  have od := oc_dm o1 (be kb) i
  have lt := tbx_len (dm t.pt (be kb) i)
  have lt' := tby_len (dm t.pt (be kb) i)
  obtain ⟨T, hT⟩ : ∃ T, T = cP (X, Y, Z) (X, Y, Z) := ⟨_, rfl⟩
  obtain ⟨U, hU⟩ : ∃ U, U = cP T (at3 t.1 t.2.1 t.2.2) := ⟨_, rfl⟩
  have rT : RT T (ad (dm t.pt (be kb) i) (dm t.pt (be kb) i)) := by rw [hT]; exact RT_add od od k3 k3
  have rU : RT U (ad (ad (dm t.pt (be kb) i) (dm t.pt (be kb) i)) t.pt) := by rw [hU]; exact RT_add (oc_ad fld od od) o1 rT o2
  have c2 : ∀ G, HC Try.prog 35 #[plc X Y Z, plc X Y Z] G fun v G' => v = plc T.1 T.2.1 T.2.2 ∧ G.le G' := fun G => by rw [hT]; exact plusP G
  have c3 : ∀ G, HC Try.prog 35 #[plc T.1 T.2.1 T.2.2, plc (at3 t.1 t.2.1 t.2.2).1 (at3 t.1 t.2.1 t.2.2).2.1 (at3 t.1 t.2.1 t.2.2).2.2] G fun v G' => v = plc U.1 U.2.1 U.2.2 ∧ G.le G' := fun G => by rw [hU]; exact plusP G
  clear hT hU
  have hs : dm t.pt (be kb) (i + 1) = if be kb / 2 ^ (255 - i) % 2 = 1 then ad (ad (dm t.pt (be kb) i) (dm t.pt (be kb) i)) t.pt else ad (dm t.pt (be kb) i) (dm t.pt (be kb) i) := rfl
  (repeat' (first | (with_reducible refine i_ops ?_; first | (refine g_mv ?_; refine s_mv ?_) | refine o_nil ?_ | (refine g_pure ?_; first | refine s_bshr ?_ | refine s_bandc ?_ | refine s_beqc ?_ | refine s_nquoc ?_ | refine s_nremc ?_ | refine s_nsubL ?_ | refine s_pure ?_) | (refine g_lload ?_; first | refine s_lloadL ?_ | refine s_lloadK ?_) | (refine g_lstore ?_; first | refine s_lstoreL ?_ | refine s_lstoreP ?_) | (refine g_lindex ?_; refine s_lindex ?_) | (refine o_callg qrf (by first | exact pointP k3 _ | exact c2 _ | exact c3 _) ?_; intro G' hle)) | (with_reducible refine i_vc ?_; first | refine v_seq ?_ | refine v_ops ?_ | (refine g_cond ?_; first | refine s_cond_t ?_ | refine s_cond_f ?_) | refine v_block ?_ | refine v_skip ?_ | refine v_exit ?_ | refine v_ret ?_) | (with_reducible first | refine n_then ?_ | refine e_then ?_ | refine n_block ?_ | refine e_block_eq qrf ?_) | ((with_reducible refine s_cond_c ?_ ?_) <;> intro hb <;> rw [hb] <;> (try simp only [decide_eq_true_eq, decide_eq_false_iff_not, beq_iff_eq, bne_iff_ne, beq_eq_false_iff_ne, bne_eq_false_iff_eq, ne_eq, Int.not_lt, Int.not_le, gt_iff_lt, ge_iff_le, Bool.not_eq_true', Bool.not_eq_false'] at hb)) | ((with_reducible refine s_retP2 ?_); try simp only [x_tup0, x_tup1, x_tup2, x_tup3, x_tup4, x_tup5, and_true, true_and])))
  · have e := bit_be hk (i := i) (by omega)
    rw [if_pos (by omega), ] at hs
    exact ⟨256 - (i + 1), by omega, (i + 1, _, U), rfl, ⟨by dsimp only; omega, by dsimp only; exact qle, by dsimp only; rw [hs]; exact rU⟩, qhs, qhl, rfl⟩
  · have e := bit_be hk (i := i) (by omega)
    rw [if_neg (by omega)] at hs
    exact ⟨256 - (i + 1), by omega, (i + 1, _, T), rfl, ⟨by dsimp only; omega, by dsimp only; exact qle, by dsimp only; rw [hs]; exact rT⟩, qhs, qhl, rfl⟩
  · have hi : i = 256 := by omega
    subst hi
    exact ⟨rfl, qle⟩
end Go.Proofs.Ytdeihgcgglhhcaa.V
end
section
/- So many times a point: the document's. -/
set_option linter.unusedSimpArgs false
set_option linter.unusedVariables false
set_option maxRecDepth 20000
-- @retp
-- @extra s_bshr s_bremc s_beqc s_nquoc s_nremc s_nsubL s_nilck s_fptr0
-- @pre g_lload s_lloadJ s_lloadPP s_lloadPI s_lloadPX s_lloadPY s_lloadK
-- @pre g_lstore s_lstoreJ s_lstoreP
-- @pre g_lbox s_lboxJ s_lboxP s_lboxD
-- @pre g_build s_bm0 s_bj3 s_bp0
namespace Go.Proofs.Ytdeihgcgglhhcaa.V
open Go.RowKit Go.ChangeShapes Go.WideShapes
abbrev T3p := Fp × Fp × Fp
def RJ (T : T3p) (P : Pt) : Prop := Rj T.1 T.2.1 T.2.2 P
def tw (T : T3p) : T3p := (dX T.1 T.2.1 T.2.2, dY T.1 T.2.1 T.2.2, dZ T.2.1 T.2.2)
def sm (S T : T3p) : T3p := (sX S.1 S.2.1 S.2.2 T.1 T.2.1 T.2.2, sY S.1 S.2.1 S.2.2 T.1 T.2.1 T.2.2, sZ S.1 S.2.1 S.2.2 T.1 T.2.1 T.2.2)
theorem RJ_sm {S T : T3p} {P Q : Pt} (hP : Oc P) (hQ : Oc Q) (h1 : RJ S P) (h2 : RJ T Q) : RJ (sm S T) (ad P Q) := rj_add fld hP hQ h1 h2
theorem RJ_tw {T : T3p} {P : Pt} (hP : Oc P) (h : RJ T P) : RJ (tw T) (ad P P) := by
  cases P with
  | none =>
    have h : T.2.2 = 0 := h
    show dZ T.2.1 T.2.2 = 0
    unfold dZ
    rw [if_pos h]
  | some p =>
    obtain ⟨x, y⟩ := p
    obtain ⟨X, Y, Z⟩ := T
    obtain ⟨z1, e1, e2⟩ := h
    dsimp only at z1 e1 e2
    subst e1 e2
    exact rj_dbl fld hP z1
theorem RJ_pt {T : T3p} {P : Pt} (h : RJ T P) (b : Nat) (G : GH) (hf : FW G b) : HC Try.prog 44 #[pf b, jpl T.1 T.2.1 T.2.2] G fun v G' => v = pP P ∧ G' = G := by
  have := pointR b T.1 T.2.1 T.2.2 G hf
  obtain ⟨e1, e2, e3⟩ := qx_tb h
  rw [e1, e2, e3] at this
  exact this
theorem refMulP (kb : List UInt8) (P : Pt) (G : GH) (hk : kb.length = 32) (hP : Oc P) : HC Try.prog 19 #[dK kb, pP P] G fun v G' => v = pP (dm P (be kb) 256) ∧ G.le G' := by
  have lx := tbx_len P
  have ly := tby_len P
  have rP : RJ (aX (tbx P) (tbi P), aX (tby P) (tbi P), aZ (tbi P)) P := aj_tb P
  generalize hA : (aX (tbx P) (tbi P), aX (tby P) (tbi P), aZ (tbi P)) = A at rP
  have ca : ∀ b G, FW G b → HC Try.prog 46 #[pf b, pP P] G fun v G' => v = jpl A.1 A.2.1 A.2.2 ∧ G' = G := fun b G h => by
    rw [← hA]
    exact atR' b (tbx P) (tby P) (tbi P) G h lx ly
  clear hA
  refine HC.start comp19 rfl ?_; unfold pc19
  refine v_seq ?_
  generalize hQ : thenQ _ _ = Q'
  (repeat' (first | (with_reducible refine i_ops ?_; first | refine o_nil ?_ | (refine g_lalloc ?_; refine s_lalloc ?_) | (refine g_lbox ?_; first | refine s_lboxP ?_ | refine s_lboxD ?_)) | (with_reducible refine i_vc ?_; refine v_ops ?_)))
  subst hQ
  refine n_then ?_
  refine v_seq ?_
  generalize hQ : thenQ _ _ = Q'
  (repeat' (first | (with_reducible refine i_ops ?_; refine o_callp qrf (by exact pR _) ?_) | (with_reducible refine i_vc ?_; refine v_ops ?_)))
  refine o_callc qrf (newR G) ?_
  rintro _ G2 ⟨b, rfl, hb1, hle2, F⟩
  (repeat' (with_reducible refine i_ops ?_; first | (refine g_mv ?_; refine s_mv ?_) | refine o_nil ?_))
  subst hQ
  refine n_then ?_
  refine v_seq ?_
  generalize hQ : thenQ _ _ = Q'
  have c1 := ca b G2 F
  have P1 : PtR G2 (.pointer (some ⟨b, 8, none⟩)) 8 true (fm 1) := F.one
  (repeat' (first | (with_reducible refine i_ops ?_; first | (refine g_mv ?_; refine s_mv ?_) | refine o_nil ?_ | (refine g_lload ?_; refine s_lloadPP ?_) | (refine g_lstore ?_; refine s_lstoreJ ?_) | (refine g_lalloc ?_; refine s_lalloc ?_) | refine o_callp qrf (by exact c1) ?_) | (with_reducible refine i_vc ?_; refine v_ops ?_)))
  subst hQ
  refine n_then ?_
  refine v_seq ?_
  generalize hQ : thenQ _ _ = Q'
  (repeat' (first | (with_reducible refine i_ops ?_; first | (refine g_mv ?_; refine s_mv ?_) | refine o_nil ?_ | (refine g_build ?_; first | refine s_bm0 ?_ | refine s_bj3 ?_) | (refine g_pure ?_; first | refine s_nilck ?_ | refine s_fptr0 ?_) | (refine g_lstore ?_; refine s_lstoreJ ?_) | (refine g_lalloc ?_; refine s_lalloc ?_) | (refine g_hload ?_; refine s_hloadP ?_)) | (with_reducible refine i_vc ?_; refine v_draw0 ?_) | (with_reducible refine i_plan ?_; first | refine p_done ?_ | refine s_pre ?_ | refine s_alt ?_) | (with_reducible (refine g_stand ?_; refine s_standL ?_))))
  subst hQ
  refine n_then ?_
  (repeat' (first | (with_reducible refine i_ops ?_; first | (refine g_mv ?_; refine s_mv ?_) | refine o_nil ?_) | (with_reducible refine i_vc ?_; first | refine v_seq ?_ | refine v_ops ?_ | refine v_block ?_) | (with_reducible refine n_then ?_)))
  refine v_loopX (α := Nat × T3p) (fun y => y.1 ≤ 256 ∧ RJ y.2 (dm P (be kb) y.1))
    (fun y => [(2, .int .u64 0), (4, .int .u64 0), (5, pf b), (6, .int .u64 0), (7, .int .u64 0), (8, iv .i64 y.1)]) (fun y => [(2, bca kb), (4, pcells z0 z0 false), (6, jcells A.1 A.2.1 A.2.2), (7, jcells y.2.1 y.2.2.1 y.2.2.2)]) (fun y => G2) (fun y => 256 - y.1) (0, 1, 1, 0)
    ⟨Nat.zero_le _, rfl⟩ qhs qhl rfl ?_
  rintro ⟨i, T⟩ s ll ⟨k1, k2⟩
  dsimp only at k1 k2
  dsimp only [SL.sets, AL.sets]
  have hz0 := z0_len
  have od := oc_dm hP (be kb) i
  have lt := tbx_len (dm P (be kb) i)
  have lt' := tby_len (dm P (be kb) i)
  have c4 := RJ_pt k2 b G2 F
  obtain ⟨U, hU⟩ : ∃ U, U = tw T := ⟨_, rfl⟩
  obtain ⟨V, hV⟩ : ∃ V, V = sm U A := ⟨_, rfl⟩
  have rU : RJ U (ad (dm P (be kb) i) (dm P (be kb) i)) := by rw [hU]; exact RJ_tw od k2
  have rV : RJ V (ad (ad (dm P (be kb) i) (dm P (be kb) i)) P) := by rw [hV]; exact RJ_sm (oc_ad fld od od) hP rU rP
  have c2 : HC Try.prog 47 #[pf b, jpl T.1 T.2.1 T.2.2] G2 fun v G' => v = jpl U.1 U.2.1 U.2.2 ∧ G' = G2 := by rw [hU]; exact twiceR b _ _ _ G2 F
  have c3 : HC Try.prog 45 #[pf b, jpl U.1 U.2.1 U.2.2, jpl A.1 A.2.1 A.2.2] G2 fun v G' => v = jpl V.1 V.2.1 V.2.2 ∧ G' = G2 := by rw [hV]; exact sumR b _ _ _ _ _ _ G2 F
  clear hU hV
  have hs : dm P (be kb) (i + 1) = if be kb / 2 ^ (255 - i) % 2 = 1 then ad (ad (dm P (be kb) i) (dm P (be kb) i)) P else ad (dm P (be kb) i) (dm P (be kb) i) := rfl
  (repeat' (first | (with_reducible refine i_ops ?_; first | (refine g_mv ?_; refine s_mv ?_) | refine o_nil ?_ | (refine g_pure ?_; first | refine s_bshr ?_ | refine s_bremc ?_ | refine s_beqc ?_ | refine s_nquoc ?_ | refine s_nremc ?_ | refine s_nsubL ?_ | refine s_pure ?_) | (refine g_lload ?_; first | refine s_lloadJ ?_ | refine s_lloadK ?_) | (refine g_lstore ?_; first | refine s_lstoreJ ?_ | refine s_lstoreP ?_) | (refine g_lindex ?_; refine s_lindex ?_) | refine o_callp qrf (by first | exact c2 | exact c3 | exact c4) ?_) | (with_reducible refine i_vc ?_; first | refine v_seq ?_ | refine v_ops ?_ | (refine g_cond ?_; first | refine s_cond_t ?_ | refine s_cond_f ?_) | refine v_block ?_ | refine v_skip ?_ | refine v_exit ?_ | refine v_ret ?_) | (with_reducible first | refine n_then ?_ | refine e_then ?_ | refine n_block ?_ | refine e_block_eq qrf ?_) | ((with_reducible refine s_cond_c ?_ ?_) <;> intro hb <;> rw [hb] <;> (try simp only [decide_eq_true_eq, decide_eq_false_iff_not, beq_iff_eq, bne_iff_ne, beq_eq_false_iff_ne, bne_eq_false_iff_eq, ne_eq, Int.not_lt, Int.not_le, gt_iff_lt, ge_iff_le, Bool.not_eq_true', Bool.not_eq_false'] at hb)) | ((with_reducible refine s_retP1 ?_); try simp only [x_tup0, x_tup1, x_tup2, x_tup3, x_tup4, x_tup5, and_true, true_and])))
  · have e := bit_be hk (i := i) (by omega)
    rw [if_pos (by omega)] at hs
    exact ⟨256 - (i + 1), by omega, (i + 1, V), rfl, ⟨by dsimp only; omega, by dsimp only; rw [hs]; exact rV⟩, qhs, qhl, rfl⟩
  · have e := bit_be hk (i := i) (by omega)
    rw [if_neg (by omega)] at hs
    exact ⟨256 - (i + 1), by omega, (i + 1, U), rfl, ⟨by dsimp only; omega, by dsimp only; rw [hs]; exact rU⟩, qhs, qhl, rfl⟩
  · have hi : i = 256 := by omega
    subst hi
    exact ⟨rfl, hle2⟩
end Go.Proofs.Ytdeihgcgglhhcaa.V
end
section
/- CurveMuls: any number of times any point is the point that the document says, or is refused. -/
set_option linter.unusedSimpArgs false
set_option linter.unusedVariables false
set_option maxRecDepth 20000
-- @retp
-- @extra s_eqP s_eqD s_nilck s_fptr0
-- @pre g_lload s_lloadPI s_lloadPX s_lloadPY s_lloadPP s_lloadD
-- @pre g_lstore s_lstoreP s_lstoreD
-- @pre g_lbox s_lboxP s_lboxD
-- @pre g_build s_bp3 s_bp2 s_bp1 s_bp0
namespace Go.Proofs.Ytdeihgcgglhhcaa.V
open Go.RowKit Go.ChangeShapes Go.WideShapes
theorem lawMuls (kb : List UInt8) (t : BP) (G : GH) (hk : kb.length = 32) (ht : t.ok) : HC Try.prog 5 #[dK kb, t.val] G fun v G' => v = .bool true ∧ G.le G' := by
  have hz0 := z0_len
  obtain ⟨t1, t2⟩ := ht
  have cm := fun G => mulF kb t G hk ⟨t1, t2⟩
  have c0 := fun G => theirsR t.1 t.2.1 t.2.2 G t1 t2
  have co := fun G => onR t.1 t.2.1 t.2.2 G t1 t2
  by_cases ho : t.on = true
  · obtain ⟨o1, e1, e2, e3⟩ := on_tb t1 t2 ho
    rw [mulV, if_pos ho] at cm
    rw [show onP t.1 t.2.1 t.2.2 = true from ho] at co
    have lx := tbx_len (dm t.pt (be kb) 256)
    have ly := tby_len (dm t.pt (be kb) 256)
    have cr : ∀ G, HC Try.prog 19 #[dK kb, t.val] G fun v G' => v = pP (dm t.pt (be kb) 256) ∧ G.le G' := fun G => by
      have := refMulP kb t.pt G hk o1
      unfold pP at this
      rw [← e1, ← e2, ← e3] at this
      exact this
    generalize dm t.pt (be kb) 256 = Q at *
    have cs := fun G => sameR (tbx Q) (tby Q) (tbx Q) (tby Q) (tbi Q) (tbi Q) G lx ly lx ly
    refine HC.start comp5 rfl ?_; unfold pc5
    (repeat' (first | (with_reducible refine i_ops ?_; first | (refine g_mv ?_; refine s_mv ?_) | refine o_nil ?_ | (refine g_some ?_; refine s_g_t ?_) | (refine g_pick ?_; first | refine s_pick_t ?_ | refine s_pick_f ?_) | (refine g_pure ?_; refine s_pure ?_) | (refine g_lload ?_; first | refine s_lloadPP ?_ | refine s_lloadD ?_) | (refine g_lstore ?_; refine s_lstoreP ?_) | (refine g_lalloc ?_; refine s_lalloc ?_) | (refine g_lbox ?_; first | refine s_lboxP ?_ | refine s_lboxD ?_) | refine o_callp qrf (by exact c0 _) ?_ | (refine o_callg qrf (by first | exact cm _ | exact co _) ?_; intro G' hle)) | (with_reducible refine i_vc ?_; first | refine v_seq ?_ | refine v_ops ?_ | (refine g_cond ?_; refine s_cond_f ?_) | refine v_skip ?_ | refine v_ret ?_ | refine v_draw0 ?_) | (with_reducible refine i_plan ?_; first | refine p_done ?_ | refine s_pre ?_ | refine s_preN ?_ | refine s_ag_t ?_ | refine s_ag_f ?_ | refine p_callp qrf (by first | exact c0 _ | exact cs _ | exact namesR _) qle ?_ p_no | (refine p_callg qrf (by exact cr _) qle ?_ p_no; intro G' hle)) | (with_reducible refine n_then ?_) | ((with_reducible refine s_ag_c ?_ ?_) <;> intro hb <;> rw [hb] <;> (try simp only [decide_eq_true_eq, decide_eq_false_iff_not, beq_iff_eq, bne_iff_ne, beq_eq_false_iff_ne, bne_eq_false_iff_eq, ne_eq, Int.not_lt, Int.not_le, gt_iff_lt, ge_iff_le, Bool.not_eq_true', Bool.not_eq_false'] at hb)) | ((with_reducible refine s_ret ?_); try simp only [x_tup0, x_tup1, x_tup2, x_tup3, x_tup4, x_tup5, and_true, true_and])))
    all_goals first | exact qle | exact absurd ⟨trivial, trivial, trivial⟩ hb
  · have hf : t.on = false := by cases h : t.on with
      | true => exact absurd h ho
      | false => rfl
    rw [mulV, if_neg ho] at cm
    rw [show onP t.1 t.2.1 t.2.2 = false from hf] at co
    refine HC.start comp5 rfl ?_; unfold pc5
    (repeat' (first | (with_reducible refine i_ops ?_; first | (refine g_mv ?_; refine s_mv ?_) | refine o_nil ?_ | (refine g_some ?_; first | refine s_g_t ?_ | refine s_g_f ?_) | (refine g_pick ?_; first | refine s_pick_t ?_ | refine s_pick_f ?_) | (refine g_build ?_; refine s_bp0 ?_) | (refine g_pure ?_; first | refine s_eqP ?_ | refine s_pure ?_) | (refine g_lload ?_; first | refine s_lloadPP ?_ | refine s_lloadD ?_) | (refine g_lstore ?_; refine s_lstoreP ?_) | (refine g_lalloc ?_; refine s_lalloc ?_) | (refine g_lbox ?_; first | refine s_lboxP ?_ | refine s_lboxD ?_) | refine o_callp qrf (by first | exact c0 _ | exact namesR _) ?_ | (refine o_callg qrf (by first | exact cm _ | exact co _) ?_; intro G' hle)) | (with_reducible refine i_vc ?_; first | refine v_seq ?_ | refine v_ops ?_ | (refine g_cond ?_; refine s_cond_t ?_) | refine v_ret ?_) | (with_reducible first | refine n_then ?_ | refine r_then ?_) | ((with_reducible refine s_g_c ?_ ?_) <;> intro hb <;> rw [hb] <;> (try simp only [decide_eq_true_eq, decide_eq_false_iff_not, beq_iff_eq, bne_iff_ne, beq_eq_false_iff_ne, bne_eq_false_iff_eq, ne_eq, Int.not_lt, Int.not_le, gt_iff_lt, ge_iff_le, Bool.not_eq_true', Bool.not_eq_false'] at hb)) | ((with_reducible refine s_ret ?_); try simp only [x_tup0, x_tup1, x_tup2, x_tup3, x_tup4, x_tup5, and_true, true_and])))
    all_goals first | exact qle | exact absurd ⟨trivial, trivial, trivial⟩ hb
end Go.Proofs.Ytdeihgcgglhhcaa.V
end
section
/- CurveAdds: any two points have the sum that the document says, and so have three, or are refused. -/
set_option linter.unusedSimpArgs false
set_option linter.unusedVariables false
set_option maxRecDepth 20000
-- @retp
-- @extra s_eqPn s_eqP s_eqD s_nilck s_fptr0
-- @pre g_lload s_lloadPI s_lloadPX s_lloadPY s_lloadPP s_lloadD
-- @pre g_lstore s_lstoreP s_lstoreD
-- @pre g_lbox s_lboxP s_lboxD
-- @pre g_build s_bp3 s_bp2 s_bp1 s_bp0
namespace Go.Proofs.Ytdeihgcgglhhcaa.V
open Go.RowKit Go.ChangeShapes Go.WideShapes
section
variable {P : Program} {E : Env} {K : St → Prop} {r : List Stp} {dd : Option Nat} {L : SL} {A : AL} {G : GH}
theorem s_eqPn {d : Nat} {sh : Sh} {xs : List Operand} {x y x' y' : List UInt8} {i i' : Bool} (h : vops P E r K (S (.set d (.bool (!decide (x = x' ∧ y = y' ∧ i = i'))) L) A G)) (hx : evs L xs = some [pnt x y i, pnt x' y' i'] := by with_unfolding_all rfl) (hs : sh = shP := by with_unfolding_all rfl) (hl : (x.length = 32 ∧ y.length = 32) ∧ x'.length = 32 ∧ y'.length = 32 := by (refine ⟨⟨?_, ?_⟩, ?_, ?_⟩ <;> first | assumption | exact z0_len | exact beN_len _ _)) : vops P E (⟨none, dd, .pure d (.eqA true sh) xs⟩ :: r) K (S L A G) := by
  subst hs
  exact o_pure hx (by rw [x_eqA, eqSh_p hl.1.1 hl.1.2 hl.2.1 hl.2.2]; rfl) h
end
end Go.Proofs.Ytdeihgcgglhhcaa.V
end
section
/- Rows of 32 bytes that come in; the walks of CurveAdds and CurveMuls. -/
set_option linter.unusedVariables false
set_option maxRecDepth 100000
namespace Go.Proofs.Ytdeihgcgglhhcaa.V
open Go.RowKit Go.ChangeShapes Go.WideShapes
theorem okWide_array {P : Program} {w : World} {r : Reach} {base n : Nat} {t e : TypeId} {v : Value} (ht : P.underlying t = some (.array n e)) (h : Value.okWide P w r base t v) : ∃ cs, v = .agg cs ∧ cs.size = P.cellsOf t := by
  simp only [Value.okWide, ht] at h
  obtain ⟨cs, h1, h2, _⟩ := h
  exact ⟨cs, h1, h2⟩
theorem top_digest {H : Type} {enc : TypeId × Value → H} {W : World} {r : Reach} {base : Nat} {v : Value} {d : DataW H} {ps : List MemPlace} (hv : Value.okWide Try.prog W r base 24 v) (h : DataW.Trod enc Try.prog W 0 (fun _ => true) true 24 v d ps) : ∃ l : List UInt8, l.length = 32 ∧ v = dK l := by
  obtain ⟨cs, rfl, h1⟩ := okWide_array Try.underlying24 hv
  have hc24 : Try.prog.cellsOf 24 = 32 := by kernel_rfl
  have hc5 : Try.prog.cellsOf 5 = 1 := by kernel_rfl
  obtain ⟨l, ll, e⟩ := Td.arr Try.underlying24 Try.underlying5 hc5 hc24 (Td.of h)
  refine ⟨l, ll, ?_⟩
  show Value.agg cs = Value.agg (l.map bv).toArray
  congr 1
  apply Array.ext'
  exact e
theorem top_bp {H : Type} {enc : TypeId × Value → H} {W : World} {r : Reach} {base : Nat} {v : Value} {d : DataW H} {ps : List MemPlace} (hv : Value.okWide Try.prog W r base 26 v) (h : DataW.Trod enc Try.prog W 0 (fun _ => true) true 26 v d ps) : ∃ t : BP, t.ok ∧ v = t.val := by
  obtain ⟨x, y, i, lx, ly, e⟩ := top_point hv h
  exact ⟨(x, y, i), ⟨lx, ly⟩, e⟩
theorem curveMuls_walk {H : Type} {enc : TypeId × Value → H} {W : World} {base : Nat} {v0 v1 : Value} {d0 d1 : DataW H} {p0 p1 : List MemPlace}
    (hv0 : Value.okWide Try.prog W .any base 24 v0) (h0 : DataW.Trod enc Try.prog W 0 (fun _ => true) true 24 v0 d0 p0)
    (hv1 : Value.okWide Try.prog W .any base 26 v1) (h1 : DataW.Trod enc Try.prog W 0 (fun _ => true) true 26 v1 d1 p1)
    (hsz : (DataW.weightsEach Try.prog [24, 26] [d0, d1]).all (· ≤ reachBytes) = true) :
    HC Try.prog 5 #[v0, v1] (whole W) fun v G' => v = .bool true ∧ (whole W).le G' := by
  obtain ⟨k, hk, rfl⟩ := top_digest hv0 h0
  obtain ⟨t, ht, rfl⟩ := top_bp hv1 h1
  exact lawMuls k t _ hk ht
end Go.Proofs.Ytdeihgcgglhhcaa.V
end
