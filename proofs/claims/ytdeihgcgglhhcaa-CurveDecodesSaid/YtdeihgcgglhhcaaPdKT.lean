/- Points read. -/
import Derived.Test.YtdeihgcgglhhcaaPdKS
set_option linter.unusedSimpArgs false
set_option linter.unusedVariables false
set_option maxRecDepth 20000
-- @retp
-- @s2a
-- @extra s_eqP s_eqD s_naddc s_nadd s_naddL
-- @pre g_lload s_lloadPI s_lloadPX s_lloadPY s_lloadPP
-- @pre g_lstore s_lstoreP s_lstorePX s_lstorePY
-- @pre g_lbox s_lboxP
-- @pre g_build s_bp3 s_bp2 s_bp1 s_bp0
namespace Go.Proofs.Ytdeihgcgglhhcaa.V
open Go.RowKit Go.ChangeShapes Go.WideShapes
theorem By.arr {G : GH} {u : Value} {bs : List UInt8} {n : Nat} (h : By G u bs) (hn : n ≠ 0) (hl : n ≤ bs.length) : ∃ p, pureV (.s2a n) [u] = some p ∧ PtR G p n true (dK (bs.take n)) := by
  obtain ⟨a, cap, e, h1, h2, h3, h4⟩ := Sl.slice h
  have hlen : lenS u = bs.length := by simpa using h3.symm
  rw [hlen] at e h1 h4
  obtain ⟨b, q, rfl⟩ := h4 (by omega)
  have hr := h.rd
  rw [e] at hr
  rcases rd_some hr with ⟨h5, _⟩ | ⟨_, cs, t, fr, hG, hs, hx⟩
  · omega
  refine ⟨.pointer (some ⟨b, q, none⟩), ?_, b, q, cs, t, fr, rfl, hG, ?_⟩
  · rw [e]
    show (if n ≤ bs.length then some (Value.pointer (some ⟨b, q, none⟩)) else none) = _
    rw [if_pos hl]
  · show (if q + n ≤ cs.size then some (Value.agg (cs.extract q (q + n))) else none) = _
    rw [if_pos (by omega)]
    congr 2
    apply Array.ext'
    show _ = (bs.take n).map bv
    rw [List.map_take, hx]
    simp only [Array.toList_extract, List.extract_eq_take_drop, Nat.mul_one, List.take_take]
    congr 1
    omega
section
variable {P : Program} {E : Env} {K : St → Prop} {r : List Stp} {dd : Option Nat} {L : SL} {A : AL} {G : GH}
theorem g_s2a {d n : Nat} {x : Operand} (h : vops P E (⟨none, dd, .pure d (.s2a n) [x]⟩ :: r) K (S L A G)) : vops P E (⟨none, dd, .pure d (.s2a n) [x]⟩ :: r) K (S L A G) := h
theorem s_s2aB {d n : Nat} {x : Operand} {u : Value} {bs : List UInt8} (h : ∀ p, PtR G p n true (dK (bs.take n)) → vops P E r K (S (.set d p L) A G)) (hx : evo L x = some u := by with_unfolding_all rfl) (hb : By G u bs := by assumption) (hn : n ≠ 0 := by decide) (hl : n ≤ bs.length := by first | omega | (simp only [List.length_take, List.length_drop]; omega)) : vops P E (⟨none, dd, .pure d (.s2a n) [x]⟩ :: r) K (S L A G) := by
  obtain ⟨p, h1, h2⟩ := hb.arr hn hl
  exact o_pure (vs := [u]) (by simp only [evs, hx]) h1 (h p h2)
theorem s_naddL {d : Nat} {b : Operand} {y n : Nat} (h : vops P E r K (S (.set d (iv .i64 ((OfNat.ofNat n : Nat) + y)) L) A G)) (hx : evo L b = some (.int .i64 y) := by with_unfolding_all rfl) (h1 : (OfNat.ofNat n : Nat) + y < 9223372036854775808 := by omega) : vops P E (⟨none, dd, .pure d (.bin .add) [.const (.int .i64 (OfNat.ofNat n)), b]⟩ :: r) K (S L A G) := o_pure (evsL (c := iv .i64 n) hx) (nadd n y h1) h
theorem pcells_x {x y : List UInt8} {f : Bool} {i : Nat} (h : i < x.length) (v : UInt8) : wr (pcells x y f) i [bv v] = pcells (x.set i v) y f := by
  show (pcells x y f).setIfInBounds i (bv v) = _
  unfold pcells
  rw [List.setIfInBounds_toArray, List.set_append_left _ _ (by simpa using h), List.map_set]
theorem pcells_y {x y : List UInt8} {f : Bool} {i : Nat} (hx : x.length = 32) (h : i < y.length) (v : UInt8) : wr (pcells x y f) (32 + i) [bv v] = pcells x (y.set i v) f := by
  show (pcells x y f).setIfInBounds (32 + i) (bv v) = _
  unfold pcells
  rw [List.setIfInBounds_toArray, List.set_append_right _ _ (by simp [hx]), List.length_map, hx, show 32 + i - 32 = i by omega, List.set_append_left _ _ (by simpa using h), List.map_set]
theorem s_lstorePX {k s0 i : Nat} {o : Operand} {v : UInt8} {x y : List UInt8} {f : Bool} (h : vops P E r K (S L (.set k (pcells (x.set i v) y f) A) G)) (hp : L.get s0 = some (iv .u64 i) := by with_unfolding_all rfl) (hc : A.get k = some (pcells x y f) := by with_unfolding_all rfl) (hx : evo L o = some (bv v) := by with_unfolding_all rfl) (hl : x.length = 32 ∧ y.length = 32 := by constructor <;> assumption) (hi : i < 32 := by omega) : vops P E (⟨none, dd, .lstore k s0 1 o⟩ :: r) K (S L A G) := by
  refine o_lstore (vs := [bv v]) hp hc hx rfl ⟨rfl, ?_, rfl⟩ ?_ h
  · rw [pcells_size hl.1 hl.2, Int.toNat_natCast]; omega
  · rw [Int.toNat_natCast, pcells_x (by omega)]
theorem s_lstorePY {k s0 i : Nat} {o : Operand} {v : UInt8} {x y : List UInt8} {f : Bool} (h : vops P E r K (S L (.set k (pcells x (y.set i v) f) A) G)) (hp : L.get s0 = some (.int .u64 (32 + (i : Int))) := by with_unfolding_all rfl) (hc : A.get k = some (pcells x y f) := by with_unfolding_all rfl) (hx : evo L o = some (bv v) := by with_unfolding_all rfl) (hl : x.length = 32 ∧ y.length = 32 := by (constructor <;> first | assumption | (simp only [List.length_set]; assumption))) (hi : i < 32 := by omega) : vops P E (⟨none, dd, .lstore k s0 1 o⟩ :: r) K (S L A G) := by
  have e : Int.toNat (32 + (i : Int)) = 32 + i := by omega
  refine o_lstore (vs := [bv v]) hp hc hx rfl ⟨rfl, ?_, rfl⟩ ?_ h
  · rw [pcells_size hl.1 hl.2, e]; omega
  · rw [e, pcells_y hl.1 (by omega)]
end
/-- Bytes, read as a point. -/
def decV (bs : List UInt8) : Value := if bs.length = 65 ∧ bs.getD 0 0 = 4 then (if onP ((bs.drop 1).take 32) ((bs.drop 33).take 32) false then .tuple #[pnt ((bs.drop 1).take 32) ((bs.drop 33).take 32) false, .int .i64 0] else .tuple #[pnt z0 z0 false, .int .i64 100]) else .tuple #[pnt z0 z0 false, .int .i64 20]
theorem four_eq {b : UInt8} (h : (b.toNat : Int) = 4) : b = 4 := UInt8.toNat_inj.1 (show b.toNat = 4 by omega)
theorem four_ne {b : UInt8} (h : ¬(b.toNat : Int) = 4) : b ≠ 4 := fun e => h (by rw [e]; rfl)
theorem decodeF (u : Value) (bs : List UInt8) (G : GH) (hB : By G u bs) : HC Try.prog 9 #[u] G fun v G' => v = decV bs ∧ G.le G' := by
  refine HC.start comp9 rfl ?_; unfold pc9
  (repeat' (first | (with_reducible refine i_ops ?_; first | (refine g_s2a ?_; refine s_s2aB ?_; intro p hp) | (refine g_mv ?_; refine s_mv ?_) | refine o_nil ?_ | (refine g_some ?_; first | refine s_g_t ?_ | refine s_g_f ?_ | refine s_g_f' ?_ | refine s_g_u ?_) | (refine g_pick ?_; first | refine s_pick_t ?_ | refine s_pick_f ?_) | (refine g_len ?_; first | refine s_lenB ?_ | refine s_pure ?_) | (refine g_idx ?_; first | (refine s_idxOB ?_; intro p hp hpw) | (refine s_idxB ?_; intro p hp)) | (refine g_slc ?_; ((first | refine s_slcB ?_ | refine s_slcB01 ?_ | refine s_slcB10 ?_); intro us hus hbs)) | (refine g_build ?_; first | refine s_bp3 ?_ | refine s_bp2 ?_ | refine s_bp1 ?_ | refine s_bp0 ?_ | refine s_build ?_ | refine s_buildP ?_) | (refine g_pure ?_; first | refine s_eqP ?_ | refine s_eqD ?_ | refine s_naddc ?_ | refine s_nadd ?_ | refine s_naddL ?_ | refine s_pure ?_ | refine s_saddB ?_) | (refine g_lfield ?_; refine s_lfield ?_) | (refine g_lload ?_; first | refine s_lloadPI ?_ | refine s_lloadPX ?_ | refine s_lloadPY ?_ | refine s_lloadPP ?_ | refine s_lload ?_) | (refine g_lstore ?_; first | refine s_lstoreP ?_ | refine s_lstorePX ?_ | refine s_lstorePY ?_ | refine s_lstoreA ?_ | refine s_lstore ?_) | (refine g_lindex ?_; refine s_lindex ?_) | (refine g_lalloc ?_; refine s_lalloc ?_) | (refine g_hload ?_; refine s_hloadP ?_)) | (with_reducible refine i_vc ?_; first | refine v_seq ?_ | refine v_ops ?_ | (refine g_cond ?_; first | refine s_cond_t ?_ | refine s_cond_f ?_) | refine v_block ?_ | refine v_skip ?_ | refine v_exit ?_ | refine v_ret ?_ | refine s_drawl ?_ | refine v_draw0 ?_) | (with_reducible refine i_plan ?_; first | refine p_done ?_ | refine s_pre ?_ | refine s_preN ?_ | refine s_ag_t ?_ | refine s_ag_f ?_ | refine s_alt ?_ | refine p_alt ?_ ?_) | (with_reducible first | refine n_then ?_ | refine r_then ?_ | refine e_then ?_ | refine n_block ?_ | refine r_block ?_ | refine e_block_eq (by with_unfolding_all rfl) ?_ | refine e_block_ne (by with_unfolding_all rfl) ?_ | (refine g_stand ?_; first | refine s_stand ?_ | refine s_standL ?_)) | ((with_reducible first | refine s_g_c ?_ ?_ | refine s_cond_c ?_ ?_ | refine s_tg_c ?_ ?_ | refine s_ag_c ?_ ?_) <;> intro hb <;> rw [hb] <;> (try simp only [decide_eq_true_eq, decide_eq_false_iff_not, beq_iff_eq, bne_iff_ne, beq_eq_false_iff_ne, bne_eq_false_iff_eq, ne_eq, Int.not_lt, Int.not_le, gt_iff_lt, ge_iff_le, Bool.not_eq_true', Bool.not_eq_false'] at hb)) | ((with_reducible first | refine s_retP1 ?_ | refine s_retP2 ?_ | refine s_ret ?_ | refine s_normal ?_); try simp only [x_tup0, x_tup1, x_tup2, x_tup3, x_tup4, x_tup5, and_true, true_and])))
  · exact ⟨by rw [decV, if_neg (by omega)], GH.le_refl _⟩
  · exact ⟨by rw [decV, if_neg (fun h => four_ne hb h.2)], GH.le_refl _⟩
  · have h4 : ((bs.getD 0 0).toNat : Int) = 4 := by assumption
    have e1 : List.take 32 (List.take (Int.toNat 33 - Int.toNat 1) (List.drop (Int.toNat 1) bs)) = (bs.drop 1).take 32 := by
      rw [List.take_take]; rfl
    have e2 : List.take 32 (List.drop (Int.toNat 33) bs) = (bs.drop 33).take 32 := rfl
    rw [e1, e2]
    have lx : ((bs.drop 1).take 32).length = 32 := by rw [List.length_take, List.length_drop]; omega
    have ly : ((bs.drop 33).take 32).length = 32 := by rw [List.length_take, List.length_drop]; omega
    have hd : decV bs = if onP ((bs.drop 1).take 32) ((bs.drop 33).take 32) false then .tuple #[pnt ((bs.drop 1).take 32) ((bs.drop 33).take 32) false, .int .i64 0] else .tuple #[pnt z0 z0 false, .int .i64 100] := by
      rw [decV, if_pos ⟨by omega, four_eq h4⟩]
    rw [hd]
    generalize (bs.drop 1).take 32 = X at *
    generalize (bs.drop 33).take 32 = Y at *
    refine s_bp2 ?_
    (repeat' (first | (with_reducible refine i_ops ?_; first | (refine g_s2a ?_; refine s_s2aB ?_; intro p hp) | (refine g_mv ?_; refine s_mv ?_) | refine o_nil ?_ | (refine g_some ?_; first | refine s_g_t ?_ | refine s_g_f ?_ | refine s_g_f' ?_ | refine s_g_u ?_) | (refine g_pick ?_; first | refine s_pick_t ?_ | refine s_pick_f ?_) | (refine g_len ?_; first | refine s_lenB ?_ | refine s_pure ?_) | (refine g_idx ?_; first | (refine s_idxOB ?_; intro p hp hpw) | (refine s_idxB ?_; intro p hp)) | (refine g_slc ?_; ((first | refine s_slcB ?_ | refine s_slcB01 ?_ | refine s_slcB10 ?_); intro us hus hbs)) | (refine g_build ?_; first | refine s_bp3 ?_ | refine s_bp2 ?_ | refine s_bp1 ?_ | refine s_bp0 ?_ | refine s_build ?_ | refine s_buildP ?_) | (refine g_pure ?_; first | refine s_eqP ?_ | refine s_eqD ?_ | refine s_naddc ?_ | refine s_nadd ?_ | refine s_naddL ?_ | refine s_pure ?_ | refine s_saddB ?_) | (refine g_lfield ?_; refine s_lfield ?_) | (refine g_lload ?_; first | refine s_lloadPI ?_ | refine s_lloadPX ?_ | refine s_lloadPY ?_ | refine s_lloadPP ?_ | refine s_lload ?_) | (refine g_lstore ?_; first | refine s_lstoreP ?_ | refine s_lstorePX ?_ | refine s_lstorePY ?_ | refine s_lstoreA ?_ | refine s_lstore ?_) | (refine g_lindex ?_; refine s_lindex ?_) | (refine g_lalloc ?_; refine s_lalloc ?_) | (refine g_hload ?_; refine s_hloadP ?_) | refine o_callp (by with_unfolding_all rfl) (by first | exact onF X Y false _ lx ly) ?_ | (refine o_callg (by with_unfolding_all rfl) (by first | exact onF X Y false _ lx ly) ?_; intro G' hle)) | (with_reducible refine i_vc ?_; first | refine v_seq ?_ | refine v_ops ?_ | (refine g_cond ?_; first | refine s_cond_t ?_ | refine s_cond_f ?_) | refine v_block ?_ | refine v_skip ?_ | refine v_exit ?_ | refine v_ret ?_ | refine s_drawl ?_ | refine v_draw0 ?_) | (with_reducible refine i_plan ?_; first | refine p_done ?_ | refine s_pre ?_ | refine s_preN ?_ | refine s_ag_t ?_ | refine s_ag_f ?_ | refine p_callp (by with_unfolding_all rfl) (by first | exact onF X Y false _ lx ly) (by first | assumption | exact GH.le_refl _ | ((repeat (first | exact GH.le_refl _ | assumption | refine GH.le_trans ?_ (by assumption))); first | done | fail)) ?_ p_no | (refine p_callg (by with_unfolding_all rfl) (by first | exact onF X Y false _ lx ly) (by first | assumption | exact GH.le_refl _ | ((repeat (first | exact GH.le_refl _ | assumption | refine GH.le_trans ?_ (by assumption))); first | done | fail)) ?_ p_no; intro G' hle) | refine s_alt ?_ | refine p_alt ?_ ?_) | (with_reducible first | refine n_then ?_ | refine r_then ?_ | refine e_then ?_ | refine n_block ?_ | refine r_block ?_ | refine e_block_eq (by with_unfolding_all rfl) ?_ | refine e_block_ne (by with_unfolding_all rfl) ?_ | (refine g_stand ?_; first | refine s_stand ?_ | refine s_standL ?_)) | ((with_reducible first | refine s_g_c ?_ ?_ | refine s_cond_c ?_ ?_ | refine s_tg_c ?_ ?_ | refine s_ag_c ?_ ?_) <;> intro hb <;> rw [hb] <;> (try simp only [decide_eq_true_eq, decide_eq_false_iff_not, beq_iff_eq, bne_iff_ne, beq_eq_false_iff_ne, bne_eq_false_iff_eq, ne_eq, Int.not_lt, Int.not_le, gt_iff_lt, ge_iff_le, Bool.not_eq_true', Bool.not_eq_false'] at hb)) | ((with_reducible first | refine s_retP1 ?_ | refine s_retP2 ?_ | refine s_ret ?_ | refine s_normal ?_); try simp only [x_tup0, x_tup1, x_tup2, x_tup3, x_tup4, x_tup5, and_true, true_and])))
    · rw [if_neg (by rw [hb]; decide)]
      exact ⟨rfl, by assumption⟩
    · rw [if_pos hb]
      exact ⟨rfl, by assumption⟩
theorem decodeR (u : Value) (bs : List UInt8) (G : GH) (hB : By G u bs) : HC Try.prog 10 #[u] G fun v G' => v = decV bs ∧ G.le G' := by
  refine HC.start comp10 rfl ?_; unfold pc10
  (repeat' (first | (with_reducible refine i_ops ?_; first | (refine g_s2a ?_; refine s_s2aB ?_; intro p hp) | (refine g_mv ?_; refine s_mv ?_) | refine o_nil ?_ | (refine g_some ?_; first | refine s_g_t ?_ | refine s_g_f ?_ | refine s_g_f' ?_ | refine s_g_u ?_) | (refine g_pick ?_; first | refine s_pick_t ?_ | refine s_pick_f ?_) | (refine g_len ?_; first | refine s_lenB ?_ | refine s_pure ?_) | (refine g_idx ?_; first | (refine s_idxOB ?_; intro p hp hpw) | (refine s_idxB ?_; intro p hp)) | (refine g_slc ?_; ((first | refine s_slcB ?_ | refine s_slcB01 ?_ | refine s_slcB10 ?_); intro us hus hbs)) | (refine g_build ?_; first | refine s_bp3 ?_ | refine s_bp2 ?_ | refine s_bp1 ?_ | refine s_bp0 ?_ | refine s_build ?_ | refine s_buildP ?_) | (refine g_pure ?_; first | refine s_eqP ?_ | refine s_eqD ?_ | refine s_naddc ?_ | refine s_nadd ?_ | refine s_naddL ?_ | refine s_pure ?_ | refine s_saddB ?_) | (refine g_lfield ?_; refine s_lfield ?_) | (refine g_lload ?_; first | refine s_lloadPI ?_ | refine s_lloadPX ?_ | refine s_lloadPY ?_ | refine s_lloadPP ?_ | refine s_lload ?_) | (refine g_lstore ?_; first | refine s_lstoreP ?_ | refine s_lstorePX ?_ | refine s_lstorePY ?_ | refine s_lstoreA ?_ | refine s_lstore ?_) | (refine g_lindex ?_; refine s_lindex ?_) | (refine g_lalloc ?_; refine s_lalloc ?_) | (refine g_hload ?_; refine s_hloadP ?_)) | (with_reducible refine i_vc ?_; first | refine v_seq ?_ | refine v_ops ?_ | (refine g_cond ?_; first | refine s_cond_t ?_ | refine s_cond_f ?_) | refine v_block ?_ | refine v_skip ?_ | refine v_exit ?_ | refine v_ret ?_ | refine s_drawl ?_ | refine v_draw0 ?_) | (with_reducible refine i_plan ?_; first | refine p_done ?_ | refine s_pre ?_ | refine s_preN ?_ | refine s_ag_t ?_ | refine s_ag_f ?_ | refine s_alt ?_ | refine p_alt ?_ ?_) | (with_reducible first | refine n_then ?_ | refine r_then ?_ | refine e_then ?_ | refine n_block ?_ | refine r_block ?_ | refine e_block_eq (by with_unfolding_all rfl) ?_ | refine e_block_ne (by with_unfolding_all rfl) ?_ | (refine g_stand ?_; first | refine s_stand ?_ | refine s_standL ?_)) | ((with_reducible first | refine s_g_c ?_ ?_ | refine s_cond_c ?_ ?_ | refine s_tg_c ?_ ?_ | refine s_ag_c ?_ ?_) <;> intro hb <;> rw [hb] <;> (try simp only [decide_eq_true_eq, decide_eq_false_iff_not, beq_iff_eq, bne_iff_ne, beq_eq_false_iff_ne, bne_eq_false_iff_eq, ne_eq, Int.not_lt, Int.not_le, gt_iff_lt, ge_iff_le, Bool.not_eq_true', Bool.not_eq_false'] at hb)) | ((with_reducible first | refine s_retP1 ?_ | refine s_retP2 ?_ | refine s_ret ?_ | refine s_normal ?_); try simp only [x_tup0, x_tup1, x_tup2, x_tup3, x_tup4, x_tup5, and_true, true_and])))
  · exact ⟨by rw [decV, if_neg (by omega)], GH.le_refl _⟩
  · exact ⟨by rw [decV, if_neg (fun h => four_ne hb h.2)], GH.le_refl _⟩
  have h4 := four_eq hb
  have lx : ((bs.drop 1).take 32).length = 32 := by rw [List.length_take, List.length_drop]; omega
  have ly : ((bs.drop 33).take 32).length = 32 := by rw [List.length_take, List.length_drop]; omega
  have hd : decV bs = if onP ((bs.drop 1).take 32) ((bs.drop 33).take 32) false then .tuple #[pnt ((bs.drop 1).take 32) ((bs.drop 33).take 32) false, .int .i64 0] else .tuple #[pnt z0 z0 false, .int .i64 100] := by
    rw [decV, if_pos ⟨by omega, h4⟩]
  have gX : ∀ i, i < 32 → bs.getD (1 + i) 0 = ((bs.drop 1).take 32).getD i 0 := fun i hi => by
    simp only [List.getD_eq_getElem?_getD, List.getElem?_take, List.getElem?_drop, if_pos hi]
  have gY : ∀ i, i < 32 → bs.getD (33 + i) 0 = ((bs.drop 33).take 32).getD i 0 := fun i hi => by
    simp only [List.getD_eq_getElem?_getD, List.getElem?_take, List.getElem?_drop, if_pos hi]
  rw [hd]
  generalize (bs.drop 1).take 32 = X at *
  generalize (bs.drop 33).take 32 = Y at *
  refine v_loopX (α := Nat) (fun i => i ≤ 32) (fun i => [(0, u), (2, .int .u64 0), (3, .int .i64 0), (4, .int .u64 0), (5, iv .i64 i)]) (fun i => [(2, pcells z0 z0 false), (4, pcells (filN 32 (X.take i)) (filN 32 (Y.take i)) false)]) (fun _ => G) (fun i => 32 - i) 0 (Nat.zero_le _) (by refine ⟨SL.get_fn (by with_unfolding_all rfl), SL.get_fn (by with_unfolding_all rfl), SL.get_fn (by with_unfolding_all rfl), SL.get_fn (by with_unfolding_all rfl), SL.get_fn (by with_unfolding_all rfl), trivial⟩) (by refine ⟨AL.get_fn (by with_unfolding_all rfl), AL.get_fn (by with_unfolding_all rfl), trivial⟩) rfl ?_
  rintro i s ll k1
  dsimp only [SL.sets, AL.sets]
  have f1 : (filN 32 (X.take i)).length = 32 := filN_len (by rw [List.length_take]; omega)
  have f2 : (filN 32 (Y.take i)).length = 32 := filN_len (by rw [List.length_take]; omega)
  by_cases hi : i < 32
  · (repeat' (first | (with_reducible refine i_ops ?_; first | (refine g_s2a ?_; refine s_s2aB ?_; intro p hp) | (refine g_mv ?_; refine s_mv ?_) | refine o_nil ?_ | (refine g_some ?_; first | refine s_g_t ?_ | refine s_g_f ?_ | refine s_g_f' ?_ | refine s_g_u ?_) | (refine g_pick ?_; first | refine s_pick_t ?_ | refine s_pick_f ?_) | (refine g_len ?_; first | refine s_lenB ?_ | refine s_pure ?_) | (refine g_idx ?_; first | (refine s_idxOB ?_; intro p hp hpw) | (refine s_idxB ?_; intro p hp)) | (refine g_slc ?_; ((first | refine s_slcB ?_ | refine s_slcB01 ?_ | refine s_slcB10 ?_); intro us hus hbs)) | (refine g_build ?_; first | refine s_bp3 ?_ | refine s_bp2 ?_ | refine s_bp1 ?_ | refine s_bp0 ?_ | refine s_build ?_ | refine s_buildP ?_) | (refine g_pure ?_; first | refine s_eqP ?_ | refine s_eqD ?_ | refine s_naddc ?_ | refine s_nadd ?_ | refine s_naddL ?_ | refine s_pure ?_ | refine s_saddB ?_) | (refine g_lfield ?_; refine s_lfield ?_) | (refine g_lload ?_; first | refine s_lloadPI ?_ | refine s_lloadPX ?_ | refine s_lloadPY ?_ | refine s_lloadPP ?_ | refine s_lload ?_) | (refine g_lstore ?_; first | refine s_lstoreP ?_ | refine s_lstorePX ?_ | refine s_lstorePY ?_ | refine s_lstoreA ?_ | refine s_lstore ?_) | (refine g_lindex ?_; refine s_lindex ?_) | (refine g_lalloc ?_; refine s_lalloc ?_) | (refine g_hload ?_; refine s_hloadP ?_)) | (with_reducible refine i_vc ?_; first | refine v_seq ?_ | refine v_ops ?_ | (refine g_cond ?_; first | refine s_cond_t ?_ | refine s_cond_f ?_) | refine v_block ?_ | refine v_skip ?_ | refine v_exit ?_ | refine v_ret ?_ | refine s_drawl ?_ | refine v_draw0 ?_) | (with_reducible refine i_plan ?_; first | refine p_done ?_ | refine s_pre ?_ | refine s_preN ?_ | refine s_ag_t ?_ | refine s_ag_f ?_ | refine s_alt ?_ | refine p_alt ?_ ?_) | (with_reducible first | refine n_then ?_ | refine r_then ?_ | refine e_then ?_ | refine n_block ?_ | refine r_block ?_ | refine e_block_eq (by with_unfolding_all rfl) ?_ | refine e_block_ne (by with_unfolding_all rfl) ?_ | (refine g_stand ?_; first | refine s_stand ?_ | refine s_standL ?_)) | ((with_reducible first | refine s_g_c ?_ ?_ | refine s_cond_c ?_ ?_ | refine s_tg_c ?_ ?_ | refine s_ag_c ?_ ?_) <;> intro hb <;> rw [hb] <;> (try simp only [decide_eq_true_eq, decide_eq_false_iff_not, beq_iff_eq, bne_iff_ne, beq_eq_false_iff_ne, bne_eq_false_iff_eq, ne_eq, Int.not_lt, Int.not_le, gt_iff_lt, ge_iff_le, Bool.not_eq_true', Bool.not_eq_false'] at hb)) | ((with_reducible first | refine s_retP1 ?_ | refine s_retP2 ?_ | refine s_ret ?_ | refine s_normal ?_); try simp only [x_tup0, x_tup1, x_tup2, x_tup3, x_tup4, x_tup5, and_true, true_and])))
    · simp only [Int.toNat_natCast, gX i hi, gY i hi, fil_next lx hi, fil_next ly hi]
      exact ⟨32 - (i + 1), by omega, i + 1, rfl, by omega, (by refine ⟨SL.get_fn (by with_unfolding_all rfl), SL.get_fn (by with_unfolding_all rfl), SL.get_fn (by with_unfolding_all rfl), SL.get_fn (by with_unfolding_all rfl), SL.get_fn (by with_unfolding_all rfl), trivial⟩), (by refine ⟨AL.get_fn (by with_unfolding_all rfl), AL.get_fn (by with_unfolding_all rfl), trivial⟩), rfl⟩
    · omega
  · have hi : i = 32 := by omega
    subst hi
    have eX : filN 32 (List.take 32 X) = X := by rw [List.take_of_length_le (by omega), filN_all lx]
    have eY : filN 32 (List.take 32 Y) = Y := by rw [List.take_of_length_le (by omega), filN_all ly]
    rw [eX, eY]
    (repeat' (first | (with_reducible refine i_ops ?_; first | (refine g_s2a ?_; refine s_s2aB ?_; intro p hp) | (refine g_mv ?_; refine s_mv ?_) | refine o_nil ?_ | (refine g_some ?_; first | refine s_g_t ?_ | refine s_g_f ?_ | refine s_g_f' ?_ | refine s_g_u ?_) | (refine g_pick ?_; first | refine s_pick_t ?_ | refine s_pick_f ?_) | (refine g_len ?_; first | refine s_lenB ?_ | refine s_pure ?_) | (refine g_idx ?_; first | (refine s_idxOB ?_; intro p hp hpw) | (refine s_idxB ?_; intro p hp)) | (refine g_slc ?_; ((first | refine s_slcB ?_ | refine s_slcB01 ?_ | refine s_slcB10 ?_); intro us hus hbs)) | (refine g_build ?_; first | refine s_bp3 ?_ | refine s_bp2 ?_ | refine s_bp1 ?_ | refine s_bp0 ?_ | refine s_build ?_ | refine s_buildP ?_) | (refine g_pure ?_; first | refine s_eqP ?_ | refine s_eqD ?_ | refine s_naddc ?_ | refine s_nadd ?_ | refine s_naddL ?_ | refine s_pure ?_ | refine s_saddB ?_) | (refine g_lfield ?_; refine s_lfield ?_) | (refine g_lload ?_; first | refine s_lloadPI ?_ | refine s_lloadPX ?_ | refine s_lloadPY ?_ | refine s_lloadPP ?_ | refine s_lload ?_) | (refine g_lstore ?_; first | refine s_lstoreP ?_ | refine s_lstorePX ?_ | refine s_lstorePY ?_ | refine s_lstoreA ?_ | refine s_lstore ?_) | (refine g_lindex ?_; refine s_lindex ?_) | (refine g_lalloc ?_; refine s_lalloc ?_) | (refine g_hload ?_; refine s_hloadP ?_) | refine o_callp (by with_unfolding_all rfl) (by first | exact onR X Y false _ lx ly) ?_ | (refine o_callg (by with_unfolding_all rfl) (by first | exact onR X Y false _ lx ly) ?_; intro G' hle)) | (with_reducible refine i_vc ?_; first | refine v_seq ?_ | refine v_ops ?_ | (refine g_cond ?_; first | refine s_cond_t ?_ | refine s_cond_f ?_) | refine v_block ?_ | refine v_skip ?_ | refine v_exit ?_ | refine v_ret ?_ | refine s_drawl ?_ | refine v_draw0 ?_) | (with_reducible refine i_plan ?_; first | refine p_done ?_ | refine s_pre ?_ | refine s_preN ?_ | refine s_ag_t ?_ | refine s_ag_f ?_ | refine p_callp (by with_unfolding_all rfl) (by first | exact onR X Y false _ lx ly) (by first | assumption | exact GH.le_refl _ | ((repeat (first | exact GH.le_refl _ | assumption | refine GH.le_trans ?_ (by assumption))); first | done | fail)) ?_ p_no | (refine p_callg (by with_unfolding_all rfl) (by first | exact onR X Y false _ lx ly) (by first | assumption | exact GH.le_refl _ | ((repeat (first | exact GH.le_refl _ | assumption | refine GH.le_trans ?_ (by assumption))); first | done | fail)) ?_ p_no; intro G' hle) | refine s_alt ?_ | refine p_alt ?_ ?_) | (with_reducible first | refine n_then ?_ | refine r_then ?_ | refine e_then ?_ | refine n_block ?_ | refine r_block ?_ | refine e_block_eq (by with_unfolding_all rfl) ?_ | refine e_block_ne (by with_unfolding_all rfl) ?_ | (refine g_stand ?_; first | refine s_stand ?_ | refine s_standL ?_)) | ((with_reducible first | refine s_g_c ?_ ?_ | refine s_cond_c ?_ ?_ | refine s_tg_c ?_ ?_ | refine s_ag_c ?_ ?_) <;> intro hb <;> rw [hb] <;> (try simp only [decide_eq_true_eq, decide_eq_false_iff_not, beq_iff_eq, bne_iff_ne, beq_eq_false_iff_ne, bne_eq_false_iff_eq, ne_eq, Int.not_lt, Int.not_le, gt_iff_lt, ge_iff_le, Bool.not_eq_true', Bool.not_eq_false'] at hb)) | ((with_reducible first | refine s_retP1 ?_ | refine s_retP2 ?_ | refine s_ret ?_ | refine s_normal ?_); try simp only [x_tup0, x_tup1, x_tup2, x_tup3, x_tup4, x_tup5, and_true, true_and])))
    · rw [if_neg (by rw [hb]; decide)]
      exact ⟨rfl, by assumption⟩
    · rw [if_pos hb]
      exact ⟨rfl, by assumption⟩
end Go.Proofs.Ytdeihgcgglhhcaa.V
