/- Slices of one's own: cut, written; room made. -/
import Derived.Test.YtbmhdmkmnhaffaaSYZVHVJ
import Derived.MapKept
section
set_option linter.unusedSimpArgs false
set_option linter.unusedVariables false
namespace Go.Proofs.Ytbmhdmkmnhaffaa.V
open Go.RowKit
theorem OwnB.cut {n b : Nat} {G : GH} {u : Value} {xs sp : List Value} (h : OwnB n G b u xs sp) {j : Nat} (hj : j ≤ capS u) : ∃ a, u = .slice a (lenS u) (capS u) ∧ OwnB n G b (.slice a j (capS u)) ((xs ++ sp).take (j * n)) ((xs ++ sp).drop (j * n)) := by
  obtain ⟨q, len, cap, cs, e, fr, rfl, hG, h1, h2, h3, h4, h5, h6⟩ := h
  refine ⟨_, rfl, q, j, cap, cs, e, fr, rfl, hG, hj, h2, h3, h4, by rw [h5, List.take_append_drop], ?_⟩
  have hl : (xs ++ sp).length = cap * n := by rw [← h5]; exact extract_len h3
  have : j * n ≤ cap * n := Nat.mul_le_mul_right n hj
  rw [List.length_take, hl]; omega
/-- The beginning of what is one's own. -/
theorem Own.cut {n : Nat} {G0 G : GH} {u : Value} {xs : List Value} (h : Own n G0 G u xs) {k : IntKind} {j : Int} (h0 : 0 ≤ j) (h1 : j ≤ lenS u) : ∃ u', pureV (.slc n false true false) [u, .int k j] = some u' ∧ Own n G0 G u' (xs.take (j.toNat * n)) ∧ blkS u' = blkS u ∧ lenS u' = j.toNat := by
  rcases h with ⟨rfl, rfl⟩ | ⟨b, sp, hb, h⟩
  · have : j = 0 := by simp only [lenS] at h1; omega
    subst this
    exact ⟨.slice none 0 0, rfl, .inl ⟨rfl, by simp⟩, rfl, rfl⟩
  · obtain ⟨q, len, cap, cs, e, fr, rfl, hG, k1, k2⟩ := h
    have h : OwnB n G b (.slice (some ⟨b, q, none⟩) len cap) xs sp := ⟨q, len, cap, cs, e, fr, rfl, hG, k1, k2⟩
    have h1' : j.toNat ≤ len := by simp only [lenS] at h1; omega
    obtain ⟨a, e1, e2⟩ := h.cut (j := j.toNat) (by show j.toNat ≤ cap; omega)
    cases e1
    have hx : (xs ++ sp).take (j.toNat * n) = xs.take (j.toNat * n) := by
      have : j.toNat * n ≤ len * n := Nat.mul_le_mul_right n h1'
      have hl := h.sl.len
      simp only [lenS] at hl
      rw [List.take_append_of_le_length (by omega)]
    refine ⟨.slice (some ⟨b, q, none⟩) j.toNat cap, ?_, .inr ⟨b, (xs ++ sp).drop (j.toNat * n), hb, hx ▸ e2⟩, rfl, rfl⟩
    simp only [pureV, bnds, Option.bind_some, cutV, Option.getD_some, Option.getD_none]
    rw [if_pos ⟨Int.le_refl _, h0, by omega⟩]
    simp only [Option.map_some, Int.toNat_zero, Nat.sub_zero, addO, Nat.zero_mul]
    split
    · rfl
    · simp [Addr.add]
theorem Sl.shape {n : Nat} {G : GH} {u : Value} {xs : List Value} (h : Sl n G u xs) : ∃ a len cap, u = .slice a len cap := by
  obtain ⟨a, cap, e, _⟩ := h.slice
  exact ⟨a, _, cap, e⟩
theorem Own.shape {n : Nat} {G0 G : GH} {u : Value} {xs : List Value} (h : Own n G0 G u xs) : ∃ a len cap, u = .slice a len cap := h.sl.shape
/-- What was made later lies elsewhere. -/
theorem Own.disj {n m : Nat} {G0 G1 G2 : GH} {u v : Value} {xs ys : List Value} (h : Own n G0 G1 u xs) (h' : Own m G1 G2 v ys) : ∀ b, blkS v = some b → blkS u ≠ some b := by
  intro b hv hu
  rcases h with ⟨rfl, rfl⟩ | ⟨b1, sp, h0, k⟩
  · cases hu
  · have hb : b1 = b := by rw [k.blk] at hu; exact Option.some.inj hu
    subst hb
    obtain ⟨q, len, cap, cs, e, fr, rfl, hG, _⟩ := k
    exact h'.blk_ne hG hv
/-- A cell of one's own, to be written. -/
def PtW (G0 G : GH) (p u : Value) (xs : List Value) (j : Nat) : Prop := ∃ b q cs e fr, p = .pointer (some ⟨b, q, none⟩) ∧ G b = some (.cells cs e fr) ∧ q + 1 ≤ cs.size ∧ (fr.2 ≤ q ∨ q + 1 ≤ fr.1) ∧ blkS u = some b ∧ G0 b = none ∧
  ∀ v, Own 1 G0 (G.put b (.cells (wr cs q [v]) e fr)) u (xs.set j v)
theorem Own.ptw {G0 G : GH} {u : Value} {xs : List Value} (h : Own 1 G0 G u xs) {k : IntKind} {j : Int} (h0 : 0 ≤ j) (h1 : j < xs.length) : ∃ p, pureV (.iptrS 1) [u, .int k j] = some p ∧ PtW G0 G p u xs j.toNat := by
  obtain ⟨i, rfl⟩ : ∃ i : Nat, j = i := ⟨j.toNat, by omega⟩
  rcases h with ⟨rfl, rfl⟩ | ⟨b, sp, hb, h⟩
  · simp at h1; omega
  · obtain ⟨q, len, cap, cs, e, fr, rfl, hG, h3, h4, h5, h6, h7, h8, hw⟩ := h.write
    have hi : i < len := by omega
    have h6' : (xs ++ sp).length = cap := by omega
    refine ⟨.pointer (some ⟨b, q + i, none⟩), ?_, b, q + i, cs, e, fr, rfl, hG, by omega, ?_, rfl, hb, ?_⟩
    · simp only [pureV]
      first
        | (rw [if_pos (by omega)]; simp [add_plain]; done)
        | (simp [add_plain, hi]; done)
        | trace_state
    · rcases h4 with h4 | h4
      · left; omega
      · right; omega
    · intro v
      refine .inr ⟨b, sp, hb, hw i [v] (by simp; omega) len (xs.set i v) sp h7 (by simp; omega) ?_⟩
      simp only [List.length_singleton]
      rw [List.take_append_of_le_length (by omega), List.drop_append_of_le_length (by omega), ← List.append_assoc]
      congr 1
      rw [List.set_eq_take_append_cons_drop, if_pos (by omega)]; simp
section
variable {P : Program} {E : Env} {K : St → Prop} {r : List Stp} {dd : Option Nat} {L : SL} {A : AL} {G : GH}
theorem o_slcO {d n : Nat} {x z : Operand} {u : Value} {k' : IntKind} {j : Int} {xs : List Value} {G0 : GH} (hx : evo L x = some u) (hb : Own n G0 G u xs) (hz : evo L z = some (.int k' j)) (h1 : 0 ≤ j) (h2 : j ≤ lenS u) (h : ∀ u', Own n G0 G u' (xs.take (j.toNat * n)) → blkS u' = blkS u → lenS u' = j.toNat → vops P E r K (S (.set d u' L) A G)) : vops P E (⟨none, dd, .pure d (.slc n false true false) [x, z]⟩ :: r) K (S L A G) := by
  obtain ⟨u', e1, e2, e3, e4⟩ := hb.cut (k := k') h1 h2
  exact o_pure (vs := [u, .int k' j]) (by simp only [evs, hx, hz]) e1 (h u' e2 e3 e4)
theorem o_hstoreO {x z : Operand} {p u y : Value} {xs : List Value} {j : Nat} {G0 : GH} (hx : evo L x = some p) (hp : PtW G0 G p u xs j) (hz : evo L z = some y) (hy : y.oneCell' = true) (hG : G0.le G) (h : ∀ G', G0.le G' → Own 1 G0 G' u (xs.set j y) → (∀ b, blkS u ≠ some b → ∀ o, G b = some o → G' b = some o) → vops P E r K (S L A G')) : vops P E (⟨none, dd, .hstore 1 x z⟩ :: r) K (S L A G) := by
  obtain ⟨b, q, cs, e, fr, rfl, hb, h1, h2, h3, h4, h5⟩ := hp
  refine o_hstore (vs := [y]) hx hb hz (cells_one hy) ⟨rfl, h1, by simp [cells1, hy], h2⟩ ?_
  refine h _ (GH.le_put_of _ hG h4) (h5 y) ?_
  intro b' hne o ho
  rw [GH.put_ne _ _ (fun e => hne (by rw [h3, e]))]; exact ho
theorem o_idxOB {d : Nat} {x y : Operand} {u : Value} {k : IntKind} {j : Int} {bs : List UInt8} {G0 : GH} (hx : evo L x = some u) (hb : Own 1 G0 G u (bs.map bv)) (hy : evo L y = some (.int k j)) (h0 : 0 ≤ j) (h1 : j < bs.length) (h : ∀ p, PtR G p 1 false (bv (bs.getD j.toNat 0)) → PtW G0 G p u (bs.map bv) j.toNat → vops P E r K (S (.set d p L) A G)) : vops P E (⟨none, dd, .pure d (.iptrS 1) [x, y]⟩ :: r) K (S L A G) := by
  obtain ⟨p, hp, hr⟩ := hb.ptw (k := k) h0 (by rw [List.length_map]; exact h1)
  obtain ⟨p', hp', hr'⟩ := By.idx hb.sl (k := k) h0 h1
  rw [hp] at hp'
  cases hp'
  exact o_pure (vs := [u, .int k j]) (by simp only [evs, hx, hy]) hp (h p hr' hr)
theorem o_hstoreB {x z : Operand} {p u : Value} {bs : List UInt8} {b : UInt8} {j : Nat} {G0 : GH} (hx : evo L x = some p) (hp : PtW G0 G p u (bs.map bv) j) (hz : evo L z = some (bv b)) (hG : G0.le G) (h : ∀ G', G0.le G' → Own 1 G0 G' u ((bs.set j b).map bv) → (∀ b, blkS u ≠ some b → ∀ o, G b = some o → G' b = some o) → vops P E r K (S L A G')) : vops P E (⟨none, dd, .hstore 1 x z⟩ :: r) K (S L A G) := by
  refine o_hstoreO hx hp hz rfl hG fun G' h1 h2 h3 => h G' h1 ?_ h3
  rw [List.map_set]; exact h2
/-- Room made behind nothing. -/
theorem o_growz0 {n bytes d : Nat} {e : TypeId} {zero : Array Value} {x y : Operand} {k : IntKind} {l : Int} {G0 : GH} (hx : evo L x = some (.slice none 0 0)) (hy : evo L y = some (.int k l)) (h0 : 0 < l) (hz : zero.size = n) (hb : fitB (l.toNat * bytes) bytes ∧ l ≤ 9223372036854775807) (hG : G0.le G)
    (h : ∀ u' G' zs, G.le G' → Own n G0 G' u' zs → lenS u' = l.toNat → vops P E r K (S (.set d u' L) A G')) :
    vops P E (⟨none, dd, .growz d e n bytes zero x y⟩ :: r) K (S L A G) := by
  have hbb : fitB ((0 + l.toNat) * bytes) bytes := by rw [Nat.zero_add]; exact hb.1
  refine ⟨none, 0, 0, k, l, evo_ev hx, evo_ev hy, by omega, hbb, by omega, ?_⟩
  rw [if_neg (by omega)]
  refine ⟨[], by rw [evo_ev hx]; rfl, ?_⟩
  intro b c hbn hc hc2
  change G b = none at hbn
  have hfresh : G0 b = none := by
    cases e0 : G0 b with
    | none => rfl
    | some o => rw [hG b o e0] at hbn; cases hbn
  have hzs (m : Nat) : (Builtin.zeroCells zero m).size = m * n := by rw [zeroCells_size, hz]
  refine h _ _ (Builtin.zeroCells zero l.toNat).toList (GH.le_put _ hbn) (.inr ⟨b, (Builtin.zeroCells zero (c - (0 + l.toNat))).toList, hfresh, ?_⟩) (by simp [lenS])
  refine OwnB.fresh ?_ ?_ hc hc2 (by simp)
  · simp [hzs]
  · simp only [List.length_append, Array.length_toList, hzs, Nat.sub_mul, Nat.zero_add]
    have : l.toNat * n ≤ c * n := Nat.mul_le_mul_right n (by omega)
    omega
theorem x_capL (a : Option Addr) (n c : Nat) : pureV .capL [.slice a n c] = some (.int .i64 c) := rfl
theorem x_nilS (neg : Bool) (a : Option Addr) (n c n' c' : Nat) : pureV (.nilS neg) [.slice a n c, .slice none n' c'] = some (.bool (if neg then !a.isNone else a.isNone)) := rfl
end
section
variable {P : Program} {E : Env} {K : St → Prop} {L : SL} {A : AL} {G Gs : GH} {Ls : List Nat} {rest more : Plan} {dd : Option Nat} {i : Nat} {p : POp}
/-- What is to be shown behind a step of a region that draws. -/
def standK (P : Program) (E : Env) (Gs : GH) (Ls : List Nat) (K : St → Prop) (rest : Plan) (st st' : St) : Prop := stands Gs Ls st st' ∧ vplan P E Gs Ls K rest st'
/-- A step of a region that draws, as any other operation. -/
theorem p_alt (h : vops P E [⟨none, dd, p⟩] (standK P E Gs Ls K rest (S L A G)) (S L A G)) (hm : vplan P E Gs Ls K more (S L A G)) : vplan P E Gs Ls K (.alt i ⟨none, dd, p⟩ rest more) (S L A G) := ⟨h, hm⟩
theorem k_stand {L' : SL} {G' : GH} (hG : Gs.le G') (h : vplan P E Gs Ls K rest (S L' A G')) : standK P E Gs Ls K rest (S L A G) (S L' A G') := ⟨⟨hG, fun _ _ => rfl⟩, h⟩
theorem k_standL {L' : SL} {G' : GH} {k : Nat} {v : Array Value} (hk : Ls.all (fun j => !Nat.beq j k) = true) (hG : Gs.le G') (h : vplan P E Gs Ls K rest (S L' (.set k v A) G')) : standK P E Gs Ls K rest (S L A G) (S L' (.set k v A) G') := by
  refine ⟨⟨hG, fun j hj => ?_⟩, h⟩
  have := List.all_eq_true.1 hk j hj
  show (bif Nat.beq j k then v else A.fn j) = A.fn j
  rw [Bool.not_eq_true'] at this
  rw [this]; rfl
end
end Go.Proofs.Ytbmhdmkmnhaffaa.V
end
section
/- The steps, with their plain premises shown by default (printed by a program of this repo). -/
set_option linter.unusedVariables false
namespace Go.Proofs.Ytbmhdmkmnhaffaa.V
open Go.RowKit
section
variable {P : Program} {E : Env} {st : St} {Q : Exit → St → Prop} {K : St → Prop} {r : List Stp} {dd : Option Nat} {L : SL} {A : AL} {G Gs : GH} {Ls : List Nat} {i : Nat} {rest more : Plan} {p : POp}
theorem s_mv {d : Nat} {x : Operand} {v : Value} (h : vops P E r K (S (.set d v L) A G)) (hx : evo L x = some v := by with_unfolding_all rfl) : vops P E (⟨none, dd, .pure d .mv [x]⟩ :: r) K (S L A G) := o_mv (hx := hx) (h := h)
theorem s_pure {d : Nat} {f : PF} {xs : List Operand} {vs : List Value} {v : Value} (h : vops P E r K (S (.set d v L) A G)) (hx : evs L xs = some vs := by with_unfolding_all rfl) (hv : pureV f vs = some v := by (simp only [Int.reduceBEq, Int.reduceBNe, Int.reduceLE, decide_true, decide_false, beq_self_eq_true, bne_self_eq_false, Bool.not_true, Bool.not_false, Bool.and_true, Bool.and_self, x_bits8, x_bits32, x_bits64, x_bitsi, Nat.min_def, Nat.reduceLeDiff, Int.reducePow, Int.fdiv_eq_ediv_of_nonneg, Int.reduceLE, x_seqlB, x_sneqB, x_slssB, x_lenSB, strB_size, wrap8, x_add, x_sub, x_mul, x_quo, x_rem, x_eql, x_neq, x_lss, x_leq, x_gtr, x_geq, x_and, x_or, x_xor, x_shl, x_shr, x_sadd, x_beql, x_bneq, x_not, x_neg, x_convI, x_convS, x_ext2a, x_ext2b, x_ext3a, x_ext3b, x_ext3c, x_ext4a, x_ext4b, x_ext4c, x_ext4d, x_lenS, x_lenL, x_capL, x_nilS, Option.isNone_none, Option.isNone_some, x_min2, x_max2, x_take1, eqSh, x_eqA, Option.map_some, x_kindEq, cond_true, x_cells_i, x_cells_b, x_cells_s, x_cells_l, x_cells_p, x_cells_a, List.getElem?_toArray, List.getElem?_cons_zero, List.getElem?_cons_succ, reduceIte, if_true, if_false, Bool.false_eq_true, Int.reduceEq, Int.reduceNeg, Int.reduceToNat, Int.reduceAdd, Int.reduceSub, Int.reduceMul, Int.reduceLT, Nat.reduceAdd, Int.zero_add, Int.add_zero, Int.mul_one, Int.natCast_one, Int.cast_ofNat_Int, Int.toNat_natCast]; first | (rw [wrap_i64] <;> omega) | (rw [Int.tdiv_eq_ediv_of_nonneg (by omega), wrap_i64] <;> omega) | rw [Int.tmod_eq_emod_of_nonneg (by omega)] | rfl)) : vops P E (⟨none, dd, .pure d f xs⟩ :: r) K (S L A G) := o_pure (hx := hx) (hv := hv) (h := h)
theorem s_lfield {d s0 o : Nat} {p q : Int} (h : vops P E r K (S (.set d (.int .u64 q) L) A G)) (hp : L.get s0 = some (.int .u64 p) := by with_unfolding_all rfl) (hq : p + o = q := by (first | simp only [x_take1, List.getElem?_toArray, List.getElem?_cons_zero, List.getElem?_cons_succ, Int.reduceToNat, Int.reduceAdd, Int.reduceSub, Int.reduceMul, Int.zero_add, Int.add_zero, Int.mul_one, Int.natCast_one, Int.cast_ofNat_Int, Int.toNat_natCast, x_cells_i, x_cells_b, x_cells_s, x_cells_l, x_cells_p, x_cells_a] | skip); (first | done | rfl)) : vops P E (⟨none, dd, .lfield d s0 o⟩ :: r) K (S L A G) := o_lfield (hp := hp) (hq := hq) (h := h)
theorem s_lload {d k s0 n : Nat} {g : Bool} {p : Int} {cs : Array Value} {v : Value} (h : vops P E r K (S (.set d v L) A G)) (hp : L.get s0 = some (.int .u64 p) := by with_unfolding_all rfl) (hc : A.get k = some cs := by with_unfolding_all rfl) (hv : takeV g cs p.toNat n = some v := by first | exact x_takeA (by with_unfolding_all rfl) | ((first | simp only [x_take1, List.getElem?_toArray, List.getElem?_cons_zero, List.getElem?_cons_succ, Int.reduceToNat, Int.reduceAdd, Int.reduceSub, Int.reduceMul, Int.zero_add, Int.add_zero, Int.mul_one, Int.natCast_one, Int.cast_ofNat_Int, Int.toNat_natCast, x_cells_i, x_cells_b, x_cells_s, x_cells_l, x_cells_p, x_cells_a] | skip); (first | done | rfl))) : vops P E (⟨none, dd, .lload d k s0 n g⟩ :: r) K (S L A G) := o_lload (hp := hp) (hc := hc) (hv := hv) (h := h)
theorem s_pick_t {d : Nat} {c x y : Operand} {b v : Value} (h : vops P E r K (S (.set d v L) A G)) (hc : evo L c = some b := by with_unfolding_all rfl) (hb : b = .bool true := by with_reducible rfl) (hx : evo L x = some v := by with_unfolding_all rfl) : vops P E (⟨none, dd, .pure d .pick [c, x, y]⟩ :: r) K (S L A G) := o_pick_t (hc := hc) (hb := hb) (hx := hx) (h := h)
theorem s_pick_f {d : Nat} {c x y : Operand} {b v : Value} (h : vops P E r K (S (.set d v L) A G)) (hc : evo L c = some b := by with_unfolding_all rfl) (hb : b = .bool false := by with_reducible rfl) (hy : evo L y = some v := by with_unfolding_all rfl) : vops P E (⟨none, dd, .pure d .pick [c, x, y]⟩ :: r) K (S L A G) := o_pick_f (hc := hc) (hb := hb) (hy := hy) (h := h)
theorem s_g_t {t : Nat} {b : Bool} {p : POp} {v : Value} (h : vops P E (⟨none, dd, p⟩ :: r) K (S L A G)) (hg : L.get t = some v := by with_unfolding_all rfl) (hv : v = .bool b := by with_reducible rfl) : vops P E (⟨some (t, b), dd, p⟩ :: r) K (S L A G) := o_g_t (hg := hg) (hv := hv) (h := h)
theorem s_g_f {t d : Nat} {p : POp} {v : Value} (h : vops P E r K (S (.set d undef L) A G)) (hg : L.get t = some v := by with_unfolding_all rfl) (hv : v = .bool false := by with_reducible rfl) : vops P E (⟨some (t, true), some d, p⟩ :: r) K (S L A G) := o_g_f (hg := hg) (hv := hv) (h := h)
theorem s_g_f' {t d : Nat} {p : POp} {v : Value} (h : vops P E r K (S (.set d undef L) A G)) (hg : L.get t = some v := by with_unfolding_all rfl) (hv : v = .bool true := by with_reducible rfl) : vops P E (⟨some (t, false), some d, p⟩ :: r) K (S L A G) := o_g_f' (hg := hg) (hv := hv) (h := h)
theorem s_g_u {t d : Nat} {b : Bool} {p : POp} {v : Value} (h : vops P E r K (S (.set d undef L) A G)) (hg : L.get t = some v := by with_unfolding_all rfl) (hv : v = undef := by with_reducible rfl) : vops P E (⟨some (t, b), some d, p⟩ :: r) K (S L A G) := o_g_u (hg := hg) (hv := hv) (h := h)
theorem s_lenB {d : Nat} {x : Operand} {u : Value} {bs : List UInt8} (h : vops P E r K (S (.set d (.int .i64 bs.length) L) A G)) (hx : evo L x = some u := by with_unfolding_all rfl) (hb : By G u bs := by first | assumption | exact Own.sl (by assumption) | exact Sl.le (by assumption) (by first | assumption | exact GH.le_refl _ | ((repeat (first | exact GH.le_refl _ | assumption | refine GH.le_trans ?_ (by assumption))); first | done | fail)) | exact Sl.le (Own.sl (by assumption)) (by first | assumption | exact GH.le_refl _ | ((repeat (first | exact GH.le_refl _ | assumption | refine GH.le_trans ?_ (by assumption))); first | done | fail))) : vops P E (⟨none, dd, .pure d .lenL [x]⟩ :: r) K (S L A G) := o_lenB (hx := hx) (hb := hb) (h := h)
theorem s_idxOB {d : Nat} {x y : Operand} {u : Value} {k : IntKind} {j : Int} {bs : List UInt8} {G0 : GH} (h : ∀ p, PtR G p 1 false (bv (bs.getD j.toNat 0)) → PtW G0 G p u (bs.map bv) j.toNat → vops P E r K (S (.set d p L) A G)) (hx : evo L x = some u := by with_unfolding_all rfl) (hb : Own 1 G0 G u (bs.map bv) := by assumption) (hy : evo L y = some (.int k j) := by with_unfolding_all rfl) (h0 : 0 ≤ j := by omega) (h1 : j < bs.length := by omega) : vops P E (⟨none, dd, .pure d (.iptrS 1) [x, y]⟩ :: r) K (S L A G) := o_idxOB (hx := hx) (hb := hb) (hy := hy) (h0 := h0) (h1 := h1) (h := h)
theorem s_hstoreB {x z : Operand} {p u : Value} {bs : List UInt8} {b : UInt8} {j : Nat} {G0 : GH} (h : ∀ G', G0.le G' → Own 1 G0 G' u ((bs.set j b).map bv) → (∀ b, blkS u ≠ some b → ∀ o, G b = some o → G' b = some o) → vops P E r K (S L A G')) (hx : evo L x = some p := by with_unfolding_all rfl) (hp : PtW G0 G p u (bs.map bv) j := by assumption) (hz : evo L z = some (bv b) := by with_unfolding_all rfl) (hG : G0.le G := by first | assumption | exact GH.le_refl _ | ((repeat (first | exact GH.le_refl _ | assumption | refine GH.le_trans ?_ (by assumption))); first | done | fail)) : vops P E (⟨none, dd, .hstore 1 x z⟩ :: r) K (S L A G) := o_hstoreB (hx := hx) (hp := hp) (hz := hz) (hG := hG) (h := h)
theorem s_idxB {d : Nat} {x y : Operand} {u : Value} {k : IntKind} {j : Int} {bs : List UInt8} (h : ∀ p, PtR G p 1 false (bv (bs.getD j.toNat 0)) → vops P E r K (S (.set d p L) A G)) (hx : evo L x = some u := by with_unfolding_all rfl) (hb : By G u bs := by first | assumption | exact Own.sl (by assumption) | exact Sl.le (by assumption) (by first | assumption | exact GH.le_refl _ | ((repeat (first | exact GH.le_refl _ | assumption | refine GH.le_trans ?_ (by assumption))); first | done | fail)) | exact Sl.le (Own.sl (by assumption)) (by first | assumption | exact GH.le_refl _ | ((repeat (first | exact GH.le_refl _ | assumption | refine GH.le_trans ?_ (by assumption))); first | done | fail))) (hy : evo L y = some (.int k j) := by with_unfolding_all rfl) (h0 : 0 ≤ j := by omega) (h1 : j < bs.length := by omega) : vops P E (⟨none, dd, .pure d (.iptrS 1) [x, y]⟩ :: r) K (S L A G) := o_idxB (hx := hx) (hb := hb) (hy := hy) (h0 := h0) (h1 := h1) (h := h)
theorem s_hloadP {d n : Nat} {g : Bool} {x : Operand} {p v : Value} (h : vops P E r K (S (.set d v L) A G)) (hx : evo L x = some p := by with_unfolding_all rfl) (hp : PtR G p n g v := by assumption) : vops P E (⟨none, dd, .hload d n g x⟩ :: r) K (S L A G) := o_hloadP (hx := hx) (hp := hp) (h := h)
theorem s_b2sB {d : Nat} {x : Operand} {u : Value} {bs : List UInt8} (h : vops P E r K (S (.set d (.string (strB bs)) L) A G)) (hx : evo L x = some u := by with_unfolding_all rfl) (hb : By G u bs := by first | assumption | exact Own.sl (by assumption) | exact Sl.le (by assumption) (by first | assumption | exact GH.le_refl _ | ((repeat (first | exact GH.le_refl _ | assumption | refine GH.le_trans ?_ (by assumption))); first | done | fail)) | exact Sl.le (Own.sl (by assumption)) (by first | assumption | exact GH.le_refl _ | ((repeat (first | exact GH.le_refl _ | assumption | refine GH.le_trans ?_ (by assumption))); first | done | fail))) : vops P E (⟨none, dd, .b2s d x⟩ :: r) K (S L A G) := o_b2sB (hx := hx) (hb := hb) (h := h)
theorem s_slcB {d : Nat} {x y z : Operand} {u : Value} {k k' : IntKind} {i j : Int} {bs : List UInt8} (h : ∀ u', By G u' ((bs.drop i.toNat).take (j.toNat - i.toNat)) → blkS u' = blkS u → vops P E r K (S (.set d u' L) A G)) (hx : evo L x = some u := by with_unfolding_all rfl) (hb : By G u bs := by first | assumption | exact Own.sl (by assumption) | exact Sl.le (by assumption) (by first | assumption | exact GH.le_refl _ | ((repeat (first | exact GH.le_refl _ | assumption | refine GH.le_trans ?_ (by assumption))); first | done | fail)) | exact Sl.le (Own.sl (by assumption)) (by first | assumption | exact GH.le_refl _ | ((repeat (first | exact GH.le_refl _ | assumption | refine GH.le_trans ?_ (by assumption))); first | done | fail))) (hy : evo L y = some (.int k i) := by with_unfolding_all rfl) (hz : evo L z = some (.int k' j) := by with_unfolding_all rfl) (h0 : 0 ≤ i := by omega) (h1 : i ≤ j := by omega) (h2 : j ≤ bs.length := by first | omega | (simp only [List.length_cons, List.length_nil, List.length_drop, List.length_take, List.length_append]; omega) | (simp; omega) | (simp; done)) : vops P E (⟨none, dd, .pure d (.slc 1 true true false) [x, y, z]⟩ :: r) K (S L A G) := o_slcB (hx := hx) (hb := hb) (hy := hy) (hz := hz) (h0 := h0) (h1 := h1) (h2 := h2) (h := h)
theorem s_slcB01 {d : Nat} {x z : Operand} {u : Value} {k' : IntKind} {j : Int} {bs : List UInt8} (h : ∀ u', By G u' (bs.take j.toNat) → blkS u' = blkS u → vops P E r K (S (.set d u' L) A G)) (hx : evo L x = some u := by with_unfolding_all rfl) (hb : By G u bs := by first | assumption | exact Own.sl (by assumption) | exact Sl.le (by assumption) (by first | assumption | exact GH.le_refl _ | ((repeat (first | exact GH.le_refl _ | assumption | refine GH.le_trans ?_ (by assumption))); first | done | fail)) | exact Sl.le (Own.sl (by assumption)) (by first | assumption | exact GH.le_refl _ | ((repeat (first | exact GH.le_refl _ | assumption | refine GH.le_trans ?_ (by assumption))); first | done | fail))) (hz : evo L z = some (.int k' j) := by with_unfolding_all rfl) (h1 : 0 ≤ j := by omega) (h2 : j ≤ bs.length := by first | omega | (simp only [List.length_cons, List.length_nil, List.length_drop, List.length_take, List.length_append]; omega) | (simp; omega) | (simp; done)) : vops P E (⟨none, dd, .pure d (.slc 1 false true false) [x, z]⟩ :: r) K (S L A G) := o_slcB01 (hx := hx) (hb := hb) (hz := hz) (h1 := h1) (h2 := h2) (h := h)
theorem s_slcB10 {d : Nat} {x y : Operand} {u : Value} {k : IntKind} {i : Int} {bs : List UInt8} (h : ∀ u', By G u' (bs.drop i.toNat) → blkS u' = blkS u → vops P E r K (S (.set d u' L) A G)) (hx : evo L x = some u := by with_unfolding_all rfl) (hb : By G u bs := by first | assumption | exact Own.sl (by assumption) | exact Sl.le (by assumption) (by first | assumption | exact GH.le_refl _ | ((repeat (first | exact GH.le_refl _ | assumption | refine GH.le_trans ?_ (by assumption))); first | done | fail)) | exact Sl.le (Own.sl (by assumption)) (by first | assumption | exact GH.le_refl _ | ((repeat (first | exact GH.le_refl _ | assumption | refine GH.le_trans ?_ (by assumption))); first | done | fail))) (hy : evo L y = some (.int k i) := by with_unfolding_all rfl) (h0 : 0 ≤ i := by omega) (h1 : i ≤ bs.length := by first | omega | (simp only [List.length_cons, List.length_nil, List.length_drop, List.length_take, List.length_append]; omega) | (simp; omega) | (simp; done)) : vops P E (⟨none, dd, .pure d (.slc 1 true false false) [x, y]⟩ :: r) K (S L A G) := o_slcB10 (hx := hx) (hb := hb) (hy := hy) (h0 := h0) (h1 := h1) (h := h)
theorem s_saddB {d : Nat} {x y : Operand} {a b : List UInt8} (h : vops P E r K (S (.set d (.string (strB (a ++ b))) L) A G)) (hx : evo L x = some (.string (strB a)) := by with_unfolding_all rfl) (hy : evo L y = some (.string (strB b)) := by with_unfolding_all rfl) (hl : a.length + b.length ≤ 9223372036854775807 := by first | omega | (simp only [List.length_cons, List.length_nil, List.length_drop, List.length_take, List.length_append]; omega) | (simp; omega) | (simp; done)) : vops P E (⟨none, dd, .pure d (.bin .add) [x, y]⟩ :: r) K (S L A G) := o_saddB (hx := hx) (hy := hy) (hl := hl) (h := h)
theorem s_lalloc {d k : Nat} {z : Array Value} {ts : List Nat} (h : vops P E r K (S (.set d (.int .u64 0) (.kill ts L)) (.set k z A) G)) (ho : onceE E.env = true := by with_unfolding_all rfl) (hk : slotsOf E.env k = some ts := by with_unfolding_all rfl) : vops P E (⟨none, dd, .lalloc d k z⟩ :: r) K (S L A G) := o_lalloc (ho := ho) (hk := hk) (h := h)
theorem s_lbox {d k : Nat} {x : Operand} {v : Value} {z : Array Value} {ts : List Nat} (h : vops P E r K (S (.set d (.int .u64 0) (.kill ts L)) (.set k z A) G)) (ho : onceE E.env = true := by with_unfolding_all rfl) (hk : slotsOf E.env k = some ts := by with_unfolding_all rfl) (hx : evo L x = some v := by with_unfolding_all rfl) (hz : v.cells = z := by (first | simp only [x_take1, List.getElem?_toArray, List.getElem?_cons_zero, List.getElem?_cons_succ, Int.reduceToNat, Int.reduceAdd, Int.reduceSub, Int.reduceMul, Int.zero_add, Int.add_zero, Int.mul_one, Int.natCast_one, Int.cast_ofNat_Int, Int.toNat_natCast, x_cells_i, x_cells_b, x_cells_s, x_cells_l, x_cells_p, x_cells_a] | skip); (first | done | rfl)) : vops P E (⟨none, dd, .lbox d k x⟩ :: r) K (S L A G) := o_lbox (ho := ho) (hk := hk) (hx := hx) (hz := hz) (h := h)
theorem s_lstoreA {k s0 n : Nat} {x : Operand} {y : Value} {vs : List Value} {cs : Array Value} (h : vops P E r K (S L (.set k vs.toArray A) G)) (hp : L.get s0 = some (.int .u64 0) := by with_unfolding_all rfl) (hc : A.get k = some cs := by with_unfolding_all rfl) (hx : evo L x = some y := by with_unfolding_all rfl) (hy : y.cells = vs.toArray := by with_unfolding_all rfl) (hn : vs.length = n := by with_unfolding_all rfl) (hs : n = cs.size := by with_unfolding_all rfl) (h1 : cells1 vs = true := by with_unfolding_all rfl) : vops P E (⟨none, dd, .lstore k s0 n x⟩ :: r) K (S L A G) := o_lstoreA (hp := hp) (hc := hc) (hx := hx) (hy := hy) (hn := hn) (hs := hs) (h1 := h1) (h := h)
theorem s_lstore {k s0 n : Nat} {x : Operand} {p : Int} {y : Value} {vs : List Value} {cs cs' : Array Value} (h : vops P E r K (S L (.set k cs' A) G)) (hp : L.get s0 = some (.int .u64 p) := by with_unfolding_all rfl) (hc : A.get k = some cs := by with_unfolding_all rfl) (hx : evo L x = some y := by with_unfolding_all rfl) (hy : y.cells = vs.toArray := by with_unfolding_all rfl) (hn : vs.length = n ∧ p.toNat + n ≤ cs.size ∧ cells1 vs = true := by exact ⟨by with_unfolding_all rfl, Nat.le_of_ble_eq_true (by with_unfolding_all rfl), by with_unfolding_all rfl⟩) (hw : wr cs p.toNat vs = cs' := by simp only [wr, Int.reduceToNat, List.setIfInBounds_toArray, List.set_cons_succ, List.set_cons_zero, Nat.reduceAdd]; first | done | rfl) : vops P E (⟨none, dd, .lstore k s0 n x⟩ :: r) K (S L A G) := o_lstore (hp := hp) (hc := hc) (hx := hx) (hy := hy) (hn := hn) (hw := hw) (h := h)
theorem s_build {d : Nat} {f : PF} {xs : List Operand} {vs : List Value} {v : Value} (h : vops P E r K (S (.set d v L) A G)) (hx : evs L xs = some vs := by with_unfolding_all rfl) (hv : pureV f vs = some v := by exact x_build (by with_unfolding_all rfl) (by with_unfolding_all rfl) (by with_unfolding_all rfl)) : vops P E (⟨none, dd, .pure d f xs⟩ :: r) K (S L A G) := o_pure (hx := hx) (hv := hv) (h := h)
theorem s_buildP {d : Nat} {f : PF} {xs : List Operand} {vs : List Value} {v : Value} (h : vops P E r K (S (.set d v L) A G)) (hx : evs L xs = some vs := by with_unfolding_all rfl) (hv : pureV f vs = some v := by exact x_buildP (by with_unfolding_all rfl) (by simp only [buildL, List.setIfInBounds_toArray, List.set_cons_succ, List.set_cons_zero]; first | done | rfl)) : vops P E (⟨none, dd, .pure d f xs⟩ :: r) K (S L A G) := o_pure (hx := hx) (hv := hv) (h := h)
theorem s_cond_t {c : Operand} {a b : PC} {v : Value} (h : vc P E a Q (S L A G)) (hc : evo L c = some v := by with_unfolding_all rfl) (hv : v = .bool true := by with_reducible rfl) : vc P E (.cond c a b) Q (S L A G) := v_cond_t (hc := hc) (hv := hv) (h := h)
theorem s_cond_f {c : Operand} {a b : PC} {v : Value} (h : vc P E b Q (S L A G)) (hc : evo L c = some v := by with_unfolding_all rfl) (hv : v = .bool false := by with_reducible rfl) : vc P E (.cond c a b) Q (S L A G) := v_cond_f (hc := hc) (hv := hv) (h := h)
theorem s_drawl {pl : Plan} {l : List Stp} (h : vops P E l (Q .normal) (S L A G)) (hl : lin Ls pl = some l := by with_unfolding_all rfl) : vc P E (.draw Ls pl) Q (S L A G) := v_drawl (hl := hl) (h := h)
theorem s_pre {pl pl' : Plan} {s : Stp} {l : List Stp} (hv : vops P E (s :: l) (vplan P E G Ls K pl') (S L A G)) (h : pre Ls pl = some (s :: l, pl') := by with_unfolding_all rfl) : vplan P E G Ls K pl (S L A G) := p_pre (h := h) (hv := hv)
theorem s_preN {pl pl' : Plan} {s : Stp} {l : List Stp} (hv : vops P E (s :: l) (vplan P E Gs Ls K pl') (S L A G)) (h : pre Ls pl = some (s :: l, pl') := by with_unfolding_all rfl) (hn : (s :: l).all (fun s => noHeap s.p) = true := by with_unfolding_all rfl) : vplan P E Gs Ls K pl (S L A G) := p_preN (h := h) (hn := hn) (hv := hv)
theorem s_ag_t {t : Nat} {b : Bool} {p : POp} {v : Value} (h : vplan P E Gs Ls K (.alt i ⟨none, dd, p⟩ rest more) (S L A G)) (hg : L.get t = some v := by with_unfolding_all rfl) (hv : v = .bool b := by with_reducible rfl) : vplan P E Gs Ls K (.alt i ⟨some (t, b), dd, p⟩ rest more) (S L A G) := p_ag_t (hg := hg) (hv := hv) (h := h)
theorem s_ag_f {t d : Nat} {b : Bool} {p : POp} {v : Value} (h : vplan P E Gs Ls K rest (S (.set d undef L) A G)) (hg : L.get t = some v := by with_unfolding_all rfl) (hv : isB v b = false := by with_reducible first | exact x_isBft | exact x_isBtf | exact x_isBu _) : vplan P E Gs Ls K (.alt i ⟨some (t, b), some d, p⟩ rest .no) (S L A G) := p_ag_f (hg := hg) (hv := hv) (h := h) (hm := p_no)
theorem s_alt (h : vops P E [⟨none, dd, p⟩] (standK P E Gs Ls K rest (S L A G)) (S L A G)) : vplan P E Gs Ls K (.alt i ⟨none, dd, p⟩ rest .no) (S L A G) := p_alt (h := h) (hm := p_no)
theorem s_stand {L' : SL} {G' : GH} (h : vplan P E Gs Ls K rest (S L' A G')) (hG : Gs.le G' := by first | assumption | exact GH.le_refl _ | ((repeat (first | exact GH.le_refl _ | assumption | refine GH.le_trans ?_ (by assumption))); first | done | fail)) : standK P E Gs Ls K rest (S L A G) (S L' A G') := k_stand (hG := hG) (h := h)
theorem s_standL {L' : SL} {G' : GH} {k : Nat} {v : Array Value} (h : vplan P E Gs Ls K rest (S L' (.set k v A) G')) (hk : Ls.all (fun j => !Nat.beq j k) = true := by with_unfolding_all rfl) (hG : Gs.le G' := by first | assumption | exact GH.le_refl _ | ((repeat (first | exact GH.le_refl _ | assumption | refine GH.le_trans ?_ (by assumption))); first | done | fail)) : standK P E Gs Ls K rest (S L A G) (S L' (.set k v A) G') := k_standL (hk := hk) (hG := hG) (h := h)
theorem s_g_c {t : Nat} {b c : Bool} {p : POp} (h1 : c = true → vops P E (⟨some (t, b), dd, p⟩ :: r) K (S L A G)) (h2 : c = false → vops P E (⟨some (t, b), dd, p⟩ :: r) K (S L A G)) (hc : L.get t = some (.bool c) := by with_unfolding_all rfl) : vops P E (⟨some (t, b), dd, p⟩ :: r) K (S L A G) := o_g_c (hc := hc) (h1 := h1) (h2 := h2)
theorem s_cond_c {c : Operand} {a b : PC} {t : Bool} (h1 : t = true → vc P E (.cond c a b) Q (S L A G)) (h2 : t = false → vc P E (.cond c a b) Q (S L A G)) (hc : evo L c = some (.bool t) := by with_unfolding_all rfl) : vc P E (.cond c a b) Q (S L A G) := v_cond_c (hc := hc) (h1 := h1) (h2 := h2)
theorem s_tg_c {t : Nat} {b c : Bool} {p : POp} (h1 : c = true → vplan P E Gs Ls K (.take i ⟨some (t, b), dd, p⟩ rest) (S L A G)) (h2 : c = false → vplan P E Gs Ls K (.take i ⟨some (t, b), dd, p⟩ rest) (S L A G)) (hc : L.get t = some (.bool c) := by with_unfolding_all rfl) : vplan P E Gs Ls K (.take i ⟨some (t, b), dd, p⟩ rest) (S L A G) := p_tg_c (hc := hc) (h1 := h1) (h2 := h2)
theorem s_ag_c {t : Nat} {b c : Bool} {p : POp} (h1 : c = true → vplan P E Gs Ls K (.alt i ⟨some (t, b), dd, p⟩ rest more) (S L A G)) (h2 : c = false → vplan P E Gs Ls K (.alt i ⟨some (t, b), dd, p⟩ rest more) (S L A G)) (hc : L.get t = some (.bool c) := by with_unfolding_all rfl) : vplan P E Gs Ls K (.alt i ⟨some (t, b), dd, p⟩ rest more) (S L A G) := p_ag_c (hc := hc) (h1 := h1) (h2 := h2)
theorem s_ret {rs : List RV} {R : Value → GH → Prop} {vs : List Value} (h : R (tupV vs) G) (ho : rvos L A rs = some vs := by with_unfolding_all rfl) : endQ rs R .ret (S L A G) := q_ret (ho := ho) (h := h)
theorem s_normal {rs : List RV} {R : Value → GH → Prop} {vs : List Value} (h : R (tupV vs) G) (ho : rvos L A rs = some vs := by with_unfolding_all rfl) : endQ rs R .normal (S L A G) := q_normal (ho := ho) (h := h)
theorem g_mv {d : Nat} {x : Operand} (h : vops P E (⟨none, dd, .pure d .mv [x]⟩ :: r) K (S L A G)) : vops P E (⟨none, dd, .pure d .mv [x]⟩ :: r) K (S L A G) := h
theorem g_pick {d : Nat} {x y z : Operand} (h : vops P E (⟨none, dd, .pure d .pick [x, y, z]⟩ :: r) K (S L A G)) : vops P E (⟨none, dd, .pure d .pick [x, y, z]⟩ :: r) K (S L A G) := h
theorem g_len {d : Nat} {x : Operand} (h : vops P E (⟨none, dd, .pure d .lenL [x]⟩ :: r) K (S L A G)) : vops P E (⟨none, dd, .pure d .lenL [x]⟩ :: r) K (S L A G) := h
theorem g_idx {d : Nat} {x y : Operand} (h : vops P E (⟨none, dd, .pure d (.iptrS 1) [x, y]⟩ :: r) K (S L A G)) : vops P E (⟨none, dd, .pure d (.iptrS 1) [x, y]⟩ :: r) K (S L A G) := h
theorem g_slc {d n : Nat} {a b c : Bool} {xs : List Operand} (h : vops P E (⟨none, dd, .pure d (.slc n a b c) xs⟩ :: r) K (S L A G)) : vops P E (⟨none, dd, .pure d (.slc n a b c) xs⟩ :: r) K (S L A G) := h
theorem g_build {d : Nat} {z : Array Value} {ps : List (Nat × Nat)} {xs : List Operand} (h : vops P E (⟨none, dd, .pure d (.build z ps) xs⟩ :: r) K (S L A G)) : vops P E (⟨none, dd, .pure d (.build z ps) xs⟩ :: r) K (S L A G) := h
theorem g_pure {d : Nat} {f : PF} {xs : List Operand} (h : vops P E (⟨none, dd, .pure d f xs⟩ :: r) K (S L A G)) : vops P E (⟨none, dd, .pure d f xs⟩ :: r) K (S L A G) := h
theorem g_some {g : Nat × Bool} (h : vops P E (⟨some g, dd, p⟩ :: r) K (S L A G)) : vops P E (⟨some g, dd, p⟩ :: r) K (S L A G) := h
theorem g_lfield {d s o : Nat} (h : vops P E (⟨none, dd, .lfield d s o⟩ :: r) K (S L A G)) : vops P E (⟨none, dd, .lfield d s o⟩ :: r) K (S L A G) := h
theorem g_lload {d k s n : Nat} {g : Bool} (h : vops P E (⟨none, dd, .lload d k s n g⟩ :: r) K (S L A G)) : vops P E (⟨none, dd, .lload d k s n g⟩ :: r) K (S L A G) := h
theorem g_lstore {k s n : Nat} {x : Operand} (h : vops P E (⟨none, dd, .lstore k s n x⟩ :: r) K (S L A G)) : vops P E (⟨none, dd, .lstore k s n x⟩ :: r) K (S L A G) := h
theorem g_lalloc {d k : Nat} {z : Array Value} (h : vops P E (⟨none, dd, .lalloc d k z⟩ :: r) K (S L A G)) : vops P E (⟨none, dd, .lalloc d k z⟩ :: r) K (S L A G) := h
theorem g_lbox {d k : Nat} {x : Operand} (h : vops P E (⟨none, dd, .lbox d k x⟩ :: r) K (S L A G)) : vops P E (⟨none, dd, .lbox d k x⟩ :: r) K (S L A G) := h
theorem g_hload {d n : Nat} {g : Bool} {x : Operand} (h : vops P E (⟨none, dd, .hload d n g x⟩ :: r) K (S L A G)) : vops P E (⟨none, dd, .hload d n g x⟩ :: r) K (S L A G) := h
theorem g_hstore {n : Nat} {x y : Operand} (h : vops P E (⟨none, dd, .hstore n x y⟩ :: r) K (S L A G)) : vops P E (⟨none, dd, .hstore n x y⟩ :: r) K (S L A G) := h
theorem g_b2s {d : Nat} {x : Operand} (h : vops P E (⟨none, dd, .b2s d x⟩ :: r) K (S L A G)) : vops P E (⟨none, dd, .b2s d x⟩ :: r) K (S L A G) := h
theorem g_cond {c : Operand} {a b : PC} (h : vc P E (.cond c a b) Q (S L A G)) : vc P E (.cond c a b) Q (S L A G) := h
theorem g_stand {st st' : St} (h : standK P E Gs Ls K rest st st') : standK P E Gs Ls K rest st st' := h
end
theorem qle {G G' : GH} (h : G.le G' := by first | assumption | exact GH.le_refl _ | ((repeat (first | exact GH.le_refl _ | assumption | refine GH.le_trans ?_ (by assumption))); first | done | fail)) : G.le G' := h
theorem qrf {α : Type} {a b : α} (h : a = b := by with_unfolding_all rfl) : a = b := h
theorem hasS_cons {L : SL} {t : Nat} {v : Value} {kv : List (Nat × Value)} (h2 : hasS L.fn kv) (h1 : L.get t = some v := by with_unfolding_all rfl) : hasS L.fn ((t, v) :: kv) := ⟨SL.get_fn h1, h2⟩
theorem hasL_cons {A : AL} {t : Nat} {v : Array Value} {la : List (Nat × Array Value)} (h2 : hasL A.fn la) (h1 : A.get t = some v := by with_unfolding_all rfl) : hasL A.fn ((t, v) :: la) := ⟨AL.get_fn h1, h2⟩
theorem qhs {L : SL} {kv : List (Nat × Value)} (h : hasS L.fn kv := by (repeat (refine hasS_cons ?_)); exact trivial) : hasS L.fn kv := h
theorem qhl {A : AL} {la : List (Nat × Array Value)} (h : hasL A.fn la := by (repeat (refine hasL_cons ?_)); exact trivial) : hasL A.fn la := h
end Go.Proofs.Ytbmhdmkmnhaffaa.V
end
section
/- Library V, part M: regions that draw, by what each operation comes to. No program here. -/
set_option linter.unusedVariables false
set_option linter.unusedSimpArgs false
namespace Go.Proofs.Ytbmhdmkmnhaffaa.V
/-- What an operation comes to: a value, or something of which p is so. -/
inductive FS where
  | val (v : Value)
  | is (p : Value → GH → Prop)
section
variable {P : Program} {E : Env} {Q : Exit → St → Prop} {L : SL} {A : AL} {G : GH}
end
end Go.Proofs.Ytbmhdmkmnhaffaa.V
end
section
/- Library V, part N: loops over functions, calls of yield, results in boxes. No program here. -/
set_option linter.unusedVariables false
set_option linter.unusedSimpArgs false
namespace Go.Proofs.Ytbmhdmkmnhaffaa.V
section
variable {P : Program} {E : Env} {K : St → Prop} {Q : Exit → St → Prop} {r : List Stp} {dd : Option Nat} {L : SL} {A : AL} {G : GH}
/-- What a result is. -/
def rvTo (L : SL) (A : AL) (G : GH) : RV → Value → Prop
  | .slot t, v => L.get t = some v
  | .loc a k n, v => rvo L A (.loc a k n) = some v
  | .heap a n g, v => ∃ b q cs e fr, L.get a = some (.pointer (some ⟨b, q, none⟩)) ∧ G b = some (.cells cs e fr) ∧ takeV g cs q n = some v
def rvsTo (L : SL) (A : AL) (G : GH) : List RV → List Value → Prop
  | [], [] => True
  | x :: r, v :: vs => rvTo L A G x v ∧ rvsTo L A G r vs
  | _, _ => False
theorem rvTo_ok {x : RV} {v : Value} (h : rvTo L A G x v) : rvOk (S L A G) x ∧ rvV (S L A G) x = v := by
  cases x with
  | slot t => exact ⟨trivial, SL.get_fn h⟩
  | loc a k n => exact rvo_ok h
  | heap a n g =>
    obtain ⟨b, q, cs, e, fr, h1, h2, h3⟩ := h
    have h4 : L.fn a = .pointer (some ⟨b, q, none⟩) := SL.get_fn h1
    refine ⟨⟨b, q, cs, e, fr, v, h4, h2, h3⟩, ?_⟩
    show (match L.fn a with
      | .pointer (some ⟨b, q, none⟩) => match G b with
        | some (.cells cs _ _) => (takeV g cs q n).getD undef
        | _ => undef
      | _ => undef) = v
    rw [h4]
    simp only [h2, h3, Option.getD_some]
theorem rvsTo_ok : ∀ {xs : List RV} {vs : List Value}, rvsTo L A G xs vs → rvsOk (S L A G) xs ∧ xs.map (rvV (S L A G)) = vs
  | [], [], h => ⟨trivial, rfl⟩
  | [], _ :: _, h => h.elim
  | _ :: _, [], h => h.elim
  | x :: r, v :: vs, h => by
    obtain ⟨h1, h2⟩ := rvTo_ok h.1
    obtain ⟨h3, h4⟩ := rvsTo_ok h.2
    exact ⟨⟨h1, h3⟩, by rw [List.map_cons, h2, h4]⟩
theorem q_retH {rs : List RV} {R : Value → GH → Prop} (vs : List Value) (ho : rvsTo L A G rs vs) (h : R (tupV vs) G) : endQ rs R .ret (S L A G) := by
  obtain ⟨h1, h2⟩ := rvsTo_ok ho
  exact ⟨h1, by rw [h2]; exact h⟩
/-- A call of yield. -/
theorem o_yield {d l : Nat} {x : Operand} {xs : List Operand} {vs : List Value} {R : Value → GH → Prop} (hx : evo L x = some (.func (.yield l) #[] #[])) (ha : evs L xs = some vs) (hy : HY P l vs.toArray G R) (h : ∀ v G', R v G' → vops P E r K (S (.set d v L) A G')) : vops P E (⟨none, dd, .yieldc d x xs⟩ :: r) K (S L A G) := by
  refine ⟨l, evo_ev hx, ?_⟩
  show HY P l (xs.map (ev (S L A G))).toArray G _
  rw [evs_ev ha]
  exact hy.mono h
def SL.many : SL → List Nat → List Value → SL
  | L, p :: ps, x :: xs => SL.many (.set p x L) ps xs
  | L, _, _ => L
theorem many_fn : ∀ (ps : List Nat) (xs : List Value) (L : SL), (SL.many L ps xs).fn = setMany L.fn ps xs
  | [], xs, L => by cases xs <;> rfl
  | p :: ps, [], L => rfl
  | p :: ps, x :: xs, L => many_fn ps xs _
theorem noLoc_has {s : Nat → Value} : ∀ {kv : List (Nat × Value)}, hasS s kv → kv.all (fun p => (lookE E.env p.1).isNone) = true → hasS (noLoc E s) kv
  | [], _, _ => trivial
  | p :: r, h, hp => by
    simp only [List.all_cons, Bool.and_eq_true] at hp
    have h1 : lookE E.env p.1 = none := by simpa using hp.1
    exact ⟨by simp [noLoc, h1, h.1], noLoc_has h.2 hp.2⟩
/-- A LOOP OVER A FUNCTION: I: what holds behind k rounds; Ix: where a round leaves it. -/
theorem v_range {g : Operand} {ps : List Nat} {as b : PC} {gf : FuncId} {lb : List Value} (Gi : GH) (n : Nat) (Item : Nat → List Value → GH → GH → Prop) (I : Nat → GH → Prop) (Ix : Exit → GH → Prop) (kv : List (Nat × Value)) (hkv : hasS L.fn kv) (hpl : kv.all (fun p => (lookE E.env p.1).isNone) = true)
    (hg : evo L g = some (.func (.func gf) #[] lb.toArray)) (hc : callable P gf = true) (hit : IterC P gf lb Gi n Item) (mI : ∀ k G G', I k G → G.le G' → I k G') (mIx : ∀ e G G', Ix e G → G.le G' → Ix e G') (hGi : ∀ k G, I k G → Gi.le G) (h0 : I 0 G)
    (hb : ∀ k x G0 G1, k < n → I k G0 → G0.le G1 → Item k x G0 G1 → x.length = ps.length ∧ ∀ s l, vc P E as (thenQ (vc P E b (roundQ I Ix k)) (fun _ _ => False)) (S (SL.many (SL.sets s kv) ps x) (AL.any l) G1))
    (hd : ∀ G', I n G' → Q .normal (S L A G')) (hret : ∀ G', Ix .ret G' → Q .ret (S L A G')) (hex : ∀ id G', Ix (.exit id) G' → Q (.exit id) (S L A G')) : vc P E (.range g ps as b) Q (S L A G) := by
  refine ⟨gf, lb, Gi, n, Item, I, Ix, evo_ev hg, hc, hit, mI, mIx, hGi, h0, fun k x G0 G1 hk hI hle hi => ?_, hd, hret, hex⟩
  obtain ⟨h1, h2⟩ := hb k x G0 G1 hk hI hle hi
  refine ⟨h1, ?_⟩
  have h3 := h2 (noLoc E L.fn) A.fn
  have h4 : (SL.many (SL.sets (noLoc E L.fn) kv) ps x).fn = setMany (noLoc E L.fn) ps x := by
    rw [many_fn, sets_fn (noLoc_has hkv hpl)]
  unfold S at h3
  rw [h4] at h3
  exact h3
end
end Go.Proofs.Ytbmhdmkmnhaffaa.V
end
section
/- Maps whose keys are strings, as rows of names and values. -/
set_option linter.unusedVariables false
set_option linter.unusedSimpArgs false
namespace Go.Proofs.Ytbmhdmkmnhaffaa.V
open Go.RowKit Go.ChangeShapes Go.WideShapes
open Go.MapKept (Stamped)
abbrev Nm := List UInt8
abbrev AM := List (Nm × Value)
theorem strB_eq (a b : Nm) : (strB a == strB b) = decide (a = b) := by
  rw [beqBA, decide_eq_decide]
  exact ⟨strB_inj, fun h => by rw [h]⟩
def lkI (s : Nm) : AM → Nat → Option (Nat × Value)
  | [], _ => none
  | (k, v) :: m, i => if s = k then some (i, v) else lkI s m (i + 1)
def lk (s : Nm) : AM → Option Value
  | [] => none
  | (k, v) :: m => if s = k then some v else lk s m
def putM (s : Nm) (v : Value) : AM → AM
  | [] => [(s, v)]
  | (k, u) :: m => if s = k then (s, v) :: m else (k, u) :: putM s v m
def delM (s : Nm) : AM → AM
  | [] => []
  | (k, u) :: m => if s = k then m else (k, u) :: delM s m
theorem lkI_lk (s : Nm) : ∀ (m : AM) (i : Nat), (lkI s m i).map (·.2) = lk s m
  | [], _ => rfl
  | (k, v) :: m, i => by
    rw [lkI, lk]
    split
    · rfl
    · exact lkI_lk s m (i + 1)
theorem lk_put (s t : Nm) (v : Value) : ∀ m : AM, lk t (putM s v m) = if t = s then some v else lk t m
  | [] => by simp [putM, lk]
  | (k, u) :: m => by
    rw [putM]
    by_cases h : s = k
    · subst h
      rw [if_pos rfl, lk, lk]
      by_cases g : t = s
      · rw [if_pos g, if_pos g]
      · rw [if_neg g, if_neg g, if_neg g]
    · rw [if_neg h, lk, lk, lk_put s t v m]
      by_cases g : t = k
      · rw [if_pos g, if_pos g, if_neg (fun e => h (e.symm.trans g))]
      · rw [if_neg g, if_neg g]
theorem lk_none {s : Nm} : ∀ {m : AM}, s ∉ m.map (·.1) → lk s m = none
  | [], _ => rfl
  | (k, u) :: m, h => by
    rw [List.map_cons, List.mem_cons, not_or] at h
    rw [lk, if_neg h.1, lk_none h.2]
theorem lk_mem {s : Nm} {v : Value} : ∀ {m : AM}, lk s m = some v → s ∈ m.map (·.1)
  | (k, u) :: m, h => by
    rw [lk] at h
    split at h
    · rename_i e; subst e; exact List.mem_cons_self
    · exact List.mem_cons_of_mem _ (lk_mem h)
theorem lk_del (s t : Nm) : ∀ {m : AM}, (m.map (·.1)).Nodup → lk t (delM s m) = if t = s then none else lk t m
  | [], _ => by simp [delM, lk]
  | (k, u) :: m, h => by
    rw [List.map_cons, List.nodup_cons] at h
    rw [delM]
    by_cases e : s = k
    · subst e
      rw [if_pos rfl, lk]
      by_cases g : t = s
      · rw [if_pos g, g, lk_none h.1]
      · rw [if_neg g, if_neg g]
    · rw [if_neg e, lk, lk, lk_del s t h.2]
      by_cases g : t = k
      · rw [if_pos g, if_pos g, if_neg (fun e' => e (e'.symm.trans g))]
      · rw [if_neg g, if_neg g]
/-- A map's object. -/
def Ent (es : List MapEntry) (m : AM) : Prop := es.map (fun e => (e.key, e.val)) = m.map fun p => (Value.string (strB p.1), p.2)
def MapO (o : Obj) (m : AM) : Prop := ∃ es clock, o = .map es clock ∧ Ent es.toList m ∧ Stamped es clock
theorem Ent.strK {es : Array MapEntry} {m : AM} (h : Ent es.toList m) : strK es := by
  intro e he
  have h1 : (e.key, e.val) ∈ es.toList.map fun e => (e.key, e.val) := List.mem_map_of_mem he
  rw [h, List.mem_map] at h1
  obtain ⟨p, _, hp⟩ := h1
  exact ⟨strB p.1, (congrArg Prod.fst hp).symm⟩
theorem Ent.find {s : Nm} : ∀ {es : List MapEntry} {m : AM} (i : Nat), Ent es m → findS (strB s) es i = lkI s m i
  | [], [], _, _ => rfl
  | [], _ :: _, _, h => by cases h
  | _ :: _, [], _, h => by cases h
  | e :: es, (k, v) :: m, i, h => by
    simp only [Ent, List.map_cons, List.cons.injEq, Prod.mk.injEq] at h
    obtain ⟨⟨h1, h2⟩, h3⟩ := h
    simp only [findS, lkI, h1, h2, strB_eq]
    rw [Ent.find (i + 1) h3]
    by_cases g : s = k
    · rw [decide_eq_true g, if_pos g]; rfl
    · rw [decide_eq_false g, if_neg g]; rfl
theorem Ent.keys {es : List MapEntry} {m : AM} (h : Ent es m) : es.map (·.key) = (m.map (·.1)).map (fun s => Value.string (strB s)) := by
  have := congrArg (List.map Prod.fst) h
  rw [List.map_map, List.map_map] at this
  rw [List.map_map]
  exact this
theorem MapO.nodup {o : Obj} {m : AM} (h : MapO o m) : (m.map (·.1)).Nodup := by
  obtain ⟨es, c, rfl, h1, h2⟩ := h
  have h3 := h2.2.2
  have e := h1.keys
  rw [e] at h3
  exact List.Pairwise.of_map _ (fun a b hab he => hab (by rw [he])) h3
theorem lkI_ge {s : Nm} : ∀ {m : AM} {i j : Nat} {v : Value}, lkI s m i = some (j, v) → i ≤ j
  | (k, u) :: m, i, j, v, h => by
    rw [lkI] at h
    split at h
    · cases h; exact Nat.le_refl _
    · exact Nat.le_of_succ_le (lkI_ge h)
theorem ent_put {s : Nm} {v : Value} : ∀ {es : List MapEntry} {m : AM} {i j : Nat} {u : Value}, Ent es m → lkI s m i = some (j, u) →
    Ent (es.modify (j - i) fun e => { e with key := .string (strB s), val := v }) (putM s v m)
      ∧ (es.modify (j - i) fun e => { e with key := .string (strB s), val := v }).map (·.key) = es.map (·.key) ∧ (es.modify (j - i) fun e => { e with key := .string (strB s), val := v }).map (·.born) = es.map (·.born)
  | [], [], _, _, _, _, h => by cases h
  | [], _ :: _, _, _, _, h, _ => by cases h
  | _ :: _, [], _, _, _, h, _ => by cases h
  | e :: es, (k, w) :: m, i, j, u, h, hl => by
    simp only [Ent, List.map_cons, List.cons.injEq, Prod.mk.injEq] at h
    obtain ⟨⟨h1, h2⟩, h3⟩ := h
    rw [lkI] at hl
    by_cases g : s = k
    · rw [if_pos g] at hl
      cases hl
      subst g
      rw [Nat.sub_self, putM, if_pos rfl]
      simp only [Ent, List.modify_zero_cons, List.map_cons, h1, h3, and_self]
    · rw [if_neg g] at hl
      have hge := lkI_ge hl
      obtain ⟨a, b, c⟩ := ent_put h3 hl
      rw [putM, if_neg g, show j - i = (j - (i + 1)) + 1 by omega]
      simp only [Ent] at a
      simp only [Ent, List.modify_succ_cons, List.map_cons, h1, h2]
      rw [a]
      exact ⟨rfl, congrArg (_ :: ·) b, congrArg (_ :: ·) c⟩
theorem lkI_none {s : Nm} {m : AM} : ∀ {i : Nat}, lkI s m i = none → s ∉ m.map (·.1) := by
  induction m with
  | nil => intro i _; simp
  | cons p m ih =>
    obtain ⟨k, u⟩ := p
    intro i h
    rw [lkI] at h
    split at h
    · cases h
    · rename_i g
      rw [List.map_cons, List.mem_cons, not_or]
      exact ⟨g, ih h⟩
theorem putM_new {s : Nm} {v : Value} : ∀ {m : AM}, s ∉ m.map (·.1) → putM s v m = m ++ [(s, v)]
  | [], _ => rfl
  | (k, u) :: m, h => by
    rw [List.map_cons, List.mem_cons, not_or] at h
    rw [putM, if_neg h.1, putM_new h.2]
    rfl
theorem MapO.put {es : Array MapEntry} {c : Nat} {m : AM} (h1 : Ent es.toList m) (h2 : Stamped es c) (s : Nm) (v : Value) : MapO (putS (strB s) v es c) (putM s v m) := by
  unfold putS
  rw [h1.find 0]
  cases hl : lkI s m 0 with
  | some r =>
    obtain ⟨j, u⟩ := r
    obtain ⟨a, b, d⟩ := ent_put (v := v) h1 hl
    rw [Nat.sub_zero] at a b d
    refine ⟨_, _, rfl, ?_, ?_⟩
    · rw [Array.toList_modify]; exact a
    · obtain ⟨k1, k2, k3⟩ := h2
      unfold Stamped
      rw [Array.toList_modify, b, d]
      refine ⟨fun x hx => ?_, k2, k3⟩
      have : x.born ∈ es.toList.map (·.born) := by rw [← d]; exact List.mem_map_of_mem hx
      obtain ⟨y, hy, e⟩ := List.mem_map.1 this
      rw [← e]
      exact k1 y hy
  | none =>
    have hn := lkI_none hl
    refine ⟨_, _, rfl, ?_, ?_⟩
    · rw [Array.toList_push, putM_new hn]
      simp only [Ent, List.map_append, List.map_cons, List.map_nil]
      rw [h1]
    · obtain ⟨k1, k2, k3⟩ := h2
      unfold Stamped
      rw [Array.toList_push]
      refine ⟨fun x hx => ?_, ?_, ?_⟩
      · rw [List.mem_append, List.mem_singleton] at hx
        rcases hx with hx | rfl
        · exact Nat.lt_succ_of_lt (k1 x hx)
        · exact Nat.lt_succ_self _
      · rw [List.map_append, List.nodup_append]
        refine ⟨k2, by simp, fun a ha b hb => ?_⟩
        obtain ⟨y, hy, rfl⟩ := List.mem_map.1 ha
        simp only [List.map_cons, List.map_nil, List.mem_singleton] at hb
        have := k1 y hy
        omega
      · rw [List.map_append, List.nodup_append]
        refine ⟨k3, by simp, fun a ha b hb e => ?_⟩
        simp only [List.map_cons, List.map_nil, List.mem_singleton] at hb
        have e2 := h1.keys
        rw [e2, List.mem_map] at ha
        obtain ⟨t, ht, rfl⟩ := ha
        rw [hb, Value.string.injEq] at e
        exact hn (strB_inj e ▸ ht)
theorem ent_del {s : Nm} : ∀ {es : List MapEntry} {m : AM} {i j : Nat} {u : Value}, Ent es m → lkI s m i = some (j, u) → Ent (es.eraseIdx (j - i)) (delM s m)
  | [], [], _, _, _, _, h => by cases h
  | [], _ :: _, _, _, _, h, _ => by cases h
  | _ :: _, [], _, _, _, h, _ => by cases h
  | e :: es, (k, w) :: m, i, j, u, h, hl => by
    simp only [Ent, List.map_cons, List.cons.injEq, Prod.mk.injEq] at h
    obtain ⟨⟨h1, h2⟩, h3⟩ := h
    rw [lkI] at hl
    by_cases g : s = k
    · rw [if_pos g] at hl
      cases hl
      rw [Nat.sub_self, delM, if_pos g, List.eraseIdx_cons_zero]
      exact h3
    · rw [if_neg g] at hl
      have hge := lkI_ge hl
      have a := ent_del h3 hl
      rw [delM, if_neg g, show j - i = (j - (i + 1)) + 1 by omega, List.eraseIdx_cons_succ]
      simp only [Ent, List.map_cons, h1, h2] at a ⊢
      rw [a]
theorem delM_none {s : Nm} : ∀ {m : AM}, s ∉ m.map (·.1) → delM s m = m
  | [], _ => rfl
  | (k, u) :: m, h => by
    rw [List.map_cons, List.mem_cons, not_or] at h
    rw [delM, if_neg h.1, delM_none h.2]
theorem MapO.del {es : Array MapEntry} {c : Nat} {m : AM} (h1 : Ent es.toList m) (h2 : Stamped es c) (s : Nm) : MapO (delS (strB s) es c) (delM s m) := by
  unfold delS
  rw [h1.find 0]
  cases hl : lkI s m 0 with
  | some r =>
    obtain ⟨j, u⟩ := r
    have a := ent_del h1 hl
    rw [Nat.sub_zero] at a
    have et : (es.eraseIdxIfInBounds j).toList = es.toList.eraseIdx j := by
      rw [Array.eraseIdxIfInBounds]
      split
      · rw [Array.toList_eraseIdx]
      · rename_i hj
        rw [List.eraseIdx_of_length_le (by simpa using hj)]
    refine ⟨_, _, rfl, by rw [et]; exact a, ?_⟩
    obtain ⟨k1, k2, k3⟩ := h2
    unfold Stamped
    rw [et]
    have sub := List.eraseIdx_sublist es.toList j
    exact ⟨fun x hx => k1 x (sub.subset hx), (sub.map _).nodup k2, (sub.map _).nodup k3⟩
  | none =>
    rw [delM_none (lkI_none hl)]
    exact ⟨_, _, rfl, h1, h2⟩
theorem MapO.empty : MapO (.map #[] 0) [] := ⟨#[], 0, rfl, rfl, by simp [Stamped]⟩
section
variable {P : Program} {E : Env} {K : St → Prop} {r : List Stp} {dd : Option Nat} {L : SL} {A : AL} {G : GH}
theorem o_mkmap {d : Nat} (h : ∀ b, G b = none → vops P E r K (S (.set d (.map (some b)) L) A (G.put b (.map #[] 0)))) : vops P E (⟨none, dd, .mkmap d⟩ :: r) K (S L A G) := h
theorem o_mlook {d b : Nat} {z : Value} {ok : Bool} {x k : Operand} {o : Obj} {m : AM} {s : Nm} (hx : evo L x = some (.map (some b))) (hk : evo L k = some (.string (strB s))) (hb : G b = some o) (hm : MapO o m) (h : vops P E r K (S (.set d (lookV ok z (lkI s m 0)) L) A G)) : vops P E (⟨none, dd, .mlook d z ok x k⟩ :: r) K (S L A G) := by
  obtain ⟨es, c, rfl, h1, h2⟩ := hm
  refine ⟨strB s, evo_ev hk, .inr ⟨b, es, c, evo_ev hx, hb, h1.strK, ?_⟩⟩
  rw [h1.find 0]
  exact h
theorem o_mput {b : Nat} {x k v : Operand} {o : Obj} {m : AM} {s : Nm} {y : Value} (hx : evo L x = some (.map (some b))) (hk : evo L k = some (.string (strB s))) (hv : evo L v = some y) (hb : G b = some o) (hm : MapO o m) (h : ∀ o', MapO o' (putM s y m) → vops P E r K (S L A (G.put b o'))) : vops P E (⟨none, dd, .mput x k v⟩ :: r) K (S L A G) := by
  obtain ⟨es, c, rfl, h1, h2⟩ := hm
  refine ⟨strB s, b, es, c, evo_ev hk, evo_ev hx, hb, h1.strK, ?_⟩
  rw [evo_ev hv]
  exact h _ (MapO.put h1 h2 s y)
theorem o_mdel {b : Nat} {x k : Operand} {o : Obj} {m : AM} {s : Nm} (hx : evo L x = some (.map (some b))) (hk : evo L k = some (.string (strB s))) (hb : G b = some o) (hm : MapO o m) (h : ∀ o', MapO o' (delM s m) → vops P E r K (S L A (G.put b o'))) : vops P E (⟨none, dd, .mdel x k⟩ :: r) K (S L A G) := by
  obtain ⟨es, c, rfl, h1, h2⟩ := hm
  exact ⟨strB s, evo_ev hk, .inr ⟨b, es, c, evo_ev hx, hb, h1.strK, h _ (MapO.del h1 h2 s)⟩⟩
end
end Go.Proofs.Ytbmhdmkmnhaffaa.V
end
