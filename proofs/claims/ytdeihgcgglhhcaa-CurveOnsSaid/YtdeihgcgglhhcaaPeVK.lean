/- Slices of one's own: cut, written; room made. -/
import Derived.Test.YtdeihgcgglhhcaaPeVJ
set_option linter.unusedSimpArgs false
set_option linter.unusedVariables false
namespace Go.Proofs.Ytdeihgcgglhhcaa.V
open Go.RowKit
theorem OwnB.cut {n b : Nat} {G : GH} {u : Value} {xs sp : List Value} (h : OwnB n G b u xs sp) {j : Nat} (hj : j ≤ capS u) : ∃ a, u = .slice a (lenS u) (capS u) ∧ OwnB n G b (.slice a j (capS u)) ((xs ++ sp).take (j * n)) ((xs ++ sp).drop (j * n)) := by
  obtain ⟨q, len, cap, cs, e, fr, rfl, hG, h1, h2, h3, h4, h5, h6⟩ := h
  refine ⟨_, rfl, q, j, cap, cs, e, fr, rfl, hG, hj, h2, h3, h4, by rw [h5, List.take_append_drop], ?_⟩
  have hl : (xs ++ sp).length = cap * n := by rw [← h5]; exact extract_len h3
  have : j * n ≤ cap * n := Nat.mul_le_mul_right n hj
  rw [List.length_take, hl]; omega
/-- The beginning of what is one's own. -/
theorem Own.cut {n : Nat} {G0 G : GH} {u : Value} {xs : List Value} (h : Own n G0 G u xs) {k : IntKind} {j : Int} (h0 : 0 ≤ j) (h1 : j ≤ lenS u) : ∃ u', pureV (.slc n false true false) [u, .int k j] = some u' ∧ Own n G0 G u' (xs.take (j.toNat * n)) ∧ blkS u' = blkS u ∧ lenS u' = j.toNat := by
  rcases h with ⟨rfl, rfl⟩ | ⟨b, sp, hb, h⟩
  · have : j = 0 := by simp only [lenS] at h1; omega
    subst this
    exact ⟨.slice none 0 0, rfl, .inl ⟨rfl, by simp⟩, rfl, rfl⟩
  · obtain ⟨q, len, cap, cs, e, fr, rfl, hG, k1, k2⟩ := h
    have h : OwnB n G b (.slice (some ⟨b, q, none⟩) len cap) xs sp := ⟨q, len, cap, cs, e, fr, rfl, hG, k1, k2⟩
    have h1' : j.toNat ≤ len := by simp only [lenS] at h1; omega
    obtain ⟨a, e1, e2⟩ := h.cut (j := j.toNat) (by show j.toNat ≤ cap; omega)
    cases e1
    have hx : (xs ++ sp).take (j.toNat * n) = xs.take (j.toNat * n) := by
      have : j.toNat * n ≤ len * n := Nat.mul_le_mul_right n h1'
      have hl := h.sl.len
      simp only [lenS] at hl
      rw [List.take_append_of_le_length (by omega)]
    refine ⟨.slice (some ⟨b, q, none⟩) j.toNat cap, ?_, .inr ⟨b, (xs ++ sp).drop (j.toNat * n), hb, hx ▸ e2⟩, rfl, rfl⟩
    simp only [pureV, bnds, Option.bind_some, cutV, Option.getD_some, Option.getD_none]
    rw [if_pos ⟨Int.le_refl _, h0, by omega⟩]
    simp only [Option.map_some, Int.toNat_zero, Nat.sub_zero, addO, Nat.zero_mul]
    split
    · rfl
    · simp [Addr.add]
theorem Sl.shape {n : Nat} {G : GH} {u : Value} {xs : List Value} (h : Sl n G u xs) : ∃ a len cap, u = .slice a len cap := by
  obtain ⟨a, cap, e, _⟩ := h.slice
  exact ⟨a, _, cap, e⟩
theorem Own.shape {n : Nat} {G0 G : GH} {u : Value} {xs : List Value} (h : Own n G0 G u xs) : ∃ a len cap, u = .slice a len cap := h.sl.shape
/-- What was made later lies elsewhere. -/
theorem Own.disj {n m : Nat} {G0 G1 G2 : GH} {u v : Value} {xs ys : List Value} (h : Own n G0 G1 u xs) (h' : Own m G1 G2 v ys) : ∀ b, blkS v = some b → blkS u ≠ some b := by
  intro b hv hu
  rcases h with ⟨rfl, rfl⟩ | ⟨b1, sp, h0, k⟩
  · cases hu
  · have hb : b1 = b := by rw [k.blk] at hu; exact Option.some.inj hu
    subst hb
    obtain ⟨q, len, cap, cs, e, fr, rfl, hG, _⟩ := k
    exact h'.blk_ne hG hv
/-- A cell of one's own, to be written. -/
def PtW (G0 G : GH) (p u : Value) (xs : List Value) (j : Nat) : Prop := ∃ b q cs e fr, p = .pointer (some ⟨b, q, none⟩) ∧ G b = some (.cells cs e fr) ∧ q + 1 ≤ cs.size ∧ (fr.2 ≤ q ∨ q + 1 ≤ fr.1) ∧ blkS u = some b ∧ G0 b = none ∧
  ∀ v, Own 1 G0 (G.put b (.cells (wr cs q [v]) e fr)) u (xs.set j v)
theorem Own.ptw {G0 G : GH} {u : Value} {xs : List Value} (h : Own 1 G0 G u xs) {k : IntKind} {j : Int} (h0 : 0 ≤ j) (h1 : j < xs.length) : ∃ p, pureV (.iptrS 1) [u, .int k j] = some p ∧ PtW G0 G p u xs j.toNat := by
  obtain ⟨i, rfl⟩ : ∃ i : Nat, j = i := ⟨j.toNat, by omega⟩
  rcases h with ⟨rfl, rfl⟩ | ⟨b, sp, hb, h⟩
  · simp at h1; omega
  · obtain ⟨q, len, cap, cs, e, fr, rfl, hG, h3, h4, h5, h6, h7, h8, hw⟩ := h.write
    have hi : i < len := by omega
    have h6' : (xs ++ sp).length = cap := by omega
    refine ⟨.pointer (some ⟨b, q + i, none⟩), ?_, b, q + i, cs, e, fr, rfl, hG, by omega, ?_, rfl, hb, ?_⟩
    · simp only [pureV]
      first
        | (rw [if_pos (by omega)]; simp [add_plain]; done)
        | (simp [add_plain, hi]; done)
        | trace_state
    · rcases h4 with h4 | h4
      · left; omega
      · right; omega
    · intro v
      refine .inr ⟨b, sp, hb, hw i [v] (by simp; omega) len (xs.set i v) sp h7 (by simp; omega) ?_⟩
      simp only [List.length_singleton]
      rw [List.take_append_of_le_length (by omega), List.drop_append_of_le_length (by omega), ← List.append_assoc]
      congr 1
      rw [List.set_eq_take_append_cons_drop, if_pos (by omega)]; simp
section
variable {P : Program} {E : Env} {K : St → Prop} {r : List Stp} {dd : Option Nat} {L : SL} {A : AL} {G : GH}
theorem o_slcO {d n : Nat} {x z : Operand} {u : Value} {k' : IntKind} {j : Int} {xs : List Value} {G0 : GH} (hx : evo L x = some u) (hb : Own n G0 G u xs) (hz : evo L z = some (.int k' j)) (h1 : 0 ≤ j) (h2 : j ≤ lenS u) (h : ∀ u', Own n G0 G u' (xs.take (j.toNat * n)) → blkS u' = blkS u → lenS u' = j.toNat → vops P E r K (S (.set d u' L) A G)) : vops P E (⟨none, dd, .pure d (.slc n false true false) [x, z]⟩ :: r) K (S L A G) := by
  obtain ⟨u', e1, e2, e3, e4⟩ := hb.cut (k := k') h1 h2
  exact o_pure (vs := [u, .int k' j]) (by simp only [evs, hx, hz]) e1 (h u' e2 e3 e4)
theorem o_hstoreO {x z : Operand} {p u y : Value} {xs : List Value} {j : Nat} {G0 : GH} (hx : evo L x = some p) (hp : PtW G0 G p u xs j) (hz : evo L z = some y) (hy : y.oneCell' = true) (hG : G0.le G) (h : ∀ G', G0.le G' → Own 1 G0 G' u (xs.set j y) → (∀ b, blkS u ≠ some b → ∀ o, G b = some o → G' b = some o) → vops P E r K (S L A G')) : vops P E (⟨none, dd, .hstore 1 x z⟩ :: r) K (S L A G) := by
  obtain ⟨b, q, cs, e, fr, rfl, hb, h1, h2, h3, h4, h5⟩ := hp
  refine o_hstore (vs := [y]) hx hb hz (cells_one hy) ⟨rfl, h1, by simp [cells1, hy], h2⟩ ?_
  refine h _ (GH.le_put_of _ hG h4) (h5 y) ?_
  intro b' hne o ho
  rw [GH.put_ne _ _ (fun e => hne (by rw [h3, e]))]; exact ho
theorem o_idxOB {d : Nat} {x y : Operand} {u : Value} {k : IntKind} {j : Int} {bs : List UInt8} {G0 : GH} (hx : evo L x = some u) (hb : Own 1 G0 G u (bs.map bv)) (hy : evo L y = some (.int k j)) (h0 : 0 ≤ j) (h1 : j < bs.length) (h : ∀ p, PtR G p 1 false (bv (bs.getD j.toNat 0)) → PtW G0 G p u (bs.map bv) j.toNat → vops P E r K (S (.set d p L) A G)) : vops P E (⟨none, dd, .pure d (.iptrS 1) [x, y]⟩ :: r) K (S L A G) := by
  obtain ⟨p, hp, hr⟩ := hb.ptw (k := k) h0 (by rw [List.length_map]; exact h1)
  obtain ⟨p', hp', hr'⟩ := By.idx hb.sl (k := k) h0 h1
  rw [hp] at hp'
  cases hp'
  exact o_pure (vs := [u, .int k j]) (by simp only [evs, hx, hy]) hp (h p hr' hr)
theorem o_hstoreB {x z : Operand} {p u : Value} {bs : List UInt8} {b : UInt8} {j : Nat} {G0 : GH} (hx : evo L x = some p) (hp : PtW G0 G p u (bs.map bv) j) (hz : evo L z = some (bv b)) (hG : G0.le G) (h : ∀ G', G0.le G' → Own 1 G0 G' u ((bs.set j b).map bv) → (∀ b, blkS u ≠ some b → ∀ o, G b = some o → G' b = some o) → vops P E r K (S L A G')) : vops P E (⟨none, dd, .hstore 1 x z⟩ :: r) K (S L A G) := by
  refine o_hstoreO hx hp hz rfl hG fun G' h1 h2 h3 => h G' h1 ?_ h3
  rw [List.map_set]; exact h2
/-- Room made behind nothing. -/
theorem o_growz0 {n bytes d : Nat} {e : TypeId} {zero : Array Value} {x y : Operand} {k : IntKind} {l : Int} {G0 : GH} (hx : evo L x = some (.slice none 0 0)) (hy : evo L y = some (.int k l)) (h0 : 0 < l) (hz : zero.size = n) (hb : fitB (l.toNat * bytes) bytes ∧ l ≤ 9223372036854775807) (hG : G0.le G)
    (h : ∀ u' G' zs, G.le G' → Own n G0 G' u' zs → lenS u' = l.toNat → vops P E r K (S (.set d u' L) A G')) :
    vops P E (⟨none, dd, .growz d e n bytes zero x y⟩ :: r) K (S L A G) := by
  have hbb : fitB ((0 + l.toNat) * bytes) bytes := by rw [Nat.zero_add]; exact hb.1
  refine ⟨none, 0, 0, k, l, evo_ev hx, evo_ev hy, by omega, hbb, by omega, ?_⟩
  rw [if_neg (by omega)]
  refine ⟨[], by rw [evo_ev hx]; rfl, ?_⟩
  intro b c hbn hc hc2
  change G b = none at hbn
  have hfresh : G0 b = none := by
    cases e0 : G0 b with
    | none => rfl
    | some o => rw [hG b o e0] at hbn; cases hbn
  have hzs (m : Nat) : (Builtin.zeroCells zero m).size = m * n := by rw [zeroCells_size, hz]
  refine h _ _ (Builtin.zeroCells zero l.toNat).toList (GH.le_put _ hbn) (.inr ⟨b, (Builtin.zeroCells zero (c - (0 + l.toNat))).toList, hfresh, ?_⟩) (by simp [lenS])
  refine OwnB.fresh ?_ ?_ hc hc2 (by simp)
  · simp [hzs]
  · simp only [List.length_append, Array.length_toList, hzs, Nat.sub_mul, Nat.zero_add]
    have : l.toNat * n ≤ c * n := Nat.mul_le_mul_right n (by omega)
    omega
theorem x_capL (a : Option Addr) (n c : Nat) : pureV .capL [.slice a n c] = some (.int .i64 c) := rfl
theorem x_nilS (neg : Bool) (a : Option Addr) (n c n' c' : Nat) : pureV (.nilS neg) [.slice a n c, .slice none n' c'] = some (.bool (if neg then !a.isNone else a.isNone)) := rfl
end
section
variable {P : Program} {E : Env} {K : St → Prop} {L : SL} {A : AL} {G Gs : GH} {Ls : List Nat} {rest more : Plan} {dd : Option Nat} {i : Nat} {p : POp}
/-- What is to be shown behind a step of a region that draws. -/
def standK (P : Program) (E : Env) (Gs : GH) (Ls : List Nat) (K : St → Prop) (rest : Plan) (st st' : St) : Prop := stands Gs Ls st st' ∧ vplan P E Gs Ls K rest st'
/-- A step of a region that draws, as any other operation. -/
theorem p_alt (h : vops P E [⟨none, dd, p⟩] (standK P E Gs Ls K rest (S L A G)) (S L A G)) (hm : vplan P E Gs Ls K more (S L A G)) : vplan P E Gs Ls K (.alt i ⟨none, dd, p⟩ rest more) (S L A G) := ⟨h, hm⟩
theorem k_stand {L' : SL} {G' : GH} (hG : Gs.le G') (h : vplan P E Gs Ls K rest (S L' A G')) : standK P E Gs Ls K rest (S L A G) (S L' A G') := ⟨⟨hG, fun _ _ => rfl⟩, h⟩
theorem k_standL {L' : SL} {G' : GH} {k : Nat} {v : Array Value} (hk : Ls.all (fun j => !Nat.beq j k) = true) (hG : Gs.le G') (h : vplan P E Gs Ls K rest (S L' (.set k v A) G')) : standK P E Gs Ls K rest (S L A G) (S L' (.set k v A) G') := by
  refine ⟨⟨hG, fun j hj => ?_⟩, h⟩
  have := List.all_eq_true.1 hk j hj
  show (bif Nat.beq j k then v else A.fn j) = A.fn j
  rw [Bool.not_eq_true'] at this
  rw [this]; rfl
end
end Go.Proofs.Ytdeihgcgglhhcaa.V
