/- Pieces: joined, lent, kept. -/
import Derived.Test.YtbpjjhbkahinjaaPlSO
set_option linter.unusedSimpArgs false
set_option linter.unusedVariables false
namespace Go.Proofs.Ytbpjjhbkahinjaa.V
open Go.RowKit Go.ChangeShapes Go.WideShapes
theorem OwnB.slc {n b : Nat} {G : GH} {u : Value} {xs sp : List Value} (h : OwnB n G b u xs sp) {k : IntKind} {j : Int} (h0 : 0 ≤ j) (h1 : (j.toNat + 0) * n ≤ (xs ++ sp).length) (hn : n ≠ 0) : ∃ u', pureV (.slc n false true false) [u, .int k j] = some u' ∧ OwnB n G b u' ((xs ++ sp).take (j.toNat * n)) ((xs ++ sp).drop (j.toNat * n)) ∧ lenS u' = j.toNat := by
  obtain ⟨q, len, cap, cs, e, fr, rfl, hG, k1, k2, k3, k4, k5, k6⟩ := h
  have h : OwnB n G b (.slice (some ⟨b, q, none⟩) len cap) xs sp := ⟨q, len, cap, cs, e, fr, rfl, hG, k1, k2, k3, k4, k5, k6⟩
  have hl : (xs ++ sp).length = cap * n := by rw [← k5]; exact extract_len k3
  have hj : j.toNat ≤ cap := by
    rw [hl, Nat.add_zero] at h1
    exact Nat.le_of_mul_le_mul_right h1 (by omega)
  obtain ⟨a, e1, e2⟩ := h.cut (j := j.toNat) hj
  cases e1
  refine ⟨.slice (some ⟨b, q, none⟩) j.toNat cap, ?_, e2, rfl⟩
  simp only [pureV, bnds, Option.bind_some, cutV, Option.getD_some, Option.getD_none]
  rw [if_pos ⟨Int.le_refl _, h0, by omega⟩]
  simp only [Option.map_some, Int.toNat_zero, Nat.sub_zero, addO, Nat.zero_mul]
  split
  · rfl
  · simp [Addr.add]
/-- Bytes with a mark in the room behind them. -/
def Lent (G0 G : GH) (u : Value) (bs : List UInt8) : Prop := ∃ b sp, G0 b = none ∧ OwnB 1 G b u (bs.map bv) (bv 90 :: sp)
theorem Lent.le {G0 G G' : GH} {u : Value} {bs : List UInt8} (h : Lent G0 G u bs) (hl : G.le G') : Lent G0 G' u bs :=
  let ⟨b, sp, h0, h⟩ := h; ⟨b, sp, h0, h.le fun o => hl b o⟩
theorem Lent.sl {G0 G : GH} {u : Value} {bs : List UInt8} (h : Lent G0 G u bs) : By G u bs := let ⟨_, _, _, h⟩ := h; h.sl
theorem Lent.base {G0 G1 G : GH} {u : Value} {bs : List UInt8} (h : Lent G1 G u bs) (hl : G0.le G1) : Lent G0 G u bs := by
  obtain ⟨b, sp, h0, h⟩ := h
  refine ⟨b, sp, ?_, h⟩
  cases e : G0 b with
  | none => rfl
  | some o => rw [hl b o e] at h0; cases h0
theorem Lent.keep {G0 G G' : GH} {u : Value} {bs : List UInt8} (h : Lent G0 G u bs) (hk : ∀ b, blkS u = some b → ∀ o, G b = some o → G' b = some o) : Lent G0 G' u bs :=
  let ⟨b, sp, h0, h⟩ := h; ⟨b, sp, h0, h.le (hk b h.blk)⟩
theorem Lent.at {G0 G : GH} {u : Value} {bs : List UInt8} (h : Lent G0 G u bs) : ∃ b o, blkS u = some b ∧ G b = some o ∧ G0 b = none := by
  obtain ⟨b, sp, h0, h⟩ := h
  have hb := h.blk
  obtain ⟨q, len, cap, cs, e, fr, _, hG, _⟩ := h
  exact ⟨b, _, hb, hG, h0⟩
def Lents (G0 G : GH) (u : Value) (us : List Value) (ps : List (List UInt8)) : Prop := Sl 1 G u us ∧ us.length = ps.length ∧ ∀ i (h : i < ps.length), ∃ w, us[i]? = some w ∧ Lent G0 G w ps[i]
theorem Lents.parts {G0 G : GH} {u : Value} {us : List Value} {ps : List (List UInt8)} (h : Lents G0 G u us ps) : Parts G u us ps := ⟨h.1, h.2.1, fun i hi => let ⟨w, e, k⟩ := h.2.2 i hi; ⟨w, e, k.sl⟩⟩
theorem Lents.le {G0 G G' : GH} {u : Value} {us : List Value} {ps : List (List UInt8)} (h : Lents G0 G u us ps) (hl : G.le G') : Lents G0 G' u us ps :=
  ⟨h.1.le hl, h.2.1, fun i hi => let ⟨w, e, k⟩ := h.2.2 i hi; ⟨w, e, k.le hl⟩⟩
theorem Lents.base {G0 G1 G : GH} {u : Value} {us : List Value} {ps : List (List UInt8)} (h : Lents G1 G u us ps) (hl : G0.le G1) : Lents G0 G u us ps :=
  ⟨h.1, h.2.1, fun i hi => let ⟨w, e, k⟩ := h.2.2 i hi; ⟨w, e, k.base hl⟩⟩
end Go.Proofs.Ytbpjjhbkahinjaa.V
