/- slices.Clone; lent bytes, and whether they are as they were. -/
import Derived.Test.YtnddanaangolgaaLCC
set_option linter.unusedSimpArgs false
set_option linter.unusedVariables false
namespace Go.Proofs.Ytnddanaangolgaa.V
open Go.RowKit Go.ChangeShapes Go.WideShapes
/-- A part of a block's row, as far as there is room. -/
theorem OwnB.slc {n b : Nat} {G : GH} {u : Value} {xs sp : List Value} (h : OwnB n G b u xs sp) {k : IntKind} {j : Int} (h0 : 0 ≤ j) (h1 : (j.toNat + 0) * n ≤ (xs ++ sp).length) (hn : n ≠ 0) : ∃ u', pureV (.slc n false true false) [u, .int k j] = some u' ∧ OwnB n G b u' ((xs ++ sp).take (j.toNat * n)) ((xs ++ sp).drop (j.toNat * n)) ∧ lenS u' = j.toNat := by
  obtain ⟨q, len, cap, cs, e, fr, rfl, hG, k1, k2, k3, k4, k5, k6⟩ := h
  have h : OwnB n G b (.slice (some ⟨b, q, none⟩) len cap) xs sp := ⟨q, len, cap, cs, e, fr, rfl, hG, k1, k2, k3, k4, k5, k6⟩
  have hl : (xs ++ sp).length = cap * n := by rw [← k5]; exact extract_len k3
  have hj : j.toNat ≤ cap := by
    rw [hl, Nat.add_zero] at h1
    exact Nat.le_of_mul_le_mul_right h1 (by omega)
  obtain ⟨a, e1, e2⟩ := h.cut (j := j.toNat) hj
  cases e1
  refine ⟨.slice (some ⟨b, q, none⟩) j.toNat cap, ?_, e2, rfl⟩
  simp only [pureV, bnds, Option.bind_some, cutV, Option.getD_some, Option.getD_none]
  rw [if_pos ⟨Int.le_refl _, h0, by omega⟩]
  simp only [Option.map_some, Int.toNat_zero, Nat.sub_zero, addO, Nat.zero_mul]
  split
  · rfl
  · simp [Addr.add]
/-- Bytes with a mark in the room behind them. -/
def Lent (G0 G : GH) (u : Value) (bs : List UInt8) : Prop := ∃ b sp, G0 b = none ∧ OwnB 1 G b u (bs.map bv) (bv 90 :: sp)
theorem Lent.le {G0 G G' : GH} {u : Value} {bs : List UInt8} (h : Lent G0 G u bs) (hl : G.le G') : Lent G0 G' u bs :=
  let ⟨b, sp, h0, h⟩ := h; ⟨b, sp, h0, h.le fun o => hl b o⟩
theorem Lent.sl {G0 G : GH} {u : Value} {bs : List UInt8} (h : Lent G0 G u bs) : By G u bs := let ⟨_, _, _, h⟩ := h; h.sl
theorem Lent.base {G0 G1 G : GH} {u : Value} {bs : List UInt8} (h : Lent G1 G u bs) (hl : G0.le G1) : Lent G0 G u bs := by
  obtain ⟨b, sp, h0, h⟩ := h
  refine ⟨b, sp, ?_, h⟩
  cases e : G0 b with
  | none => rfl
  | some o => rw [hl b o e] at h0; cases h0
theorem Lent.shape {G0 G : GH} {u : Value} {bs : List UInt8} (h : Lent G0 G u bs) : ∃ a len cap, u = .slice a len cap := h.sl.shape
end Go.Proofs.Ytnddanaangolgaa.V
