/- A division's loop. -/
import Derived.Test.YtiijcncdjjdglaaGNO
set_option linter.unusedSimpArgs false
set_option linter.unusedVariables false
-- @nums
-- @extra s_nadd s_naddc s_nsubc s_wsubc
namespace Go.Proofs.Ytiijcncdjjdglaa.V
open Go.RowKit Go.ChangeShapes Go.WideShapes
/-! ### Parts of memory -/
def GH.only (G : GH) (u : Value) : GH := fun b => if blkS u = some b then G b else none
theorem only_le (G : GH) (u : Value) : (G.only u).le G := fun b o h => by
  unfold GH.only at h; split at h
  · exact h
  · cases h
theorem only_none {G : GH} {u : Value} {b : Nat} (h : blkS u ≠ some b) : (G.only u) b = none := if_neg h
theorem Sl.only {n : Nat} {G : GH} {u : Value} {xs : List Value} (h : Sl n G u xs) : Sl n (G.only u) u xs := h.keep fun b hb o ho => by unfold GH.only; rw [if_pos hb]; exact ho
theorem put_keep {G G' : GH} {b c : Nat} {o : Obj} (e : G' = G.put b o) (h : c ≠ b) : G' c = G c := by rw [e, GH.put_ne _ _ h]
theorem Sl.put {n : Nat} {G G' : GH} {u : Value} {xs : List Value} {b : Nat} {o : Obj} (h : Sl n G u xs) (e : G' = G.put b o) (hb : blkS u ≠ some b) : Sl n G' u xs := h.keep fun c hc p hp => by rw [put_keep e (fun h => hb (h ▸ hc))]; exact hp
section
variable {k : IntKind} {G : GH} {b q : Nat} {cs : Array Value} {e : TypeId} {fr : Nat × Nat} {xs : List Nat}
theorem Win.take (h : Win k G b q cs e fr xs) (n : Nat) (hn : n ≤ xs.length) : Win k G b q cs e fr (xs.take n) := by
  have hl : (xs.take n).length = n := by rw [List.length_take]; omega
  have hs := h.hs; have hf := h.hf; have hm := h.hm
  refine ⟨h.hG, by omega, by omega, by omega, fun j hj => ?_⟩
  rw [hl] at hj
  rw [h.hx j (by omega), getD_take _ hj]
theorem Win.back0 {G' : GH} {cs' : Array Value} {ys : List Nat} (h : Win k G b q cs e fr xs) (h' : Win k G' b q cs' e fr ys) (hu : Upd cs cs' q ys.length) (hi : ys.length ≤ xs.length) : Win k G' b q cs' e fr (ys ++ xs.drop ys.length) := by
  have := h.back (i := 0) h' hu (by omega)
  simpa using this
end
/-! ### A step, plain -/
/-- The limb that is guessed is not too small. -/
theorem guess_ge {B D X n h l y : Nat} (hB : 0 < B) (hD : 0 < D) (hXD : X < B * D) (hy : 0 < y) (h1 : X < (h * B + l + 1) * B ^ n) (h2 : y * B ^ n ≤ D) : X / D ≤ if y ≤ h then B - 1 else (h * B + l) / y := by
  have hq : X / D < B := (Nat.div_lt_iff_lt_mul hD).2 hXD
  split
  · omega
  · refine (Nat.le_div_iff_mul_le hy).2 ?_
    have h3 := Nat.div_mul_le_self X D
    have h4 : X / D * (y * B ^ n) ≤ X / D * D := Nat.mul_le_mul_left _ h2
    rw [← Nat.mul_assoc] at h4
    have h5 : X / D * y * B ^ n < (h * B + l + 1) * B ^ n := by omega
    have := Nat.lt_of_mul_lt_mul_right h5
    omega
theorem val_top {B : Nat} {xs : List Nat} {n : Nat} (hB : 0 < B) (hd : Dl B xs) (hl : xs.length = n + 2) : val B xs < (xs.getD (n + 1) 0 * B + xs.getD n 0 + 1) * B ^ n := by
  have h1 := val_take_succ B xs (n + 1)
  rw [List.take_of_length_le (by omega), val_take_succ] at h1
  have h2 := val_lt (hd.take n)
  rw [List.length_take, Nat.min_eq_left (by omega)] at h2
  rw [h1, Nat.add_mul, Nat.add_mul, Nat.one_mul, Nat.mul_assoc, Nat.mul_comm (xs.getD (n + 1) 0), Nat.pow_succ, Nat.mul_comm (xs.getD n 0), Nat.mul_comm (B ^ n) B]
  omega
theorem val_top_le {B : Nat} {xs : List Nat} {n : Nat} (hl : xs.length = n + 1) : xs.getD n 0 * B ^ n ≤ val B xs := by
  have h1 := val_take_succ B xs n
  rw [List.take_of_length_le (by omega)] at h1
  rw [h1, Nat.mul_comm]; omega
theorem top_zero {B : Nat} {xs : List Nat} {n : Nat} (hd : Dl B xs) (hl : xs.length = n + 1) (hv : val B xs < B ^ n) : xs.getD n 0 = 0 := by
  have := val_top_le (B := B) hl
  rcases Nat.eq_zero_or_pos (xs.getD n 0) with h | h
  · exact h
  · have := Nat.mul_le_mul_right (B ^ n) h
    omega
/-- What a round does to the whole. -/
theorem round_eq {B D A X r g i Q vo vo' vt : Nat} (h : A = vo + D * (B ^ (i + 1) * Q)) (ho : vo = vt + B ^ i * X) (ho' : vo' = vt + B ^ i * r) (hX : X = r + D * g) : A = vo' + D * (B ^ i * (g + B * Q)) := by
  have e1 : D * (B ^ i * (g + B * Q)) = B ^ i * (D * g) + D * (B ^ (i + 1) * Q) := by
    rw [Nat.mul_add, Nat.mul_add, Nat.pow_succ, Nat.mul_assoc (B ^ i) B Q, ← Nat.mul_assoc D (B ^ i) g, Nat.mul_comm D, Nat.mul_assoc (B ^ i) D g]
  rw [h, ho, ho', hX, e1, Nat.mul_add]; omega
end Go.Proofs.Ytiijcncdjjdglaa.V
