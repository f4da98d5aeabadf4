/- Products modulo a number. -/
import Derived.Test.YtiijcncdjjdglaaPQD
set_option linter.unusedSimpArgs false
set_option linter.unusedVariables false
-- @nums
-- @extra s_nilPf s_nilPt s_nilNf s_nilNt s_nilck s_fptr0
namespace Go.Proofs.Ytiijcncdjjdglaa.V
open Go.RowKit Go.ChangeShapes Go.WideShapes
/-- A modulus that is made. -/
structure MO (G : GH) (b M : Nat) : Prop where
  ex : ∃ um low ur uq, PM G b M um (iv .u64 low) ur uq ∧ ML low M ∧ Nu .u64 G ur (dg 18446744073709551616 (18446744073709551616 ^ (dg 18446744073709551616 M).length % M)) ∧ Nu .u64 G uq (dg 18446744073709551616 ((18446744073709551616 ^ (dg 18446744073709551616 M).length % M) * (18446744073709551616 ^ (dg 18446744073709551616 M).length % M) % M))
  odd : M % 2 = 1
theorem MO.le {G G' : GH} {b M : Nat} (h : MO G b M) (hl : G.le G') : MO G' b M := by
  obtain ⟨⟨um, low, ur, uq, h1, h2, h3, h4⟩, h5⟩ := h
  exact ⟨⟨um, low, ur, uq, h1.le hl, h2, h3.le hl, h4.le hl⟩, h5⟩
theorem MO.h1 {G : GH} {b M : Nat} (h : MO G b M) : 1 < M := let ⟨⟨_, _, _, _, h1, _⟩, _⟩ := h; h1.h1
theorem MO.h8 {G : GH} {b M : Nat} (h : MO G b M) : (dg 18446744073709551616 M).length ≤ 8 := let ⟨⟨_, _, _, _, h1, _⟩, _⟩ := h; h1.h8
/-- What is new since G0. -/
def off (G0 G : GH) : GH := fun c => match G0 c with | none => G c | some _ => none
theorem off_get {G0 G : GH} {c : Nat} (h : G0 c = none) : off G0 G c = G c := by unfold off; rw [h]
theorem off_none {G0 G : GH} {c : Nat} {o : Obj} (h : G0 c = some o) : off G0 G c = none := by unfold off; rw [h]
theorem off_le (G0 G : GH) : (off G0 G).le G := fun c o h => by
  cases e : G0 c with
  | none => rwa [off_get e] at h
  | some x => rw [off_none e] at h; cases h
theorem off_own {G0 G : GH} {u : Value} {xs : List Value} (h : Own 1 G0 G u xs) : Sl 1 (off G0 G) u xs := h.sl.keep fun b hb o ho => by
  cases e : G0 b with
  | none => rw [off_get e]; exact ho
  | some x => exact absurd hb (h.blk_ne e)
/-- A modulus of which all is new since G0. -/
def MF (G0 G : GH) (b M : Nat) : Prop := ∃ H, MO H b M ∧ H.le G ∧ ∀ c o, G0 c = some o → H c = none
theorem MF.mo {G0 G : GH} {b M : Nat} (h : MF G0 G b M) : MO G b M := let ⟨_, h1, h2, _⟩ := h; h1.le h2
theorem MF.le {G0 G G' : GH} {b M : Nat} (h : MF G0 G b M) (hl : G.le G') : MF G0 G' b M := let ⟨H, h1, h2, h3⟩ := h; ⟨H, h1, GH.le_trans h2 hl, h3⟩
theorem MF.base {G0 G1 G : GH} {b M : Nat} (h : MF G1 G b M) (hl : G0.le G1) : MF G0 G b M := let ⟨H, h1, h2, h3⟩ := h; ⟨H, h1, h2, fun c o hc => h3 c o (hl _ _ hc)⟩
/-- It stays where only what was there before is changed. -/
theorem MF.keep {G0 G G' : GH} {b M : Nat} (h : MF G0 G b M) (hk : ∀ c, (∀ o, G0 c ≠ some o) → ∀ o, G c = some o → G' c = some o) : MF G0 G' b M :=
  let ⟨H, h1, h2, h3⟩ := h
  ⟨H, h1, fun c o hc => hk c (fun o' e => by rw [h3 c o' e] at hc; cases hc) o (h2 c o hc), h3⟩
theorem len_lt {M x : Nat} (h : x < M) : (dg 18446744073709551616 x).length ≤ (dg 18446744073709551616 M).length := dg_len_mono (B := 18446744073709551616) (by decide) (Nat.le_of_lt h)
end Go.Proofs.Ytiijcncdjjdglaa.V
