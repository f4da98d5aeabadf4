/- Elements all the way down: what is right. -/
import Derived.Test.YtkidjjnmdpbcaaaJ
set_option linter.unusedSimpArgs false
set_option linter.unusedVariables false
namespace Go.Proofs.Ytkidjjnmdpbcaaa.V
/-- How many, where it is wrong, and how. -/
structure Chk where
  many : Int
  pos : Int
  err : Int
def inD (bs : List UInt8) : Prop := byt bs 0 / 32 % 2 = 1
instance (bs : List UInt8) : Decidable (inD bs) := by unfold inD; infer_instance
def nxt (bs : List UInt8) : Int := hdrF bs + hdrN bs
/-- What lies in an element, and what behind it. -/
def seqC (h n : Int) (i r : Chk) : Chk := if i.err ≠ 0 then ⟨0, h + i.pos, i.err⟩ else if r.err ≠ 0 then ⟨0, n + r.pos, r.err⟩ else ⟨1 + i.many + r.many, 0, 0⟩
def oneC (h : Int) (i : Chk) : Chk := if i.err ≠ 0 then ⟨0, h + i.pos, i.err⟩ else ⟨1 + i.many, 0, 0⟩
/-- Elements one behind the other, at a depth. -/
def chkAll (deep : Int) : Nat → Int → List UInt8 → Chk
  | 0, _, _ => ⟨0, 0, 0⟩
  | f + 1, depth, bs =>
    if bs = [] then ⟨0, 0, 0⟩ else if depth > deep then ⟨0, 0, 14⟩ else if tkE bs ≠ 0 then ⟨0, 0, tkE bs⟩
    else seqC (hdrF bs) (nxt bs) (if inD bs then chkAll deep f (depth + 1) (tkC bs) else ⟨0, 0, 0⟩) (chkAll deep f depth (bs.drop (nxt bs).toNat))
/-- One element. -/
def chkOne (deep : Int) (f : Nat) (depth : Int) (bs : List UInt8) : Chk :=
  if depth > deep then ⟨0, 0, 14⟩ else if tkE bs ≠ 0 then ⟨0, 0, tkE bs⟩
  else oneC (hdrF bs) (if inD bs then chkAll deep f (depth + 1) (tkC bs) else ⟨0, 0, 0⟩)
theorem tk_bounds {bs : List UInt8} (h : tkE bs = 0) : 2 ≤ hdrF bs ∧ hdrF bs ≤ 5 ∧ 0 ≤ hdrN bs ∧ hdrN bs ≤ 16777215 ∧ nxt bs ≤ bs.length ∧ ((tkC bs).length : Int) = hdrN bs ∧ tagP (byt bs 0) := by
  obtain ⟨h0, h1⟩ := tk_in h
  obtain ⟨f1, f2, f3, n1, n2, tg⟩ := hdr_ok h0
  refine ⟨f1, f2, n1, n2, by unfold nxt; omega, ?_, tg⟩
  unfold tkC; rw [List.length_take, List.length_drop]; omega
theorem chkAll_err (deep : Int) : ∀ (f : Nat) (depth : Int) (bs : List UInt8), (chkAll deep f depth bs).err = 0 → (chkAll deep f depth bs).pos = 0 ∧ 0 ≤ (chkAll deep f depth bs).many ∧ (chkAll deep f depth bs).many ≤ bs.length
  | 0, _, bs, _ => by simp [chkAll]
  | f + 1, depth, bs, h => by
    unfold chkAll at h ⊢
    split at h
    · rename_i e; rw [if_pos e]; simp
    rename_i e; rw [if_neg e]
    split at h
    · simp at h
    rename_i e; rw [if_neg e]
    split at h
    · rename_i k; exact absurd h k
    rename_i e3
    have e3' : tkE bs = 0 := by
      by_cases k : tkE bs = 0
      · exact k
      · exact absurd k e3
    rw [if_neg e3]
    obtain ⟨f1, f2, n1, n2, nx, hl, tg⟩ := tk_bounds e3'
    have ih := chkAll_err deep f depth (bs.drop (nxt bs).toNat)
    have hdl : ((bs.drop (nxt bs).toNat).length : Int) = bs.length - nxt bs := by rw [List.length_drop]; unfold nxt at nx ⊢; omega
    have hi : (if inD bs then chkAll deep f (depth + 1) (tkC bs) else ⟨0, 0, 0⟩ : Chk).err = 0 → 0 ≤ (if inD bs then chkAll deep f (depth + 1) (tkC bs) else ⟨0, 0, 0⟩ : Chk).many ∧ (if inD bs then chkAll deep f (depth + 1) (tkC bs) else ⟨0, 0, 0⟩ : Chk).many ≤ hdrN bs := by
      intro he
      by_cases kd : inD bs
      · rw [if_pos kd] at he ⊢
        have := chkAll_err deep f (depth + 1) (tkC bs) he
        omega
      · rw [if_neg kd]; exact ⟨Int.le_refl _, n1⟩
    generalize (if inD bs then chkAll deep f (depth + 1) (tkC bs) else ⟨0, 0, 0⟩ : Chk) = i at *
    generalize chkAll deep f depth (bs.drop (nxt bs).toNat) = r at *
    unfold seqC at h ⊢
    split at h
    · rename_i k; exact absurd h k
    rename_i e4; rw [if_neg e4]
    split at h
    · rename_i k; exact absurd h k
    rename_i e5; rw [if_neg e5]
    have i0 : i.err = 0 := by
      by_cases k : i.err = 0
      · exact k
      · exact absurd k e4
    have r0 : r.err = 0 := by
      by_cases k : r.err = 0
      · exact k
      · exact absurd k e5
    have a1 := hi i0
    have a2 := ih r0
    refine ⟨rfl, ?_, ?_⟩
    · dsimp only; omega
    · have hnx : nxt bs = hdrF bs + hdrN bs := rfl
      dsimp only; omega
theorem chkAll_nil (deep : Int) (f : Nat) (depth : Int) : chkAll deep f depth [] = ⟨0, 0, 0⟩ := by
  cases f with
  | zero => rfl
  | succ f => simp [chkAll]
/-- More fuel than bytes changes nothing. -/
theorem chkAll_fuel (deep : Int) : ∀ (f g : Nat) (depth : Int) (bs : List UInt8), bs.length ≤ f → bs.length ≤ g → chkAll deep f depth bs = chkAll deep g depth bs
  | f, g, depth, [], _, _ => by rw [chkAll_nil, chkAll_nil]
  | 0, _, _, x :: bs, h, _ => by simp at h
  | f + 1, 0, _, x :: bs, _, h => by simp at h
  | f + 1, g + 1, depth, x :: bs, hf, hg => by
    by_cases e3 : tkE (x :: bs) = 0
    · obtain ⟨f1, f2, n1, n2, nx, hl, tg⟩ := tk_bounds e3
      have hdl : (((x :: bs).drop (nxt (x :: bs)).toNat).length : Int) = (x :: bs).length - nxt (x :: bs) := by rw [List.length_drop]; unfold nxt at nx ⊢; omega
      have a := chkAll_fuel deep f g (depth + 1) (tkC (x :: bs)) (by unfold nxt at nx; omega) (by unfold nxt at nx; omega)
      have b := chkAll_fuel deep f g depth ((x :: bs).drop (nxt (x :: bs)).toNat) (by unfold nxt at *; omega) (by unfold nxt at *; omega)
      unfold chkAll
      rw [a, b]
    · unfold chkAll
      rw [if_pos e3, if_pos e3]
theorem chkOne_fuel (deep : Int) (f g : Nat) (depth : Int) (bs : List UInt8) (hf : bs.length ≤ f) (hg : bs.length ≤ g) : chkOne deep f depth bs = chkOne deep g depth bs := by
  unfold chkOne
  by_cases e3 : tkE bs = 0
  · obtain ⟨f1, f2, n1, n2, nx, hl, tg⟩ := tk_bounds e3
    rw [chkAll_fuel deep f g (depth + 1) (tkC bs) (by unfold nxt at nx; omega) (by unfold nxt at nx; omega)]
  · rw [if_pos e3, if_pos e3]
theorem chkAll_step (deep : Int) (f : Nat) (depth : Int) (bs : List UInt8) (hf : bs.length ≤ f) (hb : bs ≠ []) :
    chkAll deep f depth bs = (if (chkOne deep f depth bs).err ≠ 0 then ⟨0, (chkOne deep f depth bs).pos, (chkOne deep f depth bs).err⟩
      else if (chkAll deep f depth (bs.drop (nxt bs).toNat)).err ≠ 0 then ⟨0, nxt bs + (chkAll deep f depth (bs.drop (nxt bs).toNat)).pos, (chkAll deep f depth (bs.drop (nxt bs).toNat)).err⟩
      else ⟨(chkOne deep f depth bs).many + (chkAll deep f depth (bs.drop (nxt bs).toNat)).many, 0, 0⟩) := by
  have hpos : 0 < bs.length := List.length_pos_iff.2 hb
  obtain ⟨f, rfl⟩ : ∃ k, f = k + 1 := ⟨f - 1, by omega⟩
  unfold chkOne
  rw [chkAll, if_neg hb]
  by_cases h1 : depth > deep
  · simp only [if_pos h1]; rfl
  simp only [if_neg h1]
  by_cases e3 : tkE bs = 0
  · obtain ⟨f1, f2, n1, n2, nx, hl, tg⟩ := tk_bounds e3
    have hdl : ((bs.drop (nxt bs).toNat).length : Int) = bs.length - nxt bs := by rw [List.length_drop]; unfold nxt at nx ⊢; omega
    have a := chkAll_fuel deep (f + 1) f (depth + 1) (tkC bs) (by unfold nxt at nx; omega) (by unfold nxt at nx; omega)
    have b := chkAll_fuel deep (f + 1) f depth (bs.drop (nxt bs).toNat) (by unfold nxt at *; omega) (by unfold nxt at *; omega)
    rw [a, b]
    have e3' : ¬ tkE bs ≠ 0 := not_not_intro e3
    simp only [if_neg e3']
    generalize (if inD bs then chkAll deep f (depth + 1) (tkC bs) else ⟨0, 0, 0⟩ : Chk) = i
    generalize chkAll deep f depth (bs.drop (nxt bs).toNat) = r
    unfold seqC oneC
    by_cases h4 : i.err = 0
    · have h4' : ¬ i.err ≠ 0 := not_not_intro h4
      simp only [if_neg h4']
      simp
    · simp only [if_pos h4]
      first | done | simp [h4]
  · simp only [if_pos e3]
    first | done | simp [e3]
end Go.Proofs.Ytkidjjnmdpbcaaa.V
