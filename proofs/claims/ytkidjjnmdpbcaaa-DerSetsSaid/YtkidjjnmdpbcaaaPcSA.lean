/- The order of byte strings; rows that are sorted: plain. -/
import Derived.Test.YtkidjjnmdpbcaaaPcVN
set_option linter.unusedSimpArgs false
set_option linter.unusedVariables false
namespace Go.Proofs.Ytkidjjnmdpbcaaa.V
/-- At the first place where they differ the first has less (behind the end stands 0). -/
def ltB (a b : List UInt8) : Prop := ∃ i, (∀ j, j < i → a.getD j 0 = b.getD j 0) ∧ (a.getD i 0).toNat < (b.getD i 0).toNat
def eqB (a b : List UInt8) : Prop := ∀ i, a.getD i 0 = b.getD i 0
theorem ltB_irr (a : List UInt8) : ¬ ltB a a := fun ⟨i, _, h⟩ => Nat.lt_irrefl _ h
theorem ltB_trans {a b c : List UInt8} (h : ltB a b) (h' : ltB b c) : ltB a c := by
  obtain ⟨i, h1, h2⟩ := h
  obtain ⟨j, h3, h4⟩ := h'
  rcases Nat.lt_trichotomy i j with e | e | e
  · exact ⟨i, fun k hk => (h1 k hk).trans (h3 k (by omega)), by rw [← h3 i e]; exact h2⟩
  · subst e; exact ⟨i, fun k hk => (h1 k hk).trans (h3 k hk), Nat.lt_trans h2 h4⟩
  · exact ⟨j, fun k hk => (h1 k (by omega)).trans (h3 k hk), by rw [h1 j e]; exact h4⟩
theorem ltB_l {a b c : List UInt8} (h : eqB a b) (h' : ltB b c) : ltB a c := let ⟨i, h1, h2⟩ := h'; ⟨i, fun j hj => (h j).trans (h1 j hj), by rw [h i]; exact h2⟩
theorem ltB_r {a b c : List UInt8} (h : eqB b c) (h' : ltB a b) : ltB a c := let ⟨i, h1, h2⟩ := h'; ⟨i, fun j hj => (h1 j hj).trans (h j), by rw [← h i]; exact h2⟩
theorem eqB_no {a b : List UInt8} (h : eqB a b) : ¬ ltB a b := fun h' => ltB_irr a (ltB_r (fun i => (h i).symm) h')
theorem least {p : Nat → Prop} (h : ∃ i, p i) : ∃ i, p i ∧ ∀ j, j < i → ¬ p j := by
  obtain ⟨n, hn⟩ := h
  induction n using Nat.strongRecOn with
  | ind n ih =>
    by_cases e : ∃ j, j < n ∧ p j
    · obtain ⟨j, hj, hp⟩ := e; exact ih j hj hp
    · exact ⟨n, hn, fun j hj hp => e ⟨j, hj, hp⟩⟩
theorem ltB_tri (a b : List UInt8) : ltB a b ∨ ltB b a ∨ eqB a b := by
  by_cases h : eqB a b
  · exact .inr (.inr h)
  · obtain ⟨i, hi, hm⟩ := least (p := fun i => a.getD i 0 ≠ b.getD i 0) (Classical.not_forall.1 h)
    have hm : ∀ j, j < i → a.getD j 0 = b.getD j 0 := fun j hj => Classical.not_not.1 (hm j hj)
    rcases Nat.lt_trichotomy (a.getD i 0).toNat (b.getD i 0).toNat with e | e | e
    · exact .inl ⟨i, hm, e⟩
    · exact absurd (UInt8.toNat.inj e) hi
    · exact .inr (.inl ⟨i, fun j hj => (hm j hj).symm, e⟩)
/-- Equal ones stand as they stood. -/
def ltI (str : Nat → List UInt8) (i j : Nat) : Prop := ltB (str i) (str j) ∨ (eqB (str i) (str j) ∧ i < j)
section
variable {str : Nat → List UInt8}
theorem ltI_irr (i : Nat) : ¬ ltI str i i := by
  rintro (h | ⟨_, h⟩)
  · exact ltB_irr _ h
  · omega
theorem ltI_trans {i j k : Nat} (h : ltI str i j) (h' : ltI str j k) : ltI str i k := by
  rcases h with h | ⟨h, h1⟩ <;> rcases h' with h' | ⟨h', h2⟩
  · exact .inl (ltB_trans h h')
  · exact .inl (ltB_r h' h)
  · exact .inl (ltB_l h h')
  · exact .inr ⟨fun i => (h i).trans (h' i), by omega⟩
theorem ltI_total {i j : Nat} (h : i ≠ j) : ltI str i j ∨ ltI str j i := by
  rcases ltB_tri (str i) (str j) with e | e | e
  · exact .inl (.inl e)
  · exact .inr (.inl e)
  · rcases Nat.lt_or_gt_of_ne h with h | h
    · exact .inl (.inr ⟨e, h⟩)
    · exact .inr (.inr ⟨fun i => (e i).symm, h⟩)
theorem ltI_asymm {i j : Nat} (h : ltI str i j) : ¬ ltI str j i := fun h' => ltI_irr i (ltI_trans h h')
/-- What stood behind is told by the strings alone. -/
theorem ltI_gt {i j : Nat} (h : j < i) : ltI str i j ↔ ltB (str i) (str j) :=
  ⟨fun h' => h'.elim id fun h2 => absurd h2.2 (by omega), .inl⟩
theorem ltI_not {i j : Nat} (h : j < i) : ¬ ltB (str i) (str j) ↔ ltI str j i := by
  rw [← ltI_gt h]
  exact ⟨fun h' => (ltI_total (str := str) (Nat.ne_of_lt h)).resolve_right h', ltI_asymm⟩
/-- There is one order. -/
theorem srt_one : ∀ {a b : List Nat}, a.Perm b → a.Pairwise (ltI str) → b.Pairwise (ltI str) → a = b
  | [], b, hp, _, _ => (List.nil_perm.1 hp).symm
  | x :: a, [], hp, _, _ => absurd hp.length_eq (by simp)
  | x :: a, y :: b, hp, ha, hb => by
    have e : x = y := by
      by_cases e : x = y
      · exact e
      · exfalso
        have h1 : x ∈ b := by have := hp.subset (List.mem_cons_self (a := x) (l := a)); rcases List.mem_cons.1 this with h | h; exact absurd h e; exact h
        have h2 : y ∈ a := by have := hp.symm.subset (List.mem_cons_self (a := y) (l := b)); rcases List.mem_cons.1 this with h | h; exact absurd h.symm e; exact h
        exact ltI_asymm ((List.pairwise_cons.1 ha).1 y h2) ((List.pairwise_cons.1 hb).1 x h1)
    subst e
    rw [srt_one (List.perm_cons x |>.1 hp) (List.pairwise_cons.1 ha).2 (List.pairwise_cons.1 hb).2]
end
/-- Two places are exchanged. -/
theorem swap2 {α : Type} {x y : α} {P Q R : List α} {p q : Nat} (hp : p = P.length) (hq : q = P.length + 1 + Q.length) : ((P ++ x :: (Q ++ y :: R)).set p y).set q x = P ++ y :: (Q ++ x :: R) ∧ ((P ++ x :: (Q ++ y :: R)).set q x).set p y = P ++ y :: (Q ++ x :: R) := by
  have e : ∀ (l : List α) (z : α) (t : List α) (w : α), (l ++ z :: t).set l.length w = l ++ w :: t := fun l z t w => by
    rw [List.set_append_right _ _ (Nat.le_refl _), Nat.sub_self]; rfl
  have f : ∀ (z w : α), (P ++ z :: (Q ++ y :: R)).set q w = P ++ z :: (Q ++ w :: R) := fun z w => by
    have := e (P ++ z :: Q) y R w
    rw [show (P ++ z :: Q).length = q by simp; omega] at this
    simpa using this
  subst hp
  refine ⟨by rw [e, f], by rw [f, e]⟩
end Go.Proofs.Ytkidjjnmdpbcaaa.V
