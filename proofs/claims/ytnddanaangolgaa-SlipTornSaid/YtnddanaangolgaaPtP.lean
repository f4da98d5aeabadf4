/- Slips, one behind the other: where they stand. -/
import Derived.Test.YtnddanaangolgaaPtG
import Derived.Test.YtnddanaangolgaaPtVL
import Derived.Test.YtnddanaangolgaaPtCR
set_option linter.unusedSimpArgs false
set_option linter.unusedVariables false
namespace Go.Proofs.Ytnddanaangolgaa.V
open Go.RowKit
def pos (bs : List UInt8) : Nat → Nat
  | 0 => 0
  | k + 1 => pos bs k + (7 + slN (bs.drop (pos bs k)))
def okA (bs : List UInt8) (k : Nat) : Prop := pos bs k < bs.length ∧ slE (bs.drop (pos bs k)) = 0
theorem pos_ge (bs : List UInt8) : ∀ k, 7 * k ≤ pos bs k
  | 0 => Nat.zero_le _
  | k + 1 => by
    have := pos_ge bs k
    simp only [pos]; omega
theorem slE_len {bs : List UInt8} (h : slE bs = 0) : 3 ≤ bs.length ∧ 7 + slN bs ≤ bs.length := by
  unfold slE at h
  split at h
  · cases h
  · split at h
    · cases h
    · omega
theorem ok_len {bs : List UInt8} {k : Nat} (h : okA bs k) : pos bs (k + 1) ≤ bs.length := by
  have := (slE_len h.2).2
  rw [List.length_drop] at this
  have := h.1
  simp only [pos]; omega
theorem row_ex (bs : List UInt8) : ∃ n, (∀ k, k < n → okA bs k) ∧ ¬ okA bs n := by
  have key : ∀ m, (∃ n, (∀ k, k < n → okA bs k) ∧ ¬ okA bs n) ∨ ∀ k, k < m → okA bs k := by
    intro m
    induction m with
    | zero => exact .inr fun k hk => absurd hk (Nat.not_lt_zero _)
    | succ m ih =>
      rcases ih with h | h
      · exact .inl h
      · by_cases hm : okA bs m
        · refine .inr fun k hk => ?_
          rcases Nat.lt_succ_iff_lt_or_eq.1 hk with h1 | h1
          · exact h k h1
          · rw [h1]; exact hm
        · exact .inl ⟨m, h, hm⟩
  rcases key (bs.length + 1) with h | h
  · exact h
  · have h1 := (h bs.length (by omega)).1
    have := pos_ge bs bs.length
    omega
/-- How many slips; where they end; why. -/
noncomputable def rowN (bs : List UInt8) : Nat := (row_ex bs).choose
theorem rowN_ok {bs : List UInt8} {k : Nat} (h : k < rowN bs) : okA bs k := (row_ex bs).choose_spec.1 k h
theorem rowN_no (bs : List UInt8) : ¬ okA bs (rowN bs) := (row_ex bs).choose_spec.2
theorem rowN_is {bs : List UInt8} {n : Nat} (h1 : ∀ k, k < n → okA bs k) (h2 : ¬ okA bs n) : rowN bs = n := by
  rcases Nat.lt_trichotomy (rowN bs) n with h | h | h
  · exact absurd (h1 _ h) (rowN_no bs)
  · exact h
  · exact absurd (rowN_ok h) h2
theorem pos_le {bs : List UInt8} {k : Nat} (h : k ≤ rowN bs) : pos bs k ≤ bs.length := by
  cases k with
  | zero => exact Nat.zero_le _
  | succ k => exact ok_len (rowN_ok h)
noncomputable def rowE (bs : List UInt8) : Nat := pos bs (rowN bs)
noncomputable def rowB (bs : List UInt8) : Int := if rowE bs = bs.length then 0 else slE (bs.drop (rowE bs))
/-- The k-th slip's kind and data. -/
def rowK (bs : List UInt8) (k : Nat) : Int := byt (bs.drop (pos bs k)) 0
def rowD (bs : List UInt8) (k : Nat) : List UInt8 := slD (bs.drop (pos bs k))
theorem rowD_len {bs : List UInt8} {k : Nat} (h : okA bs k) : (rowD bs k).length = slN (bs.drop (pos bs k)) := by
  have := (slE_len h.2).2
  unfold rowD slD
  rw [List.length_take, List.length_drop]; omega
theorem pos_succ {bs : List UInt8} {k : Nat} (h : okA bs k) : pos bs (k + 1) = pos bs k + (7 + (rowD bs k).length) := by rw [rowD_len h]; rfl
/-- What the k-th round of a loop over slips is told. -/
def SlipI (bs : List UInt8) (k : Nat) (x : List Value) (G0 G : GH) : Prop := ∃ w, x = [.int .i64 (pos bs k), .agg #[.int .i64 (rowK bs k), w]] ∧ Own 1 G0 G w ((rowD bs k).map bv)
theorem SlipI.unp {bs : List UInt8} {k l : Nat} {x : List Value} {G0 G : GH} {o : Obj} (hl : G l = some o) (hc : o.isCells = false) (h : SlipI bs k x G0 G) : SlipI bs k x (unp G0 l) (unp G l) := by
  obtain ⟨w, h1, h2⟩ := h
  exact ⟨w, h1, own_unp h2 hl hc⟩
end Go.Proofs.Ytnddanaangolgaa.V
