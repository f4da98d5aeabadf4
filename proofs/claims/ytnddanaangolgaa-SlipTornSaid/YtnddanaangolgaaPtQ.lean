/- Slips, one behind the other, torn off anywhere: plain. -/
import Derived.Test.YtnddanaangolgaaPtP
import Derived.Test.YtnddanaangolgaaPtM
set_option linter.unusedSimpArgs false
set_option linter.unusedVariables false
namespace Go.Proofs.Ytnddanaangolgaa.V
open Go.RowKit
theorem getD_app {x y : List UInt8} {i : Nat} (h : i < x.length) : (x ++ y).getD i 0 = x.getD i 0 := by
  rw [List.getD_eq_getElem?_getD, List.getD_eq_getElem?_getD, List.getElem?_append_left h]
theorem slN_app {x y : List UInt8} (h : 3 ≤ x.length) : slN (x ++ y) = slN x := by
  unfold slN; rw [getD_app (by omega), getD_app (by omega)]
theorem slE_app {x y : List UInt8} (h : slE x = 0) : slE (x ++ y) = 0 := by
  obtain ⟨h1, h2⟩ := slE_len h
  unfold slE at h ⊢
  rw [if_neg (by omega), if_neg (by omega)] at h
  rw [slN_app h1, List.length_append, if_neg (by omega), if_neg (by omega), List.take_append_of_le_length (by omega), List.drop_append_of_le_length (by omega), List.take_append_of_le_length (by rw [List.length_drop]; omega)]
  exact h
theorem slD_app {x y : List UInt8} (h : slE x = 0) : slD (x ++ y) = slD x := by
  obtain ⟨h1, h2⟩ := slE_len h
  unfold slD
  rw [slN_app h1, List.drop_append_of_le_length (by omega), List.take_append_of_le_length (by rw [List.length_drop]; omega)]
def cat (L : List (Int × List UInt8)) : List UInt8 := (L.map fun s => slipB s.1 s.2).flatten
theorem cat_app (a b : List (Int × List UInt8)) : cat (a ++ b) = cat a ++ cat b := by simp [cat]
theorem cat_succ {L : List (Int × List UInt8)} {k : Nat} (h : k < L.length) : cat (L.take (k + 1)) = cat (L.take k) ++ slipB L[k].1 L[k].2 := by
  rw [List.take_succ_eq_append_getElem h, cat_app]; simp [cat]
theorem cat_split {L : List (Int × List UInt8)} {k : Nat} (h : k < L.length) : cat L = cat (L.take k) ++ (slipB L[k].1 L[k].2 ++ cat (L.drop (k + 1))) := by
  have e : L = L.take k ++ (L[k] :: L.drop (k + 1)) := by rw [← List.drop_eq_getElem_cons h, List.take_append_drop]
  have e2 : cat L = cat (L.take k ++ (L[k] :: L.drop (k + 1))) := congrArg cat e
  rw [e2, cat_app]
  rfl
def offs (L : List (Int × List UInt8)) (k : Nat) : Nat := (cat (L.take k)).length
theorem offs_succ {L : List (Int × List UInt8)} {k : Nat} (h : k < L.length) : offs L (k + 1) = offs L k + (7 + L[k].2.length) := by
  unfold offs; rw [cat_succ h, List.length_append, slip_len]
def goodL (L : List (Int × List UInt8)) : Prop := ∀ i (h : i < L.length), 0 ≤ L[i].1 ∧ L[i].1 ≤ 255 ∧ L[i].2.length ≤ 65535
theorem torn_drop {L : List (Int × List UInt8)} {n k : Nat} (hk : k < L.length) (hn : offs L k ≤ n) : ((cat L).take n).drop (offs L k) = (slipB L[k].1 L[k].2 ++ cat (L.drop (k + 1))).take (n - offs L k) := by
  rw [cat_split hk, List.take_append, List.drop_append]
  have h1 : (cat (L.take k)).take n = cat (L.take k) := List.take_of_length_le hn
  rw [h1]
  have h2 : (cat (L.take k)).length = offs L k := rfl
  rw [h2, List.drop_eq_nil_of_le (by rw [h2]; exact Nat.le_refl _), Nat.sub_self]
  simp
theorem torn_ok {L : List (Int × List UInt8)} {n : Nat} (hL : goodL L) (hn : n ≤ (cat L).length) : ∀ k, k ≤ L.length → offs L k ≤ n → pos ((cat L).take n) k = offs L k ∧ ∀ j (hj : j < k) (hjl : j < L.length), okA ((cat L).take n) j ∧ rowK ((cat L).take n) j = L[j].1 ∧ rowD ((cat L).take n) j = L[j].2
  | 0, _, _ => ⟨rfl, fun j hj => absurd hj (Nat.not_lt_zero _)⟩
  | k + 1, hk, ho => by
    have hk' : k < L.length := by omega
    have e0 := offs_succ hk'
    obtain ⟨ih1, ih2⟩ := torn_ok hL hn k (by omega) (by omega)
    obtain ⟨g1, g2, g3⟩ := hL k hk'
    have hd : ((cat L).take n).drop (pos ((cat L).take n) k) = slipB L[k].1 L[k].2 ++ (cat (L.drop (k + 1))).take (n - offs L (k + 1)) := by
      rw [ih1, torn_drop hk' (by omega), List.take_append, List.take_of_length_le (by rw [slip_len]; omega), slip_len]
      congr 2; omega
    have hE : slE (((cat L).take n).drop (pos ((cat L).take n) k)) = 0 := by rw [hd]; exact slE_app (slip_E _ _ g3)
    have hlen : ((cat L).take n).length = n := by rw [List.length_take]; omega
    have hok : okA ((cat L).take n) k := ⟨by rw [ih1, hlen]; omega, hE⟩
    have hD : rowD ((cat L).take n) k = L[k].2 := by
      unfold rowD; rw [hd, slD_app (slip_E _ _ g3), slip_D _ _ g3]
    have hK : rowK ((cat L).take n) k = L[k].1 := by
      unfold rowK byt
      rw [hd, getD_app (by rw [slip_len]; omega)]
      exact slip_K _ _ g1 g2
    refine ⟨by rw [pos_succ hok, hD, ih1, e0], fun j hj hjl => ?_⟩
    by_cases e : j = k
    · subst e; exact ⟨hok, hK, hD⟩
    · exact ih2 j (by omega) hjl
theorem torn_no {L : List (Int × List UInt8)} {n k : Nat} (hL : goodL L) (hn : n ≤ (cat L).length) (hk : k ≤ L.length) (ho : offs L k ≤ n) (hx : k = L.length ∨ ∃ h : k < L.length, n < offs L k + (7 + L[k].2.length)) : ¬ okA ((cat L).take n) k ∧ (offs L k < n → slE (((cat L).take n).drop (offs L k)) = 90) := by
  obtain ⟨h1, _⟩ := torn_ok hL hn k hk ho
  have hlen : ((cat L).take n).length = n := by rw [List.length_take]; omega
  rcases hx with hx | ⟨hk', hx⟩
  · have e : offs L k = (cat L).length := by unfold offs; rw [hx, List.take_length]
    exact ⟨fun h => by have := h.1; rw [h1, hlen] at this; omega, fun h => by omega⟩
  · obtain ⟨g1, g2, g3⟩ := hL k hk'
    have key : offs L k < n → slE (((cat L).take n).drop (offs L k)) = 90 := by
      intro hlt
      have hd := torn_drop (n := n) hk' ho
      have h2 : (((cat L).take n).drop (offs L k)).length = n - offs L k := by rw [List.length_drop, hlen]
      have hp : ((cat L).take n).drop (offs L k) = (slipB L[k].1 L[k].2).take (n - offs L k) := by
        rw [hd, List.take_append_of_le_length (by rw [slip_len]; omega)]
      generalize hq : ((cat L).take n).drop (offs L k) = q at *
      unfold slE
      by_cases h3 : q.length < 3
      · rw [if_pos h3]
      · rw [if_neg h3]
        have hN : slN q = L[k].2.length := by
          rw [← slip_n L[k].1 L[k].2 g3]
          unfold slN
          rw [hp, List.getD_eq_getElem?_getD, List.getD_eq_getElem?_getD, List.getElem?_take, List.getElem?_take, if_pos (by omega), if_pos (by omega), ← List.getD_eq_getElem?_getD, ← List.getD_eq_getElem?_getD]
        rw [if_pos (by omega)]
    refine ⟨fun h => ?_, key⟩
    have h2 := h.1
    have h3 := h.2
    rw [h1, hlen] at h2
    rw [h1, key h2] at h3
    cases h3
theorem torn {L : List (Int × List UInt8)} {n k : Nat} (hL : goodL L) (hn : n ≤ (cat L).length) (hk : k ≤ L.length) (ho : offs L k ≤ n) (hx : k = L.length ∨ ∃ h : k < L.length, n < offs L k + (7 + L[k].2.length)) :
    rowN ((cat L).take n) = k ∧ rowE ((cat L).take n) = offs L k ∧ (offs L k = n → rowB ((cat L).take n) = 0) ∧ (offs L k < n → rowB ((cat L).take n) = 90) ∧ ∀ j (h : j < L.length), j < k → rowK ((cat L).take n) j = L[j].1 ∧ rowD ((cat L).take n) j = L[j].2 := by
  obtain ⟨h1, h2⟩ := torn_ok hL hn k hk ho
  obtain ⟨h3, h4⟩ := torn_no hL hn hk ho hx
  have hN : rowN ((cat L).take n) = k := rowN_is (fun j hj => (h2 j hj (by omega)).1) h3
  have hE : rowE ((cat L).take n) = offs L k := by unfold rowE; rw [hN, h1]
  have hlen : ((cat L).take n).length = n := by rw [List.length_take]; omega
  refine ⟨hN, hE, fun e => ?_, fun e => ?_, fun j hj hjk => (h2 j hjk hj).2⟩
  · unfold rowB; rw [hE, hlen, if_pos e]
  · unfold rowB; rw [hE, hlen, if_neg (by omega), h4 e]
end Go.Proofs.Ytnddanaangolgaa.V
