/- Elements that are put one behind the other: plain. -/
import Derived.Test.YtkidjjnmdpbcaaaPbP
import Derived.Test.YtkidjjnmdpbcaaaPbK
set_option linter.unusedSimpArgs false
set_option linter.unusedVariables false
namespace Go.Proofs.Ytkidjjnmdpbcaaa.V
open Go.RowKit
def putB (t : Int) (c : List UInt8) : List UInt8 := UInt8.ofInt t :: lenB c.length ++ c
theorem putB_len (t : Int) (c : List UInt8) : (putB t c).length = 1 + (lenB c.length).length + c.length := by unfold putB; simp; omega
theorem putB_tk {t : Int} {c z : List UInt8} (ht : tagP t) (hc : c.length ≤ 16777215) : tkE (putB t c ++ z) = 0 ∧ tkC (putB t c ++ z) = c ∧ byt (putB t c ++ z) 0 = t ∧ nxt (putB t c ++ z) = ((putB t c).length : Int) ∧ nxt (putB t c ++ z) = sizeD (c.length : Int) + c.length := by
  obtain ⟨h1, h2⟩ := put_tk (z := z) ht hc
  obtain ⟨_, _, _, h3⟩ := put_hdr (z := z) ht hc
  have e := nxt_size h1
  rw [h2] at e
  refine ⟨h1, h2, h3, ?_, e⟩
  rw [show putB t c ++ z = UInt8.ofInt t :: lenB c.length ++ c ++ z from rfl, e, putB_len]
  unfold sizeD; rw [if_neg (by omega)]; omega
def catE (L : List (Int × List UInt8)) : List UInt8 := (L.map fun s => putB s.1 s.2).flatten
theorem catE_app (a b : List (Int × List UInt8)) : catE (a ++ b) = catE a ++ catE b := by simp [catE]
theorem catE_succ {L : List (Int × List UInt8)} {k : Nat} (h : k < L.length) : catE (L.take (k + 1)) = catE (L.take k) ++ putB L[k].1 L[k].2 := by
  rw [List.take_succ_eq_append_getElem h, catE_app]; simp [catE]
theorem catE_split {L : List (Int × List UInt8)} {k : Nat} (h : k < L.length) : catE L = catE (L.take k) ++ (putB L[k].1 L[k].2 ++ catE (L.drop (k + 1))) := by
  have e : L = L.take k ++ (L[k] :: L.drop (k + 1)) := by rw [← List.drop_eq_getElem_cons h, List.take_append_drop]
  have e2 : catE L = catE (L.take k ++ (L[k] :: L.drop (k + 1))) := congrArg catE e
  rw [e2, catE_app]
  rfl
def goodE (L : List (Int × List UInt8)) : Prop := ∀ i (h : i < L.length), tagP L[i].1 ∧ L[i].2.length ≤ 1048576
theorem catE_le {L : List (Int × List UInt8)} (hL : goodE L) : ∀ k, k ≤ L.length → (catE (L.take k)).length ≤ 1048581 * k
  | 0, _ => Nat.zero_le _
  | k + 1, h => by
    have := catE_le hL k (by omega)
    have := (hL k (by omega)).2
    have := lenB_le (L[k].2.length : Int)
    rw [catE_succ (by omega), List.length_append, putB_len]; omega
theorem rowsE {L : List (Int × List UInt8)} (hL : goodE L) : ∀ k, k ≤ L.length → pos (catE L) k = (catE (L.take k)).length ∧ ∀ j (hj : j < k) (hjl : j < L.length), okA (catE L) j ∧ rowK (catE L) j = L[j].1 ∧ rowD (catE L) j = L[j].2
  | 0, _ => ⟨rfl, fun j hj => absurd hj (Nat.not_lt_zero _)⟩
  | k + 1, hk => by
    have hk' : k < L.length := by omega
    obtain ⟨ih1, ih2⟩ := rowsE hL k (by omega)
    obtain ⟨g1, g2⟩ := hL k hk'
    have hd : (catE L).drop (pos (catE L) k) = putB L[k].1 L[k].2 ++ catE (L.drop (k + 1)) := by
      rw [ih1]
      have e := catE_split hk'
      rw [e, List.drop_left]
    obtain ⟨p1, p2, p3, p4, p5⟩ := putB_tk (z := catE (L.drop (k + 1))) g1 (c := L[k].2) (by omega)
    have hE : tkE ((catE L).drop (pos (catE L) k)) = 0 := by rw [hd]; exact p1
    have hlen : (catE L).length = (catE (L.take k)).length + ((putB L[k].1 L[k].2).length + (catE (L.drop (k + 1))).length) := by
      have e := congrArg List.length (catE_split hk')
      rw [List.length_append, List.length_append] at e; exact e
    have hok : okA (catE L) k := ⟨by rw [ih1, hlen, putB_len]; omega, hE⟩
    have hD : rowD (catE L) k = L[k].2 := by unfold rowD; rw [hd]; exact p2
    have hK : rowK (catE L) k = L[k].1 := by unfold rowK; rw [hd]; exact p3
    refine ⟨?_, fun j hj hjl => ?_⟩
    · have : pos (catE L) (k + 1) = pos (catE L) k + (nxt ((catE L).drop (pos (catE L) k))).toNat := rfl
      rw [this, hd, p4, ih1, catE_succ hk', List.length_append]; omega
    · by_cases e : j = k
      · subst e; exact ⟨hok, hK, hD⟩
      · exact ih2 j (by omega) hjl
theorem rowsE_all {L : List (Int × List UInt8)} (hL : goodE L) : rowN (catE L) = L.length ∧ rowE (catE L) = (catE L).length ∧ ∀ j (h : j < L.length), rowK (catE L) j = L[j].1 ∧ rowD (catE L) j = L[j].2 := by
  obtain ⟨h1, h2⟩ := rowsE hL L.length (Nat.le_refl _)
  rw [List.take_length] at h1
  have hN : rowN (catE L) = L.length := rowN_is (fun j hj => (h2 j hj hj).1) fun h => by have := h.1; rw [h1] at this; omega
  exact ⟨hN, by unfold rowE; rw [hN, h1], fun j hj => (h2 j hj hj).2⟩
/-- The elements that are laid. -/
def layE (kf : Nat → Int) (df : Nat → List UInt8) (m : Nat) : List (Int × List UInt8) := (List.range m).map fun i => (rightT (kf i), (df i).take 1048576)
theorem layE_len (kf : Nat → Int) (df : Nat → List UInt8) (m : Nat) : (layE kf df m).length = m := by simp [layE]
theorem layE_get (kf : Nat → Int) (df : Nat → List UInt8) {m i : Nat} (h : i < (layE kf df m).length) : (layE kf df m)[i] = (rightT (kf i), (df i).take 1048576) := by simp [layE]
theorem layE_good (kf : Nat → Int) (df : Nat → List UInt8) (m : Nat) : goodE (layE kf df m) := fun i hi => by
  rw [layE_get]; dsimp only
  exact ⟨rightT_tag _, by rw [List.length_take]; omega⟩
end Go.Proofs.Ytkidjjnmdpbcaaa.V
