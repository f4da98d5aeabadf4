/- Three hashes at once: the state, and what a step does to it. -/
import Derived.Test.YtbpjjhbkahinjaaPlST
import Derived.Test.YtbpjjhbkahinjaaPlSR
set_option linter.unusedSimpArgs false
set_option linter.unusedVariables false
namespace Go.Proofs.Ytbpjjhbkahinjaa.V
open Go.RowKit Go.ChangeShapes Go.WideShapes Go.ChangeAt
section
variable {P : Program} {E : Env} {K : St → Prop} {r : List Stp} {dd : Option Nat} {L : SL} {A : AL} {G : GH}
end
/-- Three hashes, and what was written to each. -/
def Three (G H : GH) (ow wv : List Value) (ws : List (List UInt8)) (m : Nat) : Prop := ow.length = 3 ∧ wv.length = 3 ∧ ws.length = 3 ∧ G.le H ∧ ∃ FF : Nat → GH,
  (∀ i, i < 3 → ∃ b w x, ow[i]? = some (pt b) ∧ wv[i]? = some w ∧ ws[i]? = some x ∧ x.length ≤ m ∧ (FF i).le H ∧ HX (FF i) (pt b) x ∧ sep (FF i) G ∧ Own 1 G H w (x.map bv) ∧ ∀ c, blkS w = some c → ∀ j, j < 3 → FF j c = none) ∧
  ∀ i j, i < 3 → j < 3 → i ≠ j → sep (FF i) (FF j)
theorem Own.some {n : Nat} {G0 G : GH} {u : Value} {xs : List Value} (h : Own n G0 G u xs) {c : Nat} (hc : blkS u = some c) : ∃ o, G c = some o ∧ G0 c = none := by
  rcases h with ⟨rfl, _⟩ | ⟨b', sp, h0, h⟩
  · cases hc
  · have := h.blk; rw [hc] at this; cases this
    obtain ⟨q, len, cap, cs, e, fr, _, hG, _⟩ := h
    exact ⟨_, hG, h0⟩
theorem Three.one {G H : GH} {ow wv : List Value} {ws : List (List UInt8)} {m i : Nat} (h : Three G H ow wv ws m) (hi : i < 3) : ∃ b w x, ∃ F : GH, ow[i]? = some (pt b) ∧ wv[i]? = some w ∧ ws[i]? = some x ∧ x.length ≤ m ∧ F.le H ∧ HX F (pt b) x ∧ sep F G ∧ Own 1 G H w (x.map bv) ∧ (∀ c, blkS w = some c → F c = none) ∧
    ∀ {H' F' : GH} {b' : Nat} {w' : Value} {x' : List UInt8}, G.le H' → (off F H).le H' → F'.le H' → sep F' (off F H) → sep F' G → HX F' (pt b') x' → Own 1 G H' w' (x'.map bv) → (∀ c, blkS w' = some c → off F H c = none ∧ F' c = none) → x'.length ≤ m → Three G H' (ow.set i (pt b')) (wv.set i w') (ws.set i x') m := by
  obtain ⟨l1, l2, l3, hl, FF, h1, h2⟩ := h
  obtain ⟨b, w, x, a1, a2, a3, a4, a5, a6, a7, a8, a9⟩ := h1 i hi
  refine ⟨b, w, x, FF i, a1, a2, a3, a4, a5, a6, a7, a8, fun c hc => a9 c hc i hi, ?_⟩
  intro H' F' b' w' x' g1 g2 g3 g4 g5 g6 g7 g8 g9
  have hsub : ∀ j, j < 3 → j ≠ i → (FF j).le (off (FF i) H) := fun j hj hji => by
    obtain ⟨_, _, _, _, _, _, _, c5, _⟩ := h1 j hj
    exact le_off c5 (h2 i j hi hj (Ne.symm hji))
  refine ⟨by simp [l1], by simp [l2], by simp [l3], g1, fun j => if j = i then F' else FF j, ?_, ?_⟩
  · intro j hj
    by_cases hji : j = i
    · subst hji
      refine ⟨b', w', x', by rw [List.getElem?_set_self (by omega)], by rw [List.getElem?_set_self (by omega)], by rw [List.getElem?_set_self (by omega)], g9, ?_⟩
      simp only [if_true]
      refine ⟨g3, g6, g5, g7, fun c hc k hk => ?_⟩
      obtain ⟨n1, n2⟩ := g8 c hc
      (try dsimp only)
      split
      · exact n2
      · rename_i hk2
        exact upd_none (hsub k hk hk2) n1
    · obtain ⟨b1, w1, x1, c1, c2, c3, c4, c5, c6, c7, c8, c9⟩ := h1 j hj
      have hkeep : ∀ c, blkS w1 = some c → ∀ o, H c = some o → H' c = some o := fun c hc o ho => g2 c o (by rw [off_get (c9 c hc i hi)]; exact ho)
      refine ⟨b1, w1, x1, by rw [List.getElem?_set_ne (Ne.symm hji)]; exact c1, by rw [List.getElem?_set_ne (Ne.symm hji)]; exact c2, by rw [List.getElem?_set_ne (Ne.symm hji)]; exact c3, c4, ?_⟩
      dsimp only
      rw [if_neg hji]
      refine ⟨GH.le_trans (hsub j hj hji) g2, c6, c7, c8.keep hkeep, fun c hc k hk => ?_⟩
      (try dsimp only)
      split
      · obtain ⟨o, ho, _⟩ := c8.some hc
        rcases g4 c with h | h
        · exact h
        · rw [off_get (c9 c hc i hi), ho] at h; cases h
      · exact c9 c hc k hk
  · intro j k hj hk hjk
    dsimp only
    by_cases hji : j = i
    · rw [if_pos hji, if_neg (by omega)]
      exact g4.sub (hsub k hk (by omega))
    · rw [if_neg hji]
      by_cases hki : k = i
      · rw [if_pos hki]
        exact (g4.sub (hsub j hj hji)).symm
      · rw [if_neg hki]; exact h2 j k hj hk hjk
theorem Three.more {G H : GH} {ow wv : List Value} {ws : List (List UInt8)} {m m' : Nat} (h : Three G H ow wv ws m) (hm : m ≤ m') : Three G H ow wv ws m' := by
  obtain ⟨l1, l2, l3, hl, FF, h1, h2⟩ := h
  refine ⟨l1, l2, l3, hl, FF, fun i hi => ?_, h2⟩
  obtain ⟨b1, w1, x1, c1, c2, c3, c4, c5⟩ := h1 i hi
  exact ⟨b1, w1, x1, c1, c2, c3, by omega, c5⟩
theorem Three.le {G H H' : GH} {ow wv : List Value} {ws : List (List UInt8)} {m : Nat} (h : Three G H ow wv ws m) (hl : H.le H') : Three G H' ow wv ws m := by
  obtain ⟨l1, l2, l3, hl0, FF, h1, h2⟩ := h
  refine ⟨l1, l2, l3, GH.le_trans hl0 hl, FF, fun i hi => ?_, h2⟩
  obtain ⟨b1, w1, x1, c1, c2, c3, c4, c5, c6, c7, c8, c9⟩ := h1 i hi
  exact ⟨b1, w1, x1, c1, c2, c3, c4, GH.le_trans c5 hl, c6, c7, c8.le hl, c9⟩
end Go.Proofs.Ytbpjjhbkahinjaa.V
