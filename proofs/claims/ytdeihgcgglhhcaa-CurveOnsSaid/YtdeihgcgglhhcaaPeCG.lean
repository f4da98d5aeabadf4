/- Regions that draw, of which the reads see less than there is. -/
import Derived.Test.YtdeihgcgglhhcaaPeVL
set_option linter.unusedSimpArgs false
set_option linter.unusedVariables false
namespace Go.Proofs.Ytdeihgcgglhhcaa.V
open Go.RowKit
section
variable {P : Program} {E : Env} {K : St → Prop} {L : SL} {A : AL} {G Gs : GH} {Ls : List Nat}
theorem pvT_swap {o : POp} {s : Nat → Value} {l : Nat → Array Value} {H : GH} {K1 K2 : St → Prop} (hp : pvT P E Gs Ls o ⟨s, l, Gs⟩ K1) (hk : ∀ st', st'.G = Gs → K1 st' → K2 ⟨st'.s, st'.l, H⟩) : pvT P E Gs Ls o ⟨s, l, H⟩ K2 := by
  cases o with
  | pure d f xs => obtain ⟨v, h1, h2⟩ := hp; exact ⟨v, h1, hk _ rfl h2⟩
  | lmove d s => exact hk _ rfl hp
  | lfield d s o => obtain ⟨p, h1, h2⟩ := hp; exact ⟨p, h1, hk _ rfl h2⟩
  | lindex d s len n i => obtain ⟨p, k, j, h1, h2, h3, h4⟩ := hp; exact ⟨p, k, j, h1, h2, h3, hk _ rfl h4⟩
  | lload d k s n g => obtain ⟨h0, p, v, h1, h2, h3⟩ := hp; exact ⟨h0, p, v, h1, h2, hk _ rfl h3⟩
  | hload d n g x => obtain ⟨b, q, cs, e, fr, v, h1, h2, h3, h4⟩ := hp; exact ⟨b, q, cs, e, fr, v, h1, h2, h3, hk _ rfl h4⟩
  | b2s d x => obtain ⟨xs, h1, h2⟩ := hp; exact ⟨xs, h1, hk _ rfl h2⟩
  | _ => exact hp.elim
def backK (P : Program) (E : Env) (Gs : GH) (Ls : List Nat) (K : St → Prop) (pl : Plan) (H : GH) (st : St) : Prop := vplan P E Gs Ls K pl ⟨st.s, st.l, H⟩
theorem k_back {pl : Plan} {H : GH} (h : vplan P E Gs Ls K pl (S L A H)) : backK P E Gs Ls K pl H (S L A G) := h
theorem pre_soundG {H : GH} : ∀ {pl : Plan} {x : List Stp × Plan} {s : Nat → Value} {l : Nat → Array Value}, pre Ls pl = some x → vops P E x.1 (backK P E Gs Ls K x.2 H) ⟨s, l, Gs⟩ → vplan P E Gs Ls K pl ⟨s, l, H⟩
  | .done, x, s, l, h, hv => by cases h; exact hv
  | .alt _ _ _ _, x, s, l, h, hv => by cases h; exact hv
  | .no, x, s, l, h, hv => by cases h; exact hv
  | .take i q rest, x, s, l, h, hv => by
    unfold pre at h
    cases ht : takeable Ls q.p with
    | false => rw [ht] at h; cases h
    | true =>
      rw [ht] at h
      cases hl : pre Ls rest with
      | none => rw [hl] at h; cases h
      | some x' =>
        obtain ⟨l', p'⟩ := x'
        rw [hl] at h; cases h
        simp only [vplan]
        simp only [vops] at hv
        have go : ∀ st' : St, st'.G = Gs → vops P E l' (backK P E Gs Ls K p' H) st' → vplan P E Gs Ls K rest ⟨st'.s, st'.l, H⟩ := by
          intro st' hst' hv'
          obtain ⟨s', l2, G'⟩ := st'
          change G' = Gs at hst'
          rw [hst'] at hv'
          exact pre_soundG hl hv'
        have step : pv P E q.p ⟨s, l, Gs⟩ (vops P E l' (backK P E Gs Ls K p' H)) → pvT P E Gs Ls q.p ⟨s, l, H⟩ (vplan P E Gs Ls K rest) := by
          intro hp
          exact pvT_swap (pvT_of_pv ht rfl hp) fun st' h1 h2 => go st' h1 h2.1
        cases hg : q.g with
        | none =>
          rw [hg] at hv
          simp only [gW, cond_true]
          exact step hv
        | some y =>
          obtain ⟨t, b⟩ := y
          rw [hg] at hv
          simp only [gW]
          cases hb : isB (s t) b with
          | true =>
            simp only [hb, cond_true] at hv ⊢
            exact step hv
          | false =>
            simp only [hb, cond_false] at hv ⊢
            exact go _ rfl hv
/-- The reads that may be done first, in what is sure to stay. -/
theorem p_preG {pl pl' : Plan} {s : Stp} {l : List Stp} (h : pre Ls pl = some (s :: l, pl')) (hv : vops P E (s :: l) (backK P E Gs Ls K pl' G) (S L A Gs)) : vplan P E Gs Ls K pl (S L A G) := pre_soundG h hv
theorem v_drawG {Q : Exit → St → Prop} {pl : Plan} (Gs : GH) (hG : Gs.le G) (h : vplan P E Gs Ls (Q .normal) pl (S L A G)) : vc P E (.draw Ls pl) Q (S L A G) := ⟨Gs, hG, h⟩
end
end Go.Proofs.Ytdeihgcgglhhcaa.V
