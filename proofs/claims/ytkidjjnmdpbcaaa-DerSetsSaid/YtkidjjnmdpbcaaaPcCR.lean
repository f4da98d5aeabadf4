/- Boxes; what is known but some blocks; rows that grow side by side. -/
import Derived.Test.YtkidjjnmdpbcaaaPcVN
set_option linter.unusedSimpArgs false
set_option linter.unusedVariables false
namespace Go.Proofs.Ytkidjjnmdpbcaaa.V
open Go.RowKit
theorem own_unp {n l : Nat} {G0 G : GH} {u : Value} {xs : List Value} {o : Obj} (h : Own n G0 G u xs) (hl : G l = some o) (hc : o.isCells = false) : Own n (unp G0 l) (unp G l) u xs := by
  rcases h with h | ⟨b, sp, h0, hb⟩
  · exact .inl h
  · have hbl : b ≠ l := by
      intro e; subst e
      obtain ⟨q, len, cap, cs, e, fr, _, hG, _⟩ := hb
      rw [hG] at hl; cases hl; cases hc
    refine .inr ⟨b, sp, ?_, hb.le fun o ho => ?_⟩
    · rw [unp_ne hbl]; exact h0
    · rw [unp_ne hbl]; exact ho
theorem le_none {G G' : GH} {b : Nat} (h : G.le G') (hb : G' b = none) : G b = none := by
  cases e : G b with
  | none => rfl
  | some o => rw [h _ _ e] at hb; cases hb
theorem Own.at_ {n : Nat} {G0 G : GH} {u : Value} {xs : List Value} (h : Own n G0 G u xs) {c : Nat} (hc : blkS u = some c) : ∃ o, G c = some o ∧ G0 c = none := by
  rcases h with ⟨rfl, _⟩ | ⟨b', sp, h0, h⟩
  · cases hc
  · have := h.blk; rw [hc] at this; cases this
    obtain ⟨q, len, cap, cs, e, fr, _, hG, _⟩ := h
    exact ⟨_, hG, h0⟩
/-- All that is known but a slice's own block. -/
def offb (u : Value) (G : GH) : GH := fun c => if blkS u = some c then none else G c
theorem offb_le (u : Value) (G : GH) : (offb u G).le G := fun c o h => by
  unfold offb at h; split at h
  · cases h
  · exact h
theorem le_offb {B G : GH} {u : Value} (h : B.le G) (hn : ∀ c, blkS u = some c → B c = none) : B.le (offb u G) := fun c o hc => by
  unfold offb; split
  · rename_i hb; rw [hn c hb] at hc; cases hc
  · exact h c o hc
theorem offb_none {u : Value} {G : GH} {c : Nat} (h : blkS u = some c) : offb u G c = none := by simp [offb, h]
theorem offb_ne {u : Value} {G : GH} {c : Nat} (h : blkS u ≠ some c) : offb u G c = G c := by simp [offb, h]
theorem offb_mono {u : Value} {G G' : GH} (h : G.le G') : (offb u G).le (offb u G') := le_offb (GH.le_trans (offb_le _ _) h) fun c hc => offb_none hc
section
variable {P : Program} {E : Env} {K : St → Prop} {r : List Stp} {dd dd2 : Option Nat} {L : SL} {A : AL} {G : GH}
end
/-- Two rows that grow, and what both leave. -/
def Two (m n : Nat) (G H B : GH) (l p : Value) (xs ys : List Value) : Prop := B = offb l (offb p H) ∧ G.le B ∧ Own m G H l xs ∧ Own n G H p ys ∧ ∀ c, blkS l = some c → blkS p ≠ some c
theorem Two.le {m n : Nat} {G H B H' : GH} {l p : Value} {xs ys : List Value} (h : Two m n G H B l p xs ys) (hl : H.le H') : Two m n G H' (offb l (offb p H')) l p xs ys ∧ B.le (offb l (offb p H')) := by
  obtain ⟨rfl, h2, h3, h4, h5⟩ := h
  have hle := offb_mono (u := l) (offb_mono (u := p) hl)
  exact ⟨⟨rfl, GH.le_trans h2 hle, h3.le hl, h4.le hl, h5⟩, hle⟩
theorem Two.nil (m n : Nat) (G : GH) : Two m n G G G (.slice none 0 0) (.slice none 0 0) [] [] :=
  ⟨by funext c; simp [offb, blkS], GH.le_refl _, .inl ⟨rfl, rfl⟩, .inl ⟨rfl, rfl⟩, fun c hc => by cases hc⟩
/-- Of what is new the rows' blocks are none. -/
theorem Two.newO {m n k : Nat} {G H B H' : GH} {l p w : Value} {xs ys zs : List Value} (h : Two m n G H B l p xs ys) (hl : H.le H') (hw : Own k H H' w zs) : Own k H (offb l (offb p H')) w zs := by
  obtain ⟨rfl, h2, h3, h4, h5⟩ := h
  refine Own.keep hw fun c hc o ho => ?_
  obtain ⟨_, _, hn⟩ := hw.at_ hc
  have n1 : blkS l ≠ some c := fun e => by obtain ⟨o, ho, _⟩ := h3.at_ e; rw [hn] at ho; cases ho
  have n2 : blkS p ≠ some c := fun e => by obtain ⟨o, ho, _⟩ := h4.at_ e; rw [hn] at ho; cases ho
  rw [offb_ne n1, offb_ne n2]; exact ho
theorem Two.new {m n k : Nat} {G H B H' : GH} {l p w : Value} {xs ys zs : List Value} (h : Two m n G H B l p xs ys) (hl : H.le H') (hw : Own k H H' w zs) : Sl k (offb l (offb p H')) w zs := (h.newO hl hw).sl
/-- The first row has grown. -/
theorem Two.fst {m n : Nat} {G H B H' : GH} {l p l' : Value} {xs xs' ys : List Value} (h : Two m n G H B l p xs ys) (h1 : G.le H') (h2 : Own m G H' l' xs') (h3 : ∀ b, blkS l ≠ some b → ∀ o, H b = some o → H' b = some o) (h4 : blkS l' = blkS l ∨ ∃ b, blkS l' = some b ∧ H b = none) :
    Two m n G H' (offb l' (offb p H')) l' p xs' ys ∧ B.le (offb l' (offb p H')) := by
  obtain ⟨rfl, k2, k3, k4, k5⟩ := h
  have hd : ∀ c, blkS l' = some c → blkS p ≠ some c := fun c hc hp => by
    rcases h4 with e | ⟨b, e, hn⟩
    · exact k5 c (by rw [← e]; exact hc) hp
    · rw [e] at hc; cases hc
      obtain ⟨o, ho, _⟩ := k4.at_ hp
      rw [hn] at ho; cases ho
  have hB : (offb l (offb p H)).le (offb l' (offb p H')) := fun c o hc => by
    have n1 : blkS l ≠ some c := fun e => by rw [offb_none e] at hc; cases hc
    rw [offb_ne n1] at hc
    have n2 : blkS p ≠ some c := fun e => by rw [offb_none e] at hc; cases hc
    rw [offb_ne n2] at hc
    have n3 : blkS l' ≠ some c := fun e => by
      rcases h4 with e2 | ⟨b, e2, hn⟩
      · exact n1 (by rw [← e2]; exact e)
      · rw [e2] at e; cases e; rw [hn] at hc; cases hc
    rw [offb_ne n3, offb_ne n2]; exact h3 c n1 o hc
  refine ⟨⟨rfl, GH.le_trans k2 hB, h2, k4.keep fun c hc o ho => h3 c (fun e => k5 c e hc) o ho, hd⟩, hB⟩
theorem q_trim {K : St → Prop} {L : SL} {A : AL} {G : GH} (kv : List (Nat × Value)) (la : List (Nat × Array Value)) (hs : hasS L.fn kv) (hl : hasL A.fn la) (h : ∀ s l, K (S (SL.sets s kv) (AL.sets l la) G)) : K (S L A G) := by
  rw [show S L A G = S (SL.sets L.fn kv) (AL.sets A.fn la) G from st_eq (st := S L A G) hs hl]
  exact h L.fn A.fn
/-- THE FRAME RULE: what the callee isn't told of stays as it was. -/
theorem HC.frame {P : Program} {f : FuncId} {args : Array Value} {Gv H : GH} {R : Value → GH → Prop} (hle : Gv.le H) (h : HC P f args Gv R) : HC P f args H fun v H' => ∃ G', R v G' ∧ G'.le H' ∧ (∀ c o, Gv c = none → H c = some o → H' c = some o ∧ G' c = none) := by
  intro w hw
  refine (h w (fun b o hb => hw b o (hle b o hb))).mono ?_
  rintro e w' ⟨v, G', rfl, hf, hR⟩
  have key : ∀ c o, Gv c = none → H c = some o → w'.heap[c]? = some o ∧ G' c = none := fun c o hn ho => by
    have hlt := hw.lt ho
    exact ⟨(hf.block c hlt hn).trans (hw c o ho), hf.none c hlt hn⟩
  refine ⟨v, fun c => match G' c with | some o => some o | none => if Gv c = none then H c else none, rfl, ⟨hf.os, hf.tape, hf.output, hf.size, fun b hb hn => ?_, fun b hb hn => ?_, fun b o ho => ?_⟩, G', hR, fun c o hc => ?_, fun c o hn ho => ⟨?_, (key c o hn ho).2⟩⟩
  · exact hf.block b hb (le_none hle hn)
  · have h1 := hf.none b hb (le_none hle hn)
    simp only [h1, le_none hle hn, if_true]; exact hn
  · cases e : G' b with
    | some o' =>
      simp only [e] at ho
      cases ho; exact hf.view b _ e
    | none =>
      simp only [e] at ho
      split at ho
      · rename_i hn
        exact (key b o hn ho).1
      · cases ho
  · simp only [hc]
  · have h1 := (key c o hn ho).2
    simp only [h1, hn, if_true]; exact ho
end Go.Proofs.Ytkidjjnmdpbcaaa.V
