/- Library V, part N: loops over functions, calls of yield, results in boxes. No program here. -/
import Derived.Test.YtkidjjnmdpbcaaaPbVM
set_option linter.unusedVariables false
set_option linter.unusedSimpArgs false
namespace Go.Proofs.Ytkidjjnmdpbcaaa.V
section
variable {P : Program} {E : Env} {K : St → Prop} {Q : Exit → St → Prop} {r : List Stp} {dd : Option Nat} {L : SL} {A : AL} {G : GH}
/-- A call of yield. -/
theorem o_yield {d l : Nat} {x : Operand} {xs : List Operand} {vs : List Value} {R : Value → GH → Prop} (hx : evo L x = some (.func (.yield l) #[] #[])) (ha : evs L xs = some vs) (hy : HY P l vs.toArray G R) (h : ∀ v G', R v G' → vops P E r K (S (.set d v L) A G')) : vops P E (⟨none, dd, .yieldc d x xs⟩ :: r) K (S L A G) := by
  refine ⟨l, evo_ev hx, ?_⟩
  show HY P l (xs.map (ev (S L A G))).toArray G _
  rw [evs_ev ha]
  exact hy.mono h
def SL.many : SL → List Nat → List Value → SL
  | L, p :: ps, x :: xs => SL.many (.set p x L) ps xs
  | L, _, _ => L
theorem many_fn : ∀ (ps : List Nat) (xs : List Value) (L : SL), (SL.many L ps xs).fn = setMany L.fn ps xs
  | [], xs, L => by cases xs <;> rfl
  | p :: ps, [], L => rfl
  | p :: ps, x :: xs, L => many_fn ps xs _
theorem noLoc_has {s : Nat → Value} : ∀ {kv : List (Nat × Value)}, hasS s kv → kv.all (fun p => (lookE E.env p.1).isNone) = true → hasS (noLoc E s) kv
  | [], _, _ => trivial
  | p :: r, h, hp => by
    simp only [List.all_cons, Bool.and_eq_true] at hp
    have h1 : lookE E.env p.1 = none := by simpa using hp.1
    exact ⟨by simp [noLoc, h1, h.1], noLoc_has h.2 hp.2⟩
/-- A LOOP OVER A FUNCTION: I: what holds behind k rounds; Ix: where a round leaves it. -/
theorem v_range {g : Operand} {ps : List Nat} {as b : PC} {gf : FuncId} {lb : List Value} (Gi : GH) (n : Nat) (Item : Nat → List Value → GH → GH → Prop) (I : Nat → GH → Prop) (Ix : Exit → GH → Prop) (kv : List (Nat × Value)) (hkv : hasS L.fn kv) (hpl : kv.all (fun p => (lookE E.env p.1).isNone) = true)
    (hg : evo L g = some (.func (.func gf) #[] lb.toArray)) (hc : callable P gf = true) (hit : IterC P gf lb Gi n Item) (mI : ∀ k G G', I k G → G.le G' → I k G') (mIx : ∀ e G G', Ix e G → G.le G' → Ix e G') (hGi : ∀ k G, I k G → Gi.le G) (h0 : I 0 G)
    (hb : ∀ k x G0 G1, k < n → I k G0 → G0.le G1 → Item k x G0 G1 → x.length = ps.length ∧ ∀ s l, vc P E as (thenQ (vc P E b (roundQ I Ix k)) (fun _ _ => False)) (S (SL.many (SL.sets s kv) ps x) (AL.any l) G1))
    (hd : ∀ G', I n G' → Q .normal (S L A G')) (hret : ∀ G', Ix .ret G' → Q .ret (S L A G')) (hex : ∀ id G', Ix (.exit id) G' → Q (.exit id) (S L A G')) : vc P E (.range g ps as b) Q (S L A G) := by
  refine ⟨gf, lb, Gi, n, Item, I, Ix, evo_ev hg, hc, hit, mI, mIx, hGi, h0, fun k x G0 G1 hk hI hle hi => ?_, hd, hret, hex⟩
  obtain ⟨h1, h2⟩ := hb k x G0 G1 hk hI hle hi
  refine ⟨h1, ?_⟩
  have h3 := h2 (noLoc E L.fn) A.fn
  have h4 : (SL.many (SL.sets (noLoc E L.fn) kv) ps x).fn = setMany (noLoc E L.fn) ps x := by
    rw [many_fn, sets_fn (noLoc_has hkv hpl)]
  unfold S at h3
  rw [h4] at h3
  exact h3
end
end Go.Proofs.Ytkidjjnmdpbcaaa.V
