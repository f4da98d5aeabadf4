/- Library V, part N: loops over functions, calls of yield, results in boxes. No program here. -/
import Derived.Test.YtkidjjnmdpbcaaaPaVM
set_option linter.unusedVariables false
set_option linter.unusedSimpArgs false
namespace Go.Proofs.Ytkidjjnmdpbcaaa.V
section
variable {P : Program} {E : Env} {K : St → Prop} {Q : Exit → St → Prop} {r : List Stp} {dd : Option Nat} {L : SL} {A : AL} {G : GH}
/-- What a result is. -/
def rvTo (L : SL) (A : AL) (G : GH) : RV → Value → Prop
  | .slot t, v => L.get t = some v
  | .loc a k n, v => rvo L A (.loc a k n) = some v
  | .heap a n g, v => ∃ b q cs e fr, L.get a = some (.pointer (some ⟨b, q, none⟩)) ∧ G b = some (.cells cs e fr) ∧ takeV g cs q n = some v
def rvsTo (L : SL) (A : AL) (G : GH) : List RV → List Value → Prop
  | [], [] => True
  | x :: r, v :: vs => rvTo L A G x v ∧ rvsTo L A G r vs
  | _, _ => False
theorem rvTo_ok {x : RV} {v : Value} (h : rvTo L A G x v) : rvOk (S L A G) x ∧ rvV (S L A G) x = v := by
  cases x with
  | slot t => exact ⟨trivial, SL.get_fn h⟩
  | loc a k n => exact rvo_ok h
  | heap a n g =>
    obtain ⟨b, q, cs, e, fr, h1, h2, h3⟩ := h
    have h4 : L.fn a = .pointer (some ⟨b, q, none⟩) := SL.get_fn h1
    refine ⟨⟨b, q, cs, e, fr, v, h4, h2, h3⟩, ?_⟩
    show (match L.fn a with
      | .pointer (some ⟨b, q, none⟩) => match G b with
        | some (.cells cs _ _) => (takeV g cs q n).getD undef
        | _ => undef
      | _ => undef) = v
    rw [h4]
    simp only [h2, h3, Option.getD_some]
theorem rvsTo_ok : ∀ {xs : List RV} {vs : List Value}, rvsTo L A G xs vs → rvsOk (S L A G) xs ∧ xs.map (rvV (S L A G)) = vs
  | [], [], h => ⟨trivial, rfl⟩
  | [], _ :: _, h => h.elim
  | _ :: _, [], h => h.elim
  | x :: r, v :: vs, h => by
    obtain ⟨h1, h2⟩ := rvTo_ok h.1
    obtain ⟨h3, h4⟩ := rvsTo_ok h.2
    exact ⟨⟨h1, h3⟩, by rw [List.map_cons, h2, h4]⟩
theorem q_retH {rs : List RV} {R : Value → GH → Prop} (vs : List Value) (ho : rvsTo L A G rs vs) (h : R (tupV vs) G) : endQ rs R .ret (S L A G) := by
  obtain ⟨h1, h2⟩ := rvsTo_ok ho
  exact ⟨h1, by rw [h2]; exact h⟩
/-- A call of yield. -/
theorem o_yield {d l : Nat} {x : Operand} {xs : List Operand} {vs : List Value} {R : Value → GH → Prop} (hx : evo L x = some (.func (.yield l) #[] #[])) (ha : evs L xs = some vs) (hy : HY P l vs.toArray G R) (h : ∀ v G', R v G' → vops P E r K (S (.set d v L) A G')) : vops P E (⟨none, dd, .yieldc d x xs⟩ :: r) K (S L A G) := by
  refine ⟨l, evo_ev hx, ?_⟩
  show HY P l (xs.map (ev (S L A G))).toArray G _
  rw [evs_ev ha]
  exact hy.mono h
def SL.many : SL → List Nat → List Value → SL
  | L, p :: ps, x :: xs => SL.many (.set p x L) ps xs
  | L, _, _ => L
theorem many_fn : ∀ (ps : List Nat) (xs : List Value) (L : SL), (SL.many L ps xs).fn = setMany L.fn ps xs
  | [], xs, L => by cases xs <;> rfl
  | p :: ps, [], L => rfl
  | p :: ps, x :: xs, L => many_fn ps xs _
theorem noLoc_has {s : Nat → Value} : ∀ {kv : List (Nat × Value)}, hasS s kv → kv.all (fun p => (lookE E.env p.1).isNone) = true → hasS (noLoc E s) kv
  | [], _, _ => trivial
  | p :: r, h, hp => by
    simp only [List.all_cons, Bool.and_eq_true] at hp
    have h1 : lookE E.env p.1 = none := by simpa using hp.1
    exact ⟨by simp [noLoc, h1, h.1], noLoc_has h.2 hp.2⟩
/-- A LOOP OVER A FUNCTION: I: what holds behind k rounds; Ix: where a round leaves it. -/
theorem v_range {g : Operand} {ps : List Nat} {as b : PC} {gf : FuncId} {lb : List Value} (Gi : GH) (n : Nat) (Item : Nat → List Value → GH → GH → Prop) (I : Nat → GH → Prop) (Ix : Exit → GH → Prop) (kv : List (Nat × Value)) (hkv : hasS L.fn kv) (hpl : kv.all (fun p => (lookE E.env p.1).isNone) = true)
    (hg : evo L g = some (.func (.func gf) #[] lb.toArray)) (hc : callable P gf = true) (hit : IterC P gf lb Gi n Item) (mI : ∀ k G G', I k G → G.le G' → I k G') (mIx : ∀ e G G', Ix e G → G.le G' → Ix e G') (hGi : ∀ k G, I k G → Gi.le G) (h0 : I 0 G)
    (hb : ∀ k x G0 G1, k < n → I k G0 → G0.le G1 → Item k x G0 G1 → x.length = ps.length ∧ ∀ s l, vc P E as (thenQ (vc P E b (roundQ I Ix k)) (fun _ _ => False)) (S (SL.many (SL.sets s kv) ps x) (AL.any l) G1))
    (hd : ∀ G', I n G' → Q .normal (S L A G')) (hret : ∀ G', Ix .ret G' → Q .ret (S L A G')) (hex : ∀ id G', Ix (.exit id) G' → Q (.exit id) (S L A G')) : vc P E (.range g ps as b) Q (S L A G) := by
  refine ⟨gf, lb, Gi, n, Item, I, Ix, evo_ev hg, hc, hit, mI, mIx, hGi, h0, fun k x G0 G1 hk hI hle hi => ?_, hd, hret, hex⟩
  obtain ⟨h1, h2⟩ := hb k x G0 G1 hk hI hle hi
  refine ⟨h1, ?_⟩
  have h3 := h2 (noLoc E L.fn) A.fn
  have h4 : (SL.many (SL.sets (noLoc E L.fn) kv) ps x).fn = setMany (noLoc E L.fn) ps x := by
    rw [many_fn, sets_fn (noLoc_has hkv hpl)]
  unfold S at h3
  rw [h4] at h3
  exact h3
end
end Go.Proofs.Ytkidjjnmdpbcaaa.V
