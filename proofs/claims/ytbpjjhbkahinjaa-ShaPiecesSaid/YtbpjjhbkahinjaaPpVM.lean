/- Library V, part M: regions that draw, by what each operation comes to. No program here. -/
import Derived.Test.YtbpjjhbkahinjaaPpVL
set_option linter.unusedVariables false
set_option linter.unusedSimpArgs false
namespace Go.Proofs.Ytbpjjhbkahinjaa.V
/-- What an operation comes to: a value, or something of which p is so. -/
inductive FS where
  | val (v : Value)
  | is (p : Value → GH → Prop)
def FS.holds : FS → Value → GH → Prop
  | .val v, u, _ => u = v
  | .is p, u, G => p u G
def monoAll : List (Nat × FS) → Prop
  | [] => True
  | (_, .val _) :: r => monoAll r
  | (_, .is p) :: r => (∀ v G G', p v G → G.le G' → p v G') ∧ monoAll r
def nthT : List (Nat × FS) → Nat → Option (Nat × FS)
  | [], _ => none
  | x :: _, 0 => some x
  | _ :: r, j + 1 => nthT r j
def depsAll (TT : List (Nat × FS)) (G' : GH) (K : List (Nat × Value) → Prop) : List Nat → List (Nat × Value) → Prop
  | [], acc => K acc
  | j :: js, acc => match nthT TT j with
    | none => depsAll TT G' K js acc
    | some (d, .val v) => depsAll TT G' K js ((d, v) :: acc)
    | some (d, .is p) => ∀ v, p v G' → depsAll TT G' K js ((d, v) :: acc)
def flowObl (P : Program) (E : Env) (TT : List (Nat × FS)) (live : List (Nat × Value)) (la : List (Nat × Array Value)) (G : GH) : List Stp → List (List Nat) → List (Nat × FS) → Prop
  | s :: ss, ds :: dds, (d, φ) :: tt => (∀ sl ll G', G.le G' → depsAll TT G' (fun acc => vops P E [s] (flowPost s φ.holds (S (SL.sets sl acc) (AL.sets ll la) G')) (S (SL.sets sl acc) (AL.sets ll la) G')) ds live) ∧ flowObl P E TT live la G ss dds tt
  | _, _, _ => True
def dstsOk : List Stp → List (List Nat) → List (Nat × FS) → Bool
  | [], [], [] => true
  | s :: ss, _ :: dds, (d, _) :: tt => (match s.d with | some e => Nat.beq e d | none => false) && dstsOk ss dds tt
  | _, _, _ => false
theorem depsAll_use {TT : List (Nat × FS)} {G' : GH} {K : List (Nat × Value) → Prop} {s : Nat → Value} : ∀ {js : List Nat} {acc : List (Nat × Value)}, depsAll TT G' K js acc → hasS s acc → (∀ j ∈ js, ∀ d φ, nthT TT j = some (d, φ) → φ.holds (s d) G') → ∃ acc', hasS s acc' ∧ K acc'
  | [], acc, h, ha, _ => ⟨acc, ha, h⟩
  | j :: js, acc, h, ha, hj => by
    have hr : ∀ j' ∈ js, ∀ d φ, nthT TT j' = some (d, φ) → φ.holds (s d) G' := fun j' hm => hj j' (List.mem_cons_of_mem _ hm)
    unfold depsAll at h
    cases e : nthT TT j with
    | none => rw [e] at h; exact depsAll_use h ha hr
    | some x =>
      obtain ⟨d, φ⟩ := x
      rw [e] at h
      have hd := hj j (List.mem_cons_self) d φ e
      cases φ with
      | val v => exact depsAll_use h ⟨hd, ha⟩ hr
      | is p => exact depsAll_use (h (s d) hd) ⟨rfl, ha⟩ hr
theorem dstsOk_get : ∀ {ss : List Stp} {dds : List (List Nat)} {tt : List (Nat × FS)} {i : Nat} {s : Stp}, dstsOk ss dds tt = true → ss[i]? = some s → ∃ d φ ds, s.d = some d ∧ nthT tt i = some (d, φ) ∧ dds[i]? = some ds
  | [], _, _, i, s, _, h => by simp at h
  | x :: ss, [], _, i, s, h, _ => by simp [dstsOk] at h
  | x :: ss, y :: dds, [], i, s, h, _ => by simp [dstsOk] at h
  | x :: ss, y :: dds, (d, φ) :: tt, i, s, h, hi => by
    simp only [dstsOk, Bool.and_eq_true] at h
    cases i with
    | zero =>
      simp at hi; subst hi
      obtain ⟨h1, _⟩ := h
      cases e : x.d with
      | none => rw [e] at h1; cases h1
      | some z => rw [e] at h1; exact ⟨z, φ, y, rfl, by rw [Nat.eq_of_beq_eq_true h1]; rfl, by simp⟩
    | succ i => simp at hi; obtain ⟨d', φ', ds, h1, h2, h3⟩ := dstsOk_get h.2 hi; exact ⟨d', φ', ds, h1, h2, by simpa using h3⟩
theorem nthT_mem : ∀ {tt : List (Nat × FS)} {i : Nat} {x : Nat × FS}, nthT tt i = some x → x ∈ tt
  | [], _, _, h => by cases h
  | y :: r, 0, x, h => by cases h; exact List.mem_cons_self
  | y :: r, i + 1, x, h => List.mem_cons_of_mem _ (nthT_mem h)
theorem monoAll_get : ∀ {tt : List (Nat × FS)} {x : Nat × FS}, monoAll tt → x ∈ tt → ∀ v G G', x.2.holds v G → G.le G' → x.2.holds v G'
  | [], _, _, h, _, _, _, _, _ => by cases h
  | (d, .val u) :: r, x, hm, h, v, G, G', hv, hl => by
    rcases List.mem_cons.1 h with rfl | h
    · exact hv
    · exact monoAll_get (tt := r) hm h v G G' hv hl
  | (d, .is p) :: r, x, hm, h, v, G, G', hv, hl => by
    rcases List.mem_cons.1 h with rfl | h
    · exact hm.1 v G G' hv hl
    · exact monoAll_get hm.2 h v G G' hv hl
section
variable {P : Program} {E : Env} {Q : Exit → St → Prop} {L : SL} {A : AL} {G : GH}
theorem flowObl_get {TT : List (Nat × FS)} {live : List (Nat × Value)} {la : List (Nat × Array Value)} : ∀ {ss : List Stp} {dds : List (List Nat)} {tt : List (Nat × FS)} {i : Nat} {s : Stp} {d : Nat} {φ : FS} {ds : List Nat}, flowObl P E TT live la G ss dds tt → ss[i]? = some s → nthT tt i = some (d, φ) → dds[i]? = some ds →
    ∀ sl ll G', G.le G' → depsAll TT G' (fun acc => vops P E [s] (flowPost s φ.holds (S (SL.sets sl acc) (AL.sets ll la) G')) (S (SL.sets sl acc) (AL.sets ll la) G')) ds live
  | [], _, _, i, _, _, _, _, _, h, _, _ => by simp at h
  | _ :: _, [], _, i, _, _, _, _, _, _, _, h => by simp at h
  | _ :: _, _ :: _, [], i, _, _, _, _, _, _, h, _ => by cases h
  | x :: ss, y :: dds, (e, ψ) :: tt, 0, s, d, φ, ds, h, h1, h2, h3 => by
    simp at h1 h3; cases h1; cases h2; cases h3
    exact h.1
  | x :: ss, y :: dds, (e, ψ) :: tt, i + 1, s, d, φ, ds, h, h1, h2, h3 => flowObl_get h.2 (by simpa using h1) h2 (by simpa using h3)
theorem hasS_of {s s' : Nat → Value} : ∀ {kv : List (Nat × Value)}, hasS s kv → (∀ x ∈ kv, s' x.1 = s x.1) → hasS s' kv
  | [], _, _ => trivial
  | p :: r, h, k => ⟨(k p List.mem_cons_self).trans h.1, hasS_of h.2 fun x hx => k x (List.mem_cons_of_mem _ hx)⟩
/-- A region that draws: what each operation comes to (TT), where what it wants is done; what is wanted behind. -/
theorem v_flow {ss : List Stp} {deps : List (List Nat)} (TT : List (Nat × FS)) (live : List (Nat × Value)) (la : List (Nat × Array Value)) (want : List Nat) (hs : hasS L.fn live) (hl : hasL A.fn la) (hfree : (live.all fun x => TT.all fun y => !Nat.beq x.1 y.1) = true) (hd : dstsOk ss deps TT = true)
    (mono : monoAll TT) (obl : flowObl P E TT live la G ss deps TT) (fin : ∀ sl ll G', G.le G' → depsAll TT G' (fun acc => Q .normal (S (SL.sets sl acc) (AL.sets ll la) G')) want live) : vc P E (.flow ss deps) Q (S L A G) := by
  have hlive : ∀ {D : Nat → Prop} {Φ : Nat → Value → GH → Prop} {st' : St}, Ext (S L A G) ss Φ D st' → hasS st'.s live := fun hx => hasS_of hs fun x hxm => hx.s x.1 fun s hsm he => by
    obtain ⟨i, hi⟩ := List.getElem?_of_mem hsm
    obtain ⟨d, φ, ds, h1, h2, _⟩ := dstsOk_get hd hi
    rw [h1] at he; cases he
    have := List.all_eq_true.1 (List.all_eq_true.1 hfree x hxm) _ (nthT_mem h2)
    simp at this
  refine ⟨fun j v G' => ∀ d φ, nthT TT j = some (d, φ) → φ.holds v G', fun j v G1 G2 h hle d φ e => monoAll_get mono (nthT_mem e) v G1 G2 (h d φ e) hle, fun i s hi st' hx => ?_, fun st' hx => ?_⟩
  · obtain ⟨d, φ, ds, h1, h2, h3⟩ := dstsOk_get hd hi
    have hO := flowObl_get obl hi h2 h3 st'.s st'.l st'.G hx.G
    have hdone : ∀ j ∈ ds, ∀ d φ, nthT TT j = some (d, φ) → φ.holds (st'.s d) st'.G := fun j hj d' φ' e => by
      have hj2 : j < ss.length := by
        have : ∀ {ss : List Stp} {dds : List (List Nat)} {tt : List (Nat × FS)} {j : Nat} {x : Nat × FS}, dstsOk ss dds tt = true → nthT tt j = some x → j < ss.length := by
          intro ss
          induction ss with
          | nil => intro dds tt j x h e; cases dds <;> cases tt <;> first | (simp [dstsOk] at h; done) | (cases e)
          | cons y ss ih =>
            intro dds tt j x h e
            cases dds with
            | nil => simp [dstsOk] at h
            | cons z dds =>
              cases tt with
              | nil => simp [dstsOk] at h
              | cons w tt =>
                obtain ⟨wd, wf⟩ := w
                simp only [dstsOk, Bool.and_eq_true] at h
                cases j with
                | zero => simp
                | succ j => have := ih h.2 e; simp; omega
        exact this hd e
      obtain ⟨d2, φ2, ds2, g1, g2, g3⟩ := dstsOk_get hd (List.getElem?_eq_getElem hj2)
      rw [e] at g2; cases g2
      exact hx.done j (by simp [List.getD, h3]; exact hj) _ d' (List.getElem?_eq_getElem hj2) g1 d' φ' e
    obtain ⟨acc, a1, a2⟩ := depsAll_use hO (hlive hx) hdone
    have hst : st' = S (SL.sets st'.s acc) (AL.sets st'.l la) st'.G := st_eq a1 (by rw [hx.l]; exact hl)
    rw [← hst] at a2
    have heq : (fun (v : Value) (G' : GH) => ∀ d' φ', nthT TT i = some (d', φ') → φ'.holds v G') = φ.holds := by
      funext v G'
      exact propext ⟨fun h => h d φ h2, fun hv d' φ' e => by rw [h2] at e; cases e; exact hv⟩
    show vops P E [s] (flowPost s (fun (v : Value) (G' : GH) => ∀ d' φ', nthT TT i = some (d', φ') → φ'.holds v G') st') st'
    rw [heq]
    exact a2
  · obtain ⟨acc, a1, a2⟩ := depsAll_use (fin st'.s st'.l st'.G hx.G) (hlive hx) fun j hj d φ e => by
      have hj2 : j < ss.length := by
        have : ∀ {ss : List Stp} {dds : List (List Nat)} {tt : List (Nat × FS)} {j : Nat} {x : Nat × FS}, dstsOk ss dds tt = true → nthT tt j = some x → j < ss.length := by
          intro ss
          induction ss with
          | nil => intro dds tt j x h e; cases dds <;> cases tt <;> first | (simp [dstsOk] at h; done) | (cases e)
          | cons y ss ih =>
            intro dds tt j x h e
            cases dds with
            | nil => simp [dstsOk] at h
            | cons z dds =>
              cases tt with
              | nil => simp [dstsOk] at h
              | cons w tt =>
                obtain ⟨wd, wf⟩ := w
                simp only [dstsOk, Bool.and_eq_true] at h
                cases j with
                | zero => simp
                | succ j => have := ih h.2 e; simp; omega
        exact this hd e
      obtain ⟨d2, φ2, ds2, g1, g2, g3⟩ := dstsOk_get hd (List.getElem?_eq_getElem hj2)
      rw [e] at g2; cases g2
      exact hx.done j hj2 _ d (List.getElem?_eq_getElem hj2) g1 d φ e
    have hst : st' = S (SL.sets st'.s acc) (AL.sets st'.l la) st'.G := st_eq a1 (by rw [hx.l]; exact hl)
    rw [← hst] at a2
    exact a2
theorem flowObl_cons {TT : List (Nat × FS)} {live : List (Nat × Value)} {la : List (Nat × Array Value)} {s : Stp} {ss : List Stp} {ds : List Nat} {dds : List (List Nat)} {d : Nat} {φ : FS} {tt : List (Nat × FS)}
    (h : ∀ sl ll G', G.le G' → depsAll TT G' (fun acc => vops P E [s] (flowPost s φ.holds (S (SL.sets sl acc) (AL.sets ll la) G')) (S (SL.sets sl acc) (AL.sets ll la) G')) ds live) (h2 : flowObl P E TT live la G ss dds tt) : flowObl P E TT live la G (s :: ss) (ds :: dds) ((d, φ) :: tt) := ⟨h, h2⟩
theorem flowObl_nil {TT : List (Nat × FS)} {live : List (Nat × Value)} {la : List (Nat × Array Value)} : flowObl P E TT live la G [] [] [] := trivial
theorem dA_nil {TT : List (Nat × FS)} {K : List (Nat × Value) → Prop} {acc : List (Nat × Value)} (h : K acc) : depsAll TT G K [] acc := h
theorem dA_val {TT : List (Nat × FS)} {K : List (Nat × Value) → Prop} {acc : List (Nat × Value)} {j d : Nat} {v : Value} {js : List Nat} (e : nthT TT j = some (d, .val v)) (h : depsAll TT G K js ((d, v) :: acc)) : depsAll TT G K (j :: js) acc := by
  unfold depsAll; rw [e]; exact h
theorem dA_is {TT : List (Nat × FS)} {K : List (Nat × Value) → Prop} {acc : List (Nat × Value)} {j d : Nat} {p : Value → GH → Prop} {js : List Nat} (e : nthT TT j = some (d, .is p)) (h : ∀ v, p v G → depsAll TT G K js ((d, v) :: acc)) : depsAll TT G K (j :: js) acc := by
  unfold depsAll; rw [e]; exact h
theorem flow_end {A : AL} {L : SL} {G G' : GH} {g : Option (Nat × Bool)} {p : POp} {d : Nat} {v : Value} {φ : Value → GH → Prop} (hle : G.le G') (h : φ v G') : flowPost ⟨g, some d, p⟩ φ (S L A G) (S (.set d v L) A G') :=
  ⟨rfl, hle, fun k hk => setS_ne _ _ (fun e => hk (by rw [e])), fun d' e => by cases e; show φ (setS _ d v d) G'; rw [setS_same]; exact h⟩
end
end Go.Proofs.Ytbpjjhbkahinjaa.V
