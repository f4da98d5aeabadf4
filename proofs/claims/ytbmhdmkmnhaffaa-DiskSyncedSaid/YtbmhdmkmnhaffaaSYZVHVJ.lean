/- Library V, part H: the steps of a proof. No program here. -/
import Derived.Test.YtbmhdmkmnhaffaaSYZVFVG
import Derived.Laws.Strings
import Derived.WalkKit
import Derived.ProofKit
import Derived.OpenShut
import Derived.SizedLaws
section
set_option linter.unusedVariables false
set_option linter.unusedSimpArgs false
namespace Go.Proofs.Ytbmhdmkmnhaffaa.V
/-! ### States that are written out -/
def memN (t : Nat) : List Nat → Bool
  | [] => false
  | x :: r => bif Nat.beq x t then true else memN t r
def nthV : List Value → Nat → Option Value
  | [], _ => none
  | v :: _, 0 => some v
  | _ :: r, t + 1 => nthV r t
inductive SL where
  | any (s : Nat → Value)
  | args (l : List Value)
  | set (d : Nat) (v : Value) (r : SL)
  | kill (ts : List Nat) (r : SL)
inductive AL where
  | any (l : Nat → Array Value)
  | set (k : Nat) (v : Array Value) (r : AL)
def SL.fn : SL → Nat → Value
  | .any s => s
  | .args l => args0 l
  | .set d v r => setS r.fn d v
  | .kill ts r => fun t => bif memN t ts then undef else r.fn t
def AL.fn : AL → Nat → Array Value
  | .any s => s
  | .set d v r => setL r.fn d v
def SL.get : SL → Nat → Option Value
  | .any s, t => some (s t)
  | .args l, t => nthV l t
  | .set d v r, t => match Nat.beq t d with | true => some v | false => r.get t
  | .kill ts r, t => match memN t ts with | true => none | false => r.get t
def AL.get : AL → Nat → Option (Array Value)
  | .any s, t => some (s t)
  | .set d v r, t => match Nat.beq t d with | true => some v | false => r.get t
theorem nthV_args0 : ∀ (l : List Value) (t : Nat) {v : Value}, nthV l t = some v → args0 l t = v
  | [], _, _, h => by cases h
  | x :: _, 0, v, h => by cases h; rfl
  | _ :: r, t + 1, v, h => nthV_args0 r t h
theorem SL.get_fn : ∀ {L : SL} {t : Nat} {v : Value}, L.get t = some v → L.fn t = v
  | .any s, t, v, h => by cases h; rfl
  | .args l, t, v, h => nthV_args0 l t h
  | .set d x r, t, v, h => by
    show (bif Nat.beq t d then x else r.fn t) = v
    unfold SL.get at h
    cases e : Nat.beq t d with
    | true => rw [e] at h; cases h; rfl
    | false => rw [e] at h; exact SL.get_fn h
  | .kill ts r, t, v, h => by
    show (bif memN t ts then undef else r.fn t) = v
    unfold SL.get at h
    cases e : memN t ts with
    | true => rw [e] at h; cases h
    | false => rw [e] at h; exact SL.get_fn h
theorem AL.get_fn : ∀ {L : AL} {t : Nat} {v : Array Value}, L.get t = some v → L.fn t = v
  | .any s, t, v, h => by cases h; rfl
  | .set d x r, t, v, h => by
    show (bif Nat.beq t d then x else r.fn t) = v
    unfold AL.get at h
    cases e : Nat.beq t d with
    | true => rw [e] at h; cases h; rfl
    | false => rw [e] at h; exact AL.get_fn h
def S (L : SL) (A : AL) (G : GH) : St := ⟨L.fn, A.fn, G⟩
/-- What an operand is. -/
def evo (L : SL) : Operand → Option Value
  | .tmp t => L.get t
  | .const v => some v
  | .global g => some (.pointer (some ⟨g, 0, none⟩))
  | .func f => some (.func (.func f) #[] #[])
def evs (L : SL) : List Operand → Option (List Value)
  | [] => some []
  | x :: r => match evo L x with
    | none => none
    | some v => match evs L r with
      | none => none
      | some vs => some (v :: vs)
theorem evo_ev {L : SL} {A : AL} {G : GH} {x : Operand} {v : Value} (h : evo L x = some v) : ev (S L A G) x = v := by
  cases x with
  | tmp t => exact SL.get_fn h
  | const c => cases h; rfl
  | global g => cases h; rfl
  | func f => cases h; rfl
theorem evs_ev {L : SL} {A : AL} {G : GH} : ∀ {xs : List Operand} {vs : List Value}, evs L xs = some vs → xs.map (ev (S L A G)) = vs
  | [], vs, h => by cases h; rfl
  | x :: r, vs, h => by
    unfold evs at h
    cases e : evo L x with
    | none => rw [e] at h; cases h
    | some v =>
      rw [e] at h
      cases e2 : evs L r with
      | none => rw [e2] at h; cases h
      | some vs' =>
        rw [e2] at h; cases h
        rw [List.map_cons, evo_ev e, evs_ev e2]
/-- The slots that hold addresses of the local variable k. -/
def slotsOf : List (Nat × Nat) → Nat → Option (List Nat)
  | [], _ => some []
  | (t, j) :: r, k => match slotsOf r k with
    | none => none
    | some ts => match Nat.beq j k with | true => some (t :: ts) | false => some ts
/-- No slot stands twice. -/
def onceE : List (Nat × Nat) → Bool
  | [] => true
  | (t, _) :: r => (lookE r t).isNone && onceE r
theorem slotsOf_mem : ∀ {env : List (Nat × Nat)} {k : Nat} {ts : List Nat}, slotsOf env k = some ts → ∀ t, lookE env t = none → memN t ts = false
  | [], k, ts, h, t, _ => by cases h; rfl
  | (t0, j) :: r, k, ts, h, t, hn => by
    unfold slotsOf at h
    simp only [lookE] at hn
    have hb : Nat.beq t0 t = false := by cases e : Nat.beq t0 t with | false => rfl | true => rw [e] at hn; cases hn
    rw [hb] at hn
    cases e : slotsOf r k with
    | none => rw [e] at h; cases h
    | some ts' =>
      rw [e] at h
      have ih := slotsOf_mem e t hn
      cases e2 : Nat.beq j k with
      | true => rw [e2] at h; cases h; simp only [memN, hb, cond_false]; exact ih
      | false => rw [e2] at h; cases h; exact ih
theorem slotsOf_look : ∀ {env : List (Nat × Nat)} {k : Nat} {ts : List Nat}, onceE env = true → slotsOf env k = some ts → ∀ t, memN t ts = (lookE env t == some k)
  | [], k, ts, _, h, t => by cases h; rfl
  | (t0, j) :: r, k, ts, ho, h, t => by
    simp only [onceE, Bool.and_eq_true] at ho
    unfold slotsOf at h
    cases e : slotsOf r k with
    | none => rw [e] at h; cases h
    | some ts' =>
      rw [e] at h
      have ih := slotsOf_look ho.2 e t
      have hno := slotsOf_mem e t0 (by simpa using ho.1)
      simp only [lookE]
      cases e1 : Nat.beq t0 t with
      | true =>
        have : t0 = t := Nat.eq_of_beq_eq_true e1
        subst this
        cases e2 : Nat.beq j k with
        | true =>
          rw [e2] at h; cases h
          have : j = k := Nat.eq_of_beq_eq_true e2
          subst this
          simp only [memN, e1, cond_true]; simp
        | false =>
          rw [e2] at h; cases h
          rw [hno]; simp only [cond_true]
          have : j ≠ k := fun e3 => by subst e3; simp at e2
          simp [this]
      | false =>
        simp only [cond_false]
        rw [← ih]
        cases e2 : Nat.beq j k with
        | true => rw [e2] at h; cases h; simp only [memN, e1, cond_false]
        | false => rw [e2] at h; cases h; rfl
theorem take_set_succ : ∀ (l : List Value) (k : Nat) (v : Value), k < l.length → (l.set k v).take (k + 1) = l.take k ++ [v]
  | [], _, _, h => by simp at h
  | a :: l, 0, v, _ => by simp
  | a :: l, k + 1, v, h => by simp at h; simp [take_set_succ l k v h]
theorem ext_set (cs : Array Value) (k : Nat) (v : Value) (vs : List Value) (h : k < cs.size) : (cs.setIfInBounds k v).extract 0 (k + 1) ++ vs.toArray = cs.extract 0 k ++ (v :: vs).toArray := by
  apply Array.toList_inj.1
  simp only [Array.toList_append, Array.toList_extract, Array.toList_setIfInBounds, List.extract_eq_take_drop, List.drop_zero, Nat.sub_zero]
  rw [take_set_succ _ _ _ (by simpa using h)]
  simp
theorem cells_one {v : Value} (h : v.oneCell' = true) : v.cells = #[v] := by
  cases v <;> first | rfl | (simp [Value.oneCell'] at h)
theorem fill_all : ∀ (vs : List Value) (k : Nat) (cs : Array Value), cells1 vs = true → cs.size = k + vs.length → fillV ((List.range' k vs.length).map fun i => (i, 1)) vs cs = some (cs.extract 0 k ++ vs.toArray)
  | [], k, cs, _, h => by
    simp only [List.length_nil, List.range'_zero, List.map_nil, fillV, Nat.add_zero] at h ⊢
    congr 1; apply Array.ext
    · simp [h]
    · intro i h1 h2; simp
  | v :: vs, k, cs, h1, h => by
    simp only [cells1, List.all_cons, Bool.and_eq_true] at h1
    simp only [List.length_cons] at h
    simp only [List.length_cons, List.range'_succ, List.map_cons, fillV, cells_one h1.1]
    have e : (#[v] : Array Value).size = 1 := rfl
    rw [e, if_neg (by omega)]
    have e2 : (#[v].zipIdx.foldl (fun cs (x : Value × Nat) => cs.setIfInBounds (k + x.2) x.1) cs) = cs.setIfInBounds k v := rfl
    rw [e2, fill_all vs (k + 1) _ h1.2 (by simp; omega), ext_set _ _ _ _ (by omega)]
/-- An array that is built of all its cells. -/
theorem x_build {zero : Array Value} {parts : List (Nat × Nat)} {vs : List Value} (h1 : cells1 vs = true) (h2 : zero.size = vs.length) (h3 : parts = (List.range' 0 vs.length).map fun i => (i, 1)) : pureV (.build zero parts) vs = some (.agg vs.toArray) := by
  subst h3
  show (fillV _ vs zero).map Value.agg = _
  rw [fill_all vs 0 zero h1 (by omega)]
  simp
theorem wr_all : ∀ (vs : List Value) (k : Nat) (cs : Array Value), cs.size = k + vs.length → wr cs k vs = cs.extract 0 k ++ vs.toArray
  | [], k, cs, h => by
    simp only [wr]; apply Array.ext
    · simp; simp at h; omega
    · intro i h1 h2; simp
  | v :: vs, k, cs, h => by
    simp only [List.length_cons] at h
    rw [wr, wr_all vs (k + 1) _ (by simp; omega), ext_set _ _ _ _ (by omega)]
/-- An array that is built of some of its cells. -/
def buildL : List (Nat × Nat) → List Value → Array Value → Array Value
  | p :: ps, v :: vs, cs => buildL ps vs (cs.setIfInBounds p.1 v)
  | _, _, cs => cs
def okB : List (Nat × Nat) → List Value → Nat → Bool
  | [], [], _ => true
  | p :: ps, v :: vs, n => Nat.beq p.2 1 && v.oneCell' && Nat.blt p.1 n && okB ps vs n
  | _, _, _ => false
theorem fill_some : ∀ (parts : List (Nat × Nat)) (vs : List Value) (cs : Array Value), okB parts vs cs.size = true → fillV parts vs cs = some (buildL parts vs cs)
  | [], [], cs, _ => rfl
  | [], _ :: _, _, h => by cases h
  | _ :: _, [], _, h => by cases h
  | (o, n) :: ps, v :: vs, cs, h => by
    simp only [okB, Bool.and_eq_true] at h
    obtain ⟨⟨⟨h1, h2⟩, h3⟩, h4⟩ := h
    have hn : n = 1 := Nat.eq_of_beq_eq_true h1
    subst hn
    have ho : o < cs.size := blt_lt h3
    have e : (#[v] : Array Value).size = 1 := rfl
    simp only [fillV, cells_one h2]
    rw [e, if_neg (by omega)]
    have e2 : (#[v].zipIdx.foldl (fun cs (x : Value × Nat) => cs.setIfInBounds (o + x.2) x.1) cs) = cs.setIfInBounds o v := rfl
    rw [e2, fill_some ps vs _ (by simpa using h4)]; rfl
theorem x_buildP {zero : Array Value} {parts : List (Nat × Nat)} {vs : List Value} {cs : Array Value} (h : okB parts vs zero.size = true) (hb : buildL parts vs zero = cs) : pureV (.build zero parts) vs = some (.agg cs) := by
  subst hb
  show (fillV parts vs zero).map Value.agg = _
  rw [fill_some parts vs zero h]; rfl
section
variable {P : Program} {E : Env} {st : St} {Q : Exit → St → Prop} {K : St → Prop} {r : List Stp} {dd : Option Nat}
variable {L : SL} {A : AL} {G : GH}
theorem i_ops {l : List Stp} (h : vops P E l K st) : vops P E l K st := h
theorem i_vc {a : PC} (h : vc P E a Q st) : vc P E a Q st := h
theorem i_plan {Gs : GH} {Ls : List Nat} {a : Plan} (h : vplan P E Gs Ls K a st) : vplan P E Gs Ls K a st := h
theorem v_seq {a b : PC} (h : vc P E a (thenQ (vc P E b Q) Q) st) : vc P E (.seq a b) Q st := h
theorem v_ops {l : List Stp} (h : vops P E l (Q .normal) st) : vc P E (.ops l) Q st := h
theorem v_skip (h : Q .normal st) : vc P E .skip Q st := h
theorem v_ret (h : Q .ret st) : vc P E .ret Q st := h
theorem v_exit {i : Nat} (h : Q (.exit i) st) : vc P E (.exit i) Q st := h
theorem v_block {i : Nat} {b : PC} (h : vc P E b (blockQ i Q) st) : vc P E (.block i b) Q st := h
theorem v_cond_t {c : Operand} {a b : PC} {v : Value} (hc : evo L c = some v) (hv : v = .bool true) (h : vc P E a Q (S L A G)) : vc P E (.cond c a b) Q (S L A G) := ⟨true, (evo_ev hc).trans hv, h⟩
theorem v_cond_f {c : Operand} {a b : PC} {v : Value} (hc : evo L c = some v) (hv : v = .bool false) (h : vc P E b Q (S L A G)) : vc P E (.cond c a b) Q (S L A G) := ⟨false, (evo_ev hc).trans hv, h⟩
/-- A test parts the ways: rewrite by what it says. -/
theorem v_cond_c {c : Operand} {a b : PC} {t : Bool} (hc : evo L c = some (.bool t)) (h1 : t = true → vc P E (.cond c a b) Q (S L A G)) (h2 : t = false → vc P E (.cond c a b) Q (S L A G)) : vc P E (.cond c a b) Q (S L A G) := by
  cases t
  · exact h2 rfl
  · exact h1 rfl
/-- A loop: ghost, what the slots and the local variables hold, what is so. -/
theorem v_loop {b : PC} (I : Nat → St → Prop) (n : Nat) (h0 : I n st) (h : ∀ n st, I n st → vc P E b (thenQ (fun st' => ∃ m, m < n ∧ I m st') Q) st) : vc P E (.loop b) Q st := ⟨I, n, h0, h⟩
def hasS (s : Nat → Value) : List (Nat × Value) → Prop
  | [] => True
  | p :: r => s p.1 = p.2 ∧ hasS s r
def hasL (l : Nat → Array Value) : List (Nat × Array Value) → Prop
  | [] => True
  | p :: r => l p.1 = p.2 ∧ hasL l r
def SL.sets (s : Nat → Value) : List (Nat × Value) → SL
  | [] => .any s
  | p :: r => .set p.1 p.2 (SL.sets s r)
def AL.sets (l : Nat → Array Value) : List (Nat × Array Value) → AL
  | [] => .any l
  | p :: r => .set p.1 p.2 (AL.sets l r)
theorem setS_self {s : Nat → Value} {d : Nat} {v : Value} (h : s d = v) : setS s d v = s := by
  funext t
  by_cases e : t = d
  · subst e; rw [setS_same, h]
  · rw [setS_ne _ _ e]
theorem setL_self {s : Nat → Array Value} {d : Nat} {v : Array Value} (h : s d = v) : setL s d v = s := by
  funext t
  by_cases e : t = d
  · subst e; rw [setL_same, h]
  · rw [setL_ne _ _ e]
theorem sets_fn {s : Nat → Value} : ∀ {kv : List (Nat × Value)}, hasS s kv → (SL.sets s kv).fn = s
  | [], _ => rfl
  | p :: r, h => by
    show setS (SL.sets s r).fn p.1 p.2 = s
    rw [sets_fn h.2]; exact setS_self h.1
theorem setsL_fn {s : Nat → Array Value} : ∀ {kv : List (Nat × Array Value)}, hasL s kv → (AL.sets s kv).fn = s
  | [], _ => rfl
  | p :: r, h => by
    show setL (AL.sets s r).fn p.1 p.2 = s
    rw [setsL_fn h.2]; exact setL_self h.1
theorem st_eq {st : St} {kv : List (Nat × Value)} {la : List (Nat × Array Value)} (h1 : hasS st.s kv) (h2 : hasL st.l la) : st = S (SL.sets st.s kv) (AL.sets st.l la) st.G := by
  unfold S; rw [sets_fn h1, setsL_fn h2]
/-- A loop over ghosts of any kind. -/
theorem v_loopX {α : Type} {b : PC} (inv : α → Prop) (kv : α → List (Nat × Value)) (la : α → List (Nat × Array Value)) (GG : α → GH) (mu : α → Nat) (x0 : α) (h0 : inv x0) (hs : hasS L.fn (kv x0)) (hl : hasL A.fn (la x0)) (hG : G = GG x0)
    (h : ∀ x s l, inv x → vc P E b (thenQ (fun st' => ∃ m, m < mu x ∧ ∃ y, mu y = m ∧ inv y ∧ hasS st'.s (kv y) ∧ hasL st'.l (la y) ∧ st'.G = GG y) Q) (S (SL.sets s (kv x)) (AL.sets l (la x)) (GG x))) : vc P E (.loop b) Q (S L A G) := by
  refine v_loop (fun n st => ∃ x, mu x = n ∧ inv x ∧ hasS st.s (kv x) ∧ hasL st.l (la x) ∧ st.G = GG x) (mu x0) ⟨x0, rfl, h0, hs, hl, hG⟩ ?_
  rintro n st ⟨x, rfl, h1, h2, h3, h4⟩
  have := h x st.s st.l h1
  rw [← h4, ← st_eq h2 h3] at this
  exact this
theorem n_then {K : St → Prop} (h : K st) : thenQ K Q .normal st := h
theorem e_then {K : St → Prop} {i : Nat} (h : Q (.exit i) st) : thenQ K Q (.exit i) st := h
theorem r_then {K : St → Prop} (h : Q .ret st) : thenQ K Q .ret st := h
theorem n_block {i : Nat} (h : Q .normal st) : blockQ i Q .normal st := h
theorem r_block {i : Nat} (h : Q .ret st) : blockQ i Q .ret st := h
theorem e_block_eq {i j : Nat} (hij : Nat.beq i j = true) (h : Q .normal st) : blockQ j Q (.exit i) st := by simp only [blockQ, hij, cond_true]; exact h
theorem e_block_ne {i j : Nat} (hij : Nat.beq i j = false) (h : Q (.exit i) st) : blockQ j Q (.exit i) st := by simp only [blockQ, hij, cond_false]; exact h
def rvo (L : SL) (A : AL) : RV → Option Value
  | .slot t => L.get t
  | .loc a k n => match L.get a with
    | some (.int .u64 0) => match A.get k with
      | some cs => match Nat.ble n cs.size with
        | true => some (.agg (cs.extract 0 n))
        | false => none
      | none => none
    | _ => none
  | .heap _ _ _ => none
def rvos (L : SL) (A : AL) : List RV → Option (List Value)
  | [] => some []
  | x :: r => match rvo L A x with
    | none => none
    | some v => match rvos L A r with
      | none => none
      | some vs => some (v :: vs)
theorem rvo_ok {x : RV} {v : Value} (h : rvo L A x = some v) : rvOk (S L A G) x ∧ rvV (S L A G) x = v := by
  cases x with
  | slot t => exact ⟨trivial, SL.get_fn h⟩
  | loc a k n =>
    simp only [rvo] at h
    split at h
    · rename_i e1
      split at h
      · rename_i cs e2
        split at h
        · rename_i e3
          cases h
          have h2 : A.fn k = cs := AL.get_fn e2
          refine ⟨⟨SL.get_fn e1, ?_⟩, ?_⟩
          · show n ≤ (A.fn k).size
            rw [h2]; exact Nat.le_of_ble_eq_true e3
          · show Value.agg ((A.fn k).extract 0 n) = _
            rw [h2]
        · cases h
      · cases h
    · cases h
  | heap a n g => cases h
theorem rvos_ok : ∀ {xs : List RV} {vs : List Value}, rvos L A xs = some vs → rvsOk (S L A G) xs ∧ xs.map (rvV (S L A G)) = vs
  | [], vs, h => by cases h; exact ⟨trivial, rfl⟩
  | x :: r, vs, h => by
    unfold rvos at h
    cases e : rvo L A x with
    | none => rw [e] at h; cases h
    | some v =>
      rw [e] at h
      cases e2 : rvos L A r with
      | none => rw [e2] at h; cases h
      | some vs' =>
        rw [e2] at h; cases h
        obtain ⟨h1, h2⟩ := rvo_ok e
        obtain ⟨h3, h4⟩ := rvos_ok e2
        exact ⟨⟨h1, h3⟩, by rw [List.map_cons, h2, h4]⟩
theorem q_ret {rs : List RV} {R : Value → GH → Prop} {vs : List Value} (ho : rvos L A rs = some vs) (h : R (tupV vs) G) : endQ rs R .ret (S L A G) := by
  obtain ⟨h1, h2⟩ := rvos_ok ho
  exact ⟨h1, by rw [h2]; exact h⟩
theorem q_normal {rs : List RV} {R : Value → GH → Prop} {vs : List Value} (ho : rvos L A rs = some vs) (h : R (tupV vs) G) : endQ rs R .normal (S L A G) := by
  obtain ⟨h1, h2⟩ := rvos_ok ho
  exact ⟨h1, by rw [h2]; exact h⟩
theorem o_nil (h : K st) : vops P E [] K st := h
theorem o_mv {d : Nat} {x : Operand} {v : Value} (hx : evo L x = some v) (h : vops P E r K (S (.set d v L) A G)) : vops P E (⟨none, dd, .pure d .mv [x]⟩ :: r) K (S L A G) :=
  ⟨v, by rw [List.map_cons, List.map_nil, evo_ev hx]; rfl, h⟩
theorem o_pure {d : Nat} {f : PF} {xs : List Operand} {vs : List Value} {v : Value} (hx : evs L xs = some vs) (hv : pureV f vs = some v) (h : vops P E r K (S (.set d v L) A G)) : vops P E (⟨none, dd, .pure d f xs⟩ :: r) K (S L A G) := ⟨v, by rw [evs_ev hx]; exact hv, h⟩
theorem o_pick_t {d : Nat} {c x y : Operand} {b v : Value} (hc : evo L c = some b) (hb : b = .bool true) (hx : evo L x = some v) (h : vops P E r K (S (.set d v L) A G)) : vops P E (⟨none, dd, .pure d .pick [c, x, y]⟩ :: r) K (S L A G) :=
  ⟨v, by subst hb; rw [List.map_cons, List.map_cons, List.map_cons, List.map_nil, evo_ev hc, evo_ev hx]; rfl, h⟩
theorem o_pick_f {d : Nat} {c x y : Operand} {b v : Value} (hc : evo L c = some b) (hb : b = .bool false) (hy : evo L y = some v) (h : vops P E r K (S (.set d v L) A G)) : vops P E (⟨none, dd, .pure d .pick [c, x, y]⟩ :: r) K (S L A G) :=
  ⟨v, by subst hb; rw [List.map_cons, List.map_cons, List.map_cons, List.map_nil, evo_ev hc, evo_ev hy]; rfl, h⟩
theorem kill_fn {ts : List Nat} {k : Nat} (ho : onceE E.env = true) (hk : slotsOf E.env k = some ts) : (fun t => bif (lookE E.env t == some k) then undef else L.fn t) = (SL.kill ts L).fn := by
  funext t
  show _ = (bif memN t ts then undef else L.fn t)
  rw [slotsOf_look ho hk t]
theorem o_lalloc {d k : Nat} {z : Array Value} {ts : List Nat} (ho : onceE E.env = true) (hk : slotsOf E.env k = some ts) (h : vops P E r K (S (.set d (.int .u64 0) (.kill ts L)) (.set k z A) G)) : vops P E (⟨none, dd, .lalloc d k z⟩ :: r) K (S L A G) := by
  show vops P E r K ⟨setS (fun t => bif (lookE E.env t == some k) then undef else L.fn t) d (.int .u64 0), setL A.fn k z, G⟩
  rw [kill_fn ho hk]; exact h
theorem o_lbox {d k : Nat} {x : Operand} {v : Value} {z : Array Value} {ts : List Nat} (ho : onceE E.env = true) (hk : slotsOf E.env k = some ts) (hx : evo L x = some v) (hz : v.cells = z) (h : vops P E r K (S (.set d (.int .u64 0) (.kill ts L)) (.set k z A) G)) : vops P E (⟨none, dd, .lbox d k x⟩ :: r) K (S L A G) := by
  subst hz
  show vops P E r K ⟨setS (fun t => bif (lookE E.env t == some k) then undef else L.fn t) d (.int .u64 0), setL A.fn k (ev (S L A G) x).cells, G⟩
  rw [kill_fn ho hk, evo_ev hx]; exact h
theorem o_lfield {d s0 o : Nat} {p q : Int} (hp : L.get s0 = some (.int .u64 p)) (hq : p + o = q) (h : vops P E r K (S (.set d (.int .u64 q) L) A G)) : vops P E (⟨none, dd, .lfield d s0 o⟩ :: r) K (S L A G) := by subst hq; exact ⟨p, SL.get_fn hp, h⟩
theorem o_lload {d k s0 n : Nat} {g : Bool} {p : Int} {cs : Array Value} {v : Value} (hp : L.get s0 = some (.int .u64 p)) (hc : A.get k = some cs) (hv : takeV g cs p.toNat n = some v) (h : vops P E r K (S (.set d v L) A G)) : vops P E (⟨none, dd, .lload d k s0 n g⟩ :: r) K (S L A G) := ⟨p, v, SL.get_fn hp, by show takeV g (A.fn k) _ _ = _; rw [AL.get_fn hc]; exact hv, h⟩
theorem o_lstore {k s0 n : Nat} {x : Operand} {p : Int} {y : Value} {vs : List Value} {cs cs' : Array Value} (hp : L.get s0 = some (.int .u64 p)) (hc : A.get k = some cs) (hx : evo L x = some y) (hy : y.cells = vs.toArray) (hn : vs.length = n ∧ p.toNat + n ≤ cs.size ∧ cells1 vs = true) (hw : wr cs p.toNat vs = cs') (h : vops P E r K (S L (.set k cs' A) G)) : vops P E (⟨none, dd, .lstore k s0 n x⟩ :: r) K (S L A G) := by
  have hc' : (S L A G).l k = cs := AL.get_fn hc
  subst hw
  refine ⟨p, SL.get_fn hp, ?_, ?_⟩
  · rw [evo_ev hx, hc', hy]; exact ⟨by simpa using hn.1, hn.2.1, by simpa using hn.2.2⟩
  · rw [evo_ev hx, hc', hy]; exact h
/-- A local variable is written whole. -/
theorem o_lstoreA {k s0 n : Nat} {x : Operand} {y : Value} {vs : List Value} {cs : Array Value} (hp : L.get s0 = some (.int .u64 0)) (hc : A.get k = some cs) (hx : evo L x = some y) (hy : y.cells = vs.toArray) (hn : vs.length = n) (hs : n = cs.size) (h1 : cells1 vs = true) (h : vops P E r K (S L (.set k vs.toArray A) G)) : vops P E (⟨none, dd, .lstore k s0 n x⟩ :: r) K (S L A G) := by
  have e : wr cs (Int.toNat 0) vs = vs.toArray := by
    rw [wr_all vs (Int.toNat 0) cs (by show _ = 0 + _; omega)]
    show cs.extract 0 0 ++ _ = _
    simp
  refine o_lstore hp hc hx hy ⟨hn, by show 0 + n ≤ _; omega, h1⟩ e h
theorem o_halloc {d : Nat} {t : TypeId} {z : Array Value} (h : ∀ b, G b = none → vops P E r K (S (.set d (.pointer (some ⟨b, 0, none⟩)) L) A (G.put b (.cells z t)))) : vops P E (⟨none, dd, .halloc d t z⟩ :: r) K (S L A G) := h
theorem o_hbox {d : Nat} {t : TypeId} {x : Operand} {v : Value} {z : Array Value} (hx : evo L x = some v) (hz : v.cells = z) (h : ∀ b, G b = none → vops P E r K (S (.set d (.pointer (some ⟨b, 0, none⟩)) L) A (G.put b (.cells z t)))) : vops P E (⟨none, dd, .hbox d t x⟩ :: r) K (S L A G) := by
  subst hz
  intro b hb
  rw [evo_ev hx]; exact h b hb
theorem o_hload {d n : Nat} {g : Bool} {x : Operand} {b q : Nat} {cs : Array Value} {e : TypeId} {fr : Nat × Nat} {v : Value} (hx : evo L x = some (.pointer (some ⟨b, q, none⟩))) (hb : G b = some (.cells cs e fr)) (hv : takeV g cs q n = some v) (h : vops P E r K (S (.set d v L) A G)) : vops P E (⟨none, dd, .hload d n g x⟩ :: r) K (S L A G) := ⟨b, q, cs, e, fr, v, evo_ev hx, hb, hv, h⟩
theorem o_hstore {n : Nat} {x z : Operand} {y : Value} {b q : Nat} {cs : Array Value} {e : TypeId} {fr : Nat × Nat} {vs : List Value} (hx : evo L x = some (.pointer (some ⟨b, q, none⟩))) (hb : G b = some (.cells cs e fr)) (hz : evo L z = some y) (hy : y.cells = vs.toArray) (hn : vs.length = n ∧ q + n ≤ cs.size ∧ cells1 vs = true ∧ (fr.2 ≤ q ∨ q + n ≤ fr.1)) (h : vops P E r K (S L A (G.put b (.cells (wr cs q vs) e fr)))) : vops P E (⟨none, dd, .hstore n x z⟩ :: r) K (S L A G) := by
  refine ⟨b, q, cs, e, fr, evo_ev hx, hb, ?_, ?_⟩
  · rw [evo_ev hz, hy]; exact ⟨by simpa using hn.1, hn.2.1, by simpa using hn.2.2.1, hn.2.2.2⟩
  · rw [evo_ev hz, hy]; exact h
/-- A call by its contract. -/
theorem o_callc {d : Nat} {f : FuncId} {xs : List Operand} {vs : List Value} {R : Value → GH → Prop} (hx : evs L xs = some vs) (hc : HC P f vs.toArray G R) (h : ∀ v G', R v G' → vops P E r K (S (.set d v L) A G')) : vops P E (⟨none, dd, .call (some d) f xs⟩ :: r) K (S L A G) := by
  show HC P f (xs.map (ev (S L A G))).toArray G _
  rw [evs_ev hx]; exact hc.mono h
/-- A call of a function that only reckons. -/
theorem o_callp {d : Nat} {f : FuncId} {xs : List Operand} {vs : List Value} {F : Value} (hx : evs L xs = some vs) (hc : HC P f vs.toArray G fun v G' => v = F ∧ G' = G) (h : vops P E r K (S (.set d F L) A G)) : vops P E (⟨none, dd, .call (some d) f xs⟩ :: r) K (S L A G) :=
  o_callc hx hc fun v G' hv => by obtain ⟨rfl, rfl⟩ := hv; exact h
/-- A call of a function that reckons and leaves what was known. -/
theorem o_callg {d : Nat} {f : FuncId} {xs : List Operand} {vs : List Value} {F : Value} (hx : evs L xs = some vs) (hc : HC P f vs.toArray G fun v G' => v = F ∧ G.le G') (h : ∀ G', G.le G' → vops P E r K (S (.set d F L) A G')) : vops P E (⟨none, dd, .call (some d) f xs⟩ :: r) K (S L A G) :=
  o_callc hx hc fun v G' hv => by obtain ⟨rfl, hl⟩ := hv; exact h G' hl
theorem o_b2s {d : Nat} {x : Operand} {y : Value} {xs : List Int} (hx : evo L x = some y) (hr : rd G 1 y = some (xs.map (Value.int .u8))) (h : vops P E r K (S (.set d (.string (strOfNums xs)) L) A G)) : vops P E (⟨none, dd, .b2s d x⟩ :: r) K (S L A G) := ⟨xs, by rw [evo_ev hx]; exact hr, h⟩
theorem o_s2b {d : Nat} {e : TypeId} {x : Operand} {y : ByteArray} (hx : evo L x = some (.string y)) (hs : y.size ≤ 9223372036854775807) (h : ∀ b c, G b = none → y.size ≤ c → c ≤ 9223372036854775807 → vops P E r K (S (.set d (.slice (some ⟨b, 0, none⟩) y.size c) L) A (G.put b (.cells (y.data.map (fun b => .int .u8 b.toNat) ++ Array.replicate (c - y.size) (.int .u8 0)) e (c, c + 1))))) : vops P E (⟨none, dd, .s2b d e x⟩ :: r) K (S L A G) := ⟨y, evo_ev hx, hs, h⟩
theorem o_bslice {d : Nat} {e : TypeId} {len : Nat} {cells : Array Value} {parts : List (Nat × Nat)} {xs : List Operand} {vs : List Value} {cs : Array Value} (hx : evs L xs = some vs) (hf : fillV parts vs cells = some cs) (h : ∀ b, G b = none → vops P E r K (S (.set d (.slice (some ⟨b, 0, none⟩) len len) L) A (G.put b (.cells cs e)))) : vops P E (⟨none, dd, .bslice d e len cells parts xs⟩ :: r) K (S L A G) := ⟨cs, by rw [evs_ev hx]; exact hf, h⟩
/-- An append to what has no room, or has it: both ways. -/
theorem o_append {d n bytes : Nat} {e : TypeId} {zero : Array Value} {x y : Operand} {a a' : Option Addr} {len cap len' cap' : Nat} {es : List Value} (hx : evo L x = some (.slice a len cap)) (hy : evo L y = some (.slice a' len' cap')) (hr : rd G n (.slice a' len' cap') = some es) (hs : fitB ((len + len') * bytes) bytes ∧ len + len' ≤ 9223372036854775807)
    (h1 : len + len' ≤ cap → (match a with
         | none => es = [] ∧ vops P E r K (S (.set d (.slice none (len + len') cap) L) A G)
         | some ⟨b, q, sp⟩ => sp = none ∧ ∃ cs e' fr, G b = some (.cells cs e' fr) ∧ (q + (len + len') * n ≤ cs.size ∧ cells1 es = true ∧ (fr.2 ≤ q + len * n ∨ q + (len + len') * n ≤ fr.1)) ∧ vops P E r K (S (.set d (.slice a (len + len') cap) L) A (G.put b (.cells (wr cs (q + len * n) es) e' fr)))))
    (h2 : ¬ len + len' ≤ cap → ∃ xs, rd G n (.slice a len cap) = some xs ∧ ∀ b c, G b = none → len + len' ≤ c → c ≤ 9223372036854775807 → vops P E r K (S (.set d (.slice (some ⟨b, 0, none⟩) (len + len') c) L) A (G.put b (.cells (xs.toArray ++ es.toArray ++ Builtin.zeroCells zero (c - (len + len'))) e)))) :
    vops P E (⟨none, dd, .append d e n bytes zero x y⟩ :: r) K (S L A G) := by
  refine ⟨a, len, cap, a', len', cap', es, evo_ev hx, evo_ev hy, by rw [evo_ev hy]; exact hr, hs.1, hs.2, ?_⟩
  split
  · rename_i hc
    have := h1 hc
    cases a with
    | none => exact this
    | some ad => obtain ⟨b, q, sp⟩ := ad; exact this
  · rename_i hc
    obtain ⟨xs, k1, k2⟩ := h2 hc
    exact ⟨xs, by rw [evo_ev hx]; exact k1, k2⟩
theorem o_g_t {t : Nat} {b : Bool} {p : POp} {v : Value} (hg : L.get t = some v) (hv : v = .bool b) (h : vops P E (⟨none, dd, p⟩ :: r) K (S L A G)) : vops P E (⟨some (t, b), dd, p⟩ :: r) K (S L A G) := by
  have : isB ((S L A G).s t) b = true := by rw [show (S L A G).s t = v from SL.get_fn hg, hv]; cases b <;> rfl
  simp only [vops, this, cond_true]; exact h
theorem o_g_f {t d : Nat} {p : POp} {v : Value} (hg : L.get t = some v) (hv : v = .bool false) (h : vops P E r K (S (.set d undef L) A G)) : vops P E (⟨some (t, true), some d, p⟩ :: r) K (S L A G) := by
  have : isB ((S L A G).s t) true = false := by rw [show (S L A G).s t = v from SL.get_fn hg, hv]; rfl
  simp only [vops, this, cond_false]; exact h
theorem o_g_f' {t d : Nat} {p : POp} {v : Value} (hg : L.get t = some v) (hv : v = .bool true) (h : vops P E r K (S (.set d undef L) A G)) : vops P E (⟨some (t, false), some d, p⟩ :: r) K (S L A G) := by
  have : isB ((S L A G).s t) false = false := by rw [show (S L A G).s t = v from SL.get_fn hg, hv]; rfl
  simp only [vops, this, cond_false]; exact h
theorem o_g_u {t d : Nat} {b : Bool} {p : POp} {v : Value} (hg : L.get t = some v) (hv : v = undef) (h : vops P E r K (S (.set d undef L) A G)) : vops P E (⟨some (t, b), some d, p⟩ :: r) K (S L A G) := by
  have : isB ((S L A G).s t) b = false := by rw [show (S L A G).s t = v from SL.get_fn hg, hv]; cases b <;> rfl
  simp only [vops, this, cond_false]; exact h
theorem o_g_c {t : Nat} {b c : Bool} {p : POp} (hc : L.get t = some (.bool c)) (h1 : c = true → vops P E (⟨some (t, b), dd, p⟩ :: r) K (S L A G)) (h2 : c = false → vops P E (⟨some (t, b), dd, p⟩ :: r) K (S L A G)) : vops P E (⟨some (t, b), dd, p⟩ :: r) K (S L A G) := by
  cases c
  · exact h2 rfl
  · exact h1 rfl
/-! Regions that draw -/
variable {Gs : GH} {Ls : List Nat} {i : Nat} {rest more : Plan}
/-- A way through that only takes. -/
def lin (Ls : List Nat) : Plan → Option (List Stp)
  | .done => some []
  | .take _ s rest => match takeable Ls s.p with
    | true => match lin Ls rest with
      | some l => some (s :: l)
      | none => none
    | false => none
  | _ => none
theorem pvT_of_pv {o : POp} {st : St} {K : St → Prop} (ht : takeable Ls o = true) (hG : st.G = Gs) (h : pv P E o st K) : pvT P E Gs Ls o st (fun st' => K st' ∧ st'.G = Gs) := by
  subst hG
  cases o with
  | pure d f xs => obtain ⟨v, h1, h2⟩ := h; exact ⟨v, h1, h2, rfl⟩
  | lmove d s => exact ⟨h, rfl⟩
  | lfield d s o => obtain ⟨p, h1, h2⟩ := h; exact ⟨p, h1, h2, rfl⟩
  | lindex d s len n i => obtain ⟨p, k, j, h1, h2, h3, h4⟩ := h; exact ⟨p, k, j, h1, h2, h3, h4, rfl⟩
  | hload d n g x => obtain ⟨b, q, cs, e, fr, v, h1, h2, h3, h4⟩ := h; exact ⟨b, q, cs, e, fr, v, h1, h2, h3, h4, rfl⟩
  | b2s d x => obtain ⟨xs, h1, h2⟩ := h; exact ⟨xs, h1, h2, rfl⟩
  | lload d k s n g => obtain ⟨p, v, h1, h2, h3⟩ := h; exact ⟨ht, p, v, h1, h2, h3, rfl⟩
  | _ => cases ht
theorem pvT_mono {o : POp} {st : St} {K K' : St → Prop} (hk : ∀ st, K st → K' st) (h : pvT P E Gs Ls o st K) : pvT P E Gs Ls o st K' := by
  cases o with
  | pure d f xs => obtain ⟨v, h1, h2⟩ := h; exact ⟨v, h1, hk _ h2⟩
  | lmove d s => exact hk _ h
  | lfield d s o => obtain ⟨p, h1, h2⟩ := h; exact ⟨p, h1, hk _ h2⟩
  | lindex d s len n i => obtain ⟨p, k, j, h1, h2, h3, h4⟩ := h; exact ⟨p, k, j, h1, h2, h3, hk _ h4⟩
  | hload d n g x => obtain ⟨b, q, cs, e, fr, v, h1, h2, h3, h4⟩ := h; exact ⟨b, q, cs, e, fr, v, h1, h2, h3, hk _ h4⟩
  | b2s d x => obtain ⟨xs, h1, h2⟩ := h; exact ⟨xs, h1, hk _ h2⟩
  | lload d k s n g => obtain ⟨ht, p, v, h1, h2, h3⟩ := h; exact ⟨ht, p, v, h1, h2, hk _ h3⟩
  | _ => exact h.elim
theorem lin_sound : ∀ {pl : Plan} {l : List Stp} {st : St}, lin Ls pl = some l → st.G = Gs → vops P E l K st → vplan P E Gs Ls K pl st
  | .done, l, st, h, hG, hv => by cases h; exact hv
  | .take i s rest, l, st, h, hG, hv => by
    unfold lin at h
    cases ht : takeable Ls s.p with
    | false => rw [ht] at h; cases h
    | true =>
      rw [ht] at h
      cases hl : lin Ls rest with
      | none => rw [hl] at h; cases h
      | some l' =>
        rw [hl] at h; cases h
        simp only [vplan]
        simp only [vops] at hv
        cases hg : s.g with
        | none =>
          rw [hg] at hv
          simp only [gW, cond_true]
          exact pvT_mono (fun st h => lin_sound hl h.2 h.1) (pvT_of_pv ht hG hv)
        | some x =>
          obtain ⟨t, b⟩ := x
          rw [hg] at hv
          simp only [gW]
          cases hb : isB (st.s t) b with
          | true =>
            simp only [hb, cond_true] at hv ⊢
            exact pvT_mono (fun st h => lin_sound hl h.2 h.1) (pvT_of_pv ht hG hv)
          | false =>
            simp only [hb, cond_false] at hv ⊢
            exact lin_sound hl hG hv
  | .alt _ _ _ _, l, st, h, _, _ => by cases h
  | .no, l, st, h, _, _ => by cases h
/-- A region that draws, in which all is taken: as if in one order. -/
theorem v_drawl {pl : Plan} {l : List Stp} (hl : lin Ls pl = some l) (h : vops P E l (Q .normal) (S L A G)) : vc P E (.draw Ls pl) Q (S L A G) :=
  ⟨G, GH.le_refl _, lin_sound hl rfl h⟩
/-- What is taken first. -/
def pre (Ls : List Nat) : Plan → Option (List Stp × Plan)
  | .take _ s rest => match takeable Ls s.p with
    | true => match pre Ls rest with
      | some (l, pl) => some (s :: l, pl)
      | none => none
    | false => none
  | pl => some ([], pl)
def noHeap : POp → Bool
  | .hload _ _ _ _ | .b2s _ _ => false
  | _ => true
theorem pvT_of_pvN {o : POp} {st : St} {K : St → Prop} (ht : takeable Ls o = true) (hn : noHeap o = true) (h : pv P E o st K) : pvT P E Gs Ls o st K := by
  cases o with
  | pure d f xs => exact h
  | lmove d s => exact h
  | lfield d s o => exact h
  | lindex d s len n i => exact h
  | lload d k s n g => exact ⟨ht, h⟩
  | hload d n g x => cases hn
  | b2s d x => cases hn
  | _ => cases ht
theorem pre_sound : ∀ {pl : Plan} {x : List Stp × Plan} {st : St}, pre Ls pl = some x → (st.G = Gs ∨ x.1.all (fun s => noHeap s.p) = true) → vops P E x.1 (vplan P E Gs Ls K x.2) st → vplan P E Gs Ls K pl st
  | .done, x, st, h, hG, hv => by cases h; exact hv
  | .alt _ _ _ _, x, st, h, hG, hv => by cases h; exact hv
  | .no, x, st, h, hG, hv => by cases h; exact hv
  | .take i s rest, x, st, h, hG, hv => by
    unfold pre at h
    cases ht : takeable Ls s.p with
    | false => rw [ht] at h; cases h
    | true =>
      rw [ht] at h
      cases hl : pre Ls rest with
      | none => rw [hl] at h; cases h
      | some x' =>
        obtain ⟨l', p'⟩ := x'
        rw [hl] at h; cases h
        simp only [vplan]
        simp only [vops] at hv
        have go : ∀ st', (st'.G = st.G) → vops P E l' (vplan P E Gs Ls K p') st' → vplan P E Gs Ls K rest st' := by
          intro st' hst' hv'
          refine pre_sound hl ?_ hv'
          rcases hG with hG | hG
          · exact .inl (hst'.trans hG)
          · simp only [List.all_cons, Bool.and_eq_true] at hG
            exact .inr hG.2
        have step : pv P E s.p st (vops P E l' (vplan P E Gs Ls K p')) → pvT P E Gs Ls s.p st (vplan P E Gs Ls K rest) := by
          intro hp
          rcases hG with hG | hG
          · exact pvT_mono (fun st' h => go st' (h.2.trans hG.symm) h.1) (pvT_of_pv ht hG hp)
          · simp only [List.all_cons, Bool.and_eq_true] at hG
            have := pvT_of_pvN (Gs := st.G) ht hG.1 hp
            have h2 : pvT P E Gs Ls s.p st (fun st' => vops P E l' (vplan P E Gs Ls K p') st' ∧ st'.G = st.G) := by
              have h3 := pvT_of_pv (Gs := st.G) ht rfl hp
              have hn := hG.1
              cases hs : s.p <;> rw [hs] at h3 hn ht <;> first | exact h3 | (cases hn; done) | cases ht
            exact pvT_mono (fun st' h => go st' h.2 h.1) h2
        cases hg : s.g with
        | none =>
          rw [hg] at hv
          simp only [gW, cond_true]
          exact step hv
        | some y =>
          obtain ⟨t, b⟩ := y
          rw [hg] at hv
          simp only [gW]
          cases hb : isB (st.s t) b with
          | true =>
            simp only [hb, cond_true] at hv ⊢
            exact step hv
          | false =>
            simp only [hb, cond_false] at hv ⊢
            exact go _ rfl hv
theorem p_pre {pl pl' : Plan} {s : Stp} {l : List Stp} (h : pre Ls pl = some (s :: l, pl')) (hv : vops P E (s :: l) (vplan P E G Ls K pl') (S L A G)) : vplan P E G Ls K pl (S L A G) := pre_sound h (.inl rfl) hv
theorem p_preN {pl pl' : Plan} {s : Stp} {l : List Stp} (h : pre Ls pl = some (s :: l, pl')) (hn : (s :: l).all (fun s => noHeap s.p) = true) (hv : vops P E (s :: l) (vplan P E Gs Ls K pl') (S L A G)) : vplan P E Gs Ls K pl (S L A G) := pre_sound h (.inr hn) hv
theorem p_done (h : K st) : vplan P E Gs Ls K .done st := h
theorem p_no : vplan P E Gs Ls K .no st := trivial
theorem isB_of {t : Nat} {b : Bool} {v : Value} (hg : L.get t = some v) (hv : isB v b = true) : gW (S L A G) (some (t, b)) = true := by
  show isB (L.fn t) b = true
  rw [SL.get_fn hg]; exact hv
theorem isB_not {t : Nat} {b : Bool} {v : Value} (hg : L.get t = some v) (hv : isB v b = false) : gW (S L A G) (some (t, b)) = false := by
  show isB (L.fn t) b = false
  rw [SL.get_fn hg]; exact hv
theorem isB_bool (b : Bool) : isB (.bool b) b = true := by cases b <;> rfl
theorem p_tg_c {t : Nat} {b c : Bool} {p : POp} (hc : L.get t = some (.bool c)) (h1 : c = true → vplan P E Gs Ls K (.take i ⟨some (t, b), dd, p⟩ rest) (S L A G)) (h2 : c = false → vplan P E Gs Ls K (.take i ⟨some (t, b), dd, p⟩ rest) (S L A G)) : vplan P E Gs Ls K (.take i ⟨some (t, b), dd, p⟩ rest) (S L A G) := by
  cases c
  · exact h2 rfl
  · exact h1 rfl
theorem p_ag_t {t : Nat} {b : Bool} {p : POp} {v : Value} (hg : L.get t = some v) (hv : v = .bool b) (h : vplan P E Gs Ls K (.alt i ⟨none, dd, p⟩ rest more) (S L A G)) : vplan P E Gs Ls K (.alt i ⟨some (t, b), dd, p⟩ rest more) (S L A G) := by
  have hw := isB_of (A := A) (G := G) hg (b := b) (by subst hv; exact isB_bool b)
  simp only [vplan, hw, cond_true]; simp only [vplan, gW, cond_true] at h; exact h
theorem p_ag_f {t d : Nat} {b : Bool} {p : POp} {v : Value} (hg : L.get t = some v) (hv : isB v b = false) (h : vplan P E Gs Ls K rest (S (.set d undef L) A G)) (hm : vplan P E Gs Ls K more (S L A G)) : vplan P E Gs Ls K (.alt i ⟨some (t, b), some d, p⟩ rest more) (S L A G) := by
  have hw := isB_not (A := A) (G := G) hg (b := b) hv
  simp only [vplan, hw, cond_false] at h ⊢; exact ⟨h, hm⟩
theorem p_ag_c {t : Nat} {b c : Bool} {p : POp} (hc : L.get t = some (.bool c)) (h1 : c = true → vplan P E Gs Ls K (.alt i ⟨some (t, b), dd, p⟩ rest more) (S L A G)) (h2 : c = false → vplan P E Gs Ls K (.alt i ⟨some (t, b), dd, p⟩ rest more) (S L A G)) : vplan P E Gs Ls K (.alt i ⟨some (t, b), dd, p⟩ rest more) (S L A G) := by
  cases c
  · exact h2 rfl
  · exact h1 rfl
/-- A call by its contract, in such a region: what it knew of Gs stands. -/
theorem p_callc {d : Nat} {f : FuncId} {xs : List Operand} {vs : List Value} {R : Value → GH → Prop} (hx : evs L xs = some vs) (hc : HC P f vs.toArray G R) (hG : ∀ v G', R v G' → Gs.le G') (h : ∀ v G', R v G' → vplan P E Gs Ls K rest (S (.set d v L) A G')) (hm : vplan P E Gs Ls K more (S L A G)) : vplan P E Gs Ls K (.alt i ⟨none, dd, .call (some d) f xs⟩ rest more) (S L A G) := by
  refine ⟨?_, hm⟩
  show HC P f (xs.map (ev (S L A G))).toArray G _
  rw [evs_ev hx]
  exact hc.mono fun v G' hr => ⟨⟨hG v G' hr, fun _ _ => rfl⟩, h v G' hr⟩
theorem p_callp {d : Nat} {f : FuncId} {xs : List Operand} {vs : List Value} {F : Value} (hx : evs L xs = some vs) (hc : HC P f vs.toArray G fun v G' => v = F ∧ G' = G) (hG : Gs.le G) (h : vplan P E Gs Ls K rest (S (.set d F L) A G)) (hm : vplan P E Gs Ls K more (S L A G)) : vplan P E Gs Ls K (.alt i ⟨none, dd, .call (some d) f xs⟩ rest more) (S L A G) :=
  p_callc hx hc (fun v G' hv => by obtain ⟨rfl, rfl⟩ := hv; exact hG) (fun v G' hv => by obtain ⟨rfl, rfl⟩ := hv; exact h) hm
theorem p_callg {d : Nat} {f : FuncId} {xs : List Operand} {vs : List Value} {F : Value} (hx : evs L xs = some vs) (hc : HC P f vs.toArray G fun v G' => v = F ∧ G.le G') (hG : Gs.le G) (h : ∀ G', G.le G' → vplan P E Gs Ls K rest (S (.set d F L) A G')) (hm : vplan P E Gs Ls K more (S L A G)) : vplan P E Gs Ls K (.alt i ⟨none, dd, .call (some d) f xs⟩ rest more) (S L A G) :=
  p_callc hx hc (fun v G' hv => GH.le_trans hG hv.2) (fun v G' hv => by obtain ⟨rfl, hl⟩ := hv; exact h G' hl) hm
theorem v_draw0 {pl : Plan} (h : vplan P E G Ls (Q .normal) pl (S L A G)) : vc P E (.draw Ls pl) Q (S L A G) := ⟨G, GH.le_refl _, h⟩
theorem HC.start {P : Program} {f : FuncId} {E : Env} {n : Nat} {rs : List RV} {pc : PC} (h : Comp P f E n rs pc) {args : List Value} (hn : args.length = n) {G : GH} {R : Value → GH → Prop} (hv : vc P E pc (endQ rs R) (S (.args args) (.any fun _ => #[]) G)) : HC P f args.toArray G R :=
  HC.of_comp h hn (fun _ => #[]) hv
end
/-! ### Reckoning -/
theorem kindEq_self (k : IntKind) : kindEq k k = true := by cases k <;> rfl
theorem x_int {op : BinOp} {k : IntKind} {a b : Int} (h1 : op ≠ .shl) (h2 : op ≠ .shr) : pureV (.bin op) [.int k a, .int k b] = intV op k a b := by
  cases op <;> first | (exact absurd rfl h1) | (exact absurd rfl h2) | simp [pureV, binV, kindEq_self]
theorem x_add (k : IntKind) (a b : Int) : pureV (.bin .add) [.int k a, .int k b] = some (.int k (k.wrap (a + b))) := x_int (by simp) (by simp)
theorem x_sub (k : IntKind) (a b : Int) : pureV (.bin .sub) [.int k a, .int k b] = some (.int k (k.wrap (a - b))) := x_int (by simp) (by simp)
theorem x_mul (k : IntKind) (a b : Int) : pureV (.bin .mul) [.int k a, .int k b] = some (.int k (k.wrap (a * b))) := x_int (by simp) (by simp)
theorem x_quo (k : IntKind) (a b : Int) : pureV (.bin .quo) [.int k a, .int k b] = if b = 0 then none else some (.int k (k.wrap (a.tdiv b))) := x_int (by simp) (by simp)
theorem x_rem (k : IntKind) (a b : Int) : pureV (.bin .rem) [.int k a, .int k b] = if b = 0 then none else some (.int k (a.tmod b)) := x_int (by simp) (by simp)
theorem x_eql (k : IntKind) (a b : Int) : pureV (.bin .eql) [.int k a, .int k b] = some (.bool (a == b)) := x_int (by simp) (by simp)
theorem x_neq (k : IntKind) (a b : Int) : pureV (.bin .neq) [.int k a, .int k b] = some (.bool (a != b)) := x_int (by simp) (by simp)
theorem x_lss (k : IntKind) (a b : Int) : pureV (.bin .lss) [.int k a, .int k b] = some (.bool (decide (a < b))) := x_int (by simp) (by simp)
theorem x_leq (k : IntKind) (a b : Int) : pureV (.bin .leq) [.int k a, .int k b] = some (.bool (decide (a ≤ b))) := x_int (by simp) (by simp)
theorem x_gtr (k : IntKind) (a b : Int) : pureV (.bin .gtr) [.int k a, .int k b] = some (.bool (decide (a > b))) := x_int (by simp) (by simp)
theorem x_geq (k : IntKind) (a b : Int) : pureV (.bin .geq) [.int k a, .int k b] = some (.bool (decide (a ≥ b))) := x_int (by simp) (by simp)
theorem x_and (k : IntKind) (a b : Int) : pureV (.bin .and) [.int k a, .int k b] = some (.int k (k.wrap (BitVec.ofInt k.bits a &&& BitVec.ofInt k.bits b).toNat)) := x_int (by simp) (by simp)
theorem x_or (k : IntKind) (a b : Int) : pureV (.bin .or) [.int k a, .int k b] = some (.int k (k.wrap (BitVec.ofInt k.bits a ||| BitVec.ofInt k.bits b).toNat)) := x_int (by simp) (by simp)
theorem x_xor (k : IntKind) (a b : Int) : pureV (.bin .xor) [.int k a, .int k b] = some (.int k (k.wrap (BitVec.ofInt k.bits a ^^^ BitVec.ofInt k.bits b).toNat)) := x_int (by simp) (by simp)
theorem x_shl (k y : IntKind) (a b : Int) : pureV (.bin .shl) [.int k a, .int y b] = if b < 0 then none else some (.int k (k.wrap (a * 2 ^ (min b.toNat k.bits)))) := rfl
theorem x_shr (k y : IntKind) (a b : Int) : pureV (.bin .shr) [.int k a, .int y b] = if b < 0 then none else some (.int k (a.fdiv (2 ^ (min b.toNat k.bits)))) := rfl
theorem x_sadd (a b : ByteArray) : pureV (.bin .add) [.string a, .string b] = if ((a.size + b.size : Nat) : Int) > IntKind.i64.max then none else some (.string (a ++ b)) := rfl
theorem x_beql (a b : Bool) : pureV (.eqB false) [.bool a, .bool b] = some (.bool (a == b)) := rfl
theorem x_bneq (a b : Bool) : pureV (.eqB true) [.bool a, .bool b] = some (.bool (!(a == b))) := rfl
theorem x_not (b : Bool) : pureV (.un .not) [.bool b] = some (.bool (!b)) := rfl
theorem x_neg (k : IntKind) (a : Int) : pureV (.un .neg) [.int k a] = some (.int k (k.wrap (0 - a))) := rfl
theorem x_convI (k k' : IntKind) (n : Int) : pureV (.convI k) [.int k' n] = some (.int k (k.wrap n)) := rfl
theorem x_convS (s : ByteArray) : pureV .convS [.string s] = some (.string s) := rfl
theorem x_ext2a (a b : Value) : pureV (.ext 0) [.tuple #[a, b]] = some a := rfl
theorem x_ext2b (a b : Value) : pureV (.ext 1) [.tuple #[a, b]] = some b := rfl
theorem x_ext3a (a b c : Value) : pureV (.ext 0) [.tuple #[a, b, c]] = some a := rfl
theorem x_ext3b (a b c : Value) : pureV (.ext 1) [.tuple #[a, b, c]] = some b := rfl
theorem x_ext3c (a b c : Value) : pureV (.ext 2) [.tuple #[a, b, c]] = some c := rfl
theorem x_ext4a (a b c d : Value) : pureV (.ext 0) [.tuple #[a, b, c, d]] = some a := rfl
theorem x_ext4b (a b c d : Value) : pureV (.ext 1) [.tuple #[a, b, c, d]] = some b := rfl
theorem x_ext4c (a b c d : Value) : pureV (.ext 2) [.tuple #[a, b, c, d]] = some c := rfl
theorem x_ext4d (a b c d : Value) : pureV (.ext 3) [.tuple #[a, b, c, d]] = some d := rfl
theorem x_lenS (s : ByteArray) : pureV .lenS [.string s] = some (.int .i64 s.size) := rfl
theorem x_lenL (a : Option Addr) (n c : Nat) : pureV .lenL [.slice a n c] = some (.int .i64 n) := rfl
theorem x_min2 (k y : IntKind) (a b : Int) : pureV .minI [.int k a, .int y b] = some (.int k (if b < a then b else a)) := rfl
theorem x_max2 (k y : IntKind) (a b : Int) : pureV .maxI [.int k a, .int y b] = some (.int k (if b > a then b else a)) := rfl
theorem x_isBtf : isB (.bool true) false = false := rfl
theorem x_isBft : isB (.bool false) true = false := rfl
theorem x_isBu (b : Bool) : isB undef b = false := rfl
theorem x_take1 (cs : Array Value) (o n : Nat) : takeV false cs o n = cs[o]? := rfl
theorem x_takeA {cs : Array Value} {n : Nat} (h : cs.size = n) : takeV true cs (Int.toNat 0) n = some (.agg cs) := by
  subst h
  show (if 0 + cs.size ≤ cs.size then some (Value.agg (cs.extract 0 (0 + cs.size))) else none) = _
  rw [if_pos (by omega)]; simp
theorem x_eqA (neg : Bool) (sh : Sh) (x y : Value) : pureV (.eqA neg sh) [x, y] = (eqSh sh x y).map fun r => .bool (if neg then !r else r) := rfl
theorem x_kindEq : kindEq .i64 .i64 = true := rfl
theorem x_cells_i (k : IntKind) (n : Int) : (Value.int k n).cells = #[.int k n] := rfl
theorem x_cells_b (b : Bool) : (Value.bool b).cells = #[.bool b] := rfl
theorem x_cells_s (b : ByteArray) : (Value.string b).cells = #[.string b] := rfl
theorem x_cells_l (a : Option Addr) (n c : Nat) : (Value.slice a n c).cells = #[.slice a n c] := rfl
theorem x_cells_p (a : Option Addr) : (Value.pointer a).cells = #[.pointer a] := rfl
theorem x_cells_a (cs : Array Value) : (Value.agg cs).cells = cs := rfl
theorem x_tup0 : tupV [] = .tuple #[] := rfl
theorem x_tup1 (a : Value) : tupV [a] = a := rfl
theorem x_tup2 (a b : Value) : tupV [a, b] = .tuple #[a, b] := rfl
theorem x_tup3 (a b c : Value) : tupV [a, b, c] = .tuple #[a, b, c] := rfl
theorem x_tup4 (a b c d : Value) : tupV [a, b, c, d] = .tuple #[a, b, c, d] := rfl
theorem x_tup5 (a b c d e : Value) : tupV [a, b, c, d, e] = .tuple #[a, b, c, d, e] := rfl
end Go.Proofs.Ytbmhdmkmnhaffaa.V
end
section
/- Library V, part I: slices and bytes as values. No program here. -/
set_option linter.unusedVariables false
set_option linter.unusedSimpArgs false
namespace Go.Proofs.Ytbmhdmkmnhaffaa.V
/-! ### Bytes -/
abbrev bv (b : UInt8) : Value := .int .u8 b.toNat
def strB (bs : List UInt8) : ByteArray := ⟨bs.toArray⟩
theorem strB_toList (bs : List UInt8) : (strB bs).toList = bs := by
  rw [ByteArray.toList_eq]; rfl
theorem strB_inj {a b : List UInt8} (h : strB a = strB b) : a = b := by
  have := congrArg ByteArray.toList h
  rwa [strB_toList, strB_toList] at this
theorem strB_size (bs : List UInt8) : (strB bs).size = bs.length := rfl
theorem strB_append (a b : List UInt8) : strB a ++ strB b = strB (a ++ b) := by
  apply ByteArray.ext; simp [strB]
theorem strB_of (s : ByteArray) : s = strB s.data.toList := by
  apply ByteArray.ext; simp [strB]
theorem wrap8 (n : Int) : IntKind.u8.wrap n = ((UInt8.ofInt n).toNat : Int) := by
  rw [wrap_u8]
  simp only [UInt8.ofInt, UInt8.toNat_ofNat']
  omega
theorem x_bits8 : IntKind.u8.bits = 8 := rfl
theorem x_bits32 : IntKind.u32.bits = 32 := rfl
theorem x_bits64 : IntKind.u64.bits = 64 := rfl
theorem x_bitsi : IntKind.i64.bits = 64 := rfl
theorem x_seqlB (a b : List UInt8) : pureV (.bin .eql) [.string (strB a), .string (strB b)] = some (.bool (a == b)) := by
  rw [show pureV (.bin .eql) [.string (strB a), .string (strB b)] = some (.bool ((strB a).toList == (strB b).toList)) from rfl, strB_toList, strB_toList]
theorem x_sneqB (a b : List UInt8) : pureV (.bin .neq) [.string (strB a), .string (strB b)] = some (.bool (!(a == b))) := by
  rw [show pureV (.bin .neq) [.string (strB a), .string (strB b)] = some (.bool (!((strB a).toList == (strB b).toList))) from rfl, strB_toList, strB_toList]
theorem x_slssB (a b : List UInt8) : pureV (.bin .lss) [.string (strB a), .string (strB b)] = some (.bool (Op.bytesLess a b)) := by
  rw [show pureV (.bin .lss) [.string (strB a), .string (strB b)] = some (.bool (Op.bytesLess (strB a).toList (strB b).toList)) from rfl, strB_toList, strB_toList]
theorem x_lenSB (a : List UInt8) : pureV .lenS [.string (strB a)] = some (.int .i64 a.length) := rfl
/-! ### Slices -/
def okS : Value → Prop
  | .slice _ len cap => len ≤ cap ∧ cap ≤ 9223372036854775807
  | _ => False
def lenS : Value → Nat
  | .slice _ len _ => len
  | _ => 0
def capS : Value → Nat
  | .slice _ _ cap => cap
  | _ => 0
def blkS : Value → Option Nat
  | .slice (some a) _ _ => some a.block
  | _ => none
/-- A slice and its cells, n an element. -/
structure Sl (n : Nat) (G : GH) (u : Value) (xs : List Value) : Prop where
  rd : V.rd G n u = some xs
  ok : okS u
abbrev By (G : GH) (u : Value) (bs : List UInt8) : Prop := Sl 1 G u (bs.map bv)
theorem rd_some {G : GH} {n b q len cap : Nat} {xs : List Value} (h : rd G n (.slice (some ⟨b, q, none⟩) len cap) = some xs) :
    (len * n = 0 ∧ xs = []) ∨ (len * n ≠ 0 ∧ ∃ cs e fr, G b = some (.cells cs e fr) ∧ q + len * n ≤ cs.size ∧ xs = (cs.extract q (q + len * n)).toList) := by
  simp only [rd] at h
  split at h
  · rename_i h0; cases h; exact .inl ⟨h0, rfl⟩
  · rename_i h0
    right
    refine ⟨h0, ?_⟩
    split at h
    · rename_i cs e fr hG
      obtain ⟨h1, h⟩ := Option.ite_none_right_eq_some.1 h
      cases h
      exact ⟨cs, e, fr, hG, h1, rfl⟩
    · cases h
theorem rd_of {G : GH} {n b q len cap : Nat} {cs : Array Value} {e : TypeId} {fr : Nat × Nat} (hG : G b = some (.cells cs e fr)) (hs : q + len * n ≤ cs.size) : rd G n (.slice (some ⟨b, q, none⟩) len cap) = some (cs.extract q (q + len * n)).toList := by
  simp only [rd]
  split
  · rename_i h0; rw [h0]; simp
  · rw [hG]; simp only [if_pos hs]
theorem extract_len {cs : Array Value} {q m : Nat} (h : q + m ≤ cs.size) : (cs.extract q (q + m)).toList.length = m := by
  simp; omega
theorem Sl.slice {n : Nat} {G : GH} {u : Value} {xs : List Value} (h : Sl n G u xs) : ∃ a cap, u = .slice a (lenS u) cap ∧ lenS u ≤ cap ∧ cap ≤ 9223372036854775807 ∧ xs.length = lenS u * n ∧ (lenS u ≠ 0 → ∃ b q, a = some ⟨b, q, none⟩) := by
  obtain ⟨hr, ho⟩ := h
  cases u with
  | slice a len cap =>
    refine ⟨a, cap, rfl, ho.1, ho.2, ?_⟩
    show xs.length = len * n ∧ (len ≠ 0 → _)
    cases a with
    | none =>
      cases len with
      | zero => cases hr; exact ⟨by simp, fun h => absurd rfl h⟩
      | succ k => cases hr
    | some x =>
      obtain ⟨b, q, sp⟩ := x
      cases sp with
      | some _ =>
        cases len with
        | zero => cases hr; exact ⟨by simp, fun h => absurd rfl h⟩
        | succ k => cases hr
      | none =>
        have h1 : xs.length = len * n := by
          rcases rd_some hr with ⟨h0, rfl⟩ | ⟨h0, cs, e, fr, hG, hs, rfl⟩
          · simp [h0]
          · exact extract_len hs
        exact ⟨h1, fun _ => ⟨b, q, rfl⟩⟩
  | _ => exact ho.elim
theorem Sl.len {n : Nat} {G : GH} {u : Value} {xs : List Value} (h : Sl n G u xs) : xs.length = lenS u * n := by
  obtain ⟨a, cap, h1, h2, h3, h4, h5⟩ := h.slice; exact h4
theorem Sl.len_le {n : Nat} {G : GH} {u : Value} {xs : List Value} (h : Sl n G u xs) : lenS u ≤ 9223372036854775807 := by
  obtain ⟨a, cap, h1, h2, h3, h4, h5⟩ := h.slice; omega
theorem By.len {G : GH} {u : Value} {bs : List UInt8} (h : By G u bs) : lenS u = bs.length := by
  have := Sl.len h; simp at this; omega
theorem By.len_le {G : GH} {u : Value} {bs : List UInt8} (h : By G u bs) : bs.length ≤ 9223372036854775807 := by
  have := Sl.len_le h; rw [By.len h] at this; exact this
theorem Sl.le {n : Nat} {G G' : GH} {u : Value} {xs : List Value} (h : Sl n G u xs) (hl : G.le G') : Sl n G' u xs := ⟨rd_le hl h.rd, h.ok⟩
theorem Sl.keep {n : Nat} {G G' : GH} {u : Value} {xs : List Value} (h : Sl n G u xs) (hk : ∀ b, blkS u = some b → ∀ o, G b = some o → G' b = some o) : Sl n G' u xs := by
  obtain ⟨hr, ho⟩ := h
  refine ⟨?_, ho⟩
  cases u with
  | slice a len cap =>
    cases a with
    | none =>
      cases len with
      | zero => exact hr
      | succ k => cases hr
    | some x =>
      obtain ⟨b, q, sp⟩ := x
      cases sp with
      | some _ =>
        cases len with
        | zero => exact hr
        | succ k => cases hr
      | none =>
        rcases rd_some hr with ⟨h0, rfl⟩ | ⟨h0, cs, e, fr, hG, hs, rfl⟩
        · simp only [V.rd, h0, if_true]
        · exact rd_of (hk b rfl _ hG) hs
  | _ => exact ho.elim
theorem Sl.nil (n : Nat) (G : GH) : Sl n G (.slice none 0 0) [] := ⟨rfl, by simp [okS]⟩
theorem Sl.lenL {n : Nat} {G : GH} {u : Value} {xs : List Value} (h : Sl n G u xs) : pureV .lenL [u] = some (.int .i64 (lenS u)) := by
  obtain ⟨a, cap, h1, _⟩ := h.slice; rw [h1]; rfl
theorem By.lenL {G : GH} {u : Value} {bs : List UInt8} (h : By G u bs) : pureV .lenL [u] = some (.int .i64 bs.length) := by
  rw [Sl.lenL h, By.len h]
/-- A part of a slice. -/
theorem Sl.cut {n : Nat} {G : GH} {u : Value} {xs : List Value} (h : Sl n G u xs) {l j : Nat} (h1 : l ≤ j) (h2 : j ≤ lenS u) :
    ∃ a, u = .slice a (lenS u) (capS u) ∧ Sl n G (.slice (addO a l (capS u) n) (j - l) (capS u - l)) ((xs.drop (l * n)).take ((j - l) * n)) := by
  obtain ⟨a, cap, e1, e2, e3, e4, e5⟩ := h.slice
  have ec : capS u = cap := by rw [e1]; rfl
  rw [ec]
  refine ⟨a, e1, ?_, by show j - l ≤ cap - l ∧ cap - l ≤ _; omega⟩
  by_cases h0 : (j - l) * n = 0
  · rw [h0, List.take_zero]
    by_cases hj : j - l = 0
    · rw [hj]
      cases addO a l cap n with
      | none => rfl
      | some x => obtain ⟨b, q, sp⟩ := x; cases sp <;> simp [V.rd]
    · have hn : n = 0 := by
        rcases Nat.mul_eq_zero.1 h0 with h | h
        · exact absurd h hj
        · exact h
      subst hn
      obtain ⟨b, q, rfl⟩ := e5 (by omega)
      simp only [addO]
      split <;> simp [V.rd, Addr.add]
  · have hjl : j - l ≠ 0 := fun e => h0 (by rw [e]; simp)
    obtain ⟨b, q, rfl⟩ := e5 (by omega)
    have hcl : ¬ cap = l := by omega
    have hadd : addO (some (⟨b, q, none⟩ : Addr)) l cap n = some ⟨b, q + l * n, none⟩ := by
      simp only [addO, if_neg hcl, Option.map_some, Addr.add]
      split
      · rename_i hz; rw [hz]; rfl
      · rfl
    rw [hadd]
    have hr := h.rd
    rw [e1] at hr
    have hjn : j * n ≤ lenS u * n := Nat.mul_le_mul_right n h2
    have hjl2 : l * n + (j - l) * n = j * n := by rw [← Nat.add_mul]; congr 1; omega
    rcases rd_some hr with ⟨hz, _⟩ | ⟨hz, cs, e, fr, hG, hs, rfl⟩
    · omega
    · rw [rd_of hG (by omega)]
      congr 1
      apply List.ext_getElem?
      intro i
      simp only [Array.toList_extract, List.extract_eq_take_drop, List.getElem?_take, List.getElem?_drop]
      by_cases hi : i < (j - l) * n
      · rw [if_pos (by omega), if_pos hi, if_pos (by omega)]; congr 1; omega
      · rw [if_neg (by omega), if_neg hi]
theorem blk_addO (a : Option Addr) (l m n x y x' y' : Nat) : blkS (.slice (addO a l m n) x y) = blkS (.slice a x' y') := by
  unfold addO
  by_cases h : m = l
  · rw [if_pos h]; cases a <;> rfl
  · rw [if_neg h]
    cases a with
    | none => rfl
    | some x =>
      simp only [Option.map_some, blkS, Addr.add]
      split <;> rfl
theorem Sl.slc11 {n : Nat} {G : GH} {u : Value} {xs : List Value} (h : Sl n G u xs) {k k' : IntKind} {i j : Int} (h0 : 0 ≤ i) (h1 : i ≤ j) (h2 : j ≤ lenS u) : ∃ u', pureV (.slc n true true false) [u, .int k i, .int k' j] = some u' ∧ Sl n G u' ((xs.drop (i.toNat * n)).take ((j.toNat - i.toNat) * n)) ∧ blkS u' = blkS u := by
  obtain ⟨a, e1, e2⟩ := h.cut (l := i.toNat) (j := j.toNat) (by omega) (by omega)
  obtain ⟨_, _, _, e3, _⟩ := h.slice
  have hc : lenS u ≤ capS u := by rw [e1]; have := h.ok; rw [e1] at this; exact this.1
  refine ⟨_, ?_, e2, ?_⟩
  · rw [e1]
    simp only [pureV, bnds, Option.bind_some, cutV, Option.getD_some]
    rw [if_pos ⟨h0, h1, by omega⟩]; rfl
  · rw [blk_addO a _ _ _ _ _ (lenS u) (capS u)]
    exact (congrArg blkS e1).symm
theorem Sl.slc01 {n : Nat} {G : GH} {u : Value} {xs : List Value} (h : Sl n G u xs) {k' : IntKind} {j : Int} (h1 : 0 ≤ j) (h2 : j ≤ lenS u) : ∃ u', pureV (.slc n false true false) [u, .int k' j] = some u' ∧ Sl n G u' (xs.take (j.toNat * n)) ∧ blkS u' = blkS u := by
  obtain ⟨u', e1, e2, e3⟩ := h.slc11 (k := .i64) (k' := k') (i := 0) (j := j) (Int.le_refl _) h1 h2
  refine ⟨u', ?_, by simpa using e2, e3⟩
  rw [← e1]
  obtain ⟨a, cap, f1, _⟩ := h.slice
  rw [f1]; rfl
theorem Sl.slc10 {n : Nat} {G : GH} {u : Value} {xs : List Value} (h : Sl n G u xs) {k : IntKind} {i : Int} (h0 : 0 ≤ i) (h1 : i ≤ lenS u) : ∃ u', pureV (.slc n true false false) [u, .int k i] = some u' ∧ Sl n G u' (xs.drop (i.toNat * n)) ∧ blkS u' = blkS u := by
  obtain ⟨u', e1, e2, e3⟩ := h.slc11 (k := k) (k' := .i64) (i := i) (j := lenS u) h0 h1 (Int.le_refl _)
  refine ⟨u', ?_, ?_, e3⟩
  · rw [← e1]
    obtain ⟨a, cap, f1, _⟩ := h.slice
    rw [f1]; rfl
  · rw [List.take_of_length_le] at e2
    · exact e2
    · rw [List.length_drop, h.len, Int.toNat_natCast, Nat.sub_mul]; omega
/-- What a pointer reads. -/
def PtR (G : GH) (p : Value) (n : Nat) (g : Bool) (v : Value) : Prop := ∃ b q cs e fr, p = .pointer (some ⟨b, q, none⟩) ∧ G b = some (.cells cs e fr) ∧ takeV g cs q n = some v
theorem extract_get {cs : Array Value} {q m j : Nat} (h : q + m ≤ cs.size) (hj : j < m) : (cs.extract q (q + m)).toList[j]? = cs[q + j]? := by
  simp only [Array.toList_extract, List.extract_eq_take_drop, List.getElem?_take, List.getElem?_drop]
  rw [if_pos (by omega)]; simp
theorem Sl.idx {G : GH} {u : Value} {xs : List Value} (h : Sl 1 G u xs) {k : IntKind} {j : Int} (h0 : 0 ≤ j) (h1 : j < xs.length) : ∃ p, pureV (.iptrS 1) [u, .int k j] = some p ∧ ∀ v, xs[j.toNat]? = some v → PtR G p 1 false v := by
  obtain ⟨hr, ho⟩ := h
  have hl := Sl.len ⟨hr, ho⟩
  cases u with
  | slice a len cap =>
    simp only [lenS, Nat.mul_one] at hl
    cases a with
    | none =>
      cases len with
      | zero => cases hr; simp at h1; omega
      | succ k => cases hr
    | some x =>
      obtain ⟨b, q, sp⟩ := x
      cases sp with
      | some _ =>
        cases len with
        | zero => cases hr; simp at h1; omega
        | succ k => cases hr
      | none =>
        refine ⟨.pointer (some ⟨b, q + j.toNat * 1, none⟩), ?_, fun v hv => ?_⟩
        · simp only [pureV]; rw [if_pos ⟨h0, by omega⟩]
        · rcases rd_some hr with ⟨h2, rfl⟩ | ⟨h2, cs, e, fr, hG, hs, rfl⟩
          · simp at h1; omega
          · refine ⟨b, q + j.toNat * 1, cs, e, fr, rfl, hG, ?_⟩
            rw [extract_get hs (by omega)] at hv
            show cs[q + j.toNat * 1]? = _
            rw [Nat.mul_one]; exact hv
  | _ => exact ho.elim
theorem By.idx {G : GH} {u : Value} {bs : List UInt8} (h : By G u bs) {k : IntKind} {j : Int} (h0 : 0 ≤ j) (h1 : j < bs.length) : ∃ p, pureV (.iptrS 1) [u, .int k j] = some p ∧ PtR G p 1 false (bv (bs.getD j.toNat 0)) := by
  obtain ⟨p, h2, h3⟩ := Sl.idx h (k := k) h0 (by simpa using h1)
  refine ⟨p, h2, h3 _ ?_⟩
  rw [List.getElem?_map, List.getElem?_eq_getElem (by omega)]
  simp [List.getD_eq_getElem?_getD, List.getElem?_eq_getElem (show j.toNat < bs.length by omega)]
/-- Elements of more cells: whole. -/
theorem Sl.idxA {n : Nat} {G : GH} {u : Value} {xs : List Value} (h : Sl n G u xs) {k : IntKind} {j : Int} (h0 : 0 ≤ j) (h1 : j < lenS u) (hn : n ≠ 0) : ∃ b q cs e fr, pureV (.iptrS n) [u, .int k j] = some (.pointer (some ⟨b, q, none⟩)) ∧ G b = some (.cells cs e fr) ∧ q + n ≤ cs.size ∧ (cs.extract q (q + n)).toList = (xs.drop (j.toNat * n)).take n := by
  obtain ⟨hr, ho⟩ := h
  cases u with
  | slice a len cap =>
    simp only [lenS] at h1
    cases a with
    | none =>
      cases len with
      | zero => omega
      | succ k => cases hr
    | some x =>
      obtain ⟨b, q, sp⟩ := x
      cases sp with
      | some _ =>
        cases len with
        | zero => omega
        | succ k => cases hr
      | none =>
        have hjn : j.toNat * n + n ≤ len * n := by
          have : (j.toNat + 1) * n ≤ len * n := Nat.mul_le_mul_right n (by omega)
          rw [Nat.add_mul] at this; omega
        rcases rd_some hr with ⟨h2, rfl⟩ | ⟨h2, cs, e, fr, hG, hs, rfl⟩
        · omega
        · refine ⟨b, q + j.toNat * n, cs, e, fr, ?_, hG, by omega, ?_⟩
          · simp only [pureV]; rw [if_pos ⟨h0, by omega⟩]
          · apply List.ext_getElem?
            intro i
            simp only [Array.toList_extract, List.extract_eq_take_drop, List.getElem?_take, List.getElem?_drop]
            by_cases hi : i < n
            · rw [if_pos (by omega), if_pos hi, if_pos (by omega)]; congr 1; omega
            · rw [if_neg (by omega), if_neg hi]
  | _ => exact ho.elim
theorem GH.trans_put {G0 G : GH} {b : Nat} {o : Obj} (h : G0.le G) (hb : G b = none) : G0.le (G.put b o) := GH.le_trans h (GH.le_put o hb)
/-! ### Slices that are one's own -/
/-- A slice over block b, with what lies in its room behind. -/
def OwnB (n : Nat) (G : GH) (b : Nat) (u : Value) (xs sp : List Value) : Prop :=
  ∃ q len cap cs e fr, u = .slice (some ⟨b, q, none⟩) len cap ∧ G b = some (.cells cs e fr) ∧ len ≤ cap ∧ cap ≤ 9223372036854775807 ∧ q + cap * n ≤ cs.size ∧ (fr.2 ≤ q ∨ q + cap * n ≤ fr.1) ∧ (cs.extract q (q + cap * n)).toList = xs ++ sp ∧ xs.length = len * n
/-- What G0 doesn't know of. -/
def Own (n : Nat) (G0 G : GH) (u : Value) (xs : List Value) : Prop := (u = .slice none 0 0 ∧ xs = []) ∨ ∃ b sp, G0 b = none ∧ OwnB n G b u xs sp
theorem OwnB.sl {n b : Nat} {G : GH} {u : Value} {xs sp : List Value} (h : OwnB n G b u xs sp) : Sl n G u xs := by
  obtain ⟨q, len, cap, cs, e, fr, rfl, hG, h1, h2, h3, h4, h5, h6⟩ := h
  have hm : len * n ≤ cap * n := Nat.mul_le_mul_right n h1
  refine ⟨?_, h1, h2⟩
  rw [rd_of hG (by omega)]
  congr 1
  have : (cs.extract q (q + len * n)).toList = ((cs.extract q (q + cap * n)).toList).take (len * n) := by
    simp only [Array.toList_extract, List.extract_eq_take_drop, List.take_take]
    congr 1; omega
  rw [this, h5, ← h6]; simp
theorem Own.sl {n : Nat} {G0 G : GH} {u : Value} {xs : List Value} (h : Own n G0 G u xs) : Sl n G u xs := by
  rcases h with ⟨rfl, rfl⟩ | ⟨b, sp, _, h⟩
  · exact Sl.nil n G
  · exact h.sl
theorem OwnB.le {n b : Nat} {G G' : GH} {u : Value} {xs sp : List Value} (h : OwnB n G b u xs sp) (hk : ∀ o, G b = some o → G' b = some o) : OwnB n G' b u xs sp := by
  obtain ⟨q, len, cap, cs, e, fr, rfl, hG, h1⟩ := h
  exact ⟨q, len, cap, cs, e, fr, rfl, hk _ hG, h1⟩
theorem Own.le {n : Nat} {G0 G G' : GH} {u : Value} {xs : List Value} (h : Own n G0 G u xs) (hl : G.le G') : Own n G0 G' u xs := by
  rcases h with h | ⟨b, sp, h0, h⟩
  · exact .inl h
  · exact .inr ⟨b, sp, h0, h.le fun o => hl b o⟩
theorem OwnB.blk {n b : Nat} {G : GH} {u : Value} {xs sp : List Value} (h : OwnB n G b u xs sp) : blkS u = some b := by
  obtain ⟨q, len, cap, cs, e, fr, rfl, _⟩ := h; rfl
theorem Own.keep {n : Nat} {G0 G G' : GH} {u : Value} {xs : List Value} (h : Own n G0 G u xs) (hk : ∀ b, blkS u = some b → ∀ o, G b = some o → G' b = some o) : Own n G0 G' u xs := by
  rcases h with h | ⟨b, sp, h0, h⟩
  · exact .inl h
  · exact .inr ⟨b, sp, h0, h.le (hk b h.blk)⟩
theorem Own.base {n : Nat} {G0 G1 G : GH} {u : Value} {xs : List Value} (h : Own n G1 G u xs) (hl : G0.le G1) : Own n G0 G u xs := by
  rcases h with h | ⟨b, sp, h0, h⟩
  · exact .inl h
  · refine .inr ⟨b, sp, ?_, h⟩
    cases e : G0 b with
    | none => rfl
    | some o => rw [hl b o e] at h0; cases h0
/-- An own slice's block isn't G0's. -/
theorem Own.blk_ne {n : Nat} {G0 G : GH} {u : Value} {xs : List Value} (h : Own n G0 G u xs) {b : Nat} {o : Obj} (hb : G0 b = some o) : blkS u ≠ some b := by
  rcases h with ⟨rfl, rfl⟩ | ⟨b', sp, h0, h⟩
  · intro h; cases h
  · rw [h.blk]; intro e; cases e; rw [hb] at h0; cases h0
theorem wr_get : ∀ (vs : List Value) (cs : Array Value) (o i : Nat), o + vs.length ≤ cs.size → (wr cs o vs)[i]? = if i < o then cs[i]? else if i < o + vs.length then vs[i - o]? else cs[i]?
  | [], cs, o, i, h => by simp [wr]; intros; omega
  | v :: vs, cs, o, i, h => by
    simp only [List.length_cons] at h ⊢
    rw [wr, wr_get vs _ _ _ (by simp; omega)]
    simp only [Array.getElem?_setIfInBounds]
    by_cases h1 : i < o
    · rw [if_pos (by omega), if_pos h1, if_neg (by omega)]
    · by_cases h2 : i = o
      · subst h2
        have hi : i < cs.size := by omega
        simp [hi]
      · rw [if_neg (by omega), if_neg h1]
        by_cases h3 : i < o + 1 + vs.length
        · rw [if_pos h3, if_pos (by omega), show i - o = (i - (o + 1)) + 1 by omega]; simp
        · rw [if_neg h3, if_neg (by omega), if_neg (by omega)]
theorem wr_extract {cs : Array Value} {q m o : Nat} {vs : List Value} (h : q + m ≤ cs.size) (ho : o + vs.length ≤ m) :
    ((wr cs (q + o) vs).extract q (q + m)).toList = ((cs.extract q (q + m)).toList).take o ++ vs ++ ((cs.extract q (q + m)).toList).drop (o + vs.length) := by
  apply List.ext_getElem?
  intro i
  have hsz : (wr cs (q + o) vs).size = cs.size := wr_size _ _ _
  have e1 : ((cs.extract q (q + m)).toList).length = m := extract_len h
  by_cases hi : i < m
  · rw [extract_get (by omega) hi, wr_get _ _ _ _ (by omega)]
    by_cases h1 : i < o
    · rw [if_pos (by omega), List.append_assoc, List.getElem?_append_left (by rw [List.length_take]; omega), List.getElem?_take, if_pos h1, extract_get h hi]
    · rw [if_neg (by omega), List.append_assoc, List.getElem?_append_right (by rw [List.length_take]; omega), List.length_take, Nat.min_eq_left (by omega)]
      by_cases h2 : i < o + vs.length
      · rw [if_pos (by omega), List.getElem?_append_left (by omega)]; congr 1; omega
      · rw [if_neg (by omega), List.getElem?_append_right (by omega), List.getElem?_drop, extract_get h (by omega)]; congr 1; omega
  · rw [List.getElem?_eq_none (by rw [extract_len (by omega)]; omega), List.getElem?_eq_none]
    simp only [List.length_append, List.length_take, List.length_drop, e1]; omega
/-- Cells of an own slice are written. -/
theorem OwnB.write {n b : Nat} {G : GH} {u : Value} {xs sp : List Value} (h : OwnB n G b u xs sp) : ∃ q len cap cs e fr, u = .slice (some ⟨b, q, none⟩) len cap ∧ G b = some (.cells cs e fr) ∧ q + cap * n ≤ cs.size ∧ (fr.2 ≤ q ∨ q + cap * n ≤ fr.1) ∧ xs.length = len * n ∧ (xs ++ sp).length = cap * n ∧ len ≤ cap ∧ cap ≤ 9223372036854775807 ∧
    ∀ o vs, o + vs.length ≤ cap * n → ∀ len' xs' sp', len' ≤ cap → xs'.length = len' * n → xs' ++ sp' = (xs ++ sp).take o ++ vs ++ (xs ++ sp).drop (o + vs.length) → OwnB n (G.put b (.cells (wr cs (q + o) vs) e fr)) b (.slice (some ⟨b, q, none⟩) len' cap) xs' sp' := by
  obtain ⟨q, len, cap, cs, e, fr, rfl, hG, h1, h2, h3, h4, h5, h6⟩ := h
  refine ⟨q, len, cap, cs, e, fr, rfl, hG, h3, h4, h6, by rw [← h5]; exact extract_len h3, h1, h2, ?_⟩
  intro o vs ho len' xs' sp' hl hx he
  refine ⟨q, len', cap, wr cs (q + o) vs, e, fr, rfl, GH.put_same _ _ _, hl, h2, by rw [wr_size]; exact h3, h4, ?_, hx⟩
  rw [wr_extract h3 ho, h5, he]
theorem zeroCells_size (z : Array Value) (n : Nat) : (Builtin.zeroCells z n).size = n * z.size := by simp [Builtin.zeroCells]
/-- A new block. -/
theorem OwnB.fresh {n b len cap : Nat} {G : GH} {e : TypeId} {xs sp : List Value} (h1 : xs.length = len * n) (h2 : (xs ++ sp).length = cap * n) (h3 : len ≤ cap) (h4 : cap ≤ 9223372036854775807) {cs : Array Value} (hc : cs.toList = xs ++ sp) : OwnB n (G.put b (.cells cs e)) b (.slice (some ⟨b, 0, none⟩) len cap) xs sp := by
  have hs : cs.size = cap * n := by rw [← h2, ← hc]; simp
  refine ⟨0, len, cap, cs, e, (0, 0), rfl, GH.put_same _ _ _, h3, h4, by omega, .inl (by simp), ?_, h1⟩
  rw [← hc, Nat.zero_add, ← hs]; simp
section
variable {P : Program} {E : Env} {K : St → Prop} {r : List Stp} {dd : Option Nat} {L : SL} {A : AL} {G : GH}
theorem o_hloadP {d n : Nat} {g : Bool} {x : Operand} {p v : Value} (hx : evo L x = some p) (hp : PtR G p n g v) (h : vops P E r K (S (.set d v L) A G)) : vops P E (⟨none, dd, .hload d n g x⟩ :: r) K (S L A G) := by
  obtain ⟨b, q, cs, e, fr, rfl, hG, ht⟩ := hp
  exact o_hload hx hG ht h
theorem o_b2sB {d : Nat} {x : Operand} {u : Value} {bs : List UInt8} (hx : evo L x = some u) (hb : By G u bs) (h : vops P E r K (S (.set d (.string (strB bs)) L) A G)) : vops P E (⟨none, dd, .b2s d x⟩ :: r) K (S L A G) := by
  have e : strOfNums (bs.map fun b => (b.toNat : Int)) = strB bs := by
    simp only [strOfNums, strB, List.map_map]
    congr 2
    rw [List.map_congr_left (g := id)]
    · simp
    · intro b _; simp
  refine o_b2s (xs := bs.map fun b => (b.toNat : Int)) hx ?_ ?_
  · rw [hb.rd, List.map_map]; rfl
  · rw [e]; exact h
theorem o_lenB {d : Nat} {x : Operand} {u : Value} {bs : List UInt8} (hx : evo L x = some u) (hb : By G u bs) (h : vops P E r K (S (.set d (.int .i64 bs.length) L) A G)) : vops P E (⟨none, dd, .pure d .lenL [x]⟩ :: r) K (S L A G) :=
  o_pure (vs := [u]) (by simp only [evs, hx]) (By.lenL hb) h
theorem o_lenS {d n : Nat} {x : Operand} {u : Value} {xs : List Value} (hx : evo L x = some u) (hb : Sl n G u xs) (h : vops P E r K (S (.set d (.int .i64 (lenS u)) L) A G)) : vops P E (⟨none, dd, .pure d .lenL [x]⟩ :: r) K (S L A G) :=
  o_pure (vs := [u]) (by simp only [evs, hx]) (Sl.lenL hb) h
theorem o_idxB {d : Nat} {x y : Operand} {u : Value} {k : IntKind} {j : Int} {bs : List UInt8} (hx : evo L x = some u) (hb : By G u bs) (hy : evo L y = some (.int k j)) (h0 : 0 ≤ j) (h1 : j < bs.length) (h : ∀ p, PtR G p 1 false (bv (bs.getD j.toNat 0)) → vops P E r K (S (.set d p L) A G)) : vops P E (⟨none, dd, .pure d (.iptrS 1) [x, y]⟩ :: r) K (S L A G) := by
  obtain ⟨p, hp, hr⟩ := By.idx hb (k := k) h0 h1
  exact o_pure (vs := [u, .int k j]) (by simp only [evs, hx, hy]) hp (h p hr)
theorem o_slcB {d : Nat} {x y z : Operand} {u : Value} {k k' : IntKind} {i j : Int} {bs : List UInt8} (hx : evo L x = some u) (hb : By G u bs) (hy : evo L y = some (.int k i)) (hz : evo L z = some (.int k' j)) (h0 : 0 ≤ i) (h1 : i ≤ j) (h2 : j ≤ bs.length) (h : ∀ u', By G u' ((bs.drop i.toNat).take (j.toNat - i.toNat)) → blkS u' = blkS u → vops P E r K (S (.set d u' L) A G)) : vops P E (⟨none, dd, .pure d (.slc 1 true true false) [x, y, z]⟩ :: r) K (S L A G) := by
  obtain ⟨u', e1, e2, e3⟩ := Sl.slc11 hb (k := k) (k' := k') h0 h1 (by rw [By.len hb]; exact h2)
  refine o_pure (vs := [u, .int k i, .int k' j]) (by simp only [evs, hx, hy, hz]) e1 (h u' ?_ e3)
  unfold By
  simpa only [List.map_take, List.map_drop, Nat.mul_one] using e2
theorem o_slcB01 {d : Nat} {x z : Operand} {u : Value} {k' : IntKind} {j : Int} {bs : List UInt8} (hx : evo L x = some u) (hb : By G u bs) (hz : evo L z = some (.int k' j)) (h1 : 0 ≤ j) (h2 : j ≤ bs.length) (h : ∀ u', By G u' (bs.take j.toNat) → blkS u' = blkS u → vops P E r K (S (.set d u' L) A G)) : vops P E (⟨none, dd, .pure d (.slc 1 false true false) [x, z]⟩ :: r) K (S L A G) := by
  obtain ⟨u', e1, e2, e3⟩ := Sl.slc01 hb (k' := k') h1 (by rw [By.len hb]; exact h2)
  refine o_pure (vs := [u, .int k' j]) (by simp only [evs, hx, hz]) e1 (h u' ?_ e3)
  unfold By
  simpa only [List.map_take, List.map_drop, Nat.mul_one] using e2
theorem o_slcB10 {d : Nat} {x y : Operand} {u : Value} {k : IntKind} {i : Int} {bs : List UInt8} (hx : evo L x = some u) (hb : By G u bs) (hy : evo L y = some (.int k i)) (h0 : 0 ≤ i) (h1 : i ≤ bs.length) (h : ∀ u', By G u' (bs.drop i.toNat) → blkS u' = blkS u → vops P E r K (S (.set d u' L) A G)) : vops P E (⟨none, dd, .pure d (.slc 1 true false false) [x, y]⟩ :: r) K (S L A G) := by
  obtain ⟨u', e1, e2, e3⟩ := Sl.slc10 hb (k := k) h0 (by rw [By.len hb]; exact h1)
  refine o_pure (vs := [u, .int k i]) (by simp only [evs, hx, hy]) e1 (h u' ?_ e3)
  unfold By
  simpa only [List.map_take, List.map_drop, Nat.mul_one] using e2
theorem o_saddB {d : Nat} {x y : Operand} {a b : List UInt8} (hx : evo L x = some (.string (strB a))) (hy : evo L y = some (.string (strB b))) (hl : a.length + b.length ≤ 9223372036854775807) (h : vops P E r K (S (.set d (.string (strB (a ++ b))) L) A G)) : vops P E (⟨none, dd, .pure d (.bin .add) [x, y]⟩ :: r) K (S L A G) := by
  refine o_pure (vs := [.string (strB a), .string (strB b)]) (by simp only [evs, hx, hy]) ?_ h
  show (if (((strB a).size + (strB b).size : Nat) : Int) > IntKind.i64.max then none else some (Value.string (strB a ++ strB b))) = _
  have hm : IntKind.i64.max = 9223372036854775807 := by decide
  rw [if_neg (by rw [strB_size, strB_size, hm]; omega), strB_append]
theorem o_idxS {d : Nat} {x y : Operand} {u v : Value} {k : IntKind} {j : Int} {xs : List Value} (hx : evo L x = some u) (hb : Sl 1 G u xs) (hy : evo L y = some (.int k j)) (h0 : 0 ≤ j) (hv : xs[j.toNat]? = some v) (h : ∀ p, PtR G p 1 false v → vops P E r K (S (.set d p L) A G)) : vops P E (⟨none, dd, .pure d (.iptrS 1) [x, y]⟩ :: r) K (S L A G) := by
  have hl := (List.getElem?_eq_some_iff.1 hv).1
  obtain ⟨p, hp, hr⟩ := Sl.idx hb (k := k) h0 (by omega)
  exact o_pure (vs := [u, .int k j]) (by simp only [evs, hx, hy]) hp (h p (hr v hv))
/-- A slice that is built. -/
theorem o_bsliceO {d : Nat} {e : TypeId} {len : Nat} {cells : Array Value} {parts : List (Nat × Nat)} {xs : List Operand} {vs : List Value} (hx : evs L xs = some vs) (hn : vs.length = len) (h1 : cells1 vs = true) (hz : cells.size = len) (hp : parts = (List.range' 0 len).map fun i => (i, 1)) (hl : Nat.ble len 9223372036854775807 = true)
    (h : ∀ u G', G.le G' → Own 1 G G' u vs → lenS u = len → vops P E r K (S (.set d u L) A G')) : vops P E (⟨none, dd, .bslice d e len cells parts xs⟩ :: r) K (S L A G) := by
  subst hn
  refine o_bslice (cs := vs.toArray) hx ?_ fun b hb => h _ _ (GH.le_put _ hb) (.inr ⟨b, [], hb, OwnB.fresh (by simp) (by simp) (Nat.le_refl _) (Nat.le_of_ble_eq_true hl) (by simp)⟩) rfl
  rw [hp, fill_all vs 0 cells h1 (by omega)]; simp
/-- The same, of bytes. -/
theorem o_bsliceB {d : Nat} {e : TypeId} {len : Nat} {cells : Array Value} {parts : List (Nat × Nat)} {xs : List Operand} {vs : List Value} (bs : List UInt8) (hx : evs L xs = some vs) (hv : vs = bs.map bv) (hn : bs.length = len) (hz : cells.size = len) (hp : parts = (List.range' 0 len).map fun i => (i, 1)) (hl : Nat.ble len 9223372036854775807 = true)
    (h : ∀ u G', G.le G' → Own 1 G G' u (bs.map bv) → lenS u = len → vops P E r K (S (.set d u L) A G')) : vops P E (⟨none, dd, .bslice d e len cells parts xs⟩ :: r) K (S L A G) := by
  subst hv
  refine o_bsliceO hx (by simpa using hn) ?_ hz hp hl h
  simp [cells1, Value.oneCell']
/-- An append to what is one's own. -/
theorem o_appendO {n bytes d : Nat} {e : TypeId} {zero : Array Value} {x y : Operand} {u v : Value} {xs es : List Value} {G0 : GH} (hx : evo L x = some u) (hy : evo L y = some v) (hu : Own n G0 G u xs) (hv : Sl n G v es) (h1 : cells1 es = true) (hz : zero.size = n) (hG : G0.le G)
    (hs : fitB ((lenS u + lenS v) * bytes) bytes ∧ lenS u + lenS v ≤ 9223372036854775807)
    (h : ∀ u' G', G0.le G' → Own n G0 G' u' (xs ++ es) → lenS u' = lenS u + lenS v → (∀ b, blkS u ≠ some b → ∀ o, G b = some o → G' b = some o) → (blkS u' = blkS u ∨ ∃ b, blkS u' = some b ∧ G b = none) → vops P E r K (S (.set d u' L) A G')) :
    vops P E (⟨none, dd, .append d e n bytes zero x y⟩ :: r) K (S L A G) := by
  obtain ⟨a, cap, e1, e2, e3, e4, e5⟩ := hu.sl.slice
  obtain ⟨a', cap', f1, f2, f3, f4, f5⟩ := hv.slice
  rw [e1] at hx; rw [f1] at hy
  refine o_append (es := es) hx hy (by rw [← f1]; exact hv.rd) hs (fun hc => ?_) (fun hc => ?_)
  · rcases hu with ⟨hu1, hu2⟩ | ⟨b, sp, h0, hb⟩
    · rw [hu1] at e1
      cases e1
      have z : lenS v = 0 := by rw [hu1] at hc; simp [lenS] at hc; exact hc
      have : es = [] := List.eq_nil_of_length_eq_zero (by rw [f4, z]; simp)
      refine ⟨this, ?_⟩
      subst hu1
      have := h (.slice none 0 0) G hG (.inl ⟨rfl, by rw [hu2, this]; rfl⟩) (by rw [z]; rfl) (fun b _ o ho => ho) (.inl rfl)
      have z0 : lenS (Value.slice none 0 0) = 0 := rfl
      rw [z, z0]; exact this
    · obtain ⟨q, len, cap, cs, e', fr, hu1, hG1, h3, h4, h5, h6, h7, h8, hw⟩ := hb.write
      have hu1' := hu1
      rw [e1] at hu1
      obtain ⟨rfl, e7, rfl⟩ := Value.slice.inj hu1
      have hm : (lenS u + lenS v) * n ≤ cap * n := Nat.mul_le_mul_right n hc
      rw [Nat.add_mul] at hm
      refine ⟨rfl, cs, e', fr, hG1, ⟨by rw [Nat.add_mul]; omega, h1, ?_⟩, ?_⟩
      · rw [Nat.add_mul]
        rcases h4 with h4 | h4
        · left; omega
        · right; omega
      · have hxl : (xs ++ sp).length = cap * n := h6
        have hsp : es.length ≤ sp.length := by rw [List.length_append] at hxl; omega
        refine h _ _ (GH.le_put_of _ hG h0) (.inr ⟨b, sp.drop es.length, h0, hw (lenS u * n) es (by omega) (lenS u + lenS v) (xs ++ es) (sp.drop es.length) hc (by rw [List.length_append, Nat.add_mul]; omega) ?_⟩) rfl ?_ (.inl (by rw [e1]; rfl))
        · rw [← e4, List.take_left, ← List.drop_drop, List.drop_left]
        · intro j hj o ho
          have : j ≠ b := fun e => hj (by rw [hb.blk, e])
          rw [GH.put_ne _ _ this]; exact ho
  · refine ⟨xs, by rw [← e1]; exact hu.sl.rd, fun b c hb hlc hc2 => ?_⟩
    have hfresh : G0 b = none := by
      cases e0 : G0 b with
      | none => rfl
      | some o => rw [hG b o e0] at hb; cases hb
    have hzs : (Builtin.zeroCells zero (c - (lenS u + lenS v))).size = (c - (lenS u + lenS v)) * n := by rw [zeroCells_size, hz]
    refine h _ _ (GH.trans_put hG hb) (.inr ⟨b, (Builtin.zeroCells zero (c - (lenS u + lenS v))).toList, hfresh, ?_⟩) rfl ?_ (.inr ⟨b, rfl, hb⟩)
    · refine OwnB.fresh (by rw [List.length_append, Nat.add_mul]; omega) ?_ hlc hc2 (by simp)
      simp only [List.length_append, Array.length_toList, hzs, Nat.sub_mul, Nat.add_mul]
      have : (lenS u + lenS v) * n ≤ c * n := Nat.mul_le_mul_right n hlc
      rw [Nat.add_mul] at this; omega
    · intro j _ o ho
      have : j ≠ b := fun e => by subst e; rw [hb] at ho; cases ho
      rw [GH.put_ne _ _ this]; exact ho
theorem cells1_bytes (bs : List UInt8) : cells1 (bs.map bv) = true := by simp [cells1, Value.oneCell']
end
end Go.Proofs.Ytbmhdmkmnhaffaa.V
end
section
/- Library V, part J: what the readings of a row's arguments say. No program here. -/
set_option linter.unusedVariables false
set_option linter.unusedSimpArgs false
namespace Go.Proofs.Ytbmhdmkmnhaffaa.V
open Go.ChangeShapes Go.WideShapes Go.ChangeAt Go.RowKit
section
variable {H : Type} {enc : TypeId × Value → H} {P : Program} {w : World}
/-- Cells of a type that read as d. -/
def Td (enc : TypeId × Value → H) (P : Program) (w : World) (t : TypeId) (cs : List Value) (d : DataW H) : Prop := ∃ fuel ps, DataW.trod enc P w 0 (fun _ => true) true fuel t cs = some (d, ps)
theorem Td.of {t : TypeId} {v : Value} {d : DataW H} {ps : List MemPlace} (h : DataW.Trod enc P w 0 (fun _ => true) true t v d ps) : Td enc P w t v.cells.toList d := by
  obtain ⟨fuel, h⟩ := h; exact ⟨fuel, ps, h⟩
variable {t e : TypeId} {cs : List Value} {d : DataW H}
theorem Td.int {k : IntKind} (ht : P.underlying t = some (.int k)) (h : Td enc P w t cs d) : ∃ n, cs = [.int k n] ∧ d = .lit (.int k n) ∧ (Lit.int k n).wf = true := by
  obtain ⟨fuel, ps, h⟩ := h
  cases fuel with
  | zero => cases h
  | succ fuel =>
    unfold DataW.trod at h
    simp only [ht] at h
    split at h <;> (try (exfalso; simp_all only [Option.some.injEq, reduceCtorEq]; done))
    · rename_i heq
      cases heq
      obtain ⟨⟨rfl, hw⟩, h⟩ := Option.ite_none_right_eq_some.1 h
      cases h
      exact ⟨_, rfl, rfl, hw⟩
    all_goals simp_all
theorem Td.bool (ht : P.underlying t = some .bool) (h : Td enc P w t cs d) : ∃ b, cs = [.bool b] ∧ d = .lit (.bool b) := by
  obtain ⟨fuel, ps, h⟩ := h
  cases fuel with
  | zero => cases h
  | succ fuel =>
    unfold DataW.trod at h
    simp only [ht] at h
    split at h <;> (try (exfalso; simp_all only [Option.some.injEq, reduceCtorEq]; done))
    · cases h; exact ⟨_, rfl, rfl⟩
    all_goals simp_all
theorem Td.str (ht : P.underlying t = some .string) (h : Td enc P w t cs d) : ∃ s : ByteArray, cs = [.string s] ∧ d = .lit (.string s.data.toList) ∧ s.size ≤ maxLen := by
  obtain ⟨fuel, ps, h⟩ := h
  cases fuel with
  | zero => cases h
  | succ fuel =>
    unfold DataW.trod at h
    simp only [ht] at h
    split at h <;> (try (exfalso; simp_all only [Option.some.injEq, reduceCtorEq]; done))
    · obtain ⟨hw, h⟩ := Option.ite_none_right_eq_some.1 h
      cases h
      exact ⟨_, rfl, rfl, hw⟩
    all_goals simp_all
theorem mapM_some {α β : Type} {f : α → Option β} : ∀ {l : List α} {r : List β}, l.mapM f = some r → r.length = l.length ∧ ∀ (i : Nat) (x : α), l[i]? = some x → ∃ y, r[i]? = some y ∧ f x = some y
  | [], r, h => by simp at h; subst h; simp
  | a :: l, r, h => by
    rw [List.mapM_cons] at h
    cases h1 : f a with
    | none => rw [h1] at h; cases h
    | some b =>
      rw [h1] at h
      cases h2 : l.mapM f with
      | none => rw [h2] at h; cases h
      | some r' =>
        rw [h2] at h; cases h
        obtain ⟨h3, h4⟩ := mapM_some h2
        refine ⟨by simp [h3], fun i x hx => ?_⟩
        cases i with
        | zero => simp at hx; subst hx; exact ⟨b, rfl, h1⟩
        | succ i => simpa using h4 i x (by simpa using hx)
theorem mapM_range {β : Type} {f : Nat → Option β} {n : Nat} {r : List β} (h : (List.range n).mapM f = some r) : r.length = n ∧ ∀ i, i < n → ∃ y, r[i]? = some y ∧ f i = some y := by
  obtain ⟨h1, h2⟩ := mapM_some h
  refine ⟨by simpa using h1, fun i hi => h2 i i (by simp [hi])⟩
/-- Cells in a row are in the block. -/
theorem cells_some {a : Addr} {n : Nat} {r : List Value} (h : w.cells? 0 a n = some r) : r.length = n ∧ (n ≠ 0 → a.spot = none ∧ ∃ cs e fr, w.heap[a.block]? = some (.cells cs e fr) ∧ a.off + n ≤ cs.size ∧ r = (cs.extract a.off (a.off + n)).toList) := by
  simp only [World.cells?, Nat.zero_le, if_true] at h
  obtain ⟨h1, h2⟩ := mapM_range h
  refine ⟨h1, fun hn => ?_⟩
  have key : ∀ i, i < n → ∃ y cs e fr, r[i]? = some y ∧ w.heap[a.block]? = some (.cells cs e fr) ∧ a.spot.isSome = (if i = 0 then a.spot.isSome else a.spot.isSome) ∧ cs[a.off + i]? = some y ∧ (i = 0 → a.spot = none) := by
    intro i hi
    obtain ⟨y, hy, hc⟩ := h2 i hi
    simp only [World.cell?] at hc
    have hb : (a.add i).block = a.block := by simp only [Addr.add]; split <;> rfl
    have ho : (a.add i).off = a.off + i := by
      simp only [Addr.add]; split
      · rename_i h0; subst h0; rfl
      · rfl
    rw [hb, ho] at hc
    split at hc
    · rename_i cs e fr hcs
      refine ⟨y, cs, e, fr, hy, hcs, by simp, ?_, ?_⟩
      · split at hc
        · cases hc
        · exact hc
      · intro h0; subst h0
        split at hc
        · cases hc
        · rename_i hs
          simp only [Addr.add, if_true] at hs
          cases hsp : a.spot with
          | none => rfl
          | some _ => rw [hsp] at hs; simp at hs
    · cases hc
  obtain ⟨_, cs, e, fr, _, hcs, _, _, hsp⟩ := key 0 (by omega)
  refine ⟨hsp rfl, cs, e, fr, hcs, ?_, ?_⟩
  · obtain ⟨y, cs', e', fr', _, hcs', _, hl, _⟩ := key (n - 1) (by omega)
    rw [hcs] at hcs'; cases hcs'
    have := (Array.getElem?_eq_some_iff.1 hl).1
    omega
  · apply List.ext_getElem?
    intro i
    by_cases hi : i < n
    · obtain ⟨y, cs', e', fr', hy, hcs', _, hl, _⟩ := key i hi
      rw [hcs] at hcs'; cases hcs'
      have hsz : a.off + n ≤ cs.size := by
        obtain ⟨y2, cs2, e2, fr2, _, hcs2, _, hl2, _⟩ := key (n - 1) (by omega)
        rw [hcs] at hcs2; cases hcs2
        have := (Array.getElem?_eq_some_iff.1 hl2).1
        omega
      rw [extract_get hsz hi, hy, hl]
    · rw [List.getElem?_eq_none (by omega)]
      rw [List.getElem?_eq_none]
      simp; omega
theorem maxLen_le : maxLen ≤ 9223372036854775807 := by decide
/-- A slice: nil, or cells that read. -/
theorem Td.slice (ht : P.underlying t = some (.slice e)) (hn : P.cellsOf e ≠ 0) (h : Td enc P w t cs d) :
    (cs = [.slice none 0 0] ∧ d = .nil) ∨ ∃ a len cap elems spare flat, cs = [.slice (some a) len cap] ∧ d = .slice elems spare ∧ elems.length = len ∧ spare.length = cap - len ∧ len ≤ cap ∧ cap ≤ 9223372036854775807 ∧ Sl (P.cellsOf e) (whole w) (.slice (some a) len cap) flat ∧ ∀ i, i < len → ∃ di, elems[i]? = some di ∧ Td enc P w e ((flat.drop (i * P.cellsOf e)).take (P.cellsOf e)) di := by
  obtain ⟨fuel, ps, h⟩ := h
  cases fuel with
  | zero => cases h
  | succ fuel =>
    unfold DataW.trod at h
    simp only [ht] at h
    split at h <;> (try (exfalso; simp_all only [Option.some.injEq, reduceCtorEq]; done))
    · cases h; exact .inl ⟨rfl, rfl⟩
    · rename_i e' a len cap heq
      cases heq
      obtain ⟨⟨_, hlc, hcm⟩, h⟩ := Option.ite_none_right_eq_some.1 h
      simp only [if_true, Option.bind_eq_some_iff, Option.map_eq_some_iff] at h
      obtain ⟨elems, he, rest, hr, h⟩ := h
      cases h
      obtain ⟨e1, e2⟩ := mapM_range he
      obtain ⟨r1, r2⟩ := mapM_range hr
      have hcm' : cap ≤ 9223372036854775807 := Nat.le_trans hcm maxLen_le
      have hadd : ∀ i, (a.add (i * P.cellsOf e)).block = a.block ∧ (a.add (i * P.cellsOf e)).off = a.off + i * P.cellsOf e ∧ (i = 0 → (a.add (i * P.cellsOf e)).spot = a.spot) := by
        intro i
        simp only [Addr.add]
        split
        · rename_i h0; rw [h0]; exact ⟨rfl, rfl, fun _ => rfl⟩
        · rename_i h0; exact ⟨rfl, rfl, fun h1 => by subst h1; simp at h0⟩
      refine .inr ⟨a, len, cap, _, _, (if len = 0 then [] else match w.heap[a.block]? with | some (.cells cs _ _) => (cs.extract a.off (a.off + len * P.cellsOf e)).toList | _ => []), rfl, rfl, by simpa using e1, by simpa using r1, hlc, hcm', ?_, ?_⟩
      · refine ⟨?_, hlc, hcm'⟩
        obtain ⟨b, q, sp⟩ := a
        by_cases h0 : len = 0
        · subst h0
          simp only [if_true]
          cases sp with
          | none => simp [V.rd]
          | some _ => rfl
        · obtain ⟨y, _, hy⟩ := e2 0 (by omega)
          obtain ⟨z, hz1, hz2⟩ := Option.bind_eq_some_iff.1 hy
          obtain ⟨c1, c2⟩ := cells_some hz1
          obtain ⟨c3, cs, e0, fr, c4, c5, c6⟩ := c2 hn
          rw [(hadd 0).2.2 rfl] at c3
          obtain rfl : sp = none := c3
          rw [(hadd 0).1] at c4
          rw [if_neg h0]
          dsimp only at c4 ⊢
          rw [c4]
          refine rd_of c4 ?_
          obtain ⟨y', _, hy'⟩ := e2 (len - 1) (by omega)
          obtain ⟨z', hz1', hz2'⟩ := Option.bind_eq_some_iff.1 hy'
          obtain ⟨d1, d2⟩ := cells_some hz1'
          obtain ⟨d3, cs', e0', fr', d4, d5, d6⟩ := d2 hn
          rw [(hadd (len - 1)).1] at d4
          rw [(hadd (len - 1)).2.1] at d5
          dsimp only at d4 d5
          rw [c4] at d4; cases d4
          have : (len - 1) * P.cellsOf e + P.cellsOf e = len * P.cellsOf e := by
            rw [← Nat.succ_mul]; congr 1; exact Nat.succ_pred h0
          exact this ▸ (Nat.add_assoc q _ _ ▸ d5)
      · intro i hi
        obtain ⟨y, hy1, hy⟩ := e2 i hi
        obtain ⟨z, hz1, hz2⟩ := Option.bind_eq_some_iff.1 hy
        obtain ⟨c1, c2⟩ := cells_some hz1
        obtain ⟨c3, cs, e0, fr, c4, c5, c6⟩ := c2 hn
        rw [(hadd i).1] at c4
        rw [(hadd i).2.1] at c5 c6
        refine ⟨y.1, by rw [List.getElem?_map, hy1]; rfl, fuel, y.2, ?_⟩
        rw [if_neg (by omega), c4]
        dsimp only
        have hin : i * P.cellsOf e + P.cellsOf e ≤ len * P.cellsOf e := by
          rw [← Nat.succ_mul]; exact Nat.mul_le_mul_right _ hi
        have : ((cs.extract a.off (a.off + len * P.cellsOf e)).toList.drop (i * P.cellsOf e)).take (P.cellsOf e) = z := by
          rw [c6]
          apply List.ext_getElem?
          intro j
          simp only [Array.toList_extract, List.extract_eq_take_drop, List.getElem?_take, List.getElem?_drop]
          by_cases hj : j < P.cellsOf e
          · rw [if_pos hj, if_pos (by omega), if_pos (by omega)]; congr 1; omega
          · rw [if_neg hj, if_neg (by omega)]
        rw [this]; exact hz2
    all_goals simp_all
theorem Td.struct {fs : Array Field} (ht : P.underlying t = some (.struct fs)) (h : Td enc P w t cs d) : cs.length = P.cellsOf t ∧ ∃ ds, d = .agg ds ∧ ds.length = fs.size ∧ ∀ (i : Nat) (f : Field), fs.toList[i]? = some f → ∃ di, ds[i]? = some di ∧ Td enc P w f.type ((cs.drop f.offset).take (P.cellsOf f.type)) di := by
  obtain ⟨fuel, ps, h⟩ := h
  cases fuel with
  | zero => cases h
  | succ fuel =>
    unfold DataW.trod at h
    simp only [ht] at h
    obtain ⟨h1, h⟩ := Option.ite_none_right_eq_some.1 h
    simp only [Option.map_eq_some_iff] at h
    obtain ⟨xs, hx, h⟩ := h
    cases h
    obtain ⟨e1, e2⟩ := mapM_some hx
    refine ⟨h1, _, rfl, by simpa using e1, fun i f hf => ?_⟩
    obtain ⟨y, hy, hd⟩ := e2 i f hf
    exact ⟨y.1, by rw [List.getElem?_map, hy]; rfl, fuel, y.2, hd⟩
theorem Td.array {n : Nat} (ht : P.underlying t = some (.array n e)) (h : Td enc P w t cs d) : cs.length = P.cellsOf t ∧ ∃ ds, d = .agg ds ∧ ds.length = n ∧ ∀ i, i < n → ∃ di, ds[i]? = some di ∧ Td enc P w e ((cs.drop (i * P.cellsOf e)).take (P.cellsOf e)) di := by
  obtain ⟨fuel, ps, h⟩ := h
  cases fuel with
  | zero => cases h
  | succ fuel =>
    unfold DataW.trod at h
    simp only [ht] at h
    obtain ⟨h1, h⟩ := Option.ite_none_right_eq_some.1 h
    simp only [Option.map_eq_some_iff] at h
    obtain ⟨xs, hx, h⟩ := h
    cases h
    obtain ⟨e1, e2⟩ := mapM_range hx
    refine ⟨h1, _, rfl, by simpa using e1, fun i hi => ?_⟩
    obtain ⟨y, hy, hd⟩ := e2 i hi
    exact ⟨y.1, by rw [List.getElem?_map, hy]; rfl, fuel, y.2, hd⟩
theorem wf_u8 {n : Int} (h : (Lit.int .u8 n).wf = true) : ∃ b : UInt8, n = (b.toNat : Int) := by
  have h2 : 0 ≤ n ∧ n ≤ 255 := by simpa [Lit.wf, IntKind.has, IntKind.min, IntKind.max, IntKind.signed, IntKind.bits] using h
  refine ⟨UInt8.ofNat n.toNat, ?_⟩
  rw [UInt8.toNat_ofNat']
  omega
theorem wf_i64 {n : Int} (h : (Lit.int .i64 n).wf = true) : -9223372036854775808 ≤ n ∧ n ≤ 9223372036854775807 := by
  simpa [Lit.wf, IntKind.has, IntKind.min, IntKind.max, IntKind.signed, IntKind.bits] using h
theorem bytes_of : ∀ (xs : List Value), (∀ i, i < xs.length → ∃ b : UInt8, xs[i]? = some (bv b)) → ∃ bs : List UInt8, xs = bs.map bv
  | [], _ => ⟨[], rfl⟩
  | x :: xs, h => by
    obtain ⟨b, hb⟩ := h 0 (by simp)
    obtain ⟨bs, hbs⟩ := bytes_of xs fun i hi => by
      obtain ⟨b, hb⟩ := h (i + 1) (by simpa using hi)
      exact ⟨b, by simpa using hb⟩
    simp at hb
    exact ⟨b :: bs, by rw [hb, hbs]; rfl⟩
/-- Bytes. -/
theorem Td.bytes (ht : P.underlying t = some (.slice e)) (he : P.underlying e = some (.int .u8)) (hn : P.cellsOf e = 1) (h : Td enc P w t cs d) : ∃ u bs, cs = [u] ∧ By (whole w) u bs ∧ ((d = .nil ∧ bs = []) ∨ ∃ elems spare, d = .slice elems spare ∧ elems.length = bs.length) := by
  rcases Td.slice ht (by rw [hn]; decide) h with ⟨rfl, rfl⟩ | ⟨a, len, cap, elems, spare, flat, rfl, rfl, h1, h2, h3, h4, h5, h6⟩
  · exact ⟨_, [], rfl, Sl.nil 1 _, .inl ⟨rfl, rfl⟩⟩
  · rw [hn] at h5 h6
    have hl : flat.length = len := by simpa [lenS] using h5.len
    obtain ⟨bs, hb⟩ := bytes_of flat fun i hi => by
      obtain ⟨di, _, hd⟩ := h6 i (by omega)
      obtain ⟨n, hc, _, hw⟩ := Td.int he hd
      obtain ⟨b, rfl⟩ := wf_u8 hw
      refine ⟨b, ?_⟩
      rw [Nat.mul_one] at hc
      have := congrArg (fun l => l[0]?) hc
      simpa [List.getElem?_take, List.getElem?_drop] using this
    subst hb
    exact ⟨_, bs, rfl, h5, .inr ⟨elems, spare, rfl, by rw [h1, ← hl]; simp⟩⟩
/-! ### Arguments -/
variable {r : Reach} {base : Nat} {v : Value} {ps : List MemPlace}
theorem top_slice (ht : P.underlying t = some (.slice e)) (hn : P.cellsOf e ≠ 0) (hv : Value.okWide P w r base t v) (h : DataW.Trod enc P w 0 (fun _ => true) true t v d ps) :
    (v = .slice none 0 0 ∧ d = .nil) ∨ ∃ elems spare flat, d = .slice elems spare ∧ elems.length = lenS v ∧ Sl (P.cellsOf e) (whole w) v flat ∧ ∀ i, i < lenS v → ∃ di, elems[i]? = some di ∧ Td enc P w e ((flat.drop (i * P.cellsOf e)).take (P.cellsOf e)) di := by
  obtain ⟨a, len, cap, rfl⟩ := okWide_slice ht hv
  rcases Td.slice ht hn (Td.of h) with ⟨h1, rfl⟩ | ⟨a', len', cap', elems, spare, flat, h1, rfl, h2, h3, h4, h5, h6, h7⟩
  · exact .inl ⟨by simpa [Value.cells] using h1, rfl⟩
  · have : a = some a' ∧ len = len' ∧ cap = cap' := by simpa [Value.cells] using h1
    obtain ⟨rfl, rfl, rfl⟩ := this
    exact .inr ⟨elems, spare, flat, rfl, h2, h6, h7⟩
theorem top_int {k : IntKind} (ht : P.underlying t = some (.int k)) (hv : Value.okWide P w r base t v) (h : DataW.Trod enc P w 0 (fun _ => true) true t v d ps) : ∃ n, v = .int k n ∧ (Lit.int k n).wf = true := by
  obtain ⟨n, h1, _, _, h2⟩ := open_int ht hv h
  exact ⟨n, h1, h2⟩
end
end Go.Proofs.Ytbmhdmkmnhaffaa.V
end
