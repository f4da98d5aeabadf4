/- Library V, part H: the steps of a proof. No program here. -/
import Derived.Test.YtdeihgcgglhhcaaPeVG
set_option linter.unusedVariables false
set_option linter.unusedSimpArgs false
namespace Go.Proofs.Ytdeihgcgglhhcaa.V
/-! ### States that are written out -/
def memN (t : Nat) : List Nat → Bool
  | [] => false
  | x :: r => bif Nat.beq x t then true else memN t r
def nthV : List Value → Nat → Option Value
  | [], _ => none
  | v :: _, 0 => some v
  | _ :: r, t + 1 => nthV r t
inductive SL where
  | any (s : Nat → Value)
  | args (l : List Value)
  | set (d : Nat) (v : Value) (r : SL)
  | kill (ts : List Nat) (r : SL)
inductive AL where
  | any (l : Nat → Array Value)
  | set (k : Nat) (v : Array Value) (r : AL)
def SL.fn : SL → Nat → Value
  | .any s => s
  | .args l => args0 l
  | .set d v r => setS r.fn d v
  | .kill ts r => fun t => bif memN t ts then undef else r.fn t
def AL.fn : AL → Nat → Array Value
  | .any s => s
  | .set d v r => setL r.fn d v
def SL.get : SL → Nat → Option Value
  | .any s, t => some (s t)
  | .args l, t => nthV l t
  | .set d v r, t => match Nat.beq t d with | true => some v | false => r.get t
  | .kill ts r, t => match memN t ts with | true => none | false => r.get t
def AL.get : AL → Nat → Option (Array Value)
  | .any s, t => some (s t)
  | .set d v r, t => match Nat.beq t d with | true => some v | false => r.get t
theorem nthV_args0 : ∀ (l : List Value) (t : Nat) {v : Value}, nthV l t = some v → args0 l t = v
  | [], _, _, h => by cases h
  | x :: _, 0, v, h => by cases h; rfl
  | _ :: r, t + 1, v, h => nthV_args0 r t h
theorem SL.get_fn : ∀ {L : SL} {t : Nat} {v : Value}, L.get t = some v → L.fn t = v
  | .any s, t, v, h => by cases h; rfl
  | .args l, t, v, h => nthV_args0 l t h
  | .set d x r, t, v, h => by
    show (bif Nat.beq t d then x else r.fn t) = v
    unfold SL.get at h
    cases e : Nat.beq t d with
    | true => rw [e] at h; cases h; rfl
    | false => rw [e] at h; exact SL.get_fn h
  | .kill ts r, t, v, h => by
    show (bif memN t ts then undef else r.fn t) = v
    unfold SL.get at h
    cases e : memN t ts with
    | true => rw [e] at h; cases h
    | false => rw [e] at h; exact SL.get_fn h
theorem AL.get_fn : ∀ {L : AL} {t : Nat} {v : Array Value}, L.get t = some v → L.fn t = v
  | .any s, t, v, h => by cases h; rfl
  | .set d x r, t, v, h => by
    show (bif Nat.beq t d then x else r.fn t) = v
    unfold AL.get at h
    cases e : Nat.beq t d with
    | true => rw [e] at h; cases h; rfl
    | false => rw [e] at h; exact AL.get_fn h
def S (L : SL) (A : AL) (G : GH) : St := ⟨L.fn, A.fn, G⟩
/-- What an operand is. -/
def evo (L : SL) : Operand → Option Value
  | .tmp t => L.get t
  | .const v => some v
  | .global g => some (.pointer (some ⟨g, 0, none⟩))
  | .func f => some (.func (.func f) #[] #[])
def evs (L : SL) : List Operand → Option (List Value)
  | [] => some []
  | x :: r => match evo L x with
    | none => none
    | some v => match evs L r with
      | none => none
      | some vs => some (v :: vs)
theorem evo_ev {L : SL} {A : AL} {G : GH} {x : Operand} {v : Value} (h : evo L x = some v) : ev (S L A G) x = v := by
  cases x with
  | tmp t => exact SL.get_fn h
  | const c => cases h; rfl
  | global g => cases h; rfl
  | func f => cases h; rfl
theorem evs_ev {L : SL} {A : AL} {G : GH} : ∀ {xs : List Operand} {vs : List Value}, evs L xs = some vs → xs.map (ev (S L A G)) = vs
  | [], vs, h => by cases h; rfl
  | x :: r, vs, h => by
    unfold evs at h
    cases e : evo L x with
    | none => rw [e] at h; cases h
    | some v =>
      rw [e] at h
      cases e2 : evs L r with
      | none => rw [e2] at h; cases h
      | some vs' =>
        rw [e2] at h; cases h
        rw [List.map_cons, evo_ev e, evs_ev e2]
/-- The slots that hold addresses of the local variable k. -/
def slotsOf : List (Nat × Nat) → Nat → Option (List Nat)
  | [], _ => some []
  | (t, j) :: r, k => match slotsOf r k with
    | none => none
    | some ts => match Nat.beq j k with | true => some (t :: ts) | false => some ts
/-- No slot stands twice. -/
def onceE : List (Nat × Nat) → Bool
  | [] => true
  | (t, _) :: r => (lookE r t).isNone && onceE r
theorem slotsOf_mem : ∀ {env : List (Nat × Nat)} {k : Nat} {ts : List Nat}, slotsOf env k = some ts → ∀ t, lookE env t = none → memN t ts = false
  | [], k, ts, h, t, _ => by cases h; rfl
  | (t0, j) :: r, k, ts, h, t, hn => by
    unfold slotsOf at h
    simp only [lookE] at hn
    have hb : Nat.beq t0 t = false := by cases e : Nat.beq t0 t with | false => rfl | true => rw [e] at hn; cases hn
    rw [hb] at hn
    cases e : slotsOf r k with
    | none => rw [e] at h; cases h
    | some ts' =>
      rw [e] at h
      have ih := slotsOf_mem e t hn
      cases e2 : Nat.beq j k with
      | true => rw [e2] at h; cases h; simp only [memN, hb, cond_false]; exact ih
      | false => rw [e2] at h; cases h; exact ih
theorem slotsOf_look : ∀ {env : List (Nat × Nat)} {k : Nat} {ts : List Nat}, onceE env = true → slotsOf env k = some ts → ∀ t, memN t ts = (lookE env t == some k)
  | [], k, ts, _, h, t => by cases h; rfl
  | (t0, j) :: r, k, ts, ho, h, t => by
    simp only [onceE, Bool.and_eq_true] at ho
    unfold slotsOf at h
    cases e : slotsOf r k with
    | none => rw [e] at h; cases h
    | some ts' =>
      rw [e] at h
      have ih := slotsOf_look ho.2 e t
      have hno := slotsOf_mem e t0 (by simpa using ho.1)
      simp only [lookE]
      cases e1 : Nat.beq t0 t with
      | true =>
        have : t0 = t := Nat.eq_of_beq_eq_true e1
        subst this
        cases e2 : Nat.beq j k with
        | true =>
          rw [e2] at h; cases h
          have : j = k := Nat.eq_of_beq_eq_true e2
          subst this
          simp only [memN, e1, cond_true]; simp
        | false =>
          rw [e2] at h; cases h
          rw [hno]; simp only [cond_true]
          have : j ≠ k := fun e3 => by subst e3; simp at e2
          simp [this]
      | false =>
        simp only [cond_false]
        rw [← ih]
        cases e2 : Nat.beq j k with
        | true => rw [e2] at h; cases h; simp only [memN, e1, cond_false]
        | false => rw [e2] at h; cases h; rfl
theorem take_set_succ : ∀ (l : List Value) (k : Nat) (v : Value), k < l.length → (l.set k v).take (k + 1) = l.take k ++ [v]
  | [], _, _, h => by simp at h
  | a :: l, 0, v, _ => by simp
  | a :: l, k + 1, v, h => by simp at h; simp [take_set_succ l k v h]
theorem ext_set (cs : Array Value) (k : Nat) (v : Value) (vs : List Value) (h : k < cs.size) : (cs.setIfInBounds k v).extract 0 (k + 1) ++ vs.toArray = cs.extract 0 k ++ (v :: vs).toArray := by
  apply Array.toList_inj.1
  simp only [Array.toList_append, Array.toList_extract, Array.toList_setIfInBounds, List.extract_eq_take_drop, List.drop_zero, Nat.sub_zero]
  rw [take_set_succ _ _ _ (by simpa using h)]
  simp
theorem cells_one {v : Value} (h : v.oneCell' = true) : v.cells = #[v] := by
  cases v <;> first | rfl | (simp [Value.oneCell'] at h)
theorem fill_all : ∀ (vs : List Value) (k : Nat) (cs : Array Value), cells1 vs = true → cs.size = k + vs.length → fillV ((List.range' k vs.length).map fun i => (i, 1)) vs cs = some (cs.extract 0 k ++ vs.toArray)
  | [], k, cs, _, h => by
    simp only [List.length_nil, List.range'_zero, List.map_nil, fillV, Nat.add_zero] at h ⊢
    congr 1; apply Array.ext
    · simp [h]
    · intro i h1 h2; simp
  | v :: vs, k, cs, h1, h => by
    simp only [cells1, List.all_cons, Bool.and_eq_true] at h1
    simp only [List.length_cons] at h
    simp only [List.length_cons, List.range'_succ, List.map_cons, fillV, cells_one h1.1]
    have e : (#[v] : Array Value).size = 1 := rfl
    rw [e, if_neg (by omega)]
    have e2 : (#[v].zipIdx.foldl (fun cs (x : Value × Nat) => cs.setIfInBounds (k + x.2) x.1) cs) = cs.setIfInBounds k v := rfl
    rw [e2, fill_all vs (k + 1) _ h1.2 (by simp; omega), ext_set _ _ _ _ (by omega)]
/-- An array that is built of all its cells. -/
theorem x_build {zero : Array Value} {parts : List (Nat × Nat)} {vs : List Value} (h1 : cells1 vs = true) (h2 : zero.size = vs.length) (h3 : parts = (List.range' 0 vs.length).map fun i => (i, 1)) : pureV (.build zero parts) vs = some (.agg vs.toArray) := by
  subst h3
  show (fillV _ vs zero).map Value.agg = _
  rw [fill_all vs 0 zero h1 (by omega)]
  simp
theorem wr_all : ∀ (vs : List Value) (k : Nat) (cs : Array Value), cs.size = k + vs.length → wr cs k vs = cs.extract 0 k ++ vs.toArray
  | [], k, cs, h => by
    simp only [wr]; apply Array.ext
    · simp; simp at h; omega
    · intro i h1 h2; simp
  | v :: vs, k, cs, h => by
    simp only [List.length_cons] at h
    rw [wr, wr_all vs (k + 1) _ (by simp; omega), ext_set _ _ _ _ (by omega)]
/-- An array that is built of some of its cells. -/
def buildL : List (Nat × Nat) → List Value → Array Value → Array Value
  | p :: ps, v :: vs, cs => buildL ps vs (cs.setIfInBounds p.1 v)
  | _, _, cs => cs
def okB : List (Nat × Nat) → List Value → Nat → Bool
  | [], [], _ => true
  | p :: ps, v :: vs, n => Nat.beq p.2 1 && v.oneCell' && Nat.blt p.1 n && okB ps vs n
  | _, _, _ => false
theorem fill_some : ∀ (parts : List (Nat × Nat)) (vs : List Value) (cs : Array Value), okB parts vs cs.size = true → fillV parts vs cs = some (buildL parts vs cs)
  | [], [], cs, _ => rfl
  | [], _ :: _, _, h => by cases h
  | _ :: _, [], _, h => by cases h
  | (o, n) :: ps, v :: vs, cs, h => by
    simp only [okB, Bool.and_eq_true] at h
    obtain ⟨⟨⟨h1, h2⟩, h3⟩, h4⟩ := h
    have hn : n = 1 := Nat.eq_of_beq_eq_true h1
    subst hn
    have ho : o < cs.size := blt_lt h3
    have e : (#[v] : Array Value).size = 1 := rfl
    simp only [fillV, cells_one h2]
    rw [e, if_neg (by omega)]
    have e2 : (#[v].zipIdx.foldl (fun cs (x : Value × Nat) => cs.setIfInBounds (o + x.2) x.1) cs) = cs.setIfInBounds o v := rfl
    rw [e2, fill_some ps vs _ (by simpa using h4)]; rfl
theorem x_buildP {zero : Array Value} {parts : List (Nat × Nat)} {vs : List Value} {cs : Array Value} (h : okB parts vs zero.size = true) (hb : buildL parts vs zero = cs) : pureV (.build zero parts) vs = some (.agg cs) := by
  subst hb
  show (fillV parts vs zero).map Value.agg = _
  rw [fill_some parts vs zero h]; rfl
section
variable {P : Program} {E : Env} {st : St} {Q : Exit → St → Prop} {K : St → Prop} {r : List Stp} {dd : Option Nat}
variable {L : SL} {A : AL} {G : GH}
theorem i_ops {l : List Stp} (h : vops P E l K st) : vops P E l K st := h
theorem i_vc {a : PC} (h : vc P E a Q st) : vc P E a Q st := h
theorem i_plan {Gs : GH} {Ls : List Nat} {a : Plan} (h : vplan P E Gs Ls K a st) : vplan P E Gs Ls K a st := h
theorem v_seq {a b : PC} (h : vc P E a (thenQ (vc P E b Q) Q) st) : vc P E (.seq a b) Q st := h
theorem v_ops {l : List Stp} (h : vops P E l (Q .normal) st) : vc P E (.ops l) Q st := h
theorem v_skip (h : Q .normal st) : vc P E .skip Q st := h
theorem v_ret (h : Q .ret st) : vc P E .ret Q st := h
theorem v_exit {i : Nat} (h : Q (.exit i) st) : vc P E (.exit i) Q st := h
theorem v_block {i : Nat} {b : PC} (h : vc P E b (blockQ i Q) st) : vc P E (.block i b) Q st := h
theorem v_cond_t {c : Operand} {a b : PC} {v : Value} (hc : evo L c = some v) (hv : v = .bool true) (h : vc P E a Q (S L A G)) : vc P E (.cond c a b) Q (S L A G) := ⟨true, (evo_ev hc).trans hv, h⟩
theorem v_cond_f {c : Operand} {a b : PC} {v : Value} (hc : evo L c = some v) (hv : v = .bool false) (h : vc P E b Q (S L A G)) : vc P E (.cond c a b) Q (S L A G) := ⟨false, (evo_ev hc).trans hv, h⟩
/-- A test parts the ways: rewrite by what it says. -/
theorem v_cond_c {c : Operand} {a b : PC} {t : Bool} (hc : evo L c = some (.bool t)) (h1 : t = true → vc P E (.cond c a b) Q (S L A G)) (h2 : t = false → vc P E (.cond c a b) Q (S L A G)) : vc P E (.cond c a b) Q (S L A G) := by
  cases t
  · exact h2 rfl
  · exact h1 rfl
/-- A loop: ghost, what the slots and the local variables hold, what is so. -/
theorem v_loop {b : PC} (I : Nat → St → Prop) (n : Nat) (h0 : I n st) (h : ∀ n st, I n st → vc P E b (thenQ (fun st' => ∃ m, m < n ∧ I m st') Q) st) : vc P E (.loop b) Q st := ⟨I, n, h0, h⟩
def hasS (s : Nat → Value) : List (Nat × Value) → Prop
  | [] => True
  | p :: r => s p.1 = p.2 ∧ hasS s r
def hasL (l : Nat → Array Value) : List (Nat × Array Value) → Prop
  | [] => True
  | p :: r => l p.1 = p.2 ∧ hasL l r
def SL.sets (s : Nat → Value) : List (Nat × Value) → SL
  | [] => .any s
  | p :: r => .set p.1 p.2 (SL.sets s r)
def AL.sets (l : Nat → Array Value) : List (Nat × Array Value) → AL
  | [] => .any l
  | p :: r => .set p.1 p.2 (AL.sets l r)
theorem setS_self {s : Nat → Value} {d : Nat} {v : Value} (h : s d = v) : setS s d v = s := by
  funext t
  by_cases e : t = d
  · subst e; rw [setS_same, h]
  · rw [setS_ne _ _ e]
theorem setL_self {s : Nat → Array Value} {d : Nat} {v : Array Value} (h : s d = v) : setL s d v = s := by
  funext t
  by_cases e : t = d
  · subst e; rw [setL_same, h]
  · rw [setL_ne _ _ e]
theorem sets_fn {s : Nat → Value} : ∀ {kv : List (Nat × Value)}, hasS s kv → (SL.sets s kv).fn = s
  | [], _ => rfl
  | p :: r, h => by
    show setS (SL.sets s r).fn p.1 p.2 = s
    rw [sets_fn h.2]; exact setS_self h.1
theorem setsL_fn {s : Nat → Array Value} : ∀ {kv : List (Nat × Array Value)}, hasL s kv → (AL.sets s kv).fn = s
  | [], _ => rfl
  | p :: r, h => by
    show setL (AL.sets s r).fn p.1 p.2 = s
    rw [setsL_fn h.2]; exact setL_self h.1
theorem st_eq {st : St} {kv : List (Nat × Value)} {la : List (Nat × Array Value)} (h1 : hasS st.s kv) (h2 : hasL st.l la) : st = S (SL.sets st.s kv) (AL.sets st.l la) st.G := by
  unfold S; rw [sets_fn h1, setsL_fn h2]
/-- A loop over ghosts of any kind. -/
theorem v_loopX {α : Type} {b : PC} (inv : α → Prop) (kv : α → List (Nat × Value)) (la : α → List (Nat × Array Value)) (GG : α → GH) (mu : α → Nat) (x0 : α) (h0 : inv x0) (hs : hasS L.fn (kv x0)) (hl : hasL A.fn (la x0)) (hG : G = GG x0)
    (h : ∀ x s l, inv x → vc P E b (thenQ (fun st' => ∃ m, m < mu x ∧ ∃ y, mu y = m ∧ inv y ∧ hasS st'.s (kv y) ∧ hasL st'.l (la y) ∧ st'.G = GG y) Q) (S (SL.sets s (kv x)) (AL.sets l (la x)) (GG x))) : vc P E (.loop b) Q (S L A G) := by
  refine v_loop (fun n st => ∃ x, mu x = n ∧ inv x ∧ hasS st.s (kv x) ∧ hasL st.l (la x) ∧ st.G = GG x) (mu x0) ⟨x0, rfl, h0, hs, hl, hG⟩ ?_
  rintro n st ⟨x, rfl, h1, h2, h3, h4⟩
  have := h x st.s st.l h1
  rw [← h4, ← st_eq h2 h3] at this
  exact this
theorem n_then {K : St → Prop} (h : K st) : thenQ K Q .normal st := h
theorem e_then {K : St → Prop} {i : Nat} (h : Q (.exit i) st) : thenQ K Q (.exit i) st := h
theorem r_then {K : St → Prop} (h : Q .ret st) : thenQ K Q .ret st := h
theorem n_block {i : Nat} (h : Q .normal st) : blockQ i Q .normal st := h
theorem r_block {i : Nat} (h : Q .ret st) : blockQ i Q .ret st := h
theorem e_block_eq {i j : Nat} (hij : Nat.beq i j = true) (h : Q .normal st) : blockQ j Q (.exit i) st := by simp only [blockQ, hij, cond_true]; exact h
theorem e_block_ne {i j : Nat} (hij : Nat.beq i j = false) (h : Q (.exit i) st) : blockQ j Q (.exit i) st := by simp only [blockQ, hij, cond_false]; exact h
def rvo (L : SL) (A : AL) : RV → Option Value
  | .slot t => L.get t
  | .loc a k n => match L.get a with
    | some (.int .u64 0) => match A.get k with
      | some cs => match Nat.ble n cs.size with
        | true => some (.agg (cs.extract 0 n))
        | false => none
      | none => none
    | _ => none
  | .heap _ _ _ => none
def rvos (L : SL) (A : AL) : List RV → Option (List Value)
  | [] => some []
  | x :: r => match rvo L A x with
    | none => none
    | some v => match rvos L A r with
      | none => none
      | some vs => some (v :: vs)
theorem rvo_ok {x : RV} {v : Value} (h : rvo L A x = some v) : rvOk (S L A G) x ∧ rvV (S L A G) x = v := by
  cases x with
  | slot t => exact ⟨trivial, SL.get_fn h⟩
  | loc a k n =>
    simp only [rvo] at h
    split at h
    · rename_i e1
      split at h
      · rename_i cs e2
        split at h
        · rename_i e3
          cases h
          have h2 : A.fn k = cs := AL.get_fn e2
          refine ⟨⟨SL.get_fn e1, ?_⟩, ?_⟩
          · show n ≤ (A.fn k).size
            rw [h2]; exact Nat.le_of_ble_eq_true e3
          · show Value.agg ((A.fn k).extract 0 n) = _
            rw [h2]
        · cases h
      · cases h
    · cases h
  | heap a n g => cases h
theorem rvos_ok : ∀ {xs : List RV} {vs : List Value}, rvos L A xs = some vs → rvsOk (S L A G) xs ∧ xs.map (rvV (S L A G)) = vs
  | [], vs, h => by cases h; exact ⟨trivial, rfl⟩
  | x :: r, vs, h => by
    unfold rvos at h
    cases e : rvo L A x with
    | none => rw [e] at h; cases h
    | some v =>
      rw [e] at h
      cases e2 : rvos L A r with
      | none => rw [e2] at h; cases h
      | some vs' =>
        rw [e2] at h; cases h
        obtain ⟨h1, h2⟩ := rvo_ok e
        obtain ⟨h3, h4⟩ := rvos_ok e2
        exact ⟨⟨h1, h3⟩, by rw [List.map_cons, h2, h4]⟩
theorem q_ret {rs : List RV} {R : Value → GH → Prop} {vs : List Value} (ho : rvos L A rs = some vs) (h : R (tupV vs) G) : endQ rs R .ret (S L A G) := by
  obtain ⟨h1, h2⟩ := rvos_ok ho
  exact ⟨h1, by rw [h2]; exact h⟩
theorem q_normal {rs : List RV} {R : Value → GH → Prop} {vs : List Value} (ho : rvos L A rs = some vs) (h : R (tupV vs) G) : endQ rs R .normal (S L A G) := by
  obtain ⟨h1, h2⟩ := rvos_ok ho
  exact ⟨h1, by rw [h2]; exact h⟩
theorem o_nil (h : K st) : vops P E [] K st := h
theorem o_mv {d : Nat} {x : Operand} {v : Value} (hx : evo L x = some v) (h : vops P E r K (S (.set d v L) A G)) : vops P E (⟨none, dd, .pure d .mv [x]⟩ :: r) K (S L A G) :=
  ⟨v, by rw [List.map_cons, List.map_nil, evo_ev hx]; rfl, h⟩
theorem o_pure {d : Nat} {f : PF} {xs : List Operand} {vs : List Value} {v : Value} (hx : evs L xs = some vs) (hv : pureV f vs = some v) (h : vops P E r K (S (.set d v L) A G)) : vops P E (⟨none, dd, .pure d f xs⟩ :: r) K (S L A G) := ⟨v, by rw [evs_ev hx]; exact hv, h⟩
theorem o_pick_t {d : Nat} {c x y : Operand} {b v : Value} (hc : evo L c = some b) (hb : b = .bool true) (hx : evo L x = some v) (h : vops P E r K (S (.set d v L) A G)) : vops P E (⟨none, dd, .pure d .pick [c, x, y]⟩ :: r) K (S L A G) :=
  ⟨v, by subst hb; rw [List.map_cons, List.map_cons, List.map_cons, List.map_nil, evo_ev hc, evo_ev hx]; rfl, h⟩
theorem o_pick_f {d : Nat} {c x y : Operand} {b v : Value} (hc : evo L c = some b) (hb : b = .bool false) (hy : evo L y = some v) (h : vops P E r K (S (.set d v L) A G)) : vops P E (⟨none, dd, .pure d .pick [c, x, y]⟩ :: r) K (S L A G) :=
  ⟨v, by subst hb; rw [List.map_cons, List.map_cons, List.map_cons, List.map_nil, evo_ev hc, evo_ev hy]; rfl, h⟩
theorem kill_fn {ts : List Nat} {k : Nat} (ho : onceE E.env = true) (hk : slotsOf E.env k = some ts) : (fun t => bif (lookE E.env t == some k) then undef else L.fn t) = (SL.kill ts L).fn := by
  funext t
  show _ = (bif memN t ts then undef else L.fn t)
  rw [slotsOf_look ho hk t]
theorem o_lalloc {d k : Nat} {z : Array Value} {ts : List Nat} (ho : onceE E.env = true) (hk : slotsOf E.env k = some ts) (h : vops P E r K (S (.set d (.int .u64 0) (.kill ts L)) (.set k z A) G)) : vops P E (⟨none, dd, .lalloc d k z⟩ :: r) K (S L A G) := by
  show vops P E r K ⟨setS (fun t => bif (lookE E.env t == some k) then undef else L.fn t) d (.int .u64 0), setL A.fn k z, G⟩
  rw [kill_fn ho hk]; exact h
theorem o_lbox {d k : Nat} {x : Operand} {v : Value} {z : Array Value} {ts : List Nat} (ho : onceE E.env = true) (hk : slotsOf E.env k = some ts) (hx : evo L x = some v) (hz : v.cells = z) (h : vops P E r K (S (.set d (.int .u64 0) (.kill ts L)) (.set k z A) G)) : vops P E (⟨none, dd, .lbox d k x⟩ :: r) K (S L A G) := by
  subst hz
  show vops P E r K ⟨setS (fun t => bif (lookE E.env t == some k) then undef else L.fn t) d (.int .u64 0), setL A.fn k (ev (S L A G) x).cells, G⟩
  rw [kill_fn ho hk, evo_ev hx]; exact h
theorem o_lfield {d s0 o : Nat} {p q : Int} (hp : L.get s0 = some (.int .u64 p)) (hq : p + o = q) (h : vops P E r K (S (.set d (.int .u64 q) L) A G)) : vops P E (⟨none, dd, .lfield d s0 o⟩ :: r) K (S L A G) := by subst hq; exact ⟨p, SL.get_fn hp, h⟩
theorem o_lindex {d s0 len n : Nat} {i : Operand} {p q : Int} {k : IntKind} {j : Int} (hp : L.get s0 = some (.int .u64 p)) (hi : evo L i = some (.int k j)) (hb : 0 ≤ j ∧ j < len) (hq : p + j * n = q) (h : vops P E r K (S (.set d (.int .u64 q) L) A G)) : vops P E (⟨none, dd, .lindex d s0 len n i⟩ :: r) K (S L A G) := by subst hq; exact ⟨p, k, j, SL.get_fn hp, evo_ev hi, hb, h⟩
theorem o_lload {d k s0 n : Nat} {g : Bool} {p : Int} {cs : Array Value} {v : Value} (hp : L.get s0 = some (.int .u64 p)) (hc : A.get k = some cs) (hv : takeV g cs p.toNat n = some v) (h : vops P E r K (S (.set d v L) A G)) : vops P E (⟨none, dd, .lload d k s0 n g⟩ :: r) K (S L A G) := ⟨p, v, SL.get_fn hp, by show takeV g (A.fn k) _ _ = _; rw [AL.get_fn hc]; exact hv, h⟩
theorem o_lstore {k s0 n : Nat} {x : Operand} {p : Int} {y : Value} {vs : List Value} {cs cs' : Array Value} (hp : L.get s0 = some (.int .u64 p)) (hc : A.get k = some cs) (hx : evo L x = some y) (hy : y.cells = vs.toArray) (hn : vs.length = n ∧ p.toNat + n ≤ cs.size ∧ cells1 vs = true) (hw : wr cs p.toNat vs = cs') (h : vops P E r K (S L (.set k cs' A) G)) : vops P E (⟨none, dd, .lstore k s0 n x⟩ :: r) K (S L A G) := by
  have hc' : (S L A G).l k = cs := AL.get_fn hc
  subst hw
  refine ⟨p, SL.get_fn hp, ?_, ?_⟩
  · rw [evo_ev hx, hc', hy]; exact ⟨by simpa using hn.1, hn.2.1, by simpa using hn.2.2⟩
  · rw [evo_ev hx, hc', hy]; exact h
/-- A local variable is written whole. -/
theorem o_lstoreA {k s0 n : Nat} {x : Operand} {y : Value} {vs : List Value} {cs : Array Value} (hp : L.get s0 = some (.int .u64 0)) (hc : A.get k = some cs) (hx : evo L x = some y) (hy : y.cells = vs.toArray) (hn : vs.length = n) (hs : n = cs.size) (h1 : cells1 vs = true) (h : vops P E r K (S L (.set k vs.toArray A) G)) : vops P E (⟨none, dd, .lstore k s0 n x⟩ :: r) K (S L A G) := by
  have e : wr cs (Int.toNat 0) vs = vs.toArray := by
    rw [wr_all vs (Int.toNat 0) cs (by show _ = 0 + _; omega)]
    show cs.extract 0 0 ++ _ = _
    simp
  refine o_lstore hp hc hx hy ⟨hn, by show 0 + n ≤ _; omega, h1⟩ e h
theorem o_halloc {d : Nat} {t : TypeId} {z : Array Value} (h : ∀ b, G b = none → vops P E r K (S (.set d (.pointer (some ⟨b, 0, none⟩)) L) A (G.put b (.cells z t)))) : vops P E (⟨none, dd, .halloc d t z⟩ :: r) K (S L A G) := h
theorem o_hbox {d : Nat} {t : TypeId} {x : Operand} {v : Value} {z : Array Value} (hx : evo L x = some v) (hz : v.cells = z) (h : ∀ b, G b = none → vops P E r K (S (.set d (.pointer (some ⟨b, 0, none⟩)) L) A (G.put b (.cells z t)))) : vops P E (⟨none, dd, .hbox d t x⟩ :: r) K (S L A G) := by
  subst hz
  intro b hb
  rw [evo_ev hx]; exact h b hb
theorem o_hload {d n : Nat} {g : Bool} {x : Operand} {b q : Nat} {cs : Array Value} {e : TypeId} {fr : Nat × Nat} {v : Value} (hx : evo L x = some (.pointer (some ⟨b, q, none⟩))) (hb : G b = some (.cells cs e fr)) (hv : takeV g cs q n = some v) (h : vops P E r K (S (.set d v L) A G)) : vops P E (⟨none, dd, .hload d n g x⟩ :: r) K (S L A G) := ⟨b, q, cs, e, fr, v, evo_ev hx, hb, hv, h⟩
theorem o_hstore {n : Nat} {x z : Operand} {y : Value} {b q : Nat} {cs : Array Value} {e : TypeId} {fr : Nat × Nat} {vs : List Value} (hx : evo L x = some (.pointer (some ⟨b, q, none⟩))) (hb : G b = some (.cells cs e fr)) (hz : evo L z = some y) (hy : y.cells = vs.toArray) (hn : vs.length = n ∧ q + n ≤ cs.size ∧ cells1 vs = true ∧ (fr.2 ≤ q ∨ q + n ≤ fr.1)) (h : vops P E r K (S L A (G.put b (.cells (wr cs q vs) e fr)))) : vops P E (⟨none, dd, .hstore n x z⟩ :: r) K (S L A G) := by
  refine ⟨b, q, cs, e, fr, evo_ev hx, hb, ?_, ?_⟩
  · rw [evo_ev hz, hy]; exact ⟨by simpa using hn.1, hn.2.1, by simpa using hn.2.2.1, hn.2.2.2⟩
  · rw [evo_ev hz, hy]; exact h
/-- A call by its contract. -/
theorem o_callc {d : Nat} {f : FuncId} {xs : List Operand} {vs : List Value} {R : Value → GH → Prop} (hx : evs L xs = some vs) (hc : HC P f vs.toArray G R) (h : ∀ v G', R v G' → vops P E r K (S (.set d v L) A G')) : vops P E (⟨none, dd, .call (some d) f xs⟩ :: r) K (S L A G) := by
  show HC P f (xs.map (ev (S L A G))).toArray G _
  rw [evs_ev hx]; exact hc.mono h
/-- A call of a function that only reckons. -/
theorem o_callp {d : Nat} {f : FuncId} {xs : List Operand} {vs : List Value} {F : Value} (hx : evs L xs = some vs) (hc : HC P f vs.toArray G fun v G' => v = F ∧ G' = G) (h : vops P E r K (S (.set d F L) A G)) : vops P E (⟨none, dd, .call (some d) f xs⟩ :: r) K (S L A G) :=
  o_callc hx hc fun v G' hv => by obtain ⟨rfl, rfl⟩ := hv; exact h
/-- A call of a function that reckons and leaves what was known. -/
theorem o_callg {d : Nat} {f : FuncId} {xs : List Operand} {vs : List Value} {F : Value} (hx : evs L xs = some vs) (hc : HC P f vs.toArray G fun v G' => v = F ∧ G.le G') (h : ∀ G', G.le G' → vops P E r K (S (.set d F L) A G')) : vops P E (⟨none, dd, .call (some d) f xs⟩ :: r) K (S L A G) :=
  o_callc hx hc fun v G' hv => by obtain ⟨rfl, hl⟩ := hv; exact h G' hl
theorem o_callx {d : Nat} {f : FuncId} {xs : List Operand} {vs : List Value} {v : Value} (hx : evs L xs = some vs) (hv : ∀ w : World, (callFunc f vs.toArray).run P w = .ok (.value v) w) (h : vops P E r K (S (.set d v L) A G)) : vops P E (⟨none, dd, .callx d f xs⟩ :: r) K (S L A G) :=
  ⟨v, by rw [evs_ev hx]; exact hv, h⟩
theorem o_b2s {d : Nat} {x : Operand} {y : Value} {xs : List Int} (hx : evo L x = some y) (hr : rd G 1 y = some (xs.map (Value.int .u8))) (h : vops P E r K (S (.set d (.string (strOfNums xs)) L) A G)) : vops P E (⟨none, dd, .b2s d x⟩ :: r) K (S L A G) := ⟨xs, by rw [evo_ev hx]; exact hr, h⟩
theorem o_bslice {d : Nat} {e : TypeId} {len : Nat} {cells : Array Value} {parts : List (Nat × Nat)} {xs : List Operand} {vs : List Value} {cs : Array Value} (hx : evs L xs = some vs) (hf : fillV parts vs cells = some cs) (h : ∀ b, G b = none → vops P E r K (S (.set d (.slice (some ⟨b, 0, none⟩) len len) L) A (G.put b (.cells cs e)))) : vops P E (⟨none, dd, .bslice d e len cells parts xs⟩ :: r) K (S L A G) := ⟨cs, by rw [evs_ev hx]; exact hf, h⟩
/-- An append to what has no room, or has it: both ways. -/
theorem o_append {d n bytes : Nat} {e : TypeId} {zero : Array Value} {x y : Operand} {a a' : Option Addr} {len cap len' cap' : Nat} {es : List Value} (hx : evo L x = some (.slice a len cap)) (hy : evo L y = some (.slice a' len' cap')) (hr : rd G n (.slice a' len' cap') = some es) (hs : fitB ((len + len') * bytes) bytes ∧ len + len' ≤ 9223372036854775807)
    (h1 : len + len' ≤ cap → (match a with
         | none => es = [] ∧ vops P E r K (S (.set d (.slice none (len + len') cap) L) A G)
         | some ⟨b, q, sp⟩ => sp = none ∧ ∃ cs e' fr, G b = some (.cells cs e' fr) ∧ (q + (len + len') * n ≤ cs.size ∧ cells1 es = true ∧ (fr.2 ≤ q + len * n ∨ q + (len + len') * n ≤ fr.1)) ∧ vops P E r K (S (.set d (.slice a (len + len') cap) L) A (G.put b (.cells (wr cs (q + len * n) es) e' fr)))))
    (h2 : ¬ len + len' ≤ cap → ∃ xs, rd G n (.slice a len cap) = some xs ∧ ∀ b c, G b = none → len + len' ≤ c → c ≤ 9223372036854775807 → vops P E r K (S (.set d (.slice (some ⟨b, 0, none⟩) (len + len') c) L) A (G.put b (.cells (xs.toArray ++ es.toArray ++ Builtin.zeroCells zero (c - (len + len'))) e)))) :
    vops P E (⟨none, dd, .append d e n bytes zero x y⟩ :: r) K (S L A G) := by
  refine ⟨a, len, cap, a', len', cap', es, evo_ev hx, evo_ev hy, by rw [evo_ev hy]; exact hr, hs.1, hs.2, ?_⟩
  split
  · rename_i hc
    have := h1 hc
    cases a with
    | none => exact this
    | some ad => obtain ⟨b, q, sp⟩ := ad; exact this
  · rename_i hc
    obtain ⟨xs, k1, k2⟩ := h2 hc
    exact ⟨xs, by rw [evo_ev hx]; exact k1, k2⟩
theorem o_g_t {t : Nat} {b : Bool} {p : POp} {v : Value} (hg : L.get t = some v) (hv : v = .bool b) (h : vops P E (⟨none, dd, p⟩ :: r) K (S L A G)) : vops P E (⟨some (t, b), dd, p⟩ :: r) K (S L A G) := by
  have : isB ((S L A G).s t) b = true := by rw [show (S L A G).s t = v from SL.get_fn hg, hv]; cases b <;> rfl
  simp only [vops, this, cond_true]; exact h
theorem o_g_f {t d : Nat} {p : POp} {v : Value} (hg : L.get t = some v) (hv : v = .bool false) (h : vops P E r K (S (.set d undef L) A G)) : vops P E (⟨some (t, true), some d, p⟩ :: r) K (S L A G) := by
  have : isB ((S L A G).s t) true = false := by rw [show (S L A G).s t = v from SL.get_fn hg, hv]; rfl
  simp only [vops, this, cond_false]; exact h
theorem o_g_f' {t d : Nat} {p : POp} {v : Value} (hg : L.get t = some v) (hv : v = .bool true) (h : vops P E r K (S (.set d undef L) A G)) : vops P E (⟨some (t, false), some d, p⟩ :: r) K (S L A G) := by
  have : isB ((S L A G).s t) false = false := by rw [show (S L A G).s t = v from SL.get_fn hg, hv]; rfl
  simp only [vops, this, cond_false]; exact h
theorem o_g_u {t d : Nat} {b : Bool} {p : POp} {v : Value} (hg : L.get t = some v) (hv : v = undef) (h : vops P E r K (S (.set d undef L) A G)) : vops P E (⟨some (t, b), some d, p⟩ :: r) K (S L A G) := by
  have : isB ((S L A G).s t) b = false := by rw [show (S L A G).s t = v from SL.get_fn hg, hv]; cases b <;> rfl
  simp only [vops, this, cond_false]; exact h
theorem o_g_c {t : Nat} {b c : Bool} {p : POp} (hc : L.get t = some (.bool c)) (h1 : c = true → vops P E (⟨some (t, b), dd, p⟩ :: r) K (S L A G)) (h2 : c = false → vops P E (⟨some (t, b), dd, p⟩ :: r) K (S L A G)) : vops P E (⟨some (t, b), dd, p⟩ :: r) K (S L A G) := by
  cases c
  · exact h2 rfl
  · exact h1 rfl
/-! Regions that draw -/
variable {Gs : GH} {Ls : List Nat} {i : Nat} {rest more : Plan}
/-- A way through that only takes. -/
def lin (Ls : List Nat) : Plan → Option (List Stp)
  | .done => some []
  | .take _ s rest => match takeable Ls s.p with
    | true => match lin Ls rest with
      | some l => some (s :: l)
      | none => none
    | false => none
  | _ => none
theorem pvT_of_pv {o : POp} {st : St} {K : St → Prop} (ht : takeable Ls o = true) (hG : st.G = Gs) (h : pv P E o st K) : pvT P E Gs Ls o st (fun st' => K st' ∧ st'.G = Gs) := by
  subst hG
  cases o with
  | pure d f xs => obtain ⟨v, h1, h2⟩ := h; exact ⟨v, h1, h2, rfl⟩
  | lmove d s => exact ⟨h, rfl⟩
  | lfield d s o => obtain ⟨p, h1, h2⟩ := h; exact ⟨p, h1, h2, rfl⟩
  | lindex d s len n i => obtain ⟨p, k, j, h1, h2, h3, h4⟩ := h; exact ⟨p, k, j, h1, h2, h3, h4, rfl⟩
  | hload d n g x => obtain ⟨b, q, cs, e, fr, v, h1, h2, h3, h4⟩ := h; exact ⟨b, q, cs, e, fr, v, h1, h2, h3, h4, rfl⟩
  | b2s d x => obtain ⟨xs, h1, h2⟩ := h; exact ⟨xs, h1, h2, rfl⟩
  | lload d k s n g => obtain ⟨p, v, h1, h2, h3⟩ := h; exact ⟨ht, p, v, h1, h2, h3, rfl⟩
  | _ => cases ht
theorem pvT_mono {o : POp} {st : St} {K K' : St → Prop} (hk : ∀ st, K st → K' st) (h : pvT P E Gs Ls o st K) : pvT P E Gs Ls o st K' := by
  cases o with
  | pure d f xs => obtain ⟨v, h1, h2⟩ := h; exact ⟨v, h1, hk _ h2⟩
  | lmove d s => exact hk _ h
  | lfield d s o => obtain ⟨p, h1, h2⟩ := h; exact ⟨p, h1, hk _ h2⟩
  | lindex d s len n i => obtain ⟨p, k, j, h1, h2, h3, h4⟩ := h; exact ⟨p, k, j, h1, h2, h3, hk _ h4⟩
  | hload d n g x => obtain ⟨b, q, cs, e, fr, v, h1, h2, h3, h4⟩ := h; exact ⟨b, q, cs, e, fr, v, h1, h2, h3, hk _ h4⟩
  | b2s d x => obtain ⟨xs, h1, h2⟩ := h; exact ⟨xs, h1, hk _ h2⟩
  | lload d k s n g => obtain ⟨ht, p, v, h1, h2, h3⟩ := h; exact ⟨ht, p, v, h1, h2, hk _ h3⟩
  | _ => exact h.elim
theorem lin_sound : ∀ {pl : Plan} {l : List Stp} {st : St}, lin Ls pl = some l → st.G = Gs → vops P E l K st → vplan P E Gs Ls K pl st
  | .done, l, st, h, hG, hv => by cases h; exact hv
  | .take i s rest, l, st, h, hG, hv => by
    unfold lin at h
    cases ht : takeable Ls s.p with
    | false => rw [ht] at h; cases h
    | true =>
      rw [ht] at h
      cases hl : lin Ls rest with
      | none => rw [hl] at h; cases h
      | some l' =>
        rw [hl] at h; cases h
        simp only [vplan]
        simp only [vops] at hv
        cases hg : s.g with
        | none =>
          rw [hg] at hv
          simp only [gW, cond_true]
          exact pvT_mono (fun st h => lin_sound hl h.2 h.1) (pvT_of_pv ht hG hv)
        | some x =>
          obtain ⟨t, b⟩ := x
          rw [hg] at hv
          simp only [gW]
          cases hb : isB (st.s t) b with
          | true =>
            simp only [hb, cond_true] at hv ⊢
            exact pvT_mono (fun st h => lin_sound hl h.2 h.1) (pvT_of_pv ht hG hv)
          | false =>
            simp only [hb, cond_false] at hv ⊢
            exact lin_sound hl hG hv
  | .alt _ _ _ _, l, st, h, _, _ => by cases h
  | .no, l, st, h, _, _ => by cases h
/-- A region that draws, in which all is taken: as if in one order. -/
theorem v_drawl {pl : Plan} {l : List Stp} (hl : lin Ls pl = some l) (h : vops P E l (Q .normal) (S L A G)) : vc P E (.draw Ls pl) Q (S L A G) :=
  ⟨G, GH.le_refl _, lin_sound hl rfl h⟩
/-- What is taken first. -/
def pre (Ls : List Nat) : Plan → Option (List Stp × Plan)
  | .take _ s rest => match takeable Ls s.p with
    | true => match pre Ls rest with
      | some (l, pl) => some (s :: l, pl)
      | none => none
    | false => none
  | pl => some ([], pl)
def noHeap : POp → Bool
  | .hload _ _ _ _ | .b2s _ _ => false
  | _ => true
theorem pvT_of_pvN {o : POp} {st : St} {K : St → Prop} (ht : takeable Ls o = true) (hn : noHeap o = true) (h : pv P E o st K) : pvT P E Gs Ls o st K := by
  cases o with
  | pure d f xs => exact h
  | lmove d s => exact h
  | lfield d s o => exact h
  | lindex d s len n i => exact h
  | lload d k s n g => exact ⟨ht, h⟩
  | hload d n g x => cases hn
  | b2s d x => cases hn
  | _ => cases ht
theorem pre_sound : ∀ {pl : Plan} {x : List Stp × Plan} {st : St}, pre Ls pl = some x → (st.G = Gs ∨ x.1.all (fun s => noHeap s.p) = true) → vops P E x.1 (vplan P E Gs Ls K x.2) st → vplan P E Gs Ls K pl st
  | .done, x, st, h, hG, hv => by cases h; exact hv
  | .alt _ _ _ _, x, st, h, hG, hv => by cases h; exact hv
  | .no, x, st, h, hG, hv => by cases h; exact hv
  | .take i s rest, x, st, h, hG, hv => by
    unfold pre at h
    cases ht : takeable Ls s.p with
    | false => rw [ht] at h; cases h
    | true =>
      rw [ht] at h
      cases hl : pre Ls rest with
      | none => rw [hl] at h; cases h
      | some x' =>
        obtain ⟨l', p'⟩ := x'
        rw [hl] at h; cases h
        simp only [vplan]
        simp only [vops] at hv
        have go : ∀ st', (st'.G = st.G) → vops P E l' (vplan P E Gs Ls K p') st' → vplan P E Gs Ls K rest st' := by
          intro st' hst' hv'
          refine pre_sound hl ?_ hv'
          rcases hG with hG | hG
          · exact .inl (hst'.trans hG)
          · simp only [List.all_cons, Bool.and_eq_true] at hG
            exact .inr hG.2
        have step : pv P E s.p st (vops P E l' (vplan P E Gs Ls K p')) → pvT P E Gs Ls s.p st (vplan P E Gs Ls K rest) := by
          intro hp
          rcases hG with hG | hG
          · exact pvT_mono (fun st' h => go st' (h.2.trans hG.symm) h.1) (pvT_of_pv ht hG hp)
          · simp only [List.all_cons, Bool.and_eq_true] at hG
            have := pvT_of_pvN (Gs := st.G) ht hG.1 hp
            have h2 : pvT P E Gs Ls s.p st (fun st' => vops P E l' (vplan P E Gs Ls K p') st' ∧ st'.G = st.G) := by
              have h3 := pvT_of_pv (Gs := st.G) ht rfl hp
              have hn := hG.1
              cases hs : s.p <;> rw [hs] at h3 hn ht <;> first | exact h3 | (cases hn; done) | cases ht
            exact pvT_mono (fun st' h => go st' h.2 h.1) h2
        cases hg : s.g with
        | none =>
          rw [hg] at hv
          simp only [gW, cond_true]
          exact step hv
        | some y =>
          obtain ⟨t, b⟩ := y
          rw [hg] at hv
          simp only [gW]
          cases hb : isB (st.s t) b with
          | true =>
            simp only [hb, cond_true] at hv ⊢
            exact step hv
          | false =>
            simp only [hb, cond_false] at hv ⊢
            exact go _ rfl hv
theorem p_pre {pl pl' : Plan} {s : Stp} {l : List Stp} (h : pre Ls pl = some (s :: l, pl')) (hv : vops P E (s :: l) (vplan P E G Ls K pl') (S L A G)) : vplan P E G Ls K pl (S L A G) := pre_sound h (.inl rfl) hv
theorem p_preN {pl pl' : Plan} {s : Stp} {l : List Stp} (h : pre Ls pl = some (s :: l, pl')) (hn : (s :: l).all (fun s => noHeap s.p) = true) (hv : vops P E (s :: l) (vplan P E Gs Ls K pl') (S L A G)) : vplan P E Gs Ls K pl (S L A G) := pre_sound h (.inr hn) hv
theorem p_done (h : K st) : vplan P E Gs Ls K .done st := h
theorem p_no : vplan P E Gs Ls K .no st := trivial
theorem isB_of {t : Nat} {b : Bool} {v : Value} (hg : L.get t = some v) (hv : isB v b = true) : gW (S L A G) (some (t, b)) = true := by
  show isB (L.fn t) b = true
  rw [SL.get_fn hg]; exact hv
theorem isB_not {t : Nat} {b : Bool} {v : Value} (hg : L.get t = some v) (hv : isB v b = false) : gW (S L A G) (some (t, b)) = false := by
  show isB (L.fn t) b = false
  rw [SL.get_fn hg]; exact hv
theorem isB_bool (b : Bool) : isB (.bool b) b = true := by cases b <;> rfl
theorem p_tg_c {t : Nat} {b c : Bool} {p : POp} (hc : L.get t = some (.bool c)) (h1 : c = true → vplan P E Gs Ls K (.take i ⟨some (t, b), dd, p⟩ rest) (S L A G)) (h2 : c = false → vplan P E Gs Ls K (.take i ⟨some (t, b), dd, p⟩ rest) (S L A G)) : vplan P E Gs Ls K (.take i ⟨some (t, b), dd, p⟩ rest) (S L A G) := by
  cases c
  · exact h2 rfl
  · exact h1 rfl
theorem p_ag_t {t : Nat} {b : Bool} {p : POp} {v : Value} (hg : L.get t = some v) (hv : v = .bool b) (h : vplan P E Gs Ls K (.alt i ⟨none, dd, p⟩ rest more) (S L A G)) : vplan P E Gs Ls K (.alt i ⟨some (t, b), dd, p⟩ rest more) (S L A G) := by
  have hw := isB_of (A := A) (G := G) hg (b := b) (by subst hv; exact isB_bool b)
  simp only [vplan, hw, cond_true]; simp only [vplan, gW, cond_true] at h; exact h
theorem p_ag_f {t d : Nat} {b : Bool} {p : POp} {v : Value} (hg : L.get t = some v) (hv : isB v b = false) (h : vplan P E Gs Ls K rest (S (.set d undef L) A G)) (hm : vplan P E Gs Ls K more (S L A G)) : vplan P E Gs Ls K (.alt i ⟨some (t, b), some d, p⟩ rest more) (S L A G) := by
  have hw := isB_not (A := A) (G := G) hg (b := b) hv
  simp only [vplan, hw, cond_false] at h ⊢; exact ⟨h, hm⟩
theorem p_ag_c {t : Nat} {b c : Bool} {p : POp} (hc : L.get t = some (.bool c)) (h1 : c = true → vplan P E Gs Ls K (.alt i ⟨some (t, b), dd, p⟩ rest more) (S L A G)) (h2 : c = false → vplan P E Gs Ls K (.alt i ⟨some (t, b), dd, p⟩ rest more) (S L A G)) : vplan P E Gs Ls K (.alt i ⟨some (t, b), dd, p⟩ rest more) (S L A G) := by
  cases c
  · exact h2 rfl
  · exact h1 rfl
/-- A call by its contract, in such a region: what it knew of Gs stands. -/
theorem p_callc {d : Nat} {f : FuncId} {xs : List Operand} {vs : List Value} {R : Value → GH → Prop} (hx : evs L xs = some vs) (hc : HC P f vs.toArray G R) (hG : ∀ v G', R v G' → Gs.le G') (h : ∀ v G', R v G' → vplan P E Gs Ls K rest (S (.set d v L) A G')) (hm : vplan P E Gs Ls K more (S L A G)) : vplan P E Gs Ls K (.alt i ⟨none, dd, .call (some d) f xs⟩ rest more) (S L A G) := by
  refine ⟨?_, hm⟩
  show HC P f (xs.map (ev (S L A G))).toArray G _
  rw [evs_ev hx]
  exact hc.mono fun v G' hr => ⟨⟨hG v G' hr, fun _ _ => rfl⟩, h v G' hr⟩
theorem p_callp {d : Nat} {f : FuncId} {xs : List Operand} {vs : List Value} {F : Value} (hx : evs L xs = some vs) (hc : HC P f vs.toArray G fun v G' => v = F ∧ G' = G) (hG : Gs.le G) (h : vplan P E Gs Ls K rest (S (.set d F L) A G)) (hm : vplan P E Gs Ls K more (S L A G)) : vplan P E Gs Ls K (.alt i ⟨none, dd, .call (some d) f xs⟩ rest more) (S L A G) :=
  p_callc hx hc (fun v G' hv => by obtain ⟨rfl, rfl⟩ := hv; exact hG) (fun v G' hv => by obtain ⟨rfl, rfl⟩ := hv; exact h) hm
theorem p_callg {d : Nat} {f : FuncId} {xs : List Operand} {vs : List Value} {F : Value} (hx : evs L xs = some vs) (hc : HC P f vs.toArray G fun v G' => v = F ∧ G.le G') (hG : Gs.le G) (h : ∀ G', G.le G' → vplan P E Gs Ls K rest (S (.set d F L) A G')) (hm : vplan P E Gs Ls K more (S L A G)) : vplan P E Gs Ls K (.alt i ⟨none, dd, .call (some d) f xs⟩ rest more) (S L A G) :=
  p_callc hx hc (fun v G' hv => GH.le_trans hG hv.2) (fun v G' hv => by obtain ⟨rfl, hl⟩ := hv; exact h G' hl) hm
theorem v_draw0 {pl : Plan} (h : vplan P E G Ls (Q .normal) pl (S L A G)) : vc P E (.draw Ls pl) Q (S L A G) := ⟨G, GH.le_refl _, h⟩
theorem HC.start {P : Program} {f : FuncId} {E : Env} {n : Nat} {rs : List RV} {pc : PC} (h : Comp P f E n rs pc) {args : List Value} (hn : args.length = n) {G : GH} {R : Value → GH → Prop} (hv : vc P E pc (endQ rs R) (S (.args args) (.any fun _ => #[]) G)) : HC P f args.toArray G R :=
  HC.of_comp h hn (fun _ => #[]) hv
end
/-! ### Reckoning -/
theorem kindEq_self (k : IntKind) : kindEq k k = true := by cases k <;> rfl
theorem x_int {op : BinOp} {k : IntKind} {a b : Int} (h1 : op ≠ .shl) (h2 : op ≠ .shr) : pureV (.bin op) [.int k a, .int k b] = intV op k a b := by
  cases op <;> first | (exact absurd rfl h1) | (exact absurd rfl h2) | simp [pureV, binV, kindEq_self]
theorem x_add (k : IntKind) (a b : Int) : pureV (.bin .add) [.int k a, .int k b] = some (.int k (k.wrap (a + b))) := x_int (by simp) (by simp)
theorem x_sub (k : IntKind) (a b : Int) : pureV (.bin .sub) [.int k a, .int k b] = some (.int k (k.wrap (a - b))) := x_int (by simp) (by simp)
theorem x_mul (k : IntKind) (a b : Int) : pureV (.bin .mul) [.int k a, .int k b] = some (.int k (k.wrap (a * b))) := x_int (by simp) (by simp)
theorem x_quo (k : IntKind) (a b : Int) : pureV (.bin .quo) [.int k a, .int k b] = if b = 0 then none else some (.int k (k.wrap (a.tdiv b))) := x_int (by simp) (by simp)
theorem x_rem (k : IntKind) (a b : Int) : pureV (.bin .rem) [.int k a, .int k b] = if b = 0 then none else some (.int k (a.tmod b)) := x_int (by simp) (by simp)
theorem x_eql (k : IntKind) (a b : Int) : pureV (.bin .eql) [.int k a, .int k b] = some (.bool (a == b)) := x_int (by simp) (by simp)
theorem x_neq (k : IntKind) (a b : Int) : pureV (.bin .neq) [.int k a, .int k b] = some (.bool (a != b)) := x_int (by simp) (by simp)
theorem x_lss (k : IntKind) (a b : Int) : pureV (.bin .lss) [.int k a, .int k b] = some (.bool (decide (a < b))) := x_int (by simp) (by simp)
theorem x_leq (k : IntKind) (a b : Int) : pureV (.bin .leq) [.int k a, .int k b] = some (.bool (decide (a ≤ b))) := x_int (by simp) (by simp)
theorem x_gtr (k : IntKind) (a b : Int) : pureV (.bin .gtr) [.int k a, .int k b] = some (.bool (decide (a > b))) := x_int (by simp) (by simp)
theorem x_geq (k : IntKind) (a b : Int) : pureV (.bin .geq) [.int k a, .int k b] = some (.bool (decide (a ≥ b))) := x_int (by simp) (by simp)
theorem x_and (k : IntKind) (a b : Int) : pureV (.bin .and) [.int k a, .int k b] = some (.int k (k.wrap (BitVec.ofInt k.bits a &&& BitVec.ofInt k.bits b).toNat)) := x_int (by simp) (by simp)
theorem x_or (k : IntKind) (a b : Int) : pureV (.bin .or) [.int k a, .int k b] = some (.int k (k.wrap (BitVec.ofInt k.bits a ||| BitVec.ofInt k.bits b).toNat)) := x_int (by simp) (by simp)
theorem x_xor (k : IntKind) (a b : Int) : pureV (.bin .xor) [.int k a, .int k b] = some (.int k (k.wrap (BitVec.ofInt k.bits a ^^^ BitVec.ofInt k.bits b).toNat)) := x_int (by simp) (by simp)
theorem x_shl (k y : IntKind) (a b : Int) : pureV (.bin .shl) [.int k a, .int y b] = if b < 0 then none else some (.int k (k.wrap (a * 2 ^ (min b.toNat k.bits)))) := rfl
theorem x_shr (k y : IntKind) (a b : Int) : pureV (.bin .shr) [.int k a, .int y b] = if b < 0 then none else some (.int k (a.fdiv (2 ^ (min b.toNat k.bits)))) := rfl
theorem x_sadd (a b : ByteArray) : pureV (.bin .add) [.string a, .string b] = if ((a.size + b.size : Nat) : Int) > IntKind.i64.max then none else some (.string (a ++ b)) := rfl
theorem x_beql (a b : Bool) : pureV (.eqB false) [.bool a, .bool b] = some (.bool (a == b)) := rfl
theorem x_bneq (a b : Bool) : pureV (.eqB true) [.bool a, .bool b] = some (.bool (!(a == b))) := rfl
theorem x_not (b : Bool) : pureV (.un .not) [.bool b] = some (.bool (!b)) := rfl
theorem x_neg (k : IntKind) (a : Int) : pureV (.un .neg) [.int k a] = some (.int k (k.wrap (0 - a))) := rfl
theorem x_convI (k k' : IntKind) (n : Int) : pureV (.convI k) [.int k' n] = some (.int k (k.wrap n)) := rfl
theorem x_convS (s : ByteArray) : pureV .convS [.string s] = some (.string s) := rfl
theorem x_ext2a (a b : Value) : pureV (.ext 0) [.tuple #[a, b]] = some a := rfl
theorem x_ext2b (a b : Value) : pureV (.ext 1) [.tuple #[a, b]] = some b := rfl
theorem x_ext3a (a b c : Value) : pureV (.ext 0) [.tuple #[a, b, c]] = some a := rfl
theorem x_ext3b (a b c : Value) : pureV (.ext 1) [.tuple #[a, b, c]] = some b := rfl
theorem x_ext3c (a b c : Value) : pureV (.ext 2) [.tuple #[a, b, c]] = some c := rfl
theorem x_ext4a (a b c d : Value) : pureV (.ext 0) [.tuple #[a, b, c, d]] = some a := rfl
theorem x_ext4b (a b c d : Value) : pureV (.ext 1) [.tuple #[a, b, c, d]] = some b := rfl
theorem x_ext4c (a b c d : Value) : pureV (.ext 2) [.tuple #[a, b, c, d]] = some c := rfl
theorem x_ext4d (a b c d : Value) : pureV (.ext 3) [.tuple #[a, b, c, d]] = some d := rfl
theorem x_lenS (s : ByteArray) : pureV .lenS [.string s] = some (.int .i64 s.size) := rfl
theorem x_lenL (a : Option Addr) (n c : Nat) : pureV .lenL [.slice a n c] = some (.int .i64 n) := rfl
theorem x_min2 (k y : IntKind) (a b : Int) : pureV .minI [.int k a, .int y b] = some (.int k (if b < a then b else a)) := rfl
theorem x_max2 (k y : IntKind) (a b : Int) : pureV .maxI [.int k a, .int y b] = some (.int k (if b > a then b else a)) := rfl
theorem x_isBtf : isB (.bool true) false = false := rfl
theorem x_isBft : isB (.bool false) true = false := rfl
theorem x_isBu (b : Bool) : isB undef b = false := rfl
theorem x_take1 (cs : Array Value) (o n : Nat) : takeV false cs o n = cs[o]? := rfl
theorem x_takeA {cs : Array Value} {n : Nat} (h : cs.size = n) : takeV true cs (Int.toNat 0) n = some (.agg cs) := by
  subst h
  show (if 0 + cs.size ≤ cs.size then some (Value.agg (cs.extract 0 (0 + cs.size))) else none) = _
  rw [if_pos (by omega)]; simp
theorem x_eqA (neg : Bool) (sh : Sh) (x y : Value) : pureV (.eqA neg sh) [x, y] = (eqSh sh x y).map fun r => .bool (if neg then !r else r) := rfl
theorem x_kindEq : kindEq .i64 .i64 = true := rfl
theorem x_cells_i (k : IntKind) (n : Int) : (Value.int k n).cells = #[.int k n] := rfl
theorem x_cells_b (b : Bool) : (Value.bool b).cells = #[.bool b] := rfl
theorem x_cells_s (b : ByteArray) : (Value.string b).cells = #[.string b] := rfl
theorem x_cells_l (a : Option Addr) (n c : Nat) : (Value.slice a n c).cells = #[.slice a n c] := rfl
theorem x_cells_p (a : Option Addr) : (Value.pointer a).cells = #[.pointer a] := rfl
theorem x_cells_a (cs : Array Value) : (Value.agg cs).cells = cs := rfl
theorem x_tup0 : tupV [] = .tuple #[] := rfl
theorem x_tup1 (a : Value) : tupV [a] = a := rfl
theorem x_tup2 (a b : Value) : tupV [a, b] = .tuple #[a, b] := rfl
theorem x_tup3 (a b c : Value) : tupV [a, b, c] = .tuple #[a, b, c] := rfl
theorem x_tup4 (a b c d : Value) : tupV [a, b, c, d] = .tuple #[a, b, c, d] := rfl
theorem x_tup5 (a b c d e : Value) : tupV [a, b, c, d, e] = .tuple #[a, b, c, d, e] := rfl
end Go.Proofs.Ytdeihgcgglhhcaa.V
