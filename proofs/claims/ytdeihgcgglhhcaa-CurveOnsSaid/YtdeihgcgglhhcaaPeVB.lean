/- Library V, part B: a function's state (slots, local variables, what is known of memory), how the kit's frames and worlds lie under it, and the rules of control. No program here. -/
import Derived.Test.YtdeihgcgglhhcaaPeVA
import Derived.Deep.LoopGhost
import Derived.Sort.LoopGhostIn
import Derived.RangeFuncFrom
import Derived.OrdersIn
import Derived.TacticsIn
import Derived.Laws.Cells
import Derived.Laws.CopyRow
set_option linter.unusedVariables false
set_option linter.unusedSimpArgs false
namespace Go.Proofs.Ytdeihgcgglhhcaa.V
theorem beq_ne {a b : Nat} (h : a ≠ b) : Nat.beq a b = false := by
  cases e : Nat.beq a b with
  | false => rfl
  | true => exact absurd (Nat.eq_of_beq_eq_true e) h
structure St where
  s : Nat → Value
  l : Nat → Array Value
  G : GH
/-- Slots that hold addresses of local variables; the frame's size. -/
structure Env where
  env : List (Nat × Nat)
  n : Nat
def lookE : List (Nat × Nat) → Nat → Option Nat
  | [], _ => none
  | (t, k) :: r, i => bif Nat.beq t i then some k else lookE r i
def setS (s : Nat → Value) (d : Nat) (v : Value) : Nat → Value := fun t => bif Nat.beq t d then v else s t
def setL (l : Nat → Array Value) (d : Nat) (v : Array Value) : Nat → Array Value := fun t => bif Nat.beq t d then v else l t
theorem setS_same (s : Nat → Value) (d : Nat) (v : Value) : setS s d v d = v := by simp [setS]
theorem setS_ne (s : Nat → Value) {d t : Nat} (v : Value) (h : t ≠ d) : setS s d v t = s t := by
  have : Nat.beq t d = false := beq_ne h
  simp [setS, this]
theorem setL_same (s : Nat → Array Value) (d : Nat) (v : Array Value) : setL s d v d = v := by simp [setL]
theorem setL_ne (s : Nat → Array Value) {d t : Nat} (v : Array Value) (h : t ≠ d) : setL s d v t = s t := by
  have : Nat.beq t d = false := beq_ne h
  simp [setL, this]
def St.set (st : St) (d : Nat) (v : Value) : St := ⟨setS st.s d v, st.l, st.G⟩
/-- Marks of loops over functions, which wait for the function's end. -/
def Marks (w0 : World) (G : GH) (ds : List Deferred) (w : World) : Prop :=
  ∃ Ds : List Nat, ds = Ds.map (fun D => ⟨.collected D, #[]⟩) ∧ Ds.Nodup ∧ ∀ D ∈ Ds, w0.heap.size ≤ D ∧ G D = none ∧ w.heap[D]? = some (Obj.deferred (some []))
theorem Marks.nil (w0 : World) (G : GH) (w : World) : Marks w0 G [] w := ⟨[], rfl, List.nodup_nil, fun D h => by cases h⟩
theorem Marks.fr {w0 w w' : World} {G G' : GH} {ds : List Deferred} (h : Marks w0 G ds w) (hf : Fr G w G' w') : Marks w0 G' ds w' := by
  obtain ⟨Ds, h1, h2, h3⟩ := h
  refine ⟨Ds, h1, h2, fun D hD => ?_⟩
  obtain ⟨k1, k2, k3⟩ := h3 D hD
  have hlt : D < w.heap.size := (Array.getElem?_eq_some_iff.1 k3).1
  exact ⟨k1, hf.none D hlt k2, by rw [hf.block D hlt k2]; exact k3⟩
theorem Marks.keep {w0 w w' : World} {G : GH} {ds : List Deferred} (h : Marks w0 G ds w) (hk : ∀ D : Nat, w.heap[D]? = some (Obj.deferred (some [])) → w'.heap[D]? = some (Obj.deferred (some []))) : Marks w0 G ds w' := by
  obtain ⟨Ds, h1, h2, h3⟩ := h
  exact ⟨Ds, h1, h2, fun D hD => let ⟨k1, k2, k3⟩ := h3 D hD; ⟨k1, k2, hk D k3⟩⟩
structure RelB (E : Env) (w0 : World) (G0 : GH) (β : Nat → Option Nat) (st : St) (a : Act) (w : World) : Prop where
  defers : Marks w0 st.G a.defers w
  size : a.tmps.size = E.n
  fr : Fr G0 w0 st.G w
  slot : ∀ t, lookE E.env t = none → a.tmps.getD t undef = st.s t
  ptr : ∀ t k o, lookE E.env t = some k → st.s t = .int .u64 o → ∃ b, β k = some b ∧ 0 ≤ o ∧ a.tmps.getD t undef = .pointer (some ⟨b, o.toNat, none⟩)
  loc : ∀ k b, β k = some b → w0.heap.size ≤ b ∧ st.G b = none ∧ ∃ e, w.heap[b]? = some (.cells (st.l k) e (0, 0))
  inj : ∀ k k' b, β k = some b → β k' = some b → k = k'
def Rel (E : Env) (w0 : World) (G0 : GH) (st : St) (a : Act) (w : World) : Prop := ∃ β, RelB E w0 G0 β st a w
theorem Rel.view {E : Env} {w0 : World} {G0 : GH} {st : St} {a : Act} {w : World} (h : Rel E w0 G0 st a w) : View st.G w := let ⟨_, r⟩ := h; r.fr.view
def lift (E : Env) (w0 : World) (G0 : GH) (Q : Exit → St → Prop) : Exit → Act → World → Prop := fun e a w => ∃ st, Rel E w0 G0 st a w ∧ Q e st
def thenQ (K : St → Prop) (Q : Exit → St → Prop) : Exit → St → Prop
  | .normal, st => K st
  | e, st => Q e st
def blockQ (id : Nat) (Q : Exit → St → Prop) : Exit → St → Prop
  | .exit i, st => bif Nat.beq i id then Q .normal st else Q (.exit i) st
  | e, st => Q e st
/-- The fence that bars nothing, for a frame of a function (none), or of a round of the loop l (some l). -/
abbrev WF (ro : Option Nat) : Fence := { Fence.wide with round := ro }
/-- CODE: from each frame and world that lie under the state it comes to an end of which Q is so. -/
def Vw (P : Program) (E : Env) (ro : Option Nat) (c : Code) (Q : Exit → St → Prop) (st : St) : Prop :=
  ∀ m w0 G0 a w, Rel E w0 G0 st a w → c.wpIn (WF ro) m P (lift E w0 G0 Q) a w
def noDefer (o : Oper) : Bool := match o.op with | .defer _ => false | _ => true
theorem noDefer_ne {o : Oper} (h : noDefer o = true) : ∀ c, o.op ≠ .defer c := fun c e => by simp [noDefer, e] at h
/-- An operation's word, within the fence that bars nothing. -/
theorem oper_in {P : Program} {ro : Option Nat} {m : Nat} {o : Oper} {a : Act} {w : World} {K : Act → World → Prop} {Q : Exit → Act → World → Prop} (hd : noDefer o = true) (h : o.wp P a w K Q) : o.wpIn (WF ro) m P a w K Q := by
  refine ⟨fun _ _ => trivial, ?_⟩
  rw [Oper.semAt_eq _ _ _ (noDefer_ne hd)]
  unfold Oper.wp at h
  generalize (execOp a.eval o).run P w = r at h
  cases r with
  | ok x w' =>
    cases x with
    | value v => exact h
    | skip => exact h
    | defer d => exact h
    | enter f args => exact ⟨fun h => by simp [Fence.wide] at h, (callsIn_wide (n := m - 1)).2 h⟩
    | row f args => exact ⟨fun h => by simp [Fence.wide] at h, fun c cs _ => let ⟨v, w1, r, s⟩ := h c cs; ⟨v, w1, r, stepsIn_wide.2 s⟩⟩
    | _ => exact h.elim
  | halt x w' =>
    cases x with
    | panic v => exact h
    | _ => exact h.elim
section
variable {P : Program} {E : Env} {ro : Option Nat} {Q : Exit → St → Prop} {st : St}
theorem Vw.mono {c : Code} {Q' : Exit → St → Prop} (h : Vw P E ro c Q st) (hq : ∀ e st, Q e st → Q' e st) : Vw P E ro c Q' st :=
  fun m w0 G0 a w hr => wpIn_mono (h m w0 G0 a w hr) fun _ _ _ ⟨st', r, q⟩ => ⟨st', r, hq _ _ q⟩
theorem Vw_skip (h : Q .normal st) : Vw P E ro .skip Q st := fun _ _ _ _ _ hr => wpIn_skip ⟨st, hr, h⟩
theorem Vw_label {l : Nat} (h : Q .normal st) : Vw P E ro (.label l) Q st := fun _ _ _ _ _ hr => wpIn_label ⟨st, hr, h⟩
theorem Vw_exit {id : Nat} (h : Q (.exit id) st) : Vw P E ro (.exit id) Q st := fun _ _ _ _ _ hr => wpIn_exit ⟨st, hr, h⟩
theorem Vw_ret (h : Q .ret st) : Vw P E ro .ret Q st := fun _ _ _ _ _ hr => wpIn_ret ⟨st, hr, h⟩
theorem Vw_seq {x y : Code} (h : Vw P E ro x (thenQ (Vw P E ro y Q) Q) st) : Vw P E ro (.seq x y) Q st := by
  intro m w0 G0 a w hr
  refine wpIn_seq (wpIn_mono (h m w0 G0 a w hr) ?_)
  rintro e a' w' ⟨st', hr', hq⟩
  cases e with
  | normal => exact hq m w0 G0 a' w' hr'
  | exit _ => exact ⟨st', hr', hq⟩
  | goto _ => exact ⟨st', hr', hq⟩
  | ret => exact ⟨st', hr', hq⟩
  | panic _ => exact ⟨st', hr', hq⟩
  | outgrown => exact ⟨st', hr', hq⟩
theorem Vw_block {id : Nat} {c : Code} (h : Vw P E ro c (blockQ id Q) st) : Vw P E ro (.block id c) Q st := by
  intro m w0 G0 a w hr
  refine wpIn_block (wpIn_mono (h m w0 G0 a w hr) ?_)
  rintro e a' w' ⟨st', hr', hq⟩
  cases e with
  | exit i =>
    by_cases hi : i = id
    · subst hi
      simp only [Exit.inBlock, if_true]
      refine ⟨st', hr', ?_⟩
      simpa [blockQ] using hq
    · simp only [Exit.inBlock, hi, if_false]
      refine ⟨st', hr', ?_⟩
      have : Nat.beq i id = false := beq_ne hi
      simpa [blockQ, this] using hq
  | normal => exact ⟨st', hr', hq⟩
  | goto _ => exact ⟨st', hr', hq⟩
  | ret => exact ⟨st', hr', hq⟩
  | panic _ => exact ⟨st', hr', hq⟩
  | outgrown => exact ⟨st', hr', hq⟩
/-- An operand's value. -/
def ev (st : St) : Operand → Value
  | .tmp t => st.s t
  | .const v => v
  | .global g => .pointer (some ⟨g, 0, none⟩)
  | .func f => .func (.func f) #[] #[]
/-- An operand that is no local variable's address. -/
def plainX (E : Env) : Operand → Bool
  | .tmp t => (lookE E.env t).isNone
  | _ => true
theorem RelB.eval {w0 : World} {G0 : GH} {β : Nat → Option Nat} {a : Act} {w : World} (h : RelB E w0 G0 β st a w) {x : Operand} (hx : plainX E x = true) : a.eval x = ev st x := by
  cases x with
  | tmp t => exact h.slot t (by simpa [plainX] using hx)
  | _ => rfl
theorem Rel.eval {w0 : World} {G0 : GH} {a : Act} {w : World} (h : Rel E w0 G0 st a w) {x : Operand} (hx : plainX E x = true) : a.eval x = ev st x := let ⟨_, r⟩ := h; r.eval hx
theorem RelB.view {w0 : World} {G0 : GH} {β : Nat → Option Nat} {a : Act} {w : World} (h : RelB E w0 G0 β st a w) : View st.G w := h.fr.view
theorem Vw_cond {c : Operand} {x y : Code} {t : Bool} (hx : plainX E c = true) (hc : ev st c = .bool t) (h : (bif t then Vw P E ro x Q st else Vw P E ro y Q st)) : Vw P E ro (.cond c x y) Q st := by
  intro m w0 G0 a w hr
  refine wpIn_cond (t := t) ((hr.eval hx).trans hc) ?_
  cases t
  · exact h m w0 G0 a w hr
  · exact h m w0 G0 a w hr
/-- A LOOP: what holds at each round's head, of a state and a number that each round lowers. -/
theorem Vw_loop {c : Code} (I : Nat → St → Prop) (n : Nat) (h0 : I n st) (round : ∀ n st, I n st → Vw P E ro c (thenQ (fun st' => ∃ m, m < n ∧ I m st') Q) st) : Vw P E ro (.loop c) Q st := by
  intro m0 w0 G0 a w hr
  refine wpIn_loop_ghost (fun n a w => ∃ st, Rel E w0 G0 st a w ∧ I n st) n ⟨st, hr, h0⟩ ?_
  rintro n a w ⟨st1, hr1, hi⟩
  refine wpIn_mono (round n st1 hi m0 w0 G0 a w hr1) ?_
  rintro e a' w' ⟨st', hr', hq⟩
  cases e with
  | normal => obtain ⟨m, hm, hi'⟩ := hq; exact ⟨m, hm, st', hr', hi'⟩
  | exit _ => exact ⟨st', hr', hq⟩
  | goto _ => exact ⟨st', hr', hq⟩
  | ret => exact ⟨st', hr', hq⟩
  | panic _ => exact ⟨st', hr', hq⟩
  | outgrown => exact ⟨st', hr', hq⟩
end
/-! ### Types, loads -/
def tyInfo (P : Program) (t : TypeId) : Option (Bool × Nat) :=
  match P.underlying t, P.info? t with
  | some (.struct _), some i => some (true, i.size)
  | some (.array _ _), some i => some (true, i.size)
  | some _, some i => some (false, i.size)
  | _, _ => none
theorem tyInfo_agg {P : Program} {t : TypeId} {g : Bool} {n : Nat} (h : tyInfo P t = some (g, n)) (w : World) : (isAgg t).run P w = .ok g w ∧ (sizeOf t).run P w = .ok n w := by
  unfold tyInfo at h
  cases hu : P.underlying t with
  | none => rw [hu] at h; cases h
  | some d =>
    cases hi : P.info? t with
    | none => rw [hu, hi] at h; cases d <;> cases h
    | some i =>
      rw [hu, hi] at h
      constructor
      · cases d <;> (cases h; simp [isAgg, run_underlying hu])
      · cases d <;> (cases h; simp [sizeOf, typeInfo, hi])
theorem add_plain (b o j : Nat) : (⟨b, o, none⟩ : Addr).add j = ⟨b, o + j, none⟩ := by unfold Addr.add; split <;> simp_all
theorem cell_of {w : World} {b : Nat} {cs : Array Value} {e : TypeId} {fr : Nat × Nat} (h : w.heap[b]? = some (.cells cs e fr)) (o : Nat) : w.cell? ⟨b, o, none⟩ = cs[o]? := by
  simp [World.cell?, h]
theorem run_loadN {P : Program} {w : World} {b : Nat} {cs : Array Value} {e : TypeId} {fr : Nat × Nat} (h : w.heap[b]? = some (.cells cs e fr)) (o n : Nat) (hn : o + n ≤ cs.size) :
    (loadCells ⟨b, o, none⟩ n).run P w = .ok (cs.extract o (o + n)) w := by
  have h1 := run_loadCells_list (P := P) w ⟨b, o, none⟩ (cs.extract o (o + n)).toList (fun j v hj => by
    rw [add_plain, cell_of h]
    rw [Array.getElem?_toList, Array.getElem?_extract] at hj
    split at hj
    · rw [show o + j = o + j from rfl]; exact hj
    · cases hj)
  have hl : (cs.extract o (o + n)).toList.length = n := by simp; omega
  rw [hl] at h1
  rw [h1]
/-- What a variable of n cells holds. -/
def takeV (g : Bool) (cs : Array Value) (o n : Nat) : Option Value :=
  bif g then (if o + n ≤ cs.size then some (.agg (cs.extract o (o + n))) else none) else cs[o]?
theorem run_loadVar {P : Program} {t : TypeId} {g : Bool} {n : Nat} (ht : tyInfo P t = some (g, n)) {w : World} {b : Nat} {cs : Array Value} {e : TypeId} {fr : Nat × Nat} (h : w.heap[b]? = some (.cells cs e fr)) (o : Nat) {v : Value} (hv : takeV g cs o n = some v) :
    (loadVar t ⟨b, o, none⟩).run P w = .ok v w := by
  obtain ⟨h1, h2⟩ := tyInfo_agg ht w
  unfold loadVar
  simp only [Sem.run_bind, h1, Result.andThen_ok]
  cases g with
  | true =>
    simp only [takeV, cond_true] at hv
    split at hv
    · rename_i hn
      cases hv
      simp only [if_true, Sem.run_bind, h2, Result.andThen_ok, run_loadN h o n hn, Sem.run_pure]
    · cases hv
  | false =>
    simp only [takeV, cond_false] at hv
    simp only [Bool.false_eq_true, if_false, run_load, cell_of h, hv]
/-! ### A function -/
/-- A result: a slot, or a local variable (its slot, its number, its cells). -/
inductive RV where
  | slot (t : Nat)
  | loc (a k n : Nat)
  | heap (a n : Nat) (g : Bool)
def compRV (P : Program) (E : Env) : ResultVar → Option RV
  | .tmp t => bif (lookE E.env t).isNone then some (.slot t) else none
  | .cell a t => match lookE E.env a, tyInfo P t with
    | some k, some (true, n) => some (.loc a k n)
    | none, some (g, n) => some (.heap a n g)
    | _, _ => none
def rvV (st : St) : RV → Value
  | .slot t => st.s t
  | .loc _ k n => .agg ((st.l k).extract 0 n)
  | .heap a n g => match st.s a with
    | .pointer (some ⟨b, q, none⟩) => match st.G b with
      | some (.cells cs _ _) => (takeV g cs q n).getD undef
      | _ => undef
    | _ => undef
def rvOk (st : St) : RV → Prop
  | .slot _ => True
  | .loc a k n => st.s a = .int .u64 0 ∧ n ≤ (st.l k).size
  | .heap a n g => ∃ b q cs e fr v, st.s a = .pointer (some ⟨b, q, none⟩) ∧ st.G b = some (.cells cs e fr) ∧ takeV g cs q n = some v
def rvsOk (st : St) : List RV → Prop
  | [] => True
  | r :: rs => rvOk st r ∧ rvsOk st rs
def tupV (vs : List Value) : Value := match vs with | [v] => v | _ => .tuple vs.toArray
/-- What is so where a function ends. -/
def endQ (rs : List RV) (R : Value → GH → Prop) : Exit → St → Prop
  | .normal, st => rvsOk st rs ∧ R (tupV (rs.map (rvV st))) st.G
  | .ret, st => rvsOk st rs ∧ R (tupV (rs.map (rvV st))) st.G
  | _, _ => False
def args0 (args : List Value) : Nat → Value := fun t => args.getD t undef
def resF (tmps : Array Value) : ResultVar → Sem Value
  | .tmp t => pure (tmps.getD t undef)
  | .cell c t => do loadVar t (← asAddr (tmps.getD c undef))
theorem results_eq (fn : Func) (tmps : Array Value) : results fn tmps = (do
    let vs ← fn.results.mapM (resF tmps)
    pure (if h : vs.size = 1 then vs[0] else .tuple vs)) := by
  unfold results resF
  rfl
theorem compRV_run {P : Program} {E : Env} {w0 : World} {G0 : GH} {β : Nat → Option Nat} {st : St} {a : Act} {w : World} (h : RelB E w0 G0 β st a w) {r : ResultVar} {q : RV} (hc : compRV P E r = some q) (ho : rvOk st q) :
    (resF a.tmps r).run P w = .ok (rvV st q) w := by
  cases r with
  | tmp t =>
    simp only [compRV] at hc
    cases hl : lookE E.env t with
    | none => rw [hl] at hc; cases hc; simp only [resF, Sem.run_pure, rvV, h.slot t hl]
    | some k => rw [hl] at hc; cases hc
  | cell c t =>
    simp only [compRV] at hc
    cases hl : lookE E.env c with
    | none =>
      rw [hl] at hc
      cases ht : tyInfo P t with
      | none => rw [ht] at hc; cases hc
      | some x =>
        obtain ⟨g, n⟩ := x
        rw [ht] at hc
        cases hc
        obtain ⟨b, q, cs, e, fr, v, h1, h2, h3⟩ := ho
        simp only [resF, h.slot c hl, h1, asAddr, Sem.run_bind, Sem.run_pure, Result.andThen_ok]
        rw [run_loadVar ht (h.view b _ h2) q h3]
        simp only [rvV, h1, h2, h3, Option.getD_some]
    | some k =>
      rw [hl] at hc
      cases ht : tyInfo P t with
      | none => rw [ht] at hc; cases hc
      | some x =>
        obtain ⟨g, n⟩ := x
        rw [ht] at hc
        cases g with
        | false => cases hc
        | true =>
          cases hc
          obtain ⟨h1, h2⟩ := ho
          obtain ⟨b, hb, _, hp⟩ := h.ptr c k 0 hl h1
          obtain ⟨_, _, e, he⟩ := h.loc k b hb
          simp only [resF, hp, asAddr, Sem.run_bind, Sem.run_pure, Result.andThen_ok]
          refine run_loadVar ht he 0 ?_
          simp [takeV, h2]
          rfl
theorem mapM_results {P : Program} {E : Env} {w0 : World} {G0 : GH} {β : Nat → Option Nat} {st : St} {a : Act} {w : World} (h : RelB E w0 G0 β st a w) : ∀ (rs : List ResultVar) (qs : List RV), rs.mapM (compRV P E) = some qs → rvsOk st qs →
    (rs.mapM (resF a.tmps)).run P w = .ok (qs.map (rvV st)) w
  | [], qs, hm, _ => by
    simp at hm; subst hm
    simp
  | r :: rs, qs, hm, ho => by
    rw [List.mapM_cons] at hm
    cases h1 : compRV P E r with
    | none => rw [h1] at hm; cases hm
    | some q =>
      rw [h1] at hm
      cases h2 : rs.mapM (compRV P E) with
      | none => rw [h2] at hm; cases hm
      | some qs' =>
        rw [h2] at hm
        cases hm
        obtain ⟨o1, o2⟩ := ho
        rw [List.mapM_cons, Sem.run_bind, compRV_run h h1 o1, Result.andThen_ok, Sem.run_bind, mapM_results h rs qs' h2 o2, Result.andThen_ok, Sem.run_pure]
        rfl
theorem HC.of_body {P : Program} {f : FuncId} {fn : Func} {c : Code} {args : List Value} {G : GH} {R : Value → GH → Prop} (E : Env) (rs : List RV)
    (hf : P.funcs[f]? = some fn) (hb : fn.body = some c) (hr : fn.results.toList.mapM (compRV P E) = some rs) (hn : args.length ≤ fn.ntmps) (he : E.n = fn.ntmps)
    (hp : E.env.all (fun x => decide (args.length ≤ x.1)) = true) (l : Nat → Array Value)
    (h : Vw P E none c (endQ rs R) ⟨args0 args, l, G⟩) : HC P f args.toArray G R := by
  intro w hw
  refine (callsIn_wide (n := 0)).1 (callsIn_of_wp_marks hf hb trivial ?_)
  have hpar : ∀ (L : List (Nat × Nat)) t k, L.all (fun x => decide (args.length ≤ x.1)) = true → lookE L t = some k → args.length ≤ t := by
    intro L
    induction L with
    | nil => intro t k _ h; cases h
    | cons x L ih =>
      intro t k ha hl
      obtain ⟨i, j⟩ := x
      simp only [List.all_cons, Bool.and_eq_true, decide_eq_true_eq] at ha
      simp only [lookE] at hl
      cases hb : Nat.beq i t with
      | true => rw [← Nat.eq_of_beq_eq_true hb]; exact ha.1
      | false => rw [hb] at hl; exact ih t k ha.2 hl
  have hget : ∀ t, (args.toArray ++ Array.replicate (fn.ntmps - args.toArray.size) undef).getD t undef = args0 args t := by
    intro t
    unfold args0
    simp only [Array.getD_eq_getD_getElem?, List.getD_eq_getElem?_getD, Array.getElem?_append, List.size_toArray, List.getElem?_toArray, Array.getElem?_replicate]
    split
    · rfl
    · rename_i h1
      rw [List.getElem?_eq_none (by omega)]
      split <;> rfl
  have hrel : Rel E w G ⟨args0 args, l, G⟩ ⟨args.toArray ++ Array.replicate (fn.ntmps - args.toArray.size) undef, []⟩ w := by
    refine ⟨fun _ => none, Marks.nil _ _ _, ?_, Fr.refl hw, fun t _ => hget t, fun t k o hl hs => ?_, fun k b hb => (by cases hb), fun k k' b hb _ => (by cases hb)⟩
    · simp [he]; omega
    · have := hpar _ t k hp hl
      have e1 : args0 args t = undef := by
        unfold args0
        rw [List.getD_eq_getElem?_getD, List.getElem?_eq_none this]; rfl
      rw [show (⟨args0 args, l, G⟩ : St).s t = args0 args t from rfl, e1] at hs
      cases hs
  refine wpIn_mono (h 0 w G _ w hrel) ?_
  rintro e a w' ⟨st, ⟨β, hr'⟩, hq⟩
  have key : rvsOk st rs ∧ R (tupV (rs.map (rvV st))) st.G → LeavesInM (WF none) 0 P fn a.tmps (fun e w' => ∃ v G', e = .returned v ∧ Fr G w G' w' ∧ R v G') a.defers .returning w' := by
    rintro ⟨h1, h2⟩
    obtain ⟨Ds, e1, e2, e3⟩ := hr'.defers
    rw [e1]
    have hr2 : RelB E w G β st ⟨a.tmps, []⟩ w' := ⟨Marks.nil _ _ _, hr'.size, hr'.fr, hr'.slot, hr'.ptr, hr'.loc, hr'.inj⟩
    clear hr' hq e1
    induction Ds generalizing w' with
    | nil =>
      refine ⟨tupV (rs.map (rvV st)), ?_, _, st.G, rfl, hr2.fr, h2⟩
      have h3 := mapM_results (P := P) hr2 fn.results.toList rs hr h1
      rw [results_eq, Sem.run_bind, Array.mapM_eq_mapM_toList]
      simp only [Sem.run_map]
      rw [h3]
      simp only [Result.andThen_ok, Sem.run_pure]
      congr 1
      cases hv : rs.map (rvV st) with
      | nil => simp [tupV]
      | cons x xs =>
        cases xs with
        | nil => simp [tupV]
        | cons y ys => simp [tupV]
    | cons D Ds ih =>
      rw [List.nodup_cons] at e2
      obtain ⟨k1, k2, k3⟩ := e3 D (List.mem_cons_self)
      refine ⟨by simp, .inl ⟨D, _, rfl, run_takeDeferred k3, ih _ e2.2 (fun D' hD' => ?_) ?_⟩⟩
      · obtain ⟨m1, m2, m3⟩ := e3 D' (List.mem_cons_of_mem _ hD')
        exact ⟨m1, m2, by rw [World.putObj_heap_other (fun e => by subst e; exact e2.1 hD')]; exact m3⟩
      · refine ⟨Marks.nil _ _ _, hr2.size, ⟨hr2.fr.os, hr2.fr.tape, hr2.fr.output, by rw [World.putObj_size]; exact hr2.fr.size, fun b hb hn => ?_, hr2.fr.none, fun b o hb => ?_⟩, hr2.slot, hr2.ptr, fun k b hb => ?_, hr2.inj⟩
        · rw [World.putObj_heap_other (by omega)]; exact hr2.fr.block b hb hn
        · rw [World.putObj_heap_other (fun e => by subst e; rw [k2] at hb; cases hb)]; exact hr2.fr.view b o hb
        · obtain ⟨m1, m2, e, m3⟩ := hr2.loc k b hb
          exact ⟨m1, m2, e, by rw [World.putObj_heap_other (fun e => by subst e; rw [k3] at m3; cases m3)]; exact m3⟩
  cases e with
  | normal => exact key hq
  | ret => exact key hq
  | exit _ => exact hq.elim
  | goto _ => exact hq.elim
  | panic _ => exact hq.elim
  | outgrown => exact hq.elim
end Go.Proofs.Ytdeihgcgglhhcaa.V
