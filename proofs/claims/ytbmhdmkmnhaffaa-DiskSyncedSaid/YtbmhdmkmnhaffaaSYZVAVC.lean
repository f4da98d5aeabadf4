/- Library V, part A: partial views of memory, contracts of functions, and how they follow from the kit's own. No program here. -/
import Derived.Calls
import Derived.Orders
import Derived.OrdersHeld
import Derived.Tactics
import Derived.RowKit3
import Derived.Below
import Derived.Deep.LoopGhost
import Derived.Sort.LoopGhostIn
import Derived.RangeFuncFrom
import Derived.OrdersIn
import Derived.TacticsIn
import Derived.Laws.Cells
import Derived.Laws.CopyRow
import Derived.Laws.Slices
import Derived.Laws.StructEq
import Derived.ChangeKeysEq
section
set_option linter.unusedVariables false
set_option linter.unusedSimpArgs false
namespace Go.Proofs.Ytbmhdmkmnhaffaa.V
/-! ### Numbers of a kind -/
theorem wrap_i64 {n : Int} (h0 : -9223372036854775808 ≤ n) (h1 : n ≤ 9223372036854775807) : IntKind.i64.wrap n = n := by
  have e : IntKind.i64.wrap n = if n % 18446744073709551616 ≥ 9223372036854775808 then n % 18446744073709551616 - 18446744073709551616 else n % 18446744073709551616 := by
    simp [IntKind.wrap, IntKind.bits, IntKind.signed]
  rw [e]
  split <;> omega
theorem wrap_u8 (n : Int) : IntKind.u8.wrap n = n % 256 := by simp [IntKind.wrap, IntKind.bits, IntKind.signed]
/-- What is known of memory: some blocks, whole. -/
abbrev GH := Nat → Option Obj
def GH.put (G : GH) (b : Nat) (o : Obj) : GH := fun i => if i = b then some o else G i
def GH.le (G G' : GH) : Prop := ∀ b o, G b = some o → G' b = some o
theorem GH.le_refl (G : GH) : G.le G := fun _ _ h => h
theorem GH.le_trans {G G1 G2 : GH} (h : G.le G1) (k : G1.le G2) : G.le G2 := fun b o e => k b o (h b o e)
theorem GH.put_same (G : GH) (b : Nat) (o : Obj) : (G.put b o) b = some o := by simp [GH.put]
theorem GH.put_ne (G : GH) {b i : Nat} (o : Obj) (h : i ≠ b) : (G.put b o) i = G i := by simp [GH.put, h]
theorem GH.le_put {G : GH} {b : Nat} (o : Obj) (h : G b = none) : G.le (G.put b o) := by
  intro i p hp
  by_cases e : i = b
  · subst e; rw [h] at hp; cases hp
  · rw [GH.put_ne _ _ e]; exact hp
theorem GH.le_put_of {G0 G : GH} {b : Nat} (o : Obj) (h : G0.le G) (hb : G0 b = none) : G0.le (G.put b o) := by
  intro i p hp
  by_cases e : i = b
  · subst e; rw [hb] at hp; cases hp
  · rw [GH.put_ne _ _ e]; exact h i p hp
def View (G : GH) (w : World) : Prop := ∀ b o, G b = some o → w.heap[b]? = some o
theorem View.lt {G : GH} {w : World} (h : View G w) {b : Nat} {o : Obj} (e : G b = some o) : b < w.heap.size := by
  have := h b o e
  exact (Array.getElem?_eq_some_iff.1 this).1
theorem View.fresh {G : GH} {w : World} (h : View G w) {b : Nat} (hb : w.heap.size ≤ b) : G b = none := by
  cases e : G b with
  | none => rfl
  | some o => have := h.lt e; omega
/-- From (G, w) to (G', w'): what G doesn't know is as it was. -/
structure Fr (G : GH) (w : World) (G' : GH) (w' : World) : Prop where
  os : w'.os = w.os
  tape : w'.tape = w.tape
  output : w'.output = w.output
  size : w.heap.size ≤ w'.heap.size
  block : ∀ b, b < w.heap.size → G b = none → w'.heap[b]? = w.heap[b]?
  none : ∀ b, b < w.heap.size → G b = none → G' b = none
  view : View G' w'
theorem Fr.refl {G : GH} {w : World} (h : View G w) : Fr G w G w := ⟨rfl, rfl, rfl, Nat.le_refl _, fun _ _ _ => rfl, fun _ _ h => h, h⟩
theorem Fr.trans {G G1 G2 : GH} {w w1 w2 : World} (h : Fr G w G1 w1) (k : Fr G1 w1 G2 w2) : Fr G w G2 w2 :=
  ⟨k.os.trans h.os, k.tape.trans h.tape, k.output.trans h.output, Nat.le_trans h.size k.size,
   fun b hb hn => (k.block b (Nat.lt_of_lt_of_le hb h.size) (h.none b hb hn)).trans (h.block b hb hn),
   fun b hb hn => k.none b (Nat.lt_of_lt_of_le hb h.size) (h.none b hb hn), k.view⟩
theorem Fr.drew {G : GH} {w : World} (h : View G w) : Fr G w G w.drew := ⟨rfl, rfl, rfl, Nat.le_refl _, fun _ _ _ => rfl, fun _ _ h => h, h⟩
theorem heap_alloc_new (w : World) (o : Obj) : (w.alloc o).heap[w.heap.size]? = some o := by
  show (w.heap.push o)[w.heap.size]? = _
  simp
theorem heap_alloc_old (w : World) (o : Obj) {b : Nat} (h : b < w.heap.size) : (w.alloc o).heap[b]? = w.heap[b]? := by
  show (w.heap.push o)[b]? = _
  rw [Array.getElem?_push, if_neg (by omega)]
theorem Fr.alloc {G : GH} {w : World} (h : View G w) (o : Obj) : Fr G w (G.put w.heap.size o) (w.alloc o) := by
  refine ⟨rfl, rfl, rfl, by simp, fun b hb _ => heap_alloc_old w o hb, fun b hb hn => ?_, fun b p hp => ?_⟩
  · rw [GH.put_ne _ _ (by omega)]; exact hn
  · by_cases e : b = w.heap.size
    · subst e; rw [GH.put_same] at hp; rw [heap_alloc_new]; exact hp
    · rw [GH.put_ne _ _ e] at hp
      rw [heap_alloc_old w o (h.lt hp)]; exact h b p hp
/-- A block that isn't told. -/
theorem Fr.alloc_hid {G : GH} {w : World} (h : View G w) (o : Obj) : Fr G w G (w.alloc o) := by
  refine ⟨rfl, rfl, rfl, by simp, fun b hb _ => heap_alloc_old w o hb, fun b hb hn => hn, fun b p hp => ?_⟩
  rw [heap_alloc_old w o (h.lt hp)]; exact h b p hp
/-- CONTRACT: called at G, the function returns; R of what it returns and of what is known then. -/
def HC (P : Program) (f : FuncId) (args : Array Value) (G : GH) (R : Value → GH → Prop) : Prop :=
  ∀ w, View G w → Calls P f args w fun e w' => ∃ v G', e = .returned v ∧ Fr G w G' w' ∧ R v G'
theorem HC.mono {P : Program} {f : FuncId} {args : Array Value} {G : GH} {R R' : Value → GH → Prop} (h : HC P f args G R) (hr : ∀ v G', R v G' → R' v G') : HC P f args G R' :=
  fun w hw => (h w hw).mono fun _ _ ⟨v, G', e, hf, r⟩ => ⟨v, G', e, hf, hr v G' r⟩
/-- All of a world. -/
def whole (w : World) : GH := fun b => w.heap[b]?
theorem view_whole (w : World) : View (whole w) w := fun _ _ h => h
/-- A contract that leaves all that was known as it was: the row's own word. -/
theorem below_of_HC {P : Program} {f : FuncId} {args : Array Value} {w : World} {v : Value} (h : HC P f args (whole w) fun u G' => u = v ∧ (whole w).le G') :
    Calls P f args w fun e w' => e = .returned v ∧ Go.RowKit.Below w.heap.size w w' := by
  refine (h w (view_whole w)).mono ?_
  rintro e w' ⟨u, G', rfl, hf, rfl, hle⟩
  refine ⟨rfl, hf.os, hf.tape, hf.output, hf.size, fun b hb => ?_⟩
  have e1 : w.heap[b]? = some w.heap[b] := Array.getElem?_eq_getElem hb
  rw [e1]
  exact hf.view b _ (hle b _ e1)
end Go.Proofs.Ytbmhdmkmnhaffaa.V
end
section
/- Library V, part B: a function's state (slots, local variables, what is known of memory), how the kit's frames and worlds lie under it, and the rules of control. No program here. -/
set_option linter.unusedVariables false
set_option linter.unusedSimpArgs false
namespace Go.Proofs.Ytbmhdmkmnhaffaa.V
theorem beq_ne {a b : Nat} (h : a ≠ b) : Nat.beq a b = false := by
  cases e : Nat.beq a b with
  | false => rfl
  | true => exact absurd (Nat.eq_of_beq_eq_true e) h
structure St where
  s : Nat → Value
  l : Nat → Array Value
  G : GH
/-- Slots that hold addresses of local variables; the frame's size. -/
structure Env where
  env : List (Nat × Nat)
  n : Nat
def lookE : List (Nat × Nat) → Nat → Option Nat
  | [], _ => none
  | (t, k) :: r, i => bif Nat.beq t i then some k else lookE r i
def setS (s : Nat → Value) (d : Nat) (v : Value) : Nat → Value := fun t => bif Nat.beq t d then v else s t
def setL (l : Nat → Array Value) (d : Nat) (v : Array Value) : Nat → Array Value := fun t => bif Nat.beq t d then v else l t
theorem setS_same (s : Nat → Value) (d : Nat) (v : Value) : setS s d v d = v := by simp [setS]
theorem setS_ne (s : Nat → Value) {d t : Nat} (v : Value) (h : t ≠ d) : setS s d v t = s t := by
  have : Nat.beq t d = false := beq_ne h
  simp [setS, this]
theorem setL_same (s : Nat → Array Value) (d : Nat) (v : Array Value) : setL s d v d = v := by simp [setL]
theorem setL_ne (s : Nat → Array Value) {d t : Nat} (v : Array Value) (h : t ≠ d) : setL s d v t = s t := by
  have : Nat.beq t d = false := beq_ne h
  simp [setL, this]
def St.set (st : St) (d : Nat) (v : Value) : St := ⟨setS st.s d v, st.l, st.G⟩
/-- Marks of loops over functions, which wait for the function's end. -/
def Marks (w0 : World) (G : GH) (ds : List Deferred) (w : World) : Prop :=
  ∃ Ds : List Nat, ds = Ds.map (fun D => ⟨.collected D, #[]⟩) ∧ Ds.Nodup ∧ ∀ D ∈ Ds, w0.heap.size ≤ D ∧ G D = none ∧ w.heap[D]? = some (Obj.deferred (some []))
theorem Marks.nil (w0 : World) (G : GH) (w : World) : Marks w0 G [] w := ⟨[], rfl, List.nodup_nil, fun D h => by cases h⟩
theorem Marks.fr {w0 w w' : World} {G G' : GH} {ds : List Deferred} (h : Marks w0 G ds w) (hf : Fr G w G' w') : Marks w0 G' ds w' := by
  obtain ⟨Ds, h1, h2, h3⟩ := h
  refine ⟨Ds, h1, h2, fun D hD => ?_⟩
  obtain ⟨k1, k2, k3⟩ := h3 D hD
  have hlt : D < w.heap.size := (Array.getElem?_eq_some_iff.1 k3).1
  exact ⟨k1, hf.none D hlt k2, by rw [hf.block D hlt k2]; exact k3⟩
theorem Marks.keep {w0 w w' : World} {G : GH} {ds : List Deferred} (h : Marks w0 G ds w) (hk : ∀ D : Nat, w.heap[D]? = some (Obj.deferred (some [])) → w'.heap[D]? = some (Obj.deferred (some []))) : Marks w0 G ds w' := by
  obtain ⟨Ds, h1, h2, h3⟩ := h
  exact ⟨Ds, h1, h2, fun D hD => let ⟨k1, k2, k3⟩ := h3 D hD; ⟨k1, k2, hk D k3⟩⟩
structure RelB (E : Env) (w0 : World) (G0 : GH) (β : Nat → Option Nat) (st : St) (a : Act) (w : World) : Prop where
  defers : Marks w0 st.G a.defers w
  size : a.tmps.size = E.n
  fr : Fr G0 w0 st.G w
  slot : ∀ t, lookE E.env t = none → a.tmps.getD t undef = st.s t
  ptr : ∀ t k o, lookE E.env t = some k → st.s t = .int .u64 o → ∃ b, β k = some b ∧ 0 ≤ o ∧ a.tmps.getD t undef = .pointer (some ⟨b, o.toNat, none⟩)
  loc : ∀ k b, β k = some b → w0.heap.size ≤ b ∧ st.G b = none ∧ ∃ e, w.heap[b]? = some (.cells (st.l k) e (0, 0))
  inj : ∀ k k' b, β k = some b → β k' = some b → k = k'
def Rel (E : Env) (w0 : World) (G0 : GH) (st : St) (a : Act) (w : World) : Prop := ∃ β, RelB E w0 G0 β st a w
theorem Rel.view {E : Env} {w0 : World} {G0 : GH} {st : St} {a : Act} {w : World} (h : Rel E w0 G0 st a w) : View st.G w := let ⟨_, r⟩ := h; r.fr.view
def lift (E : Env) (w0 : World) (G0 : GH) (Q : Exit → St → Prop) : Exit → Act → World → Prop := fun e a w => ∃ st, Rel E w0 G0 st a w ∧ Q e st
def thenQ (K : St → Prop) (Q : Exit → St → Prop) : Exit → St → Prop
  | .normal, st => K st
  | e, st => Q e st
def blockQ (id : Nat) (Q : Exit → St → Prop) : Exit → St → Prop
  | .exit i, st => bif Nat.beq i id then Q .normal st else Q (.exit i) st
  | e, st => Q e st
/-- The fence that bars nothing, for a frame of a function (none), or of a round of the loop l (some l). -/
abbrev WF (ro : Option Nat) : Fence := { Fence.wide with round := ro }
/-- CODE: from each frame and world that lie under the state it comes to an end of which Q is so. -/
def Vw (P : Program) (E : Env) (ro : Option Nat) (c : Code) (Q : Exit → St → Prop) (st : St) : Prop :=
  ∀ m w0 G0 a w, Rel E w0 G0 st a w → c.wpIn (WF ro) m P (lift E w0 G0 Q) a w
def noDefer (o : Oper) : Bool := match o.op with | .defer _ => false | _ => true
theorem noDefer_ne {o : Oper} (h : noDefer o = true) : ∀ c, o.op ≠ .defer c := fun c e => by simp [noDefer, e] at h
/-- An operation's word, within the fence that bars nothing. -/
theorem oper_in {P : Program} {ro : Option Nat} {m : Nat} {o : Oper} {a : Act} {w : World} {K : Act → World → Prop} {Q : Exit → Act → World → Prop} (hd : noDefer o = true) (h : o.wp P a w K Q) : o.wpIn (WF ro) m P a w K Q := by
  refine ⟨fun _ _ => trivial, ?_⟩
  rw [Oper.semAt_eq _ _ _ (noDefer_ne hd)]
  unfold Oper.wp at h
  generalize (execOp a.eval o).run P w = r at h
  cases r with
  | ok x w' =>
    cases x with
    | value v => exact h
    | skip => exact h
    | defer d => exact h
    | enter f args => exact ⟨fun h => by simp [Fence.wide] at h, (callsIn_wide (n := m - 1)).2 h⟩
    | row f args => exact ⟨fun h => by simp [Fence.wide] at h, fun c cs _ => let ⟨v, w1, r, s⟩ := h c cs; ⟨v, w1, r, stepsIn_wide.2 s⟩⟩
    | _ => exact h.elim
  | halt x w' =>
    cases x with
    | panic v => exact h
    | _ => exact h.elim
section
variable {P : Program} {E : Env} {ro : Option Nat} {Q : Exit → St → Prop} {st : St}
theorem Vw.mono {c : Code} {Q' : Exit → St → Prop} (h : Vw P E ro c Q st) (hq : ∀ e st, Q e st → Q' e st) : Vw P E ro c Q' st :=
  fun m w0 G0 a w hr => wpIn_mono (h m w0 G0 a w hr) fun _ _ _ ⟨st', r, q⟩ => ⟨st', r, hq _ _ q⟩
theorem Vw_skip (h : Q .normal st) : Vw P E ro .skip Q st := fun _ _ _ _ _ hr => wpIn_skip ⟨st, hr, h⟩
theorem Vw_label {l : Nat} (h : Q .normal st) : Vw P E ro (.label l) Q st := fun _ _ _ _ _ hr => wpIn_label ⟨st, hr, h⟩
theorem Vw_exit {id : Nat} (h : Q (.exit id) st) : Vw P E ro (.exit id) Q st := fun _ _ _ _ _ hr => wpIn_exit ⟨st, hr, h⟩
theorem Vw_ret (h : Q .ret st) : Vw P E ro .ret Q st := fun _ _ _ _ _ hr => wpIn_ret ⟨st, hr, h⟩
theorem Vw_seq {x y : Code} (h : Vw P E ro x (thenQ (Vw P E ro y Q) Q) st) : Vw P E ro (.seq x y) Q st := by
  intro m w0 G0 a w hr
  refine wpIn_seq (wpIn_mono (h m w0 G0 a w hr) ?_)
  rintro e a' w' ⟨st', hr', hq⟩
  cases e with
  | normal => exact hq m w0 G0 a' w' hr'
  | exit _ => exact ⟨st', hr', hq⟩
  | goto _ => exact ⟨st', hr', hq⟩
  | ret => exact ⟨st', hr', hq⟩
  | panic _ => exact ⟨st', hr', hq⟩
  | outgrown => exact ⟨st', hr', hq⟩
theorem Vw_block {id : Nat} {c : Code} (h : Vw P E ro c (blockQ id Q) st) : Vw P E ro (.block id c) Q st := by
  intro m w0 G0 a w hr
  refine wpIn_block (wpIn_mono (h m w0 G0 a w hr) ?_)
  rintro e a' w' ⟨st', hr', hq⟩
  cases e with
  | exit i =>
    by_cases hi : i = id
    · subst hi
      simp only [Exit.inBlock, if_true]
      refine ⟨st', hr', ?_⟩
      simpa [blockQ] using hq
    · simp only [Exit.inBlock, hi, if_false]
      refine ⟨st', hr', ?_⟩
      have : Nat.beq i id = false := beq_ne hi
      simpa [blockQ, this] using hq
  | normal => exact ⟨st', hr', hq⟩
  | goto _ => exact ⟨st', hr', hq⟩
  | ret => exact ⟨st', hr', hq⟩
  | panic _ => exact ⟨st', hr', hq⟩
  | outgrown => exact ⟨st', hr', hq⟩
/-- An operand's value. -/
def ev (st : St) : Operand → Value
  | .tmp t => st.s t
  | .const v => v
  | .global g => .pointer (some ⟨g, 0, none⟩)
  | .func f => .func (.func f) #[] #[]
/-- An operand that is no local variable's address. -/
def plainX (E : Env) : Operand → Bool
  | .tmp t => (lookE E.env t).isNone
  | _ => true
theorem RelB.eval {w0 : World} {G0 : GH} {β : Nat → Option Nat} {a : Act} {w : World} (h : RelB E w0 G0 β st a w) {x : Operand} (hx : plainX E x = true) : a.eval x = ev st x := by
  cases x with
  | tmp t => exact h.slot t (by simpa [plainX] using hx)
  | _ => rfl
theorem Rel.eval {w0 : World} {G0 : GH} {a : Act} {w : World} (h : Rel E w0 G0 st a w) {x : Operand} (hx : plainX E x = true) : a.eval x = ev st x := let ⟨_, r⟩ := h; r.eval hx
theorem RelB.view {w0 : World} {G0 : GH} {β : Nat → Option Nat} {a : Act} {w : World} (h : RelB E w0 G0 β st a w) : View st.G w := h.fr.view
theorem Vw_cond {c : Operand} {x y : Code} {t : Bool} (hx : plainX E c = true) (hc : ev st c = .bool t) (h : (bif t then Vw P E ro x Q st else Vw P E ro y Q st)) : Vw P E ro (.cond c x y) Q st := by
  intro m w0 G0 a w hr
  refine wpIn_cond (t := t) ((hr.eval hx).trans hc) ?_
  cases t
  · exact h m w0 G0 a w hr
  · exact h m w0 G0 a w hr
/-- A LOOP: what holds at each round's head, of a state and a number that each round lowers. -/
theorem Vw_loop {c : Code} (I : Nat → St → Prop) (n : Nat) (h0 : I n st) (round : ∀ n st, I n st → Vw P E ro c (thenQ (fun st' => ∃ m, m < n ∧ I m st') Q) st) : Vw P E ro (.loop c) Q st := by
  intro m0 w0 G0 a w hr
  refine wpIn_loop_ghost (fun n a w => ∃ st, Rel E w0 G0 st a w ∧ I n st) n ⟨st, hr, h0⟩ ?_
  rintro n a w ⟨st1, hr1, hi⟩
  refine wpIn_mono (round n st1 hi m0 w0 G0 a w hr1) ?_
  rintro e a' w' ⟨st', hr', hq⟩
  cases e with
  | normal => obtain ⟨m, hm, hi'⟩ := hq; exact ⟨m, hm, st', hr', hi'⟩
  | exit _ => exact ⟨st', hr', hq⟩
  | goto _ => exact ⟨st', hr', hq⟩
  | ret => exact ⟨st', hr', hq⟩
  | panic _ => exact ⟨st', hr', hq⟩
  | outgrown => exact ⟨st', hr', hq⟩
end
/-! ### Types, loads -/
def tyInfo (P : Program) (t : TypeId) : Option (Bool × Nat) :=
  match P.underlying t, P.info? t with
  | some (.struct _), some i => some (true, i.size)
  | some (.array _ _), some i => some (true, i.size)
  | some _, some i => some (false, i.size)
  | _, _ => none
theorem tyInfo_agg {P : Program} {t : TypeId} {g : Bool} {n : Nat} (h : tyInfo P t = some (g, n)) (w : World) : (isAgg t).run P w = .ok g w ∧ (sizeOf t).run P w = .ok n w := by
  unfold tyInfo at h
  cases hu : P.underlying t with
  | none => rw [hu] at h; cases h
  | some d =>
    cases hi : P.info? t with
    | none => rw [hu, hi] at h; cases d <;> cases h
    | some i =>
      rw [hu, hi] at h
      constructor
      · cases d <;> (cases h; simp [isAgg, run_underlying hu])
      · cases d <;> (cases h; simp [sizeOf, typeInfo, hi])
theorem add_plain (b o j : Nat) : (⟨b, o, none⟩ : Addr).add j = ⟨b, o + j, none⟩ := by unfold Addr.add; split <;> simp_all
theorem cell_of {w : World} {b : Nat} {cs : Array Value} {e : TypeId} {fr : Nat × Nat} (h : w.heap[b]? = some (.cells cs e fr)) (o : Nat) : w.cell? ⟨b, o, none⟩ = cs[o]? := by
  simp [World.cell?, h]
theorem run_loadN {P : Program} {w : World} {b : Nat} {cs : Array Value} {e : TypeId} {fr : Nat × Nat} (h : w.heap[b]? = some (.cells cs e fr)) (o n : Nat) (hn : o + n ≤ cs.size) :
    (loadCells ⟨b, o, none⟩ n).run P w = .ok (cs.extract o (o + n)) w := by
  have h1 := run_loadCells_list (P := P) w ⟨b, o, none⟩ (cs.extract o (o + n)).toList (fun j v hj => by
    rw [add_plain, cell_of h]
    rw [Array.getElem?_toList, Array.getElem?_extract] at hj
    split at hj
    · rw [show o + j = o + j from rfl]; exact hj
    · cases hj)
  have hl : (cs.extract o (o + n)).toList.length = n := by simp; omega
  rw [hl] at h1
  rw [h1]
/-- What a variable of n cells holds. -/
def takeV (g : Bool) (cs : Array Value) (o n : Nat) : Option Value :=
  bif g then (if o + n ≤ cs.size then some (.agg (cs.extract o (o + n))) else none) else cs[o]?
theorem run_loadVar {P : Program} {t : TypeId} {g : Bool} {n : Nat} (ht : tyInfo P t = some (g, n)) {w : World} {b : Nat} {cs : Array Value} {e : TypeId} {fr : Nat × Nat} (h : w.heap[b]? = some (.cells cs e fr)) (o : Nat) {v : Value} (hv : takeV g cs o n = some v) :
    (loadVar t ⟨b, o, none⟩).run P w = .ok v w := by
  obtain ⟨h1, h2⟩ := tyInfo_agg ht w
  unfold loadVar
  simp only [Sem.run_bind, h1, Result.andThen_ok]
  cases g with
  | true =>
    simp only [takeV, cond_true] at hv
    split at hv
    · rename_i hn
      cases hv
      simp only [if_true, Sem.run_bind, h2, Result.andThen_ok, run_loadN h o n hn, Sem.run_pure]
    · cases hv
  | false =>
    simp only [takeV, cond_false] at hv
    simp only [Bool.false_eq_true, if_false, run_load, cell_of h, hv]
/-! ### A function -/
/-- A result: a slot, or a local variable (its slot, its number, its cells). -/
inductive RV where
  | slot (t : Nat)
  | loc (a k n : Nat)
  | heap (a n : Nat) (g : Bool)
def compRV (P : Program) (E : Env) : ResultVar → Option RV
  | .tmp t => bif (lookE E.env t).isNone then some (.slot t) else none
  | .cell a t => match lookE E.env a, tyInfo P t with
    | some k, some (true, n) => some (.loc a k n)
    | none, some (g, n) => some (.heap a n g)
    | _, _ => none
def rvV (st : St) : RV → Value
  | .slot t => st.s t
  | .loc _ k n => .agg ((st.l k).extract 0 n)
  | .heap a n g => match st.s a with
    | .pointer (some ⟨b, q, none⟩) => match st.G b with
      | some (.cells cs _ _) => (takeV g cs q n).getD undef
      | _ => undef
    | _ => undef
def rvOk (st : St) : RV → Prop
  | .slot _ => True
  | .loc a k n => st.s a = .int .u64 0 ∧ n ≤ (st.l k).size
  | .heap a n g => ∃ b q cs e fr v, st.s a = .pointer (some ⟨b, q, none⟩) ∧ st.G b = some (.cells cs e fr) ∧ takeV g cs q n = some v
def rvsOk (st : St) : List RV → Prop
  | [] => True
  | r :: rs => rvOk st r ∧ rvsOk st rs
def tupV (vs : List Value) : Value := match vs with | [v] => v | _ => .tuple vs.toArray
/-- What is so where a function ends. -/
def endQ (rs : List RV) (R : Value → GH → Prop) : Exit → St → Prop
  | .normal, st => rvsOk st rs ∧ R (tupV (rs.map (rvV st))) st.G
  | .ret, st => rvsOk st rs ∧ R (tupV (rs.map (rvV st))) st.G
  | _, _ => False
def args0 (args : List Value) : Nat → Value := fun t => args.getD t undef
def resF (tmps : Array Value) : ResultVar → Sem Value
  | .tmp t => pure (tmps.getD t undef)
  | .cell c t => do loadVar t (← asAddr (tmps.getD c undef))
theorem results_eq (fn : Func) (tmps : Array Value) : results fn tmps = (do
    let vs ← fn.results.mapM (resF tmps)
    pure (if h : vs.size = 1 then vs[0] else .tuple vs)) := by
  unfold results resF
  rfl
theorem compRV_run {P : Program} {E : Env} {w0 : World} {G0 : GH} {β : Nat → Option Nat} {st : St} {a : Act} {w : World} (h : RelB E w0 G0 β st a w) {r : ResultVar} {q : RV} (hc : compRV P E r = some q) (ho : rvOk st q) :
    (resF a.tmps r).run P w = .ok (rvV st q) w := by
  cases r with
  | tmp t =>
    simp only [compRV] at hc
    cases hl : lookE E.env t with
    | none => rw [hl] at hc; cases hc; simp only [resF, Sem.run_pure, rvV, h.slot t hl]
    | some k => rw [hl] at hc; cases hc
  | cell c t =>
    simp only [compRV] at hc
    cases hl : lookE E.env c with
    | none =>
      rw [hl] at hc
      cases ht : tyInfo P t with
      | none => rw [ht] at hc; cases hc
      | some x =>
        obtain ⟨g, n⟩ := x
        rw [ht] at hc
        cases hc
        obtain ⟨b, q, cs, e, fr, v, h1, h2, h3⟩ := ho
        simp only [resF, h.slot c hl, h1, asAddr, Sem.run_bind, Sem.run_pure, Result.andThen_ok]
        rw [run_loadVar ht (h.view b _ h2) q h3]
        simp only [rvV, h1, h2, h3, Option.getD_some]
    | some k =>
      rw [hl] at hc
      cases ht : tyInfo P t with
      | none => rw [ht] at hc; cases hc
      | some x =>
        obtain ⟨g, n⟩ := x
        rw [ht] at hc
        cases g with
        | false => cases hc
        | true =>
          cases hc
          obtain ⟨h1, h2⟩ := ho
          obtain ⟨b, hb, _, hp⟩ := h.ptr c k 0 hl h1
          obtain ⟨_, _, e, he⟩ := h.loc k b hb
          simp only [resF, hp, asAddr, Sem.run_bind, Sem.run_pure, Result.andThen_ok]
          refine run_loadVar ht he 0 ?_
          simp [takeV, h2]
          rfl
theorem mapM_results {P : Program} {E : Env} {w0 : World} {G0 : GH} {β : Nat → Option Nat} {st : St} {a : Act} {w : World} (h : RelB E w0 G0 β st a w) : ∀ (rs : List ResultVar) (qs : List RV), rs.mapM (compRV P E) = some qs → rvsOk st qs →
    (rs.mapM (resF a.tmps)).run P w = .ok (qs.map (rvV st)) w
  | [], qs, hm, _ => by
    simp at hm; subst hm
    simp
  | r :: rs, qs, hm, ho => by
    rw [List.mapM_cons] at hm
    cases h1 : compRV P E r with
    | none => rw [h1] at hm; cases hm
    | some q =>
      rw [h1] at hm
      cases h2 : rs.mapM (compRV P E) with
      | none => rw [h2] at hm; cases hm
      | some qs' =>
        rw [h2] at hm
        cases hm
        obtain ⟨o1, o2⟩ := ho
        rw [List.mapM_cons, Sem.run_bind, compRV_run h h1 o1, Result.andThen_ok, Sem.run_bind, mapM_results h rs qs' h2 o2, Result.andThen_ok, Sem.run_pure]
        rfl
theorem HC.of_body {P : Program} {f : FuncId} {fn : Func} {c : Code} {args : List Value} {G : GH} {R : Value → GH → Prop} (E : Env) (rs : List RV)
    (hf : P.funcs[f]? = some fn) (hb : fn.body = some c) (hr : fn.results.toList.mapM (compRV P E) = some rs) (hn : args.length ≤ fn.ntmps) (he : E.n = fn.ntmps)
    (hp : E.env.all (fun x => decide (args.length ≤ x.1)) = true) (l : Nat → Array Value)
    (h : Vw P E none c (endQ rs R) ⟨args0 args, l, G⟩) : HC P f args.toArray G R := by
  intro w hw
  refine (callsIn_wide (n := 0)).1 (callsIn_of_wp_marks hf hb trivial ?_)
  have hpar : ∀ (L : List (Nat × Nat)) t k, L.all (fun x => decide (args.length ≤ x.1)) = true → lookE L t = some k → args.length ≤ t := by
    intro L
    induction L with
    | nil => intro t k _ h; cases h
    | cons x L ih =>
      intro t k ha hl
      obtain ⟨i, j⟩ := x
      simp only [List.all_cons, Bool.and_eq_true, decide_eq_true_eq] at ha
      simp only [lookE] at hl
      cases hb : Nat.beq i t with
      | true => rw [← Nat.eq_of_beq_eq_true hb]; exact ha.1
      | false => rw [hb] at hl; exact ih t k ha.2 hl
  have hget : ∀ t, (args.toArray ++ Array.replicate (fn.ntmps - args.toArray.size) undef).getD t undef = args0 args t := by
    intro t
    unfold args0
    simp only [Array.getD_eq_getD_getElem?, List.getD_eq_getElem?_getD, Array.getElem?_append, List.size_toArray, List.getElem?_toArray, Array.getElem?_replicate]
    split
    · rfl
    · rename_i h1
      rw [List.getElem?_eq_none (by omega)]
      split <;> rfl
  have hrel : Rel E w G ⟨args0 args, l, G⟩ ⟨args.toArray ++ Array.replicate (fn.ntmps - args.toArray.size) undef, []⟩ w := by
    refine ⟨fun _ => none, Marks.nil _ _ _, ?_, Fr.refl hw, fun t _ => hget t, fun t k o hl hs => ?_, fun k b hb => (by cases hb), fun k k' b hb _ => (by cases hb)⟩
    · simp [he]; omega
    · have := hpar _ t k hp hl
      have e1 : args0 args t = undef := by
        unfold args0
        rw [List.getD_eq_getElem?_getD, List.getElem?_eq_none this]; rfl
      rw [show (⟨args0 args, l, G⟩ : St).s t = args0 args t from rfl, e1] at hs
      cases hs
  refine wpIn_mono (h 0 w G _ w hrel) ?_
  rintro e a w' ⟨st, ⟨β, hr'⟩, hq⟩
  have key : rvsOk st rs ∧ R (tupV (rs.map (rvV st))) st.G → LeavesInM (WF none) 0 P fn a.tmps (fun e w' => ∃ v G', e = .returned v ∧ Fr G w G' w' ∧ R v G') a.defers .returning w' := by
    rintro ⟨h1, h2⟩
    obtain ⟨Ds, e1, e2, e3⟩ := hr'.defers
    rw [e1]
    have hr2 : RelB E w G β st ⟨a.tmps, []⟩ w' := ⟨Marks.nil _ _ _, hr'.size, hr'.fr, hr'.slot, hr'.ptr, hr'.loc, hr'.inj⟩
    clear hr' hq e1
    induction Ds generalizing w' with
    | nil =>
      refine ⟨tupV (rs.map (rvV st)), ?_, _, st.G, rfl, hr2.fr, h2⟩
      have h3 := mapM_results (P := P) hr2 fn.results.toList rs hr h1
      rw [results_eq, Sem.run_bind, Array.mapM_eq_mapM_toList]
      simp only [Sem.run_map]
      rw [h3]
      simp only [Result.andThen_ok, Sem.run_pure]
      congr 1
      cases hv : rs.map (rvV st) with
      | nil => simp [tupV]
      | cons x xs =>
        cases xs with
        | nil => simp [tupV]
        | cons y ys => simp [tupV]
    | cons D Ds ih =>
      rw [List.nodup_cons] at e2
      obtain ⟨k1, k2, k3⟩ := e3 D (List.mem_cons_self)
      refine ⟨by simp, .inl ⟨D, _, rfl, run_takeDeferred k3, ih _ e2.2 (fun D' hD' => ?_) ?_⟩⟩
      · obtain ⟨m1, m2, m3⟩ := e3 D' (List.mem_cons_of_mem _ hD')
        exact ⟨m1, m2, by rw [World.putObj_heap_other (fun e => by subst e; exact e2.1 hD')]; exact m3⟩
      · refine ⟨Marks.nil _ _ _, hr2.size, ⟨hr2.fr.os, hr2.fr.tape, hr2.fr.output, by rw [World.putObj_size]; exact hr2.fr.size, fun b hb hn => ?_, hr2.fr.none, fun b o hb => ?_⟩, hr2.slot, hr2.ptr, fun k b hb => ?_, hr2.inj⟩
        · rw [World.putObj_heap_other (by omega)]; exact hr2.fr.block b hb hn
        · rw [World.putObj_heap_other (fun e => by subst e; rw [k2] at hb; cases hb)]; exact hr2.fr.view b o hb
        · obtain ⟨m1, m2, e, m3⟩ := hr2.loc k b hb
          exact ⟨m1, m2, e, by rw [World.putObj_heap_other (fun e => by subst e; rw [k3] at m3; cases m3)]; exact m3⟩
  cases e with
  | normal => exact key hq
  | ret => exact key hq
  | exit _ => exact hq.elim
  | goto _ => exact hq.elim
  | panic _ => exact hq.elim
  | outgrown => exact hq.elim
end Go.Proofs.Ytbmhdmkmnhaffaa.V
end
section
/- Library V, part C: operations that only reckon with values. No program here. -/
set_option linter.unusedVariables false
set_option linter.unusedSimpArgs false
namespace Go.Proofs.Ytbmhdmkmnhaffaa.V
/-- What is compared of an array or a struct: a cell; nothing; a part (where, how many cells, whether a row), then the rest. -/
inductive Sh where
  | leafI
  | leafB
  | leafS
  | nil
  | one (o n : Nat) (g : Bool) (s r : Sh)
inductive PF where
  | mv | pick
  | bin (op : BinOp)
  | eqB (neg : Bool)
  | eqA (neg : Bool) (sh : Sh)
  | capL
  | un (op : UnOp)
  | convI (k : IntKind)
  | convS
  | ext (i : Nat)
  | field (g : Bool) (o n : Nat)
  | idxA (g : Bool) (len n : Nat)
  | idxS
  | lenS | lenL | lenA (n : Nat)
  | minI | maxI
  | mkfn (f : Fn) (m : Nat)
  | iface (t : TypeId)
  | nilck
  | fptr (o : Nat)
  | iptrA (len n : Nat)
  | iptrS (n : Nat)
  | slcS (lo hi : Bool)
  | slc (n : Nat) (lo hi mx : Bool)
  | slcA (len n : Nat) (lo hi mx : Bool)
  | s2a (n : Nat)
  | build (zero : Array Value) (parts : List (Nat × Nat))
  | nilS (neg : Bool)
  | nilP (neg : Bool)
  | nilF (neg : Bool)
def intV (op : BinOp) (k : IntKind) (a b : Int) : Option Value :=
  match op with
  | .add => some (.int k (k.wrap (a + b)))
  | .sub => some (.int k (k.wrap (a - b)))
  | .mul => some (.int k (k.wrap (a * b)))
  | .quo => if b = 0 then none else some (.int k (k.wrap (a.tdiv b)))
  | .rem => if b = 0 then none else some (.int k (a.tmod b))
  | .and => some (.int k (k.wrap (BitVec.ofInt k.bits a &&& BitVec.ofInt k.bits b).toNat))
  | .or => some (.int k (k.wrap (BitVec.ofInt k.bits a ||| BitVec.ofInt k.bits b).toNat))
  | .xor => some (.int k (k.wrap (BitVec.ofInt k.bits a ^^^ BitVec.ofInt k.bits b).toNat))
  | .andNot => some (.int k (k.wrap (BitVec.ofInt k.bits a &&& ~~~(BitVec.ofInt k.bits b)).toNat))
  | .eql => some (.bool (a == b))
  | .neq => some (.bool (a != b))
  | .lss => some (.bool (decide (a < b)))
  | .leq => some (.bool (decide (a ≤ b)))
  | .gtr => some (.bool (decide (a > b)))
  | .geq => some (.bool (decide (a ≥ b)))
  | _ => none
def strV (op : BinOp) (x y : ByteArray) : Option Value :=
  match op with
  | .add => if ((x.size + y.size : Nat) : Int) > IntKind.i64.max then none else some (.string (x ++ y))
  | .eql => some (.bool (x.toList == y.toList))
  | .neq => some (.bool (!(x.toList == y.toList)))
  | .lss => some (.bool (Op.bytesLess x.toList y.toList))
  | .leq => some (.bool (Op.bytesLess x.toList y.toList || x.toList == y.toList))
  | .gtr => some (.bool (!(Op.bytesLess x.toList y.toList || x.toList == y.toList)))
  | .geq => some (.bool (!(Op.bytesLess x.toList y.toList)))
  | _ => none
def shV (op : BinOp) (k : IntKind) (a b : Int) : Option Value :=
  if b < 0 then none else
  match op with
  | .shl => some (.int k (k.wrap (a * 2 ^ (min b.toNat k.bits))))
  | .shr => some (.int k (a.fdiv (2 ^ (min b.toNat k.bits))))
  | _ => none
def kindEq : IntKind → IntKind → Bool
  | .i8, .i8 | .i16, .i16 | .i32, .i32 | .i64, .i64 | .u8, .u8 | .u16, .u16 | .u32, .u32 | .u64, .u64 => true
  | _, _ => false
theorem kindEq_eq {a b : IntKind} (h : kindEq a b = true) : a = b := by cases a <;> cases b <;> first | rfl | cases h
def binV (op : BinOp) (x y : Value) : Option Value :=
  match x, y with
  | .int k a, .int k' b =>
    match op with
    | .shl => shV .shl k a b
    | .shr => shV .shr k a b
    | _ => bif kindEq k k' then intV op k a b else none
  | .string a, .string b => strV op a b
  | _, _ => none
def unV (op : UnOp) (x : Value) : Option Value :=
  match op, x with
  | .neg, .int k n => some (.int k (k.wrap (0 - n)))
  | .xor, .int k n => some (.int k (k.wrap (BitVec.ofInt k.bits (if k.signed then -1 else k.max) ^^^ BitVec.ofInt k.bits n).toNat))
  | .not, .bool b => some (.bool (!b))
  | _, _ => none
/-- Bounds of a cut: low, high, most. -/
def cutV (len cap : Nat) (lo hi mx : Option Int) : Option (Nat × Nat × Nat) :=
  match mx with
  | none =>
    let h : Int := hi.getD len
    let l : Int := lo.getD 0
    if 0 ≤ l ∧ l ≤ h ∧ h ≤ cap then some (l.toNat, h.toNat, cap) else none
  | some m =>
    match hi with
    | none => none
    | some h =>
      let l : Int := lo.getD 0
      if 0 ≤ l ∧ l ≤ h ∧ h ≤ m ∧ m ≤ cap then some (l.toNat, h.toNat, m.toNat) else none
/-- The bounds among the operands. -/
def bnds (lo hi mx : Bool) (vs : List Value) : Option (Option Int × Option Int × Option Int) :=
  match lo, hi, mx, vs with
  | false, false, false, [] => some (none, none, none)
  | true, false, false, [.int _ l] => some (some l, none, none)
  | false, true, false, [.int _ h] => some (none, some h, none)
  | true, true, false, [.int _ l, .int _ h] => some (some l, some h, none)
  | false, true, true, [.int _ h, .int _ m] => some (none, some h, some m)
  | true, true, true, [.int _ l, .int _ h, .int _ m] => some (some l, some h, some m)
  | _, _, _, _ => none
def addO (a : Option Addr) (l m n : Nat) : Option Addr := if m = l then a else a.map (·.add (l * n))
def fillV : List (Nat × Nat) → List Value → Array Value → Option (Array Value)
  | [], [], cs => some cs
  | (o, n) :: ps, v :: vs, cs => if v.cells.size ≠ n ∨ o + v.cells.size > cs.size then none else fillV ps vs (v.cells.zipIdx.foldl (fun cs (c, j) => cs.setIfInBounds (o + j) c) cs)
  | _, _, _ => none
def minL : Int → List Value → Option Int
  | m, [] => some m
  | m, .int _ y :: r => minL (if y < m then y else m) r
  | _, _ => none
def maxL : Int → List Value → Option Int
  | m, [] => some m
  | m, .int _ y :: r => maxL (if y > m then y else m) r
  | _, _ => none
def eqSh : Sh → Value → Value → Option Bool
  | .leafI, .int k a, .int k' b => bif kindEq k k' then some (a == b) else none
  | .leafB, .bool a, .bool b => some (a == b)
  | .leafS, .string a, .string b => some (a.toList == b.toList)
  | .nil, .agg _, .agg _ => some true
  | .one o n g s r, .agg xs, .agg ys =>
    match takeV g xs o n, takeV g ys o n with
    | some u, some v => match eqSh s u v, eqSh r (.agg xs) (.agg ys) with
      | some a, some b => some (a && b)
      | _, _ => none
    | _, _ => none
  | _, _, _ => none
def pureV : PF → List Value → Option Value
  | .mv, [x] => some x
  | .pick, [.bool c, a, b] => some (if c then a else b)
  | .bin op, [x, y] => binV op x y
  | .eqA neg sh, [x, y] => (eqSh sh x y).map fun r => .bool (if neg then !r else r)
  | .capL, [.slice _ _ c] => some (.int .i64 c)
  | .eqB neg, [.bool a, .bool b] => some (.bool (if neg then !(a == b) else a == b))
  | .un op, [x] => unV op x
  | .convI k, [.int _ n] => some (.int k (k.wrap n))
  | .convS, [.string s] => some (.string s)
  | .ext i, [.tuple vs] => vs[i]?
  | .field g o n, [.agg cs] => takeV g cs o n
  | .idxA g len n, [.agg cs, .int _ i] => if 0 ≤ i ∧ i < len then takeV g cs (i.toNat * n) n else none
  | .idxS, [.string s, .int _ i] => if h : 0 ≤ i ∧ i.toNat < s.size then some (.int .u8 (s[i.toNat]'h.2).toNat) else none
  | .lenS, [.string s] => some (.int .i64 s.size)
  | .lenL, [.slice _ n _] => some (.int .i64 n)
  | .lenA n, [_] => some (.int .i64 n)
  | .minI, .int k x :: r => (minL x r).map (.int k ·)
  | .maxI, .int k x :: r => (maxL x r).map (.int k ·)
  | .mkfn f m, vs => some (.func f (vs.take m).toArray (vs.drop m).toArray)
  | .iface t, [x] => some (.iface t x)
  | .nilck, [.pointer (some a)] => some (.pointer (some a))
  | .fptr o, [.pointer (some ⟨b, q, none⟩)] => some (.pointer (some ⟨b, q + o, none⟩))
  | .iptrA len n, [.pointer (some ⟨b, q, none⟩), .int _ i] => if 0 ≤ i ∧ i < len then some (.pointer (some ⟨b, q + i.toNat * n, none⟩)) else none
  | .iptrS n, [.slice (some ⟨b, q, none⟩) len _, .int _ i] => if 0 ≤ i ∧ i < len then some (.pointer (some ⟨b, q + i.toNat * n, none⟩)) else none
  | .slcS lo hi, .string s :: r => (bnds lo hi false r).bind fun (l, h, _) => (cutV s.size s.size l h none).map fun (l, h, _) => .string (s.extract l h)
  | .slc n lo hi mx, .slice a len cap :: r => (bnds lo hi mx r).bind fun (l, h, m) => (cutV len cap l h m).map fun (l, h, m) => .slice (addO a l m n) (h - l) (m - l)
  | .slcA len n lo hi mx, .pointer (some a) :: r => (bnds lo hi mx r).bind fun (l, h, m) => (cutV len len l h m).map fun (l, h, m) => .slice (addO (some a) l m n) (h - l) (m - l)
  | .s2a n, [.slice a len _] => if n ≤ len then some (.pointer a) else none
  | .build zero parts, vs => (fillV parts vs zero).map .agg
  | .nilS neg, [.slice a _ _, .slice none _ _] => some (.bool (if neg then !a.isNone else a.isNone))
  | .nilP neg, [.pointer a, .pointer none] => some (.bool (if neg then !a.isNone else a.isNone))
  | .nilF neg, [.func _ _ _, .nilFunc] => some (.bool neg)
  | .nilF neg, [.nilFunc, .nilFunc] => some (.bool (!neg))
  | _, _ => none
/-! ### Out of an operation of the program -/
def isKind (P : Program) (t : TypeId) : Option IntKind := match P.underlying t with | some (.int k) => some k | _ => none
def isStr (P : Program) (t : TypeId) : Bool := match P.underlying t with | some .string => true | _ => false
def arrT (P : Program) (t : TypeId) : Option (Nat × TypeId) := match P.underlying t with | some (.array n e) => some (n, e) | _ => none
def slcT (P : Program) (t : TypeId) : Option TypeId := match P.underlying t with | some (.slice e) => some e | _ => none
def fldT (P : Program) (t : TypeId) (i : Nat) : Option (Nat × TypeId) := match P.underlying t with | some (.struct fs) => (fs[i]?).map fun f => (f.offset, f.type) | _ => none
def optL (x : Option Operand) : List Operand := match x with | some o => [o] | none => []
def zeroOf (P : Program) (t : TypeId) : Option Value := (P.info? t).bind (·.zero)
def sizesO (P : Program) (fs : List Field) : Option (List (Nat × Nat)) := fs.mapM fun f => (P.info? f.type).map fun i => (f.offset, i.size)
def partsOf (P : Program) (t : TypeId) (parts : List (Nat × Operand)) : Option (List (Nat × Nat)) :=
  match P.underlying t with
  | some (.struct fs) => (sizesO P fs.toList).bind fun pl => parts.mapM fun p => pl[p.1]?
  | some (.array _ e) => (P.info? e).bind fun i => some (parts.map fun p => (p.1 * i.size, i.size))
  | _ => none
def shapeFs (P : Program) (f : TypeId → Option Sh) : List Field → Option Sh
  | [] => some .nil
  | x :: r => bif x.name == "_" then none else (tyInfo P x.type).bind fun (g, n) => (f x.type).bind fun s => (shapeFs P f r).map fun r => .one x.offset n g s r
def shapeIs (n : Nat) (g : Bool) (c : Nat) (s : Sh) : List Nat → Sh
  | [] => .nil
  | i :: r => .one (i * c) n g s (shapeIs n g c s r)
def shapeOf (P : Program) : Nat → TypeId → Option Sh
  | 0, _ => none
  | m + 1, t => match P.underlying t with
    | some .bool => some .leafB
    | some (.int _) => some .leafI
    | some .string => some .leafS
    | some (.struct fs) => bif P.stoodInHeld t then none else shapeFs P (shapeOf P m) fs.toList
    | some (.array len e) => (P.info? e).bind fun _ => (tyInfo P e).bind fun (g, n) => (shapeOf P m e).map fun s => shapeIs n g (P.cellsOf e) s (List.range len)
    | _ => none
def compPF (P : Program) (op : Op) : Option (PF × List Operand) :=
  match op with
  | .move x => some (.mv, [x])
  | .assign x => some (.mv, [x])
  | .pick c a b => some (.pick, [c, a, b])
  | .binOp op t x y _ =>
    match P.underlying t with
    | some (.int _) => some (.bin op, [x, y])
    | some .string => some (.bin op, [x, y])
    | some .bool => match op with
      | .eql => some (.eqB false, [x, y])
      | .neq => some (.eqB true, [x, y])
      | _ => none
    | some (.slice _) => match op with
      | .eql => some (.nilS false, [x, y])
      | .neq => some (.nilS true, [x, y])
      | _ => none
    | some (.pointer _) => match op with
      | .eql => some (.nilP false, [x, y])
      | .neq => some (.nilP true, [x, y])
      | _ => none
    | some (.func _ _ _) => match op with
      | .eql => some (.nilF false, [x, y])
      | .neq => some (.nilF true, [x, y])
      | _ => none
    | some (.struct _) => bif P.eqGuardType P.depth t then none else (shapeOf P 12 t).bind fun sh => match op with
      | .eql => some (.eqA false sh, [x, y])
      | .neq => some (.eqA true sh, [x, y])
      | _ => none
    | some (.array _ _) => bif P.eqGuardType P.depth t then none else (shapeOf P 12 t).bind fun sh => match op with
      | .eql => some (.eqA false sh, [x, y])
      | .neq => some (.eqA true sh, [x, y])
      | _ => none
    | _ => none
  | .unOp op _ x => some (.un op, [x])
  | .convert s d x =>
    match P.underlying s, P.underlying d with
    | some (.int _), some (.int k) => some (.convI k, [x])
    | some .string, some .string => some (.convS, [x])
    | _, _ => none
  | .extract x i => some (.ext i, [x])
  | .field t x i => (fldT P t i).bind fun (o, ft) => (tyInfo P ft).map fun (g, n) => (.field g o n, [x])
  | .index t x i =>
    match P.underlying t with
    | some (.array len e) => (tyInfo P e).map fun (g, n) => (.idxA g len n, [x, i])
    | some .string => some (.idxS, [x, i])
    | _ => none
  | .makeFunc f first captured => some (.mkfn f first.size, first.toList ++ captured.toList)
  | .nilCheck x => some (.nilck, [x])
  | .fieldAddr t x i => (fldT P t i).bind fun (o, ft) => (tyInfo P ft).bind fun (_, n) => bif n == 0 then none else some (.fptr o, [x])
  | .indexAddr t x i =>
    match P.underlying t with
    | some (.array len e) => (tyInfo P e).map fun (_, n) => (.iptrA len n, [x, i])
    | some (.slice e) => (tyInfo P e).map fun (_, n) => (.iptrS n, [x, i])
    | _ => none
  | .slice t x lo hi mx =>
    match P.underlying t with
    | some .string => bif mx.isSome then none else some (.slcS lo.isSome hi.isSome, x :: (optL lo ++ optL hi))
    | some (.slice e) => (tyInfo P e).map fun (_, n) => (.slc n lo.isSome hi.isSome mx.isSome, x :: (optL lo ++ optL hi ++ optL mx))
    | some (.array len e) => (tyInfo P e).map fun (_, n) => (.slcA len n lo.isSome hi.isSome mx.isSome, x :: (optL lo ++ optL hi ++ optL mx))
    | _ => none
  | .sliceToArrayPointer t x =>
    match P.underlying t with
    | some (.array n _) => some (.s2a n, [x])
    | _ => none
  | .build t parts => (zeroOf P t).bind fun z => (partsOf P t parts.toList).map fun ps => (.build z.cells ps, parts.toList.map (·.2))
  | .call c =>
    match c.callee with
    | .builtin .len => match c.args.toList, c.argTypes.toList with
      | [x], [t] => match P.underlying t with
        | some .string => some (.lenS, [x])
        | some (.slice _) => some (.lenL, [x])
        | some (.array n _) => some (.lenA n, [x])
        | _ => none
      | _, _ => none
    | .builtin .cap => match c.args.toList, c.argTypes.toList with
      | [x], [t] => match P.underlying t with
        | some (.slice _) => some (.capL, [x])
        | _ => none
      | _, _ => none
    | .builtin .min => some (.minI, c.args.toList)
    | .builtin .max => some (.maxI, c.args.toList)
    | _ => none
  | _ => none
/-! ### Sound -/
section
variable {P : Program} {w : World}
theorem run_wp (s : Sem Value) {v : Value} (h : s.run P w = .ok v w) : ((do pure (Next.value (← s)) : Sem Next)).run P w = .ok (.value v) w := by
  simp only [Sem.run_bind, h, Result.andThen_ok, Sem.run_pure]
theorem intV_run {op : BinOp} {k : IntKind} {a b : Int} {v : Value} (h : intV op k a b = some v) :
    (match op with
    | .add | .sub | .mul => Op.intArith op k a b
    | .quo | .rem => Op.intDiv op k a b
    | .and | .or | .xor | .andNot => Op.intBits op k a b
    | _ => Op.intCmp op a b).run P w = .ok v w := by
  cases op <;> simp only [intV] at h
  case quo => obtain ⟨hb, h⟩ := Option.ite_none_left_eq_some.1 h; cases h; simp [Op.intDiv, hb]
  case rem => obtain ⟨hb, h⟩ := Option.ite_none_left_eq_some.1 h; cases h; simp [Op.intDiv, hb]
  all_goals first
    | (cases h; rfl)
    | cases h
theorem shV_run {op : BinOp} {k yk : IntKind} {a b : Int} {v : Value} (h : shV op k a b = some v) : (Op.shift op k a yk b).run P w = .ok v w := by
  unfold shV at h
  split at h
  · cases h
  · rename_i hb
    cases op <;> first
      | (cases h; done)
      | (cases h; simp [Op.shift, hb])
theorem strV_run {op : BinOp} {a b : ByteArray} {v : Value} (h : strV op a b = some v) : (Op.stringOp op a b).run P w = .ok v w := by
  cases op <;> simp only [strV] at h
  case add =>
    obtain ⟨hb, h⟩ := Option.ite_none_left_eq_some.1 h
    cases h
    simp only [Op.stringOp]
    rw [if_neg hb]; rfl
  all_goals first
    | (cases h; rfl)
    | cases h
theorem eqGuard_no {op : BinOp} {t : TypeId} {x y : Operand} {a b : Value} (h1 : a ≠ .nilIface) (h2 : ∀ c, a ≠ .agg c) : (eqGuard op t x y a b).run P w = .ok () w := by
  cases a <;> cases op <;> first | rfl | (exact absurd rfl h1) | (exact absurd rfl (h2 _))
theorem binV_run {op : BinOp} {t : TypeId} {x y : Operand} {a b v : Value} (h : binV op a b = some v) :
    ((do eqGuard op t x y a b; binOp op t a b : Sem Value)).run P w = .ok v w := by
  cases a with
  | int k n =>
    cases b with
    | int k' m =>
      rw [Sem.run_bind, eqGuard_no (by simp) (by simp), Result.andThen_ok]
      simp only [binV] at h
      cases op
      case shl => exact shV_run (yk := k') h
      case shr => exact shV_run (yk := k') h
      all_goals
        cases hk : kindEq k k' with
        | false => rw [hk] at h; cases h
        | true =>
          rw [hk] at h
          obtain rfl := kindEq_eq hk
          dsimp only [cond_true] at h
          have := intV_run (P := P) (w := w) h
          simp only [binOp, ne_eq, not_true_eq_false, if_false]
          exact this
    | _ => cases h
  | string s =>
    cases b with
    | string s' =>
      rw [Sem.run_bind, eqGuard_no (by simp) (by simp), Result.andThen_ok]
      have := strV_run (P := P) (w := w) h
      cases op <;> exact this
    | _ => cases h
  | _ => cases h
theorem unV_run {op : UnOp} {x v : Value} (h : unV op x = some v) : (Op.unary op x).run P w = .ok v w := by
  cases op <;> cases x <;> first
    | (cases h; done)
    | (cases h; rfl)
theorem run_bound {k : IntKind} {i : Int} {y : Nat} {code : BoundsCode} (h0 : 0 ≤ i) (h1 : i ≤ y) : (Instr.sliceBound (.int k i) y code).run P w = .ok i.toNat w := by
  simp [Instr.sliceBound, asIntOf, h0, h1]
theorem bnds_run {isSlice : Bool} {len cap : Nat} {lo hi mx : Option Operand} {ρ : Operand → Value} {l h m : Option Int} {a b c : Nat}
    (hb : bnds lo.isSome hi.isSome mx.isSome ((optL lo ++ optL hi ++ optL mx).map ρ) = some (l, h, m)) (hc : cutV len cap l h m = some (a, b, c)) :
    (Instr.sliceBounds isSlice len cap (lo.map ρ) (hi.map ρ) (mx.map ρ)).run P w = .ok (a, b, c) w := by
  have key : ∀ x : Value, (∃ k n, x = .int k n) ∨ ∀ k n, x ≠ .int k n := by
    intro x
    cases x with
    | int k n => exact .inl ⟨k, n, rfl⟩
    | _ => exact .inr (by intros; simp)
  cases lo with
  | none =>
    cases hi with
    | none =>
      cases mx with
      | none =>
        cases hb
        simp only [cutV, Option.getD_none] at hc
        obtain ⟨hh, hc⟩ := Option.ite_none_right_eq_some.1 hc
        cases hc
        simp [Instr.sliceBounds]
      | some z => cases hb
    | some y =>
      rcases key (ρ y) with ⟨ky, ny, ey⟩ | ny
      · cases mx with
        | none =>
          simp only [Option.isSome, optL, List.nil_append, List.append_nil, List.map_cons, List.map_nil, ey, bnds] at hb
          cases hb
          simp only [cutV, Option.getD_none, Option.getD_some] at hc
          obtain ⟨hh, hc⟩ := Option.ite_none_right_eq_some.1 hc
          cases hc
          simp [Instr.sliceBounds, ey, run_bound hh.2.1 hh.2.2]
        | some z =>
          rcases key (ρ z) with ⟨kz, nz, ez⟩ | nz
          · simp only [Option.isSome, optL, List.nil_append, List.append_nil, List.map_cons, List.map_nil, List.cons_append, ey, ez, bnds] at hb
            cases hb
            simp only [cutV, Option.getD_none, Option.getD_some] at hc
            obtain ⟨hh, hc⟩ := Option.ite_none_right_eq_some.1 hc
            cases hc
            have e1 : nz.toNat = nz := Int.toNat_of_nonneg (by omega)
            simp [Instr.sliceBounds, ey, ez, run_bound (show 0 ≤ nz by omega) hh.2.2.2, run_bound (y := nz.toNat) hh.2.1 (by omega)]
          · exfalso
            simp only [Option.isSome, optL, List.nil_append, List.append_nil, List.map_cons, List.map_nil, List.cons_append, ey] at hb
            cases hz : ρ z <;> rw [hz] at hb <;> first | (exact nz _ _ hz) | cases hb
      · exfalso
        cases hy : ρ y <;> first
          | (exact ny _ _ hy)
          | (cases mx <;> simp only [Option.isSome, optL, List.nil_append, List.append_nil, List.map_cons, List.map_nil, List.cons_append, hy] at hb <;> cases hb)
  | some x =>
    rcases key (ρ x) with ⟨kx, nx, ex⟩ | nx
    · cases hi with
      | none =>
        cases mx with
        | none =>
          simp only [Option.isSome, optL, List.nil_append, List.append_nil, List.map_cons, List.map_nil, ex, bnds] at hb
          cases hb
          simp only [cutV, Option.getD_none, Option.getD_some] at hc
          obtain ⟨hh, hc⟩ := Option.ite_none_right_eq_some.1 hc
          cases hc
          simp [Instr.sliceBounds, ex, run_bound hh.1 hh.2.1]
        | some z =>
          simp only [Option.isSome, optL, List.nil_append, List.append_nil, List.map_cons, List.map_nil, List.cons_append, ex] at hb
          cases hb
      | some y =>
        rcases key (ρ y) with ⟨ky, ny, ey⟩ | ny
        · cases mx with
          | none =>
            simp only [Option.isSome, optL, List.nil_append, List.append_nil, List.map_cons, List.map_nil, List.cons_append, ex, ey, bnds] at hb
            cases hb
            simp only [cutV, Option.getD_none, Option.getD_some] at hc
            obtain ⟨hh, hc⟩ := Option.ite_none_right_eq_some.1 hc
            cases hc
            have e1 : ny.toNat = ny := Int.toNat_of_nonneg (by omega)
            simp [Instr.sliceBounds, ex, ey, run_bound (show 0 ≤ ny by omega) hh.2.2, run_bound (y := ny.toNat) hh.1 (by omega)]
          | some z =>
            rcases key (ρ z) with ⟨kz, nz, ez⟩ | nz
            · simp only [Option.isSome, optL, List.nil_append, List.append_nil, List.map_cons, List.map_nil, List.cons_append, ex, ey, ez, bnds] at hb
              cases hb
              simp only [cutV, Option.getD_none, Option.getD_some] at hc
              obtain ⟨hh, hc⟩ := Option.ite_none_right_eq_some.1 hc
              cases hc
              have e1 : ny.toNat = ny := Int.toNat_of_nonneg (by omega)
              have e2 : nz.toNat = nz := Int.toNat_of_nonneg (by omega)
              simp [Instr.sliceBounds, ex, ey, ez, run_bound (show 0 ≤ nz by omega) hh.2.2.2, run_bound (y := nz.toNat) (show 0 ≤ ny by omega) (by omega), run_bound (y := ny.toNat) hh.1 (by omega)]
            · exfalso
              simp only [Option.isSome, optL, List.nil_append, List.append_nil, List.map_cons, List.map_nil, List.cons_append, ex, ey] at hb
              cases hz : ρ z <;> rw [hz] at hb <;> first | (exact nz _ _ hz) | cases hb
        · exfalso
          cases hy : ρ y <;> first
            | (exact ny _ _ hy)
            | (cases mx <;> simp only [Option.isSome, optL, List.nil_append, List.append_nil, List.map_cons, List.map_nil, List.cons_append, ex, hy] at hb <;> cases hb)
    · exfalso
      cases hx : ρ x <;> first
        | (exact nx _ _ hx)
        | (cases hi <;> cases mx <;> simp only [Option.isSome, optL, List.nil_append, List.append_nil, List.map_cons, List.map_nil, List.cons_append, hx] at hb <;> cases hb)
theorem foldMin : ∀ (r : List Value) (k : IntKind) (m z : Int), minL m r = some z → (r.foldlM Builtin.min2 (.int k m)).run P w = .ok (.int k z) w
  | [], k, m, z, h => by cases h; rfl
  | x :: r, k, m, z, h => by
    cases x with
    | int k' y =>
      rw [List.foldlM_cons, Sem.run_bind]
      exact foldMin r k _ z h
    | _ => cases h
theorem foldMax : ∀ (r : List Value) (k : IntKind) (m z : Int), maxL m r = some z → (r.foldlM Builtin.max2 (.int k m)).run P w = .ok (.int k z) w
  | [], k, m, z, h => by cases h; rfl
  | x :: r, k, m, z, h => by
    cases x with
    | int k' y =>
      rw [List.foldlM_cons, Sem.run_bind]
      exact foldMax r k _ z h
    | _ => cases h
theorem run_part {t : TypeId} {g : Bool} {n : Nat} (ht : tyInfo P t = some (g, n)) {cs : Array Value} {o : Nat} {v : Value} (hv : takeV g cs o n = some v) : (part t cs o).run P w = .ok v w := by
  obtain ⟨h1, h2⟩ := tyInfo_agg ht w
  unfold part
  simp only [Sem.run_bind, h1, Result.andThen_ok]
  cases g with
  | true =>
    simp only [takeV, cond_true] at hv
    obtain ⟨_, hv⟩ := Option.ite_none_right_eq_some.1 hv
    cases hv
    simp only [if_true, Sem.run_bind, h2, Result.andThen_ok, Sem.run_pure]
  | false =>
    simp only [takeV, cond_false] at hv
    simp only [Bool.false_eq_true, if_false, hv, Sem.run_pure]
theorem run_sizeT {t : TypeId} {g : Bool} {n : Nat} (ht : tyInfo P t = some (g, n)) : (sizeOf t).run P w = .ok n w := (tyInfo_agg ht w).2
theorem pure_move {x : Operand} {ρ : Operand → Value} {f : PF} {xs : List Operand} {v : Value} (hc : compPF P (.move x) = some (f, xs)) (hv : pureV f (xs.map ρ) = some v) : ρ x = v := by
  cases hc; cases hv; rfl
theorem pure_assign {x : Operand} {ρ : Operand → Value} {f : PF} {xs : List Operand} {v : Value} (hc : compPF P (.assign x) = some (f, xs)) (hv : pureV f (xs.map ρ) = some v) : ρ x = v := by
  cases hc; cases hv; rfl
theorem pure_pick {c x y : Operand} {ρ : Operand → Value} {f : PF} {xs : List Operand} {v : Value} (hc : compPF P (.pick c x y) = some (f, xs)) (hv : pureV f (xs.map ρ) = some v) :
    (do pure (Next.value (if ← asBool (ρ c) then ρ x else ρ y)) : Sem Next).run P w = .ok (.value v) w := by
  cases hc
  simp only [List.map_cons, List.map_nil] at hv
  cases h : ρ c <;> rw [h] at hv <;> first | (cases hv; done) | (cases hv; rfl)
theorem pure_un {op : UnOp} {t : TypeId} {x : Operand} {ρ : Operand → Value} {f : PF} {xs : List Operand} {v : Value} (hc : compPF P (.unOp op t x) = some (f, xs)) (hv : pureV f (xs.map ρ) = some v) :
    (Op.unary op (ρ x)).run P w = .ok v w := by
  cases hc
  exact unV_run hv
theorem pure_ext {x : Operand} {i : Nat} {ρ : Operand → Value} {f : PF} {xs : List Operand} {v : Value} (hc : compPF P (.extract x i) = some (f, xs)) (hv : pureV f (xs.map ρ) = some v) :
    (Instr.extract (ρ x) i).run P w = .ok v w := by
  cases hc
  simp only [List.map_cons, List.map_nil] at hv
  cases h : ρ x <;> rw [h] at hv <;> first | (cases hv; done) | skip
  simp only [pureV] at hv
  simp [Instr.extract, hv]
theorem equal_bool {t : TypeId} {a b : Bool} (hu : P.underlying t = some .bool) : (Op.equal t (.bool a) (.bool b)).run P w = .ok (a == b) w := by
  show (Op.equalIn (9999 + 1) t _ _).run P w = _
  rw [Op.equalIn]; simp only [Sem.run_bind, run_underlying hu, Result.andThen_ok]; rfl
theorem equal_slc {t e : TypeId} {a : Option Addr} {n c n' c' : Nat} (hu : P.underlying t = some (.slice e)) : (Op.equal t (.slice a n c) (.slice none n' c')).run P w = .ok a.isNone w := by
  show (Op.equalIn (9999 + 1) t _ _).run P w = _
  rw [Op.equalIn]; simp only [Sem.run_bind, run_underlying hu, Result.andThen_ok]
  cases a <;> rfl
theorem equal_ptr {t e : TypeId} {a : Option Addr} (hu : P.underlying t = some (.pointer e)) : (Op.equal t (.pointer a) (.pointer none)).run P w = .ok a.isNone w := by
  show (Op.equalIn (9999 + 1) t _ _).run P w = _
  rw [Op.equalIn]; simp only [Sem.run_bind, run_underlying hu, Result.andThen_ok]
  cases a <;> rfl
theorem equal_fn {t : TypeId} {a b c} {f : Fn} {p q : Array Value} (hu : P.underlying t = some (.func a b c)) : (Op.equal t (.func f p q) .nilFunc).run P w = .ok false w := by
  show (Op.equalIn (9999 + 1) t _ _).run P w = _
  rw [Op.equalIn]; simp only [Sem.run_bind, run_underlying hu, Result.andThen_ok]
  rfl
theorem equal_fn0 {t : TypeId} {a b c} (hu : P.underlying t = some (.func a b c)) : (Op.equal t .nilFunc .nilFunc).run P w = .ok true w := by
  show (Op.equalIn (9999 + 1) t _ _).run P w = _
  rw [Op.equalIn]; simp only [Sem.run_bind, run_underlying hu, Result.andThen_ok]
  rfl
theorem run_eqv {t : TypeId} {x y : Value} {b : Bool} (h : (Op.equal t x y).run P w = .ok b w) : ((do pure (.bool (← Op.equal t x y)) : Sem Value)).run P w = .ok (.bool b) w := by
  simp only [Sem.run_bind, h, Result.andThen_ok, Sem.run_pure]
theorem run_nev {t : TypeId} {x y : Value} {b : Bool} (h : (Op.equal t x y).run P w = .ok b w) : ((do pure (.bool (!(← Op.equal t x y))) : Sem Value)).run P w = .ok (.bool (!b)) w := by
  simp only [Sem.run_bind, h, Result.andThen_ok, Sem.run_pure]
theorem bif_none {α : Type} {c : Bool} {x : α} {y : Option α} (h : (bif c then none else y) = some x) : c = false ∧ y = some x := by
  cases c with
  | true => cases h
  | false => exact ⟨rfl, h⟩
theorem eqSh_one {o n : Nat} {g : Bool} {s r : Sh} {xs ys : Array Value} {b : Bool} (h : eqSh (.one o n g s r) (.agg xs) (.agg ys) = some b) : ∃ u v a c, takeV g xs o n = some u ∧ takeV g ys o n = some v ∧ eqSh s u v = some a ∧ eqSh r (.agg xs) (.agg ys) = some c ∧ b = (a && c) := by
  unfold eqSh at h
  cases h1 : takeV g xs o n with
  | none => rw [h1] at h; cases h
  | some u =>
    cases h2 : takeV g ys o n with
    | none => rw [h1, h2] at h; cases h
    | some v =>
      rw [h1, h2] at h
      dsimp only at h
      cases h3 : eqSh s u v with
      | none => rw [h3] at h; cases h
      | some a =>
        cases h4 : eqSh r (.agg xs) (.agg ys) with
        | none => rw [h3, h4] at h; cases h
        | some c => rw [h3, h4] at h; cases h; exact ⟨u, v, a, c, rfl, rfl, h3, rfl, rfl⟩
def EqOk (P : Program) (w : World) (f : TypeId → Option Sh) (d : Nat) : Prop := ∀ (t : TypeId) (sh : Sh) (x y : Value) (r : Bool), f t = some sh → eqSh sh x y = some r → (Op.equalIn d t x y).run P w = .ok r w
theorem eqFs_sound {f : TypeId → Option Sh} {d : Nat} (IH : EqOk P w f d) : ∀ (fs : List Field) (sh : Sh) (xs ys : Array Value) (r : Bool), shapeFs P f fs = some sh → eqSh sh (.agg xs) (.agg ys) = some r → (Op.eqFields d xs ys fs).run P w = .ok r w
  | [], sh, xs, ys, r, h, hr => by cases h; cases hr; rfl
  | x :: fs, sh, xs, ys, r, h, hr => by
    unfold shapeFs at h
    cases hn : (x.name == "_") with
    | true => rw [hn] at h; cases h
    | false =>
      rw [hn] at h
      simp only [cond_false, Option.bind_eq_some_iff, Option.map_eq_some_iff] at h
      obtain ⟨⟨g, n⟩, ht, s, hs, rr, hrr, rfl⟩ := h
      obtain ⟨u, v, a, c, h1, h2, h3, h4, rfl⟩ := eqSh_one hr
      have hne : x.name ≠ "_" := by simpa using hn
      have ih := eqFs_sound IH fs rr xs ys c hrr h4
      simp only [Op.eqFields, if_pos hne, Sem.run_bind, run_part ht h1, run_part ht h2, IH _ _ _ _ _ hs h3, Result.andThen_ok]
      cases a
      · simp
      · simpa using ih
theorem eqIs_sound {f : TypeId → Option Sh} {d : Nat} (IH : EqOk P w f d) {e : TypeId} {g : Bool} {n : Nat} {s : Sh} (ht : tyInfo P e = some (g, n)) (hs : f e = some s) : ∀ (is : List Nat) (xs ys : Array Value) (r : Bool), eqSh (shapeIs n g (P.cellsOf e) s is) (.agg xs) (.agg ys) = some r → (Op.eqItems d e (P.cellsOf e) xs ys is).run P w = .ok r w
  | [], xs, ys, r, hr => by cases hr; rfl
  | i :: is, xs, ys, r, hr => by
    obtain ⟨u, v, a, c, h1, h2, h3, h4, rfl⟩ := eqSh_one hr
    have ih := eqIs_sound IH ht hs is xs ys c h4
    simp only [Op.eqItems, Sem.run_bind, run_part ht h1, run_part ht h2, IH _ _ _ _ _ hs h3, Result.andThen_ok]
    cases a
    · simp
    · simpa using ih
theorem eqSh_sound : ∀ (m d : Nat), EqOk P w (shapeOf P m) (m + d)
  | 0, d, t, sh, x, y, r, h, _ => by cases h
  | m + 1, d, t, sh, x, y, r, h, hr => by
    rw [show m + 1 + d = (m + d) + 1 by omega]
    unfold shapeOf at h
    cases hu : P.underlying t with
    | none => rw [hu] at h; cases h
    | some td =>
      rw [hu] at h
      cases td with
      | bool =>
        cases h
        cases x <;> cases y <;> first | (cases hr; done) | skip
        cases hr
        exact run_equalIn_bool' w _ t _ _ hu
      | int k =>
        cases h
        cases x <;> cases y <;> first | (cases hr; done) | skip
        rename_i k1 a k2 b
        simp only [eqSh] at hr
        cases hk : kindEq k1 k2 with
        | false => rw [hk] at hr; cases hr
        | true =>
          rw [hk] at hr; cases hr
          obtain rfl := kindEq_eq hk
          exact run_equalIn_int w _ t _ _ _ _ hu
      | string =>
        cases h
        cases x <;> cases y <;> first | (cases hr; done) | skip
        cases hr
        exact run_equalIn_string w _ t _ _ hu
      | struct fs =>
        dsimp only at h
        cases hp : P.stoodInHeld t with
        | true => rw [hp] at h; cases h
        | false =>
          rw [hp] at h
          have key : ∃ xs ys, x = .agg xs ∧ y = .agg ys := by
            have : sh = .nil ∨ ∃ o n g s r, sh = .one o n g s r := by
              cases hf : fs.toList with
              | nil => rw [hf] at h; cases h; exact .inl rfl
              | cons a l =>
                rw [hf] at h
                unfold shapeFs at h
                cases hn : (a.name == "_") with
                | true => rw [hn] at h; cases h
                | false =>
                  rw [hn] at h
                  simp only [cond_false, Option.bind_eq_some_iff, Option.map_eq_some_iff] at h
                  obtain ⟨⟨g, n⟩, _, s, _, rr, _, rfl⟩ := h
                  exact .inr ⟨_, _, _, _, _, rfl⟩
            rcases this with rfl | ⟨o, n, g, s, r', rfl⟩ <;> cases x <;> cases y <;> first | (cases hr; done) | exact ⟨_, _, rfl, rfl⟩
          obtain ⟨xs, ys, rfl, rfl⟩ := key
          have hfs : P.fieldsOf t = fs := by simp [Program.fieldsOf, hu]
          rw [run_equalIn_struct w (m + d) t xs ys (by rw [hfs]; exact hu) hp, hfs]
          exact eqFs_sound (eqSh_sound m d) fs.toList sh xs ys r h hr
      | array len e =>
        simp only [Option.bind_eq_some_iff, Option.map_eq_some_iff] at h
        obtain ⟨i, hi, ⟨g, n⟩, ht, s, hs, rfl⟩ := h
        have key : ∃ xs ys, x = .agg xs ∧ y = .agg ys := by
          cases hl : List.range len with
          | nil => rw [hl] at hr; cases x <;> cases y <;> first | (cases hr; done) | exact ⟨_, _, rfl, rfl⟩
          | cons a l => rw [hl] at hr; cases x <;> cases y <;> first | (cases hr; done) | exact ⟨_, _, rfl, rfl⟩
        obtain ⟨xs, ys, rfl, rfl⟩ := key
        rw [run_equalIn_array w (m + d) xs ys hu hi]
        exact eqIs_sound (eqSh_sound m d) ht hs _ xs ys r hr
      | _ => cases h
theorem eqGuard_agg {op : BinOp} {t : TypeId} {x y : Operand} {a b : Value} (h : P.eqGuardType P.depth t = false) (ha : ∃ cs, a = .agg cs) : (eqGuard op t x y a b).run P w = .ok () w := by
  obtain ⟨cs, rfl⟩ := ha
  unfold eqGuard
  cases b <;> cases op <;> first | rfl | (simp [run_program, h])
theorem eqSh_agg {P : Program} {t : TypeId} {m : Nat} {sh : Sh} {x y : Value} {r : Bool} (ha : (∃ fs, P.underlying t = some (.struct fs)) ∨ ∃ n e, P.underlying t = some (.array n e)) (h : shapeOf P m t = some sh) (hr : eqSh sh x y = some r) : ∃ xs ys, x = .agg xs ∧ y = .agg ys := by
  have : sh = .nil ∨ ∃ o n g s r, sh = .one o n g s r := by
    cases m with
    | zero => cases h
    | succ m =>
      unfold shapeOf at h
      rcases ha with ⟨fs, hu⟩ | ⟨n, e, hu⟩
      · rw [hu] at h
        dsimp only at h
        cases hp : P.stoodInHeld t with
        | true => rw [hp] at h; cases h
        | false =>
          rw [hp] at h
          cases hf : fs.toList with
          | nil => rw [hf] at h; cases h; exact .inl rfl
          | cons a l =>
            rw [hf] at h
            simp only [cond_false] at h
            unfold shapeFs at h
            cases hn : (a.name == "_") with
            | true => rw [hn] at h; cases h
            | false =>
              rw [hn] at h
              simp only [cond_false, Option.bind_eq_some_iff, Option.map_eq_some_iff] at h
              obtain ⟨⟨g, n⟩, _, s, _, rr, _, rfl⟩ := h
              exact .inr ⟨_, _, _, _, _, rfl⟩
      · rw [hu] at h
        simp only [Option.bind_eq_some_iff, Option.map_eq_some_iff] at h
        obtain ⟨i, hi, ⟨g, k⟩, ht, s, hs, rfl⟩ := h
        cases hl : List.range n with
        | nil => exact .inl rfl
        | cons a l => exact .inr ⟨_, _, _, _, _, rfl⟩
  rcases this with rfl | ⟨o, n, g, s, r', rfl⟩ <;> cases x <;> cases y <;> first | (cases hr; done) | exact ⟨_, _, rfl, rfl⟩
theorem run_eqA {t : TypeId} {x y : Operand} {a b : Value} {sh : Sh} {r : Bool} (hg : P.eqGuardType P.depth t = false) (ha : (∃ fs, P.underlying t = some (.struct fs)) ∨ ∃ n e, P.underlying t = some (.array n e)) (hs : shapeOf P 12 t = some sh) (hr : eqSh sh a b = some r) :
    ((do eqGuard .eql t x y a b; binOp .eql t a b : Sem Value)).run P w = .ok (.bool r) w ∧ ((do eqGuard .neq t x y a b; binOp .neq t a b : Sem Value)).run P w = .ok (.bool (!r)) w := by
  obtain ⟨xs, ys, rfl, rfl⟩ := eqSh_agg ha hs hr
  have h1 := eqSh_sound (P := P) (w := w) 12 9988 t sh _ _ r hs hr
  rw [Sem.run_bind, Sem.run_bind, eqGuard_agg hg ⟨_, rfl⟩, eqGuard_agg hg ⟨_, rfl⟩, Result.andThen_ok, Result.andThen_ok, run_eql_struct, run_neq_struct, h1]
  exact ⟨rfl, rfl⟩
theorem pure_bin {op : BinOp} {t u : TypeId} {x y : Operand} {ρ : Operand → Value} {f : PF} {xs : List Operand} {v : Value} (hc : compPF P (.binOp op t x y u) = some (f, xs)) (hv : pureV f (xs.map ρ) = some v) :
    ((do eqGuard op t x y (ρ x) (ρ y); binOp op t (ρ x) (ρ y) : Sem Value)).run P w = .ok v w := by
  unfold compPF at hc
  simp only at hc
  cases hu : P.underlying t with
  | none => rw [hu] at hc; cases hc
  | some d =>
    rw [hu] at hc
    cases d with
    | int k => cases hc; exact binV_run hv
    | string => cases hc; exact binV_run hv
    | bool =>
      cases op <;> simp only at hc <;> first | (cases hc; done) | skip
      all_goals
        cases hc
        simp only [List.map_cons, List.map_nil] at hv
        cases hx : ρ x <;> rw [hx] at hv <;> first | (cases hv; done) | skip
        cases hy : ρ y <;> rw [hy] at hv <;> first | (cases hv; done) | skip
        cases hv
        rw [Sem.run_bind, eqGuard_no (by simp) (by simp), Result.andThen_ok]
        first
          | exact run_eqv (equal_bool hu)
          | exact run_nev (equal_bool hu)
    | slice e =>
      cases op <;> simp only at hc <;> first | (cases hc; done) | skip
      all_goals
        cases hc
        simp only [List.map_cons, List.map_nil] at hv
        cases hx : ρ x <;> rw [hx] at hv <;> first | (cases hv; done) | skip
        cases hy : ρ y <;> rw [hy] at hv <;> first | (cases hv; done) | skip
        rename_i a1 n1 c1 a2 n2 c2
        cases a2 with
        | some q => cases hv
        | none =>
          cases hv
          rw [Sem.run_bind, eqGuard_no (by simp) (by simp), Result.andThen_ok]
          first
            | exact run_eqv (equal_slc hu)
            | exact run_nev (equal_slc hu)
    | pointer e =>
      cases op <;> simp only at hc <;> first | (cases hc; done) | skip
      all_goals
        cases hc
        simp only [List.map_cons, List.map_nil] at hv
        cases hx : ρ x <;> rw [hx] at hv <;> first | (cases hv; done) | skip
        cases hy : ρ y <;> rw [hy] at hv <;> first | (cases hv; done) | skip
        rename_i a1 a2
        cases a2 with
        | some q => cases hv
        | none =>
          cases hv
          rw [Sem.run_bind, eqGuard_no (by simp) (by simp), Result.andThen_ok]
          first
            | exact run_eqv (equal_ptr hu)
            | exact run_nev (equal_ptr hu)
    | func a b c =>
      cases op <;> simp only at hc <;> first | (cases hc; done) | skip
      all_goals
        cases hc
        simp only [List.map_cons, List.map_nil] at hv
        cases hx : ρ x <;> rw [hx] at hv <;> first | (cases hv; done) | skip
        all_goals
          cases hy : ρ y <;> rw [hy] at hv <;> first | (cases hv; done) | skip
          cases hv
          rw [Sem.run_bind, eqGuard_no (by simp) (by simp), Result.andThen_ok]
          first
            | exact run_eqv (equal_fn hu)
            | exact run_nev (equal_fn hu)
            | exact run_eqv (equal_fn0 hu)
            | exact run_nev (equal_fn0 hu)
    | struct fs =>
      obtain ⟨h1, hc⟩ := bif_none hc
      simp only [Option.bind_eq_some_iff] at hc
      obtain ⟨sh, hs, hc⟩ := hc
      cases op <;> simp only at hc <;> first | (cases hc; done) | skip
      all_goals
        cases hc
        simp only [List.map_cons, List.map_nil, pureV, Option.map_eq_some_iff] at hv
        obtain ⟨r, hr, rfl⟩ := hv
        have := run_eqA (w := w) (x := x) (y := y) h1 (.inl ⟨fs, hu⟩) hs hr
        first | exact this.1 | exact this.2
    | array n e =>
      obtain ⟨h1, hc⟩ := bif_none hc
      simp only [Option.bind_eq_some_iff] at hc
      obtain ⟨sh, hs, hc⟩ := hc
      cases op <;> simp only at hc <;> first | (cases hc; done) | skip
      all_goals
        cases hc
        simp only [List.map_cons, List.map_nil, pureV, Option.map_eq_some_iff] at hv
        obtain ⟨r, hr, rfl⟩ := hv
        have := run_eqA (w := w) (x := x) (y := y) h1 (.inr ⟨n, e, hu⟩) hs hr
        first | exact this.1 | exact this.2
    | _ => cases hc
theorem pure_conv {s d : TypeId} {x : Operand} {ρ : Operand → Value} {f : PF} {xs : List Operand} {v : Value} (hc : compPF P (.convert s d x) = some (f, xs)) (hv : pureV f (xs.map ρ) = some v) :
    (convert s d (ρ x)).run P w = .ok v w := by
  unfold compPF at hc
  simp only at hc
  cases hs : P.underlying s with
  | none => rw [hs] at hc; cases hc
  | some a =>
    cases hd : P.underlying d with
    | none => rw [hs, hd] at hc; cases a <;> cases hc
    | some b =>
      rw [hs, hd] at hc
      cases a <;> first | (cases hc; done) | skip
      all_goals
        cases b <;> first | (cases hc; done) | skip
        cases hc
        simp only [List.map_cons, List.map_nil] at hv
        cases hx : ρ x <;> rw [hx] at hv <;> first | (cases hv; done) | skip
        cases hv
        simp [convert, run_underlying hs, run_underlying hd, Conv.intToInt]
theorem pure_field {t : TypeId} {x : Operand} {i : Nat} {ρ : Operand → Value} {f : PF} {xs : List Operand} {v : Value} (hc : compPF P (.field t x i) = some (f, xs)) (hv : pureV f (xs.map ρ) = some v) :
    (Instr.field t (ρ x) i).run P w = .ok v w := by
  simp only [compPF, fldT] at hc
  cases hu : P.underlying t with
  | none => rw [hu] at hc; cases hc
  | some d =>
    rw [hu] at hc
    cases d <;> first | (cases hc; done) | skip
    rename_i fs
    simp only [Option.bind_eq_some_iff, Option.map_eq_some_iff] at hc
    obtain ⟨⟨o, ft⟩, ⟨q, hq, hq'⟩, ⟨⟨g, n⟩, ht, hc⟩⟩ := hc
    cases hq'; cases hc
    simp only [List.map_cons, List.map_nil] at hv
    cases hx : ρ x <;> rw [hx] at hv <;> first | (cases hv; done) | skip
    simp only [pureV] at hv
    simp [Instr.field, run_underlying hu, hq, asAgg, run_part ht hv]
theorem pure_index {t : TypeId} {x i : Operand} {ρ : Operand → Value} {f : PF} {xs : List Operand} {v : Value} (hc : compPF P (.index t x i) = some (f, xs)) (hv : pureV f (xs.map ρ) = some v) :
    (Instr.index t (ρ x) (ρ i)).run P w = .ok v w := by
  simp only [compPF] at hc
  cases hu : P.underlying t with
  | none => rw [hu] at hc; cases hc
  | some d =>
    rw [hu] at hc
    cases d <;> first | (cases hc; done) | skip
    · cases hc
      simp only [List.map_cons, List.map_nil] at hv
      cases hx : ρ x <;> rw [hx] at hv <;> first | (cases hv; done) | skip
      cases hi : ρ i <;> rw [hi] at hv <;> first | (cases hv; done) | skip
      rename_i s k j
      simp only [pureV] at hv
      split at hv
      · rename_i hh
        cases hv
        have : s[j.toNat]? = some (s[j.toNat]'hh.2) := by simp [hh.2]
        simp [Instr.index, asIntOf, run_underlying hu, hh.1, this]
      · cases hv
    · simp only [Option.map_eq_some_iff] at hc
      obtain ⟨⟨g, n⟩, ht, hc⟩ := hc
      cases hc
      simp only [List.map_cons, List.map_nil] at hv
      cases hx : ρ x <;> rw [hx] at hv <;> first | (cases hv; done) | skip
      cases hi : ρ i <;> rw [hi] at hv <;> first | (cases hv; done) | skip
      simp only [pureV] at hv
      obtain ⟨hh, hv⟩ := Option.ite_none_right_eq_some.1 hv
      simp [Instr.index, asIntOf, run_underlying hu, hh.1, hh.2, run_sizeT ht, run_part ht hv]
theorem pure_fptr {t : TypeId} {x : Operand} {i : Nat} {ρ : Operand → Value} {f : PF} {xs : List Operand} {v : Value} (hc : compPF P (.fieldAddr t x i) = some (f, xs)) (hv : pureV f (xs.map ρ) = some v) :
    (Instr.fieldAt t (ρ x) i).run P w = .ok v w := by
  simp only [compPF, fldT] at hc
  cases hu : P.underlying t with
  | none => rw [hu] at hc; cases hc
  | some d =>
    rw [hu] at hc
    cases d <;> first | (cases hc; done) | skip
    rename_i fs
    simp only [Option.bind_eq_some_iff, Option.map_eq_some_iff] at hc
    obtain ⟨⟨o, ft⟩, ⟨q, hq, hq'⟩, ⟨⟨g, n⟩, ht, hc⟩⟩ := hc
    cases hq'
    cases hn : (n == 0) with
    | true => rw [hn] at hc; cases hc
    | false =>
      rw [hn] at hc
      cases hc
      simp only [List.map_cons, List.map_nil] at hv
      cases hx : ρ x <;> rw [hx] at hv <;> first | (cases hv; done) | skip
      rename_i a
      cases a with
      | none => cases hv
      | some a =>
        obtain ⟨b, p, s⟩ := a
        cases s with
        | some _ => cases hv
        | none =>
          cases hv
          have hn' : ¬ n = 0 := by simpa using hn
          simp [Instr.fieldAt, run_underlying hu, hq, Instr.sureAddr, fieldPlace, run_sizeT ht, hn', add_plain]
theorem pure_s2a {t : TypeId} {x : Operand} {ρ : Operand → Value} {f : PF} {xs : List Operand} {v : Value} (hc : compPF P (.sliceToArrayPointer t x) = some (f, xs)) (hv : pureV f (xs.map ρ) = some v) :
    (Instr.arrayAt t (ρ x)).run P w = .ok v w := by
  simp only [compPF] at hc
  cases hu : P.underlying t with
  | none => rw [hu] at hc; cases hc
  | some d =>
    rw [hu] at hc
    cases d <;> first | (cases hc; done) | skip
    rename_i n e
    cases hc
    simp only [List.map_cons, List.map_nil] at hv
    cases hx : ρ x with
    | slice a len cap =>
      rw [hx] at hv
      simp only [pureV] at hv
      obtain ⟨hh, hv⟩ := Option.ite_none_right_eq_some.1 hv
      cases hv
      simp [Instr.arrayAt, run_underlying hu, Nat.not_lt.2 hh]
    | _ => rw [hx] at hv; cases hv
theorem pure_iptr {t : TypeId} {x i : Operand} {ρ : Operand → Value} {f : PF} {xs : List Operand} {v : Value} (hc : compPF P (.indexAddr t x i) = some (f, xs)) (hv : pureV f (xs.map ρ) = some v) :
    (Instr.indexAt t (ρ x) (ρ i)).run P w = .ok v w := by
  simp only [compPF] at hc
  cases hu : P.underlying t with
  | none => rw [hu] at hc; cases hc
  | some d =>
    rw [hu] at hc
    cases d with
    | slice e =>
      simp only [Option.map_eq_some_iff] at hc
      obtain ⟨⟨g, n⟩, ht, hc⟩ := hc
      cases hc
      simp only [List.map_cons, List.map_nil] at hv
      cases hx : ρ x with
      | slice a len cap =>
        rw [hx] at hv
        cases hi : ρ i with
        | int k j =>
          rw [hi] at hv
          cases a with
          | none => cases hv
          | some a =>
            obtain ⟨b, p, s⟩ := a
            cases s with
            | some _ => cases hv
            | none =>
              simp only [pureV] at hv
              obtain ⟨hh, hv⟩ := Option.ite_none_right_eq_some.1 hv
              cases hv
              simp [Instr.indexAt, asIntOf, run_underlying hu, hh.1, hh.2, run_sizeT ht, add_plain]
        | _ => rw [hi] at hv; cases a <;> (try rename_i a; obtain ⟨b, p, s⟩ := a; cases s) <;> cases hv
      | _ => rw [hx] at hv; cases hv
    | array len e =>
      simp only [Option.map_eq_some_iff] at hc
      obtain ⟨⟨g, n⟩, ht, hc⟩ := hc
      cases hc
      simp only [List.map_cons, List.map_nil] at hv
      cases hx : ρ x with
      | pointer a =>
        rw [hx] at hv
        cases hi : ρ i with
        | int k j =>
          rw [hi] at hv
          cases a with
          | none => cases hv
          | some a =>
            obtain ⟨b, p, s⟩ := a
            cases s with
            | some _ => cases hv
            | none =>
              simp only [pureV] at hv
              obtain ⟨hh, hv⟩ := Option.ite_none_right_eq_some.1 hv
              cases hv
              simp [Instr.indexAt, asIntOf, run_underlying hu, hh.1, hh.2, run_sizeT ht, add_plain, Instr.sureAddr]
        | _ => rw [hi] at hv; cases a <;> (try rename_i a; obtain ⟨b, p, s⟩ := a; cases s) <;> cases hv
      | _ => rw [hx] at hv; cases hv
    | _ => cases hc
theorem run_slice_bytes {t : TypeId} (hu : P.underlying t = some .string) {s : ByteArray} {lo hi : Option Operand} {ρ : Operand → Value} {v : Value}
    (hv : pureV (.slcS lo.isSome hi.isSome) (.string s :: (optL lo ++ optL hi).map ρ) = some v) : (Instr.sliceAt t (.string s) (lo.map ρ) (hi.map ρ) none).run P w = .ok v w := by
  simp only [pureV, Option.bind_eq_some_iff, Option.map_eq_some_iff] at hv
  obtain ⟨⟨l, h, m⟩, hb, ⟨⟨a, b, c⟩, hcut, hv⟩⟩ := hv
  cases hv
  have hm : m = none := by
    unfold bnds at hb
    split at hb <;> first | (cases hb; rfl) | (exfalso; simp_all; done) | cases hb
  subst hm
  have h1 := bnds_run (P := P) (w := w) (isSlice := false) (len := s.size) (cap := s.size) (lo := lo) (hi := hi) (mx := none) (ρ := ρ) (by simpa [optL] using hb) hcut
  simp only [Option.map_none] at h1
  simp [Instr.sliceAt, Instr.slice, run_underlying hu, h1]
theorem pure_slice {t : TypeId} {x : Operand} {lo hi mx : Option Operand} {ρ : Operand → Value} {f : PF} {xs : List Operand} {v : Value} (hc : compPF P (.slice t x lo hi mx) = some (f, xs)) (hv : pureV f (xs.map ρ) = some v) :
    (Instr.sliceAt t (ρ x) (lo.map ρ) (hi.map ρ) (mx.map ρ)).run P w = .ok v w := by
  simp only [compPF] at hc
  cases hu : P.underlying t with
  | none => rw [hu] at hc; cases hc
  | some d =>
    rw [hu] at hc
    cases d with
    | string =>
      cases mx with
      | some _ => cases hc
      | none =>
        cases hc
        simp only [List.map_cons] at hv
        cases hx : ρ x with
        | string s => rw [hx] at hv; exact run_slice_bytes hu hv
        | _ => rw [hx] at hv; cases hv
    | slice e =>
      simp only [Option.map_eq_some_iff] at hc
      obtain ⟨⟨g, n⟩, ht, hc⟩ := hc
      cases hc
      simp only [List.map_cons] at hv
      cases hx : ρ x with
      | slice a len cap =>
        rw [hx] at hv
        simp only [pureV, Option.bind_eq_some_iff, Option.map_eq_some_iff] at hv
        obtain ⟨⟨l, h, m⟩, hb, ⟨⟨l', h', m'⟩, hcut, hv⟩⟩ := hv
        cases hv
        have h1 := bnds_run (P := P) (w := w) (isSlice := true) hb hcut
        simp [Instr.sliceAt, Instr.slice, run_underlying hu, h1, run_sizeT ht, addO]
      | _ => rw [hx] at hv; cases hv
    | array len e =>
      simp only [Option.map_eq_some_iff] at hc
      obtain ⟨⟨g, n⟩, ht, hc⟩ := hc
      cases hc
      simp only [List.map_cons] at hv
      cases hx : ρ x with
      | pointer a =>
        rw [hx] at hv
        cases a with
        | none => cases hv
        | some a =>
          simp only [pureV, Option.bind_eq_some_iff, Option.map_eq_some_iff] at hv
          obtain ⟨⟨l, h, m⟩, hb, ⟨⟨l', h', m'⟩, hcut, hv⟩⟩ := hv
          cases hv
          have h1 := bnds_run (P := P) (w := w) (isSlice := false) hb hcut
          simp [Instr.sliceAt, run_underlying hu, Instr.sureAddr, h1, run_sizeT ht, addO]
          split <;> simp
      | _ => rw [hx] at hv; cases hv
    | _ => cases hc
theorem run_fill : ∀ (ps : List (Nat × Nat)) (vs : List Value) (cs cs' : Array Value) (place : Nat → Option (Nat × Nat)) (is : List Nat), fillV ps vs cs = some cs' → is.length = ps.length → (∀ j, j < ps.length → place (is.getD j 0) = ps[j]?) →
    Instr.fill place cs (is.zip vs) = some cs'
  | [], vs, cs, cs', place, is, h, hl, _ => by
    cases vs with
    | nil => cases h; simp [Instr.fill]
    | cons _ _ => cases h
  | (o, n) :: ps, [], cs, cs', place, is, h, hl, hp => by cases h
  | (o, n) :: ps, v :: vs, cs, cs', place, [], h, hl, hp => by simp at hl
  | (o, n) :: ps, v :: vs, cs, cs', place, i :: is, h, hl, hp => by
    simp only [fillV] at h
    obtain ⟨hh, h⟩ := Option.ite_none_left_eq_some.1 h
    have h0 := hp 0 (by simp)
    simp at h0
    simp only [List.zip_cons_cons, Instr.fill, h0]
    rw [if_neg (by simpa using hh)]
    exact run_fill ps vs _ cs' place is h (by simpa using hl) (fun j hj => by have := hp (j + 1) (by simpa using hj); simpa using this)
theorem mapM_get {α β : Type} {f : α → Option β} : ∀ {l : List α} {r : List β}, l.mapM f = some r → r.length = l.length ∧ ∀ (j : Nat) (x : α), l[j]? = some x → f x = r[j]?
  | [], r, h => by simp at h; subst h; simp
  | a :: l, r, h => by
    rw [List.mapM_cons] at h
    cases h1 : f a with
    | none => rw [h1] at h; cases h
    | some b =>
      rw [h1] at h
      cases h2 : l.mapM f with
      | none => rw [h2] at h; cases h
      | some r' =>
        rw [h2] at h
        cases h
        obtain ⟨e1, e2⟩ := mapM_get h2
        refine ⟨by simp [e1], fun j x hx => ?_⟩
        cases j with
        | zero => simp at hx; subst hx; simpa using h1
        | succ j => simp at hx; simpa using e2 j x hx
theorem run_sizeI {t : TypeId} {i : TypeInfo} (h : P.info? t = some i) : (sizeOf t).run P w = .ok i.size w := by simp [sizeOf, typeInfo, h]
theorem run_mapM_sizes : ∀ (fs : List Field) {r : List (Nat × Nat)}, sizesO P fs = some r → (fs.mapM fun f => (do pure (f.offset, ← sizeOf f.type) : Sem (Nat × Nat))).run P w = .ok r w
  | [], r, h => by simp [sizesO] at h; subst h; simp
  | f :: fs, r, h => by
    unfold sizesO at h
    rw [List.mapM_cons] at h
    cases h1 : P.info? f.type with
    | none => rw [h1] at h; cases h
    | some i =>
      rw [h1] at h
      cases h2 : sizesO P fs with
      | none => unfold sizesO at h2; rw [h2] at h; cases h
      | some r' =>
        have ih := run_mapM_sizes fs h2
        unfold sizesO at h2; rw [h2] at h
        cases h
        rw [List.mapM_cons, Sem.run_bind, Sem.run_bind, run_sizeI h1, Result.andThen_ok, Sem.run_pure, Result.andThen_ok, Sem.run_bind, ih, Result.andThen_ok, Sem.run_pure]
theorem pure_build {t : TypeId} {parts : Array (Nat × Operand)} {ρ : Operand → Value} {f : PF} {xs : List Operand} {v : Value} (hc : compPF P (.build t parts) = some (f, xs)) (hv : pureV f (xs.map ρ) = some v) :
    (Instr.build t (parts.map fun (i, x) => (i, ρ x))).run P w = .ok v w := by
  simp only [compPF, Option.bind_eq_some_iff, Option.map_eq_some_iff, zeroOf] at hc
  obtain ⟨z, ⟨ti, hti, hz⟩, ⟨ps, hps, hc⟩⟩ := hc
  cases hc
  simp only [pureV, Option.map_eq_some_iff] at hv
  obtain ⟨cs, hcs, hv⟩ := hv
  subst hv
  have hzero : (zeroValue t).run P w = .ok z w := by simp [zeroValue, typeInfo, hti, hz]
  have hzip : ∀ l : List (Nat × Operand), (l.map fun p => (p.1, ρ p.2)) = (l.map (·.1)).zip ((l.map (·.2)).map ρ) := by
    intro l
    induction l with
    | nil => rfl
    | cons a l ih => simp only [List.map_cons, List.zip_cons_cons, ih]
  unfold partsOf at hps
  cases hu : P.underlying t with
  | none => rw [hu] at hps; cases hps
  | some d =>
    rw [hu] at hps
    cases d with
    | struct fs =>
      simp only [Option.bind_eq_some_iff] at hps
      obtain ⟨pl, hpl, hps⟩ := hps
      obtain ⟨e1, e2⟩ := mapM_get hps
      have h1 := run_mapM_sizes (P := P) (w := w) fs.toList hpl
      have hf := run_fill ps (((parts.toList.map (·.2))).map ρ) z.cells cs (fun i => pl[i]?) (parts.toList.map (·.1)) hcs (by simp [e1]) (by
        intro j hj
        rw [e1] at hj
        have hj' : parts.toList[j]? = some parts.toList[j] := List.getElem?_eq_getElem hj
        have := e2 j _ hj'
        rw [← this]
        have hj2 : j < parts.size := by simpa using hj
        simp [List.getD_eq_getElem?_getD, hj2])
      rw [← hzip] at hf
      simp only [Instr.build, Sem.run_bind, hzero, Result.andThen_ok, run_underlying hu, Array.mapM_eq_mapM_toList, Sem.run_map, h1]
      simp only [List.getElem?_toArray, Array.toList_map]
      have e3 : (fun (x : Nat × Operand) => (match x with | (i, x) => (i, ρ x) : Nat × Value)) = fun p => (p.1, ρ p.2) := rfl
      rw [e3, hf]
      simp
    | array n e =>
      simp only [Option.bind_eq_some_iff] at hps
      obtain ⟨i, hi, hps⟩ := hps
      cases hps
      have hf := run_fill (parts.toList.map fun p => (p.1 * i.size, i.size)) (((parts.toList.map (·.2))).map ρ) z.cells cs (fun j => some (j * i.size, i.size)) (parts.toList.map (·.1)) hcs (by simp) (by
        intro j hj
        simp at hj
        simp [List.getD_eq_getElem?_getD, hj])
      rw [← hzip] at hf
      simp only [Instr.build, Sem.run_bind, hzero, Result.andThen_ok, run_underlying hu, run_sizeI hi, Array.toList_map]
      have e3 : (fun (x : Nat × Operand) => (match x with | (i, x) => (i, ρ x) : Nat × Value)) = fun p => (p.1, ρ p.2) := rfl
      rw [e3, hf]
      simp
    | _ => cases hps
/-- AN OPERATION THAT ONLY RECKONS. -/
theorem pure_run {o : Oper} {ρ : Operand → Value} {f : PF} {xs : List Operand} {v : Value} (hc : compPF P o.op = some (f, xs)) (hv : pureV f (xs.map ρ) = some v) : (execOp ρ o).run P w = .ok (.value v) w := by
  obtain ⟨dst, op, ty, pos, after, guard⟩ := o
  cases op with
  | move x => rw [← pure_move hc hv]; rfl
  | assign x => rw [← pure_assign hc hv]; rfl
  | pick c x y => exact pure_pick hc hv
  | binOp op t x y u => exact run_wp _ (pure_bin hc hv)
  | unOp op t x => exact run_wp _ (pure_un hc hv)
  | convert s d x => exact run_wp _ (pure_conv hc hv)
  | extract x i => exact run_wp _ (pure_ext hc hv)
  | field t x i => exact run_wp _ (pure_field hc hv)
  | index t x i => exact run_wp _ (pure_index hc hv)
  | fieldAddr t x i => exact run_wp _ (pure_fptr hc hv)
  | indexAddr t x i => exact run_wp _ (pure_iptr hc hv)
  | slice t x lo hi mx => exact run_wp _ (pure_slice hc hv)
  | sliceToArrayPointer t x => exact run_wp _ (pure_s2a hc hv)
  | build t parts => exact run_wp _ (pure_build hc hv)
  | makeFunc fn first captured =>
    cases hc
    cases hv
    simp only [execOp, Instr.makeFunc, Sem.run_bind, Sem.run_pure, Result.andThen_ok]
    congr 3 <;> (rw [← Array.toList_inj]; simp)
  | nilCheck x =>
    cases hc
    simp only [List.map_cons, List.map_nil] at hv
    cases hx : ρ x with
    | pointer a =>
      rw [hx] at hv
      cases a with
      | none => cases hv
      | some a => cases hv; simp [execOp, hx]
    | _ => rw [hx] at hv; cases hv
  | call c =>
    obtain ⟨callee, args, argTypes⟩ := c
    cases callee with
    | builtin b =>
      cases b with
      | len =>
        simp only [compPF] at hc
        split at hc
        · rename_i x t hx ht
          have ha : args = #[x] := by rw [← Array.toList_inj, hx]
          have hat : argTypes = #[t] := by rw [← Array.toList_inj, ht]
          subst ha hat
          cases hu : P.underlying t with
          | none => rw [hu] at hc; cases hc
          | some d =>
            rw [hu] at hc
            cases d <;> first | (cases hc; done) | skip
            · cases hc
              simp only [List.map_cons, List.map_nil] at hv
              cases hx : ρ x with
              | string s => rw [hx] at hv; cases hv; simp [execOp, resolve, invoke, builtin, Builtin.len_, run_underlying hu, hx, goInt]
              | _ => rw [hx] at hv; cases hv
            · cases hc
              simp only [List.map_cons, List.map_nil] at hv
              cases hx : ρ x with
              | slice a n c => rw [hx] at hv; cases hv; simp [execOp, resolve, invoke, builtin, Builtin.len_, run_underlying hu, hx, goInt]
              | _ => rw [hx] at hv; cases hv
            · cases hc
              cases hv
              simp [execOp, resolve, invoke, builtin, Builtin.len_, run_underlying hu, goInt]
        · cases hc
      | cap =>
        simp only [compPF] at hc
        split at hc
        · rename_i x t hx ht
          have ha : args = #[x] := by rw [← Array.toList_inj, hx]
          have hat : argTypes = #[t] := by rw [← Array.toList_inj, ht]
          subst ha hat
          cases hu : P.underlying t with
          | none => rw [hu] at hc; cases hc
          | some d =>
            rw [hu] at hc
            cases d <;> first | (cases hc; done) | skip
            · cases hc
              simp only [List.map_cons, List.map_nil] at hv
              cases hx : ρ x with
              | slice a n c => rw [hx] at hv; cases hv; simp [execOp, resolve, invoke, builtin, Builtin.cap_, run_underlying hu, hx, goInt]
              | _ => rw [hx] at hv; cases hv
        · cases hc
      | min =>
        cases hc
        cases hl : args.toList.map ρ with
        | nil => rw [hl] at hv; cases hv
        | cons x r =>
          rw [hl] at hv
          cases x with
          | int k m =>
            simp only [pureV, Option.map_eq_some_iff] at hv
            obtain ⟨z, hz, hv⟩ := hv
            subst hv
            simp [execOp, resolve, invoke, builtin, Builtin.min_, hl, foldMin r k m z hz]
          | _ => cases hv
      | max =>
        cases hc
        cases hl : args.toList.map ρ with
        | nil => rw [hl] at hv; cases hv
        | cons x r =>
          rw [hl] at hv
          cases x with
          | int k m =>
            simp only [pureV, Option.map_eq_some_iff] at hv
            obtain ⟨z, hz, hv⟩ := hv
            subst hv
            simp [execOp, resolve, invoke, builtin, Builtin.max_, hl, foldMax r k m z hz]
          | _ => cases hv
      | _ => cases hc
    | _ => cases hc
  | _ => cases hc
end
end Go.Proofs.Ytbmhdmkmnhaffaa.V
end
