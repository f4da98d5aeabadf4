/- Library V, part G: regions that draw their order; whole code. No program here. -/
import Derived.Test.YtiijcncdjjdglaaIVF
import Derived.Deep.RegionHeld3
import Derived.Scope
set_option linter.unusedVariables false
set_option linter.unusedSimpArgs false
namespace Go.Proofs.Ytiijcncdjjdglaa.V
section
variable {P : Program} {E : Env} {st : St} {w0 : World} {G0 : GH} {β : Nat → Option Nat} {a : Act} {w : World}
theorem SW_of {Gs : GH} {Ls : List Nat} {β0 : Nat → Option Nat} {l0 : Nat → Array Value} (hr : RelB E w0 G0 β st a w) (hG : Gs.le st.G) (hβ : ∀ k, k ∈ Ls → β k = β0 k) (hl : ∀ k, k ∈ Ls → st.l k = l0 k) : SW Gs Ls β0 l0 w := by
  refine ⟨fun b o hb => hr.view b o (hG b o hb), fun k hk b hb => ?_⟩
  obtain ⟨_, _, e, h⟩ := hr.loc k b (by rw [hβ k hk]; exact hb)
  exact ⟨e, by rw [← hl k hk]; exact h⟩
theorem alts_mem {f : Nat → Option (Stp × Plan)} {Gs : GH} {Ls : List Nat} {K : St → Prop} : ∀ {is : List Nat} {pl : Plan}, alts f is = some pl → vplan P E Gs Ls K pl st → ∀ i ∈ is, ∃ s rest, f i = some (s, rest) ∧
      (bif gW st s.g then pv P E s.p st (fun st' => stands Gs Ls st st' ∧ vplan P E Gs Ls K rest st') else vplan P E Gs Ls K rest (skipS st s.d))
  | [], pl, h, hv, i, hi => by cases hi
  | j :: js, pl, h, hv, i, hi => by
    simp only [alts, Option.bind_eq_some_iff, Option.map_eq_some_iff] at h
    obtain ⟨⟨s, rest⟩, hf, more, hm, h⟩ := h
    subst h
    obtain ⟨h1, h2⟩ := hv
    rcases List.mem_cons.1 hi with rfl | hi
    · exact ⟨s, rest, hf, h1⟩
    · exact alts_mem hm h2 i hi
theorem newD_disj {Ls : List Nat} {d : Option Nat} (h : disj Ls (newD E d) = true) : ∀ k, k ∈ Ls → k ∉ newD E d := by
  intro k hk
  have := List.all_eq_true.1 h k hk
  simpa using this
theorem plan_sound {ops : Array Oper} {Gs : GH} {Ls : List Nat} {β0 : Nat → Option Nat} {l0 : Nat → Array Value} {K : St → Prop} {Q : Exit → St → Prop} (hQ : ∀ st, K st → Q .normal st) (hs : Region.noSelect ops = true) :
    ∀ (n : Nat) (listed : Array Bool) (pl : Plan) (st : St) (β : Nat → Option Nat) (a : Act) (w : World), mkPlan P E ops Ls n listed = some pl → vplan P E Gs Ls K pl st → RelB E w0 G0 β st a w → Gs.le st.G → (∀ k, k ∈ Ls → β k = β0 k) → (∀ k, k ∈ Ls → st.l k = l0 k) →
      wpAnyH P .any ops (NoPanic (lift E w0 G0 Q)) (SW Gs Ls β0 l0) n listed a w := by
  intro n
  induction n with
  | zero =>
    intro listed pl st β a w hm hv hr hG hβ hl
    simp only [mkPlan] at hm
    split at hm
    · rename_i hrd
      cases hm
      exact wpAnyH_done hrd ⟨st, ⟨β, hr⟩, hQ st hv⟩ 0
    · cases hm
  | succ n ih =>
    intro listed pl st β a w hm hv hr hG hβ hl
    simp only [mkPlan] at hm
    split at hm
    · rename_i hrd
      cases hm
      exact wpAnyH_done hrd ⟨st, ⟨β, hr⟩, hQ st hv⟩ _
    · rename_i r rs hrd
      cases hfd : (r :: rs).find? (canTake P E ops Ls listed) with
      | some i =>
        rw [hfd] at hm
        simp only [Option.bind_eq_some_iff, Option.map_eq_some_iff] at hm
        obtain ⟨s, hs1, rest, hrest, hm⟩ := hm
        subst hm
        have hi := List.mem_of_find?_eq_some hfd
        have hct := List.find?_some hfd
        simp only [canTake, hs1, Bool.and_eq_true] at hct
        obtain ⟨o, ho, hg, hp, hd, hok⟩ := stepAt_some hs1
        have hw := compG_wanted hg hr
        have hcont : (Region.ready .any ops listed).contains i = true := by rw [hrd]; simpa using hi
        simp only [vplan] at hv
        cases hgw : gW st s.g with
        | true =>
          rw [hgw] at hv
          obtain ⟨v, st', h1, h2, h3, h4, h5⟩ := pvT_sound hp hv hr hβ hl
          refine wpAnyH_take ho hs hct.2 hcont (fun c a w h => h) (v := v) (.inl ⟨hw.trans hgw, h1⟩) (SW_of hr hG hβ hl) ?_
          exact ih _ rest st' β _ w hrest h3 h2 (by rw [h5]; exact hG) hβ (by rw [h4]; exact hl)
        | false =>
          rw [hgw] at hv
          refine wpAnyH_take ho hs hct.2 hcont (fun c a w h => h) (v := undef) (.inr ⟨hw.trans hgw, rfl⟩) (SW_of hr hG hβ hl) ?_
          rw [hd]
          exact ih _ rest _ β _ w hrest hv (hr.skip hok) hG hβ hl
      | none =>
        rw [hfd] at hm
        refine wpAnyH_all hrd (by simp) fun i hi => ?_
        obtain ⟨s, rest, hf, hv1⟩ := alts_mem hm hv i hi
        simp only [Option.bind_eq_some_iff] at hf
        obtain ⟨s', hs1, hf⟩ := hf
        obtain ⟨hdis, hf⟩ := bif_some hf
        simp only [Option.map_eq_some_iff] at hf
        obtain ⟨rest', hrest, hf⟩ := hf
        cases hf
        obtain ⟨o, ho, hg, hp, hd, hok⟩ := stepAt_some hs1
        have hw := compG_wanted hg hr
        unfold wpOp
        simp only [ho]
        cases hgw : gW st s.g with
        | true =>
          rw [hgw] at hv1
          rw [if_pos (hw.trans hgw)]
          have hv2 : pv P E s.p st (fun st' => stands Gs Ls st st' ∧ vplan P E Gs Ls K rest st') := hv1
          refine .inl (compOpS_sound hp hv2 w0 G0 β a w hr _ _ ?_)
          rintro β' st' a' w' hr' hb ⟨⟨hG', hl'⟩, hv'⟩
          have hβ' : ∀ k, k ∈ Ls → β' k = β0 k := fun k hk => (hb k (by rw [hd]; exact newD_disj hdis k hk)).trans (hβ k hk)
          have hl'' : ∀ k, k ∈ Ls → st'.l k = l0 k := fun k hk => (hl' k hk).trans (hl k hk)
          exact ⟨SW_of hr' hG' hβ' hl'', ih _ rest st' β' a' w' hrest hv' hr' hG' hβ' hl''⟩
        | false =>
          rw [hgw] at hv1
          rw [if_neg (by rw [hw, hgw]; simp), hd]
          exact ⟨SW_of (hr.skip hok) hG hβ hl, ih _ rest _ β _ w hrest hv1 (hr.skip hok) hG hβ hl⟩
theorem Vw_draw {ops : Array Oper} {id : Nat} {pl : Plan} {Q : Exit → St → Prop} (Ls : List Nat) (Gs : GH) (hm : P.follows .mixedOrders = true) (hs : Region.noSelect ops = true) (hpl : mkPlan P E ops Ls ops.size (Array.replicate ops.size false) = some pl) (hG : Gs.le st.G)
    (hv : vplan P E Gs Ls (Q .normal) pl st) : Vw P E (.region id ops true) Q st := by
  rintro w0 G0 a w ⟨β, hr⟩
  refine wp_region_noPanic (wp_region_held hm (S := SW Gs Ls β st.l) ?_)
  exact plan_sound (fun _ h => h) hs _ _ pl st β a w.drew hpl hv hr.drew hG (fun _ _ => rfl) (fun _ _ => rfl)
end
/-! ### Whole code -/
inductive PC where
  | skip
  | ops (l : List Stp)
  | draw (Ls : List Nat) (pl : Plan)
  | seq (a b : PC)
  | cond (c : Operand) (a b : PC)
  | block (id : Nat) (b : PC)
  | loop (b : PC)
  | exit (id : Nat)
  | ret
  | scope (b : PC)
  | stuck
/-- A loop: what holds at each round's head is the prover's. -/
def LoopV (V : (Exit → St → Prop) → St → Prop) (Q : Exit → St → Prop) (st : St) : Prop :=
  ∃ (I : Nat → St → Prop) (n : Nat), I n st ∧ ∀ n st, I n st → V (thenQ (fun st' => ∃ m, m < n ∧ I m st') Q) st
/-- Regions that draw: what nobody writes there is the prover's. -/
def DrawV (P : Program) (E : Env) (Ls : List Nat) (pl : Plan) (K : St → Prop) (st : St) : Prop := ∃ Gs : GH, Gs.le st.G ∧ vplan P E Gs Ls K pl st
def scopeQ (Q : Exit → St → Prop) : Exit → St → Prop
  | .goto _, _ => False
  | e, st => Q e st
def vc (P : Program) (E : Env) : PC → (Exit → St → Prop) → St → Prop
  | .skip, Q, st => Q .normal st
  | .ops l, Q, st => vops P E l (Q .normal) st
  | .draw Ls pl, Q, st => DrawV P E Ls pl (Q .normal) st
  | .seq a b, Q, st => vc P E a (thenQ (vc P E b Q) Q) st
  | .cond c a b, Q, st => ∃ t, ev st c = .bool t ∧ (bif t then vc P E a Q st else vc P E b Q st)
  | .block id b, Q, st => vc P E b (blockQ id Q) st
  | .loop b, Q, st => LoopV (vc P E b) Q st
  | .exit id, Q, st => Q (.exit id) st
  | .ret, Q, st => Q .ret st
  | .scope b, Q, st => vc P E b (scopeQ Q) st
  | .stuck, _, _ => False
/-- Local variables that a region reads. -/
def readsL (E : Env) (ops : Array Oper) : List Nat := (ops.toList.filterMap fun o => match o.op with | .load _ x => (locX E x).map (·.2) | _ => none).eraseDups
def writesL (E : Env) (ops : Array Oper) : List Nat := ops.toList.filterMap fun o => match o.op with | .store _ x _ => (locX E x).map (·.2) | .alloc _ => (locD E o.dst).map (·.2) | .box _ _ => (locD E o.dst).map (·.2) | _ => none
def compC (P : Program) (E : Env) : Code → Option PC
  | .skip => some .skip
  | .label _ => some .skip
  | .region _ ops false => (ops.toList.mapM (compStp P E ops)).map .ops
  | .region _ ops true =>
    bif P.follows .mixedOrders && Region.noSelect ops then
      let Ls := (readsL E ops).filter fun k => !(writesL E ops).contains k
      (mkPlan P E ops Ls ops.size (Array.replicate ops.size false)).map (.draw Ls)
    else some .stuck
  | .seq a b => (compC P E a).bind fun x => (compC P E b).map fun y => .seq x y
  | .cond c a b => bif plainX E c then (compC P E a).bind fun x => (compC P E b).map fun y => .cond c x y else some .stuck
  | .block id b => (compC P E b).map (.block id)
  | .loop b => (compC P E b).map .loop
  | .exit id => some (.exit id)
  | .ret => some .ret
  | .scope b => (compC P E b).map .scope
  | _ => some .stuck
theorem bif_stuck {c : Bool} {x : PC} {y : Option PC} (h : (bif c then y else some .stuck) = some x) : (c = true ∧ y = some x) ∨ PC.stuck = x := by
  cases c with
  | true => exact .inl ⟨rfl, h⟩
  | false => exact .inr (Option.some.inj h)
theorem Vw_scope {P : Program} {E : Env} {Q : Exit → St → Prop} {st : St} {c : Code} (h : Vw P E c (scopeQ Q) st) : Vw P E (.scope c) Q st := by
  intro w0 G0 a w hr
  refine wp_scope_straight (wp_mono (h w0 G0 a w hr) ?_)
  rintro e a' w' ⟨st', hr', hq⟩
  cases e with
  | goto _ => exact hq.elim
  | _ => exact ⟨st', hr', hq⟩
theorem vc_sound {P : Program} {E : Env} : ∀ (c : Code) (pc : PC) (Q : Exit → St → Prop) (st : St), compC P E c = some pc → vc P E pc Q st → Vw P E c Q st := by
  intro c
  induction c with
  | skip => intro pc Q st hc hv; cases hc; exact Vw_skip hv
  | label l => intro pc Q st hc hv; cases hc; exact Vw_label hv
  | region id ops draw =>
    intro pc Q st hc hv
    cases draw with
    | false =>
      simp only [compC, Option.map_eq_some_iff] at hc
      obtain ⟨ss, hss, rfl⟩ := hc
      exact Vw_region hss hv
    | true =>
      rcases bif_stuck hc with ⟨h1, hc⟩ | rfl
      rotate_left
      · exact hv.elim
      simp only [Bool.and_eq_true] at h1
      simp only [Option.map_eq_some_iff] at hc
      obtain ⟨pl, hpl, rfl⟩ := hc
      obtain ⟨Gs, hG, hv⟩ := hv
      exact Vw_draw _ Gs h1.1 h1.2 hpl hG hv
  | seq x y ihx ihy =>
    intro pc Q st hc hv
    simp only [compC, Option.bind_eq_some_iff, Option.map_eq_some_iff] at hc
    obtain ⟨px, hx, py, hy, rfl⟩ := hc
    refine Vw_seq (Vw.mono (ihx px _ st hx hv) fun e st' h => ?_)
    cases e with
    | normal => exact ihy py Q st' hy h
    | _ => exact h
  | cond c x y ihx ihy =>
    intro pc Q st hc hv
    rcases bif_stuck hc with ⟨h1, hc⟩ | rfl
    rotate_left
    · exact hv.elim
    simp only [Option.bind_eq_some_iff, Option.map_eq_some_iff] at hc
    obtain ⟨px, hx, py, hy, rfl⟩ := hc
    obtain ⟨t, ht, hv⟩ := hv
    refine Vw_cond h1 ht ?_
    cases t
    · exact ihy py Q st hy hv
    · exact ihx px Q st hx hv
  | block id b ih =>
    intro pc Q st hc hv
    simp only [compC, Option.map_eq_some_iff] at hc
    obtain ⟨pb, hb, rfl⟩ := hc
    exact Vw_block (ih pb _ st hb hv)
  | loop b ih =>
    intro pc Q st hc hv
    simp only [compC, Option.map_eq_some_iff] at hc
    obtain ⟨pb, hb, rfl⟩ := hc
    obtain ⟨I, n, h0, hround⟩ := hv
    exact Vw_loop I n h0 fun n st' hi => ih pb _ st' hb (hround n st' hi)
  | exit id => intro pc Q st hc hv; cases hc; exact Vw_exit hv
  | ret => intro pc Q st hc hv; cases hc; exact Vw_ret hv
  | scope b ih =>
    intro pc Q st hc hv
    simp only [compC, Option.map_eq_some_iff] at hc
    obtain ⟨pb, hb, rfl⟩ := hc
    exact Vw_scope (ih pb _ st hb hv)
  | _ => intro pc Q st hc hv; cases hc; exact hv.elim
/-- A FUNCTION, by its compiled code. -/
structure Comp (P : Program) (f : FuncId) (E : Env) (nargs : Nat) (rs : List RV) (pc : PC) : Prop where
  ok : ∃ fn c, P.funcs[f]? = some fn ∧ fn.body = some c ∧ fn.results.toList.mapM (compRV P E) = some rs ∧ nargs ≤ fn.ntmps ∧ E.n = fn.ntmps ∧ E.env.all (fun x => decide (nargs ≤ x.1)) = true ∧ compC P E c = some pc
theorem HC.of_comp {P : Program} {f : FuncId} {E : Env} {n : Nat} {rs : List RV} {pc : PC} (h : Comp P f E n rs pc) {args : List Value} {G : GH} {R : Value → GH → Prop} (hn : args.length = n) (l : Nat → Array Value)
    (hv : vc P E pc (endQ rs R) ⟨args0 args, l, G⟩) : HC P f args.toArray G R := by
  obtain ⟨fn, c, hf, hb, hr, h1, h2, h3, hc⟩ := h.ok
  subst hn
  exact HC.of_body E rs hf hb hr h1 h2 h3 l (vc_sound c pc _ _ hc hv)
end Go.Proofs.Ytiijcncdjjdglaa.V
