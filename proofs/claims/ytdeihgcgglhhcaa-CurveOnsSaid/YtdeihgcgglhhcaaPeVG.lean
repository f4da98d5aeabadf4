/- Library V, part G: regions that draw their order; whole code. No program here. -/
import Derived.Test.YtdeihgcgglhhcaaPeVF
import Derived.Deep.RegionHeld3
import Derived.Scope
set_option linter.unusedVariables false
set_option linter.unusedSimpArgs false
namespace Go.Proofs.Ytdeihgcgglhhcaa.V
section
variable {P : Program} {E : Env} {st : St} {w0 : World} {G0 : GH} {β : Nat → Option Nat} {a : Act} {w : World}
theorem SW_of {Gs : GH} {Ls : List Nat} {β0 : Nat → Option Nat} {l0 : Nat → Array Value} (hr : RelB E w0 G0 β st a w) (hG : Gs.le st.G) (hβ : ∀ k, k ∈ Ls → β k = β0 k) (hl : ∀ k, k ∈ Ls → st.l k = l0 k) : SW Gs Ls β0 l0 w := by
  refine ⟨fun b o hb => hr.view b o (hG b o hb), fun k hk b hb => ?_⟩
  obtain ⟨_, _, e, h⟩ := hr.loc k b (by rw [hβ k hk]; exact hb)
  exact ⟨e, by rw [← hl k hk]; exact h⟩
theorem alts_mem {f : Nat → Option (Stp × Plan)} {Gs : GH} {Ls : List Nat} {K : St → Prop} : ∀ {is : List Nat} {pl : Plan}, alts f is = some pl → vplan P E Gs Ls K pl st → ∀ i ∈ is, ∃ s rest, f i = some (s, rest) ∧
      (bif gW st s.g then pv P E s.p st (fun st' => stands Gs Ls st st' ∧ vplan P E Gs Ls K rest st') else vplan P E Gs Ls K rest (skipS st s.d))
  | [], pl, h, hv, i, hi => by cases hi
  | j :: js, pl, h, hv, i, hi => by
    simp only [alts, Option.bind_eq_some_iff, Option.map_eq_some_iff] at h
    obtain ⟨⟨s, rest⟩, hf, more, hm, h⟩ := h
    subst h
    obtain ⟨h1, h2⟩ := hv
    rcases List.mem_cons.1 hi with rfl | hi
    · exact ⟨s, rest, hf, h1⟩
    · exact alts_mem hm h2 i hi
theorem newD_disj {Ls : List Nat} {d : Option Nat} (h : disj Ls (newD E d) = true) : ∀ k, k ∈ Ls → k ∉ newD E d := by
  intro k hk
  have := List.all_eq_true.1 h k hk
  simpa using this
theorem plan_sound {ops : Array Oper} {Gs : GH} {Ls : List Nat} {β0 : Nat → Option Nat} {l0 : Nat → Array Value} {K : St → Prop} {Q : Exit → St → Prop} (hQ : ∀ st, K st → Q .normal st) (hs : Region.noSelect ops = true) :
    ∀ (n : Nat) (listed : Array Bool) (pl : Plan) (st : St) (β : Nat → Option Nat) (a : Act) (w : World), mkPlan P E ops Ls n listed = some pl → vplan P E Gs Ls K pl st → RelB E w0 G0 β st a w → Gs.le st.G → (∀ k, k ∈ Ls → β k = β0 k) → (∀ k, k ∈ Ls → st.l k = l0 k) →
      wpAnyH P .any ops (NoPanic (lift E w0 G0 Q)) (SW Gs Ls β0 l0) n listed a w := by
  intro n
  induction n with
  | zero =>
    intro listed pl st β a w hm hv hr hG hβ hl
    simp only [mkPlan] at hm
    split at hm
    · rename_i hrd
      cases hm
      exact wpAnyH_done hrd ⟨st, ⟨β, hr⟩, hQ st hv⟩ 0
    · cases hm
  | succ n ih =>
    intro listed pl st β a w hm hv hr hG hβ hl
    simp only [mkPlan] at hm
    split at hm
    · rename_i hrd
      cases hm
      exact wpAnyH_done hrd ⟨st, ⟨β, hr⟩, hQ st hv⟩ _
    · rename_i r rs hrd
      cases hfd : (r :: rs).find? (canTake P E ops Ls listed) with
      | some i =>
        rw [hfd] at hm
        simp only [Option.bind_eq_some_iff, Option.map_eq_some_iff] at hm
        obtain ⟨s, hs1, rest, hrest, hm⟩ := hm
        subst hm
        have hi := List.mem_of_find?_eq_some hfd
        have hct := List.find?_some hfd
        simp only [canTake, hs1, Bool.and_eq_true] at hct
        obtain ⟨o, ho, hg, hp, hd, hok⟩ := stepAt_some hs1
        have hw := compG_wanted hg hr
        have hcont : (Region.ready .any ops listed).contains i = true := by rw [hrd]; simpa using hi
        simp only [vplan] at hv
        cases hgw : gW st s.g with
        | true =>
          rw [hgw] at hv
          obtain ⟨v, st', h1, h2, h3, h4, h5⟩ := pvT_sound hp hv hr hβ hl
          refine wpAnyH_take ho hs hct.2 hcont (fun c a w h => h) (v := v) (.inl ⟨hw.trans hgw, h1⟩) (SW_of hr hG hβ hl) ?_
          exact ih _ rest st' β _ w hrest h3 h2 (by rw [h5]; exact hG) hβ (by rw [h4]; exact hl)
        | false =>
          rw [hgw] at hv
          refine wpAnyH_take ho hs hct.2 hcont (fun c a w h => h) (v := undef) (.inr ⟨hw.trans hgw, rfl⟩) (SW_of hr hG hβ hl) ?_
          rw [hd]
          exact ih _ rest _ β _ w hrest hv (hr.skip hok) hG hβ hl
      | none =>
        rw [hfd] at hm
        refine wpAnyH_all hrd (by simp) fun i hi => ?_
        obtain ⟨s, rest, hf, hv1⟩ := alts_mem hm hv i hi
        simp only [Option.bind_eq_some_iff] at hf
        obtain ⟨s', hs1, hf⟩ := hf
        obtain ⟨hdis, hf⟩ := bif_some hf
        simp only [Option.map_eq_some_iff] at hf
        obtain ⟨rest', hrest, hf⟩ := hf
        cases hf
        obtain ⟨o, ho, hg, hp, hd, hok⟩ := stepAt_some hs1
        have hw := compG_wanted hg hr
        unfold wpOp
        simp only [ho]
        cases hgw : gW st s.g with
        | true =>
          rw [hgw] at hv1
          rw [if_pos (hw.trans hgw)]
          have hv2 : pv P E s.p st (fun st' => stands Gs Ls st st' ∧ vplan P E Gs Ls K rest st') := hv1
          refine .inl (compOpS_sound hp hv2 w0 G0 β a w hr _ _ ?_)
          rintro β' st' a' w' hr' hb ⟨⟨hG', hl'⟩, hv'⟩
          have hβ' : ∀ k, k ∈ Ls → β' k = β0 k := fun k hk => (hb k (by rw [hd]; exact newD_disj hdis k hk)).trans (hβ k hk)
          have hl'' : ∀ k, k ∈ Ls → st'.l k = l0 k := fun k hk => (hl' k hk).trans (hl k hk)
          exact ⟨SW_of hr' hG' hβ' hl'', ih _ rest st' β' a' w' hrest hv' hr' hG' hβ' hl''⟩
        | false =>
          rw [hgw] at hv1
          rw [if_neg (by rw [hw, hgw]; simp), hd]
          exact ⟨SW_of (hr.skip hok) hG hβ hl, ih _ rest _ β _ w hrest hv1 (hr.skip hok) hG hβ hl⟩
/-- Within the fence that bars nothing. -/
theorem any_in {ro : Option Nat} {m : Nat} {ops : Array Oper} {Q : Exit → Act → World → Prop} (hn : ops.toList.all noDefer = true) (hl : ¬ LetsOut Q) : ∀ (n : Nat) (listed : Array Bool) (a : Act) (w : World), wpAny P .any ops Q n listed a w → wpAnyIn (WF ro) m P .any ops Q n listed a w
  | 0, listed, a, w, h => h
  | n + 1, listed, a, w, h => by
    refine ⟨h.1, fun i hi => ?_⟩
    have h2 := h.2 i hi
    unfold wpOp at h2
    unfold wpOpIn
    cases ho : ops[i]? with
    | none => rw [ho] at h2; exact any_in hn hl n _ a w h2
    | some o =>
      rw [ho] at h2
      dsimp only at h2 ⊢
      have hd : noDefer o = true := List.all_eq_true.1 hn o (List.mem_of_getElem? (by rw [Array.getElem?_toList]; exact ho))
      split at h2
      · rename_i hw
        rw [if_pos hw]
        rcases h2 with h2 | h2
        · exact Oper.wpIn_mono (fun a w => any_in hn hl n _ a w) (oper_in hd h2)
        · exact absurd h2.2 hl
      · rename_i hw
        rw [if_neg hw]
        exact ⟨fun _ _ => trivial, any_in hn hl n _ _ w h2⟩
def onlyN (K : St → Prop) : Exit → St → Prop
  | .normal, st => K st
  | _, _ => False
theorem onlyN_out {K : St → Prop} : ¬ LetsOut (lift E w0 G0 (onlyN K)) := fun ⟨_, _, _, _, h⟩ => h
theorem onlyN_to {K : St → Prop} {Q : Exit → St → Prop} (h : ∀ st, K st → Q .normal st) : ∀ e a w, lift E w0 G0 (onlyN K) e a w → lift E w0 G0 Q e a w := by
  rintro e a w ⟨st, hr, hq⟩
  cases e with
  | normal => exact ⟨st, hr, h st hq⟩
  | _ => exact hq.elim
theorem Vw_draw {ro : Option Nat} {ops : Array Oper} {id : Nat} {pl : Plan} {Q : Exit → St → Prop} (Ls : List Nat) (Gs : GH) (hm : P.follows .mixedOrders = true) (hs : Region.noSelect ops = true) (hn : ops.toList.all noDefer = true) (hpl : mkPlan P E ops Ls ops.size (Array.replicate ops.size false) = some pl) (hG : Gs.le st.G)
    (hv : vplan P E Gs Ls (Q .normal) pl st) : Vw P E ro (.region id ops true) Q st := by
  rintro m w0 G0 a w ⟨β, hr⟩
  have h1 := plan_sound (w0 := w0) (G0 := G0) (β0 := β) (l0 := st.l) (Q := onlyN (Q .normal)) (fun _ h => h) hs _ _ pl st β a w.drew hpl hv hr.drew hG (fun _ _ => rfl) (fun _ _ => rfl)
  have h2 := any_in (ro := ro) (m := m) hn (fun h => by obtain ⟨a, w, h⟩ := h; exact onlyN_out ⟨a, w, h⟩) _ _ _ _ (wpAny_of_held _ _ _ _ h1)
  exact wpIn_mono (wpIn_region_any hm h2) fun e a w h => onlyN_to (fun _ h => h) e a w (NoPanic.imp e a w h)
end
/-! ### Regions that draw, by what each operation comes to: whatever the order -/
/-- What holds in such a region where the operations D are done. -/
structure Ext (st : St) (ss : List Stp) (Φ : Nat → Value → GH → Prop) (D : Nat → Prop) (st' : St) : Prop where
  l : st'.l = st.l
  G : st.G.le st'.G
  s : ∀ k, (∀ s ∈ ss, s.d ≠ some k) → st'.s k = st.s k
  done : ∀ j, D j → ∀ s d, ss[j]? = some s → s.d = some d → Φ j (st'.s d) st'.G
def flowPost (s : Stp) (φ : Value → GH → Prop) (st' st'' : St) : Prop := st''.l = st'.l ∧ st'.G.le st''.G ∧ (∀ k, s.d ≠ some k → st''.s k = st'.s k) ∧ ∀ d, s.d = some d → φ (st''.s d) st''.G
def FlowV (P : Program) (E : Env) (ss : List Stp) (deps : List (List Nat)) (K : St → Prop) (st : St) : Prop :=
  ∃ Φ : Nat → Value → GH → Prop, (∀ i v G G', Φ i v G → G.le G' → Φ i v G') ∧
    (∀ i s, ss[i]? = some s → ∀ st', Ext st ss Φ (fun j => j ∈ deps.getD i []) st' → vops P E [s] (flowPost s (Φ i) st') st') ∧
    (∀ st', Ext st ss Φ (fun j => j < ss.length) st' → K st')
def onceD : List Stp → Bool
  | [] => true
  | s :: r => r.all (fun x => match s.d, x.d with | some a, some b => !Nat.beq a b | _, _ => true) && onceD r
theorem onceD_ne : ∀ {ss : List Stp} {i j : Nat} {s x : Stp} {d : Nat}, onceD ss = true → ss[i]? = some s → ss[j]? = some x → i ≠ j → s.d = some d → x.d ≠ some d
  | [], i, j, s, x, d, _, hi, _, _, _ => by simp at hi
  | y :: r, i, j, s, x, d, h, hi, hj, hne, hs => by
    simp only [onceD, Bool.and_eq_true] at h
    have key : ∀ z ∈ r, ∀ d, y.d = some d → z.d ≠ some d := fun z hz d hd he => by
      have := List.all_eq_true.1 h.1 z hz
      rw [hd, he] at this
      simp at this
    cases i with
    | zero =>
      simp at hi; subst hi
      cases j with
      | zero => exact absurd rfl hne
      | succ j => simp at hj; exact key x (List.mem_of_getElem? hj) d hs
    | succ i =>
      simp at hi
      cases j with
      | zero => simp at hj; subst hj; exact fun he => key s (List.mem_of_getElem? hi) d he hs
      | succ j => simp at hj; exact onceD_ne h.2 hi hj (by omega) hs
def edgesOf (o : Oper) : List Nat := (o.after.toList.filter (Region.binds .any)).map (·.on)
def backwards : List Oper → Nat → Bool
  | [], _ => true
  | o :: r, i => (edgesOf o).all (fun j => Nat.blt j i) && backwards r (i + 1)
theorem backwards_lt : ∀ {l : List Oper} {n i : Nat} {o : Oper}, backwards l n = true → l[i]? = some o → ∀ j ∈ edgesOf o, j < n + i
  | [], n, i, o, _, hi, _, _ => by simp at hi
  | x :: r, n, i, o, h, hi, j, hj => by
    simp only [backwards, Bool.and_eq_true] at h
    cases i with
    | zero => simp at hi; subst hi; exact blt_lt (List.all_eq_true.1 h.1 j hj)
    | succ i => simp at hi; have := backwards_lt h.2 hi j hj; omega
theorem getDset (l : Array Bool) (d : Bool) {i j : Nat} (h : j ≠ i) : (l.setIfInBounds i true).getD j d = l.getD j d := by
  rw [Array.getD_eq_getD_getElem?, Array.getD_eq_getD_getElem?, Array.getElem?_setIfInBounds_ne (Ne.symm h)]
def flowC (P : Program) (E : Env) (ops : Array Oper) : Option (List Stp × List (List Nat)) :=
  (ops.toList.mapM (compStp P E ops)).bind fun ss => bif onceD ss && backwards ops.toList 0 && ops.toList.all (fun o => (newD E o.dst).isEmpty) then some (ss, ops.toList.map edgesOf) else none
theorem mapM_get2 {α β : Type} {f : α → Option β} : ∀ {l : List α} {r : List β}, l.mapM f = some r → r.length = l.length ∧ ∀ (i : Nat) (x : α), l[i]? = some x → ∃ y, r[i]? = some y ∧ f x = some y
  | [], r, h => by simp at h; subst h; simp
  | x :: l, r, h => by
    rw [List.mapM_cons] at h
    cases h1 : f x with
    | none => rw [h1] at h; cases h
    | some y =>
      rw [h1] at h
      cases h2 : l.mapM f with
      | none => rw [h2] at h; cases h
      | some r' =>
        rw [h2] at h; cases h
        obtain ⟨e1, e2⟩ := mapM_get2 h2
        refine ⟨by simp [e1], fun i z hz => ?_⟩
        cases i with
        | zero => simp at hz; subst hz; exact ⟨y, by simp, h1⟩
        | succ i => simp at hz; obtain ⟨y', h3, h4⟩ := e2 i z hz; exact ⟨y', by simpa using h3, h4⟩
section
variable {P : Program} {E : Env} {st : St} {w0 : World} {G0 : GH}
theorem flow_any {ops : Array Oper} {ss : List Stp} {Φ : Nat → Value → GH → Prop} {Q : Exit → St → Prop} (hm : ops.toList.mapM (compStp P E ops) = some ss) (ho : onceD ss = true) (hb : backwards ops.toList 0 = true) (hn : ∀ o ∈ ops.toList, newD E o.dst = [])
    (mono : ∀ i v G G', Φ i v G → G.le G' → Φ i v G') (step : ∀ i s o, ss[i]? = some s → ops[i]? = some o → ∀ st', Ext st ss Φ (fun j => j ∈ edgesOf o) st' → vops P E [s] (flowPost s (Φ i) st') st')
    (fin : ∀ st', Ext st ss Φ (fun j => j < ss.length) st' → Q .normal st') :
    ∀ (n : Nat) (listed : Array Bool) (st' : St) (β : Nat → Option Nat) (a : Act) (w : World), listed.size = ops.size → ((List.range ops.size).filter fun j => !listed.getD j true).length = n → RelB E w0 G0 β st' a w → Ext st ss Φ (fun j => listed.getD j false = true) st' →
      wpAny P .any ops (lift E w0 G0 Q) n listed a w := by
  obtain ⟨hlen, hget⟩ := mapM_get2 hm
  have hend : ∀ (listed : Array Bool) (st' : St) (β : Nat → Option Nat) (a : Act) (w : World), listed.size = ops.size → RelB E w0 G0 β st' a w → Ext st ss Φ (fun j => listed.getD j false = true) st' → Region.ready .any ops listed = [] → lift E w0 G0 Q .normal a w := by
    intro listed st' β a w hsz hr hx hrd
    refine ⟨st', ⟨β, hr⟩, fin st' ⟨hx.l, hx.G, hx.s, fun j hj s d hs hd => hx.done j ?_ s d hs hd⟩⟩
    have hjs : j < ops.size := by rw [hlen] at hj; simpa using hj
    clear hs hd s d
    induction j using Nat.strongRecOn with
    | _ j ih =>
      cases e : listed.getD j false with
      | true => rfl
      | false =>
        exfalso
        have hjl : j < listed.size := by omega
        have e1 : listed.getD j true = false := by simp [Array.getD, hjl] at e ⊢; exact e
        obtain ⟨o, ho'⟩ : ∃ o, ops[j]? = some o := ⟨_, Array.getElem?_eq_getElem hjs⟩
        have : j ∈ Region.ready .any ops listed := by
          unfold Region.ready
          refine List.mem_filter.2 ⟨List.mem_range.2 hjs, ?_⟩
          rw [e1, ho']
          simp only [Bool.not_false, Bool.true_and, Option.map_some, Option.getD_some]
          rw [← Array.all_toList]
          refine List.all_eq_true.2 fun x hx' => ?_
          cases hbx : Region.binds .any x with
          | false => rfl
          | true =>
            have hmem : x.on ∈ edgesOf o := List.mem_map.2 ⟨x, List.mem_filter.2 ⟨hx', hbx⟩, rfl⟩
            have hlt := backwards_lt hb (i := j) (o := o) (by rw [Array.getElem?_toList]; exact ho') x.on hmem
            simp only [Bool.not_true, Bool.false_or]
            exact ih x.on (by omega) (by rw [hlen]; simp; omega) (by omega)
        rw [hrd] at this
        cases this
  intro n
  induction n with
  | zero =>
    intro listed st' β a w hsz hc hr hx
    have hrd : Region.ready .any ops listed = [] := by
      refine List.eq_nil_iff_forall_not_mem.2 fun i hi => ?_
      unfold Region.ready at hi
      obtain ⟨h1, h2⟩ := List.mem_filter.1 hi
      simp only [Bool.and_eq_true] at h2
      have : i ∈ (List.range ops.size).filter fun j => !listed.getD j true := List.mem_filter.2 ⟨h1, h2.1⟩
      rw [List.eq_nil_of_length_eq_zero hc] at this
      cases this
    exact ⟨hrd, hend listed st' β a w hsz hr hx hrd⟩
  | succ n ih =>
    intro listed st' β a w hsz hc hr hx
    refine ⟨fun hrd => hend listed st' β a w hsz hr hx hrd, fun i hi => ?_⟩
    unfold Region.ready at hi
    obtain ⟨h1, h2⟩ := List.mem_filter.1 hi
    have his := List.mem_range.1 h1
    obtain ⟨o, ho'⟩ : ∃ o, ops[i]? = some o := ⟨_, Array.getElem?_eq_getElem his⟩
    rw [ho'] at h2
    simp only [Bool.and_eq_true, Option.map_some, Option.getD_some] at h2
    obtain ⟨h2, h3⟩ := h2
    have hil : i < listed.size := by omega
    have hdeps : ∀ j ∈ edgesOf o, listed.getD j false = true := fun j hj => by
      obtain ⟨x, hx1, rfl⟩ := List.mem_map.1 hj
      obtain ⟨hx2, hx3⟩ := List.mem_filter.1 hx1
      rw [← Array.all_toList] at h3
      have := List.all_eq_true.1 h3 x hx2
      rw [hx3] at this
      simpa using this
    obtain ⟨s, hs, hcs⟩ := hget i o (by rw [Array.getElem?_toList]; exact ho')
    have hv := step i s o hs ho' st' ⟨hx.l, hx.G, hx.s, fun j hj => hx.done j (hdeps j hj)⟩
    have hcnt : ((List.range ops.size).filter fun j => !(listed.setIfInBounds i true).getD j true).length = n := by
      have e0 : ∀ l : List Nat, l.Nodup → i ∈ l → (l.filter fun j => !(listed.setIfInBounds i true).getD j true).length + 1 = (l.filter fun j => !listed.getD j true).length := by
        intro l
        induction l with
        | nil => intro _ h; cases h
        | cons x l ihl =>
          intro hnd hmem
          rw [List.nodup_cons] at hnd
          by_cases hxi : x = i
          · subst hxi
            have e1 : (!(listed.setIfInBounds x true).getD x true) = false := by simp [Array.getD, hil]
            rw [List.filter_cons, List.filter_cons, if_neg (by rw [e1]; simp), if_pos h2, List.length_cons]
            congr 2
            refine List.filter_congr fun j hj => ?_
            have hne : x ≠ j := fun e => hnd.1 (e ▸ hj)
            exact congrArg _ (getDset _ true (Ne.symm hne))
          · have e1 : (listed.setIfInBounds i true).getD x true = listed.getD x true := getDset _ true hxi
            rw [List.filter_cons, List.filter_cons, e1]
            have hm' : i ∈ l := (List.mem_cons.1 hmem).resolve_left (fun e => hxi e.symm)
            have := ihl hnd.2 hm'
            split
            · rw [List.length_cons, List.length_cons, this]
            · exact this
      have := e0 _ List.nodup_range h1
      omega
    have next : ∀ (st'' : St), flowPost s (Φ i) st' st'' → Ext st ss Φ (fun j => (listed.setIfInBounds i true).getD j false = true) st'' := by
      rintro st'' ⟨p1, p2, p3, p4⟩
      refine ⟨p1.trans hx.l, GH.le_trans hx.G p2, fun k hk => (p3 k (hk s (List.mem_of_getElem? hs))).trans (hx.s k hk), fun j hj x d hxj hd => ?_⟩
      by_cases hji : j = i
      · subst hji
        rw [hs] at hxj; cases hxj
        exact p4 d hd
      · have hj' : listed.getD j false = true := (getDset _ false hji).symm.trans hj
        have hne := onceD_ne ho hxj hs hji hd
        rw [p3 d hne]
        exact mono j _ _ _ (hx.done j hj' x d hxj hd) p2
    simp only [compStp, Option.bind_eq_some_iff] at hcs
    obtain ⟨g, hg, p, hp, hcs⟩ := hcs
    obtain ⟨hd, hcs⟩ := bif_some hcs
    cases hcs
    have hw := compG_wanted hg hr
    have hsz' : (listed.setIfInBounds i true).size = ops.size := by simp [hsz]
    have hnew := hn o (by exact List.mem_of_getElem? (by rw [Array.getElem?_toList]; exact ho'))
    unfold wpOp
    simp only [ho']
    have go : pv P E p st' (flowPost ⟨g, o.dst, p⟩ (Φ i) st') → o.wp P a w (wpAny P .any ops (lift E w0 G0 Q) n (listed.setIfInBounds i true)) (lift E w0 G0 Q) := fun hpv =>
      compOpS_sound hp hpv w0 G0 β a w hr _ _ fun β' st'' a' w' hr' _ hpost => ih _ st'' β' a' w' hsz' hcnt hr' (next st'' hpost)
    cases g with
    | none =>
      rw [if_pos (show _ = true from hw)]
      exact .inl (go hv)
    | some x =>
      obtain ⟨t, b⟩ := x
      simp only [vops] at hv
      cases hbb : isB (st'.s t) b with
      | true =>
        rw [hbb] at hv
        rw [if_pos (hw.trans hbb)]
        exact .inl (go hv)
      | false =>
        rw [hbb] at hv
        rw [if_neg (by rw [hw]; simp [gW, hbb])]
        exact ih _ _ β _ w hsz' hcnt (hr.skip hd) (next _ hv)
theorem Vw_flow {ro : Option Nat} {ops : Array Oper} {id : Nat} {ss : List Stp} {deps : List (List Nat)} {Q : Exit → St → Prop} (hm : P.follows .mixedOrders = true) (hn : ops.toList.all noDefer = true) (hc : flowC P E ops = some (ss, deps)) (hv : FlowV P E ss deps (Q .normal) st) : Vw P E ro (.region id ops true) Q st := by
  rintro m w0 G0 a w ⟨β, hr⟩
  simp only [flowC, Option.bind_eq_some_iff] at hc
  obtain ⟨ss', h1, hc⟩ := hc
  obtain ⟨h2, hc⟩ := bif_some hc
  simp only [Bool.and_eq_true] at h2
  cases hc
  obtain ⟨Φ, mono, step, fin⟩ := hv
  refine wpIn_mono (wpIn_region_any hm (any_in hn onlyN_out _ _ _ _ (flow_any (Q := onlyN (Q .normal)) (Φ := Φ) (st := st) h1 h2.1.1 h2.1.2 (fun o ho => ?_) mono (fun i s o hs ho st' hx => step i s hs st' ?_) fin ops.size _ st β a w.drew (by simp) ?_ hr.drew ⟨rfl, GH.le_refl _, fun _ _ => rfl, fun j hj => ?_⟩))) (onlyN_to fun _ h => h)
  · exact List.isEmpty_iff.1 (List.all_eq_true.1 h2.2 o ho)
  · have : (ops.toList.map edgesOf).getD i [] = edgesOf o := by simp [List.getD, ho]
    rw [this]; exact hx
  · rw [List.filter_eq_self.2 fun j hj => ?_, List.length_range]
    have := List.mem_range.1 hj
    simp [Array.getD, this]
  · simp [Array.getD] at hj
end
/-! ### Loops over functions -/
/-- All that is known but one block. -/
def unp (G : GH) (l : Nat) : GH := fun c => if c = l then none else G c
theorem unp_le (G : GH) (l : Nat) : (unp G l).le G := fun c o h => by
  unfold unp at h; split at h
  · cases h
  · exact h
theorem unp_self (G : GH) (l : Nat) : unp G l l = none := by simp [unp]
theorem unp_ne {G : GH} {l c : Nat} (h : c ≠ l) : unp G l c = G c := by simp [unp, h]
theorem le_unp {B G : GH} {l : Nat} (h : B.le G) (hn : B l = none) : B.le (unp G l) := fun c o hc => by
  rw [unp_ne (fun e => by subst e; rw [hn] at hc; cases hc)]; exact h c o hc
/-- CONTRACT of what is ranged over: it tells n items, one behind the other; Gi is what it must find as it was. -/
def IterC (P : Program) (gf : FuncId) (lb : List Value) (Gi : GH) (n : Nat) (Item : Nat → List Value → GH → GH → Prop) : Prop :=
  (∀ k x G0 G l o, G l = some o → o.isCells = false → Item k x G0 G → Item k x (unp G0 l) (unp G l)) ∧
  ∀ (yl : Nat) (J : Nat → GH → Prop) (Jx : GH → Prop), (∀ k G G', J k G → G.le G' → J k G') → (∀ G G', Jx G → G.le G' → Jx G') → (∀ k G, J k G → Gi.le G) →
    (∀ k x G0 G, k < n → J k G0 → G0.le G → Item k x G0 G → HY P yl x.toArray G fun v G' => (v = .bool true ∧ J (k + 1) G') ∨ (v = .bool false ∧ Jx G')) →
    ∀ G, J 0 G → HC P gf (Value.func (.yield yl) #[] #[] :: lb).toArray G fun _ G' => J n G' ∨ Jx G'
def setMany : (Nat → Value) → List Nat → List Value → Nat → Value
  | s, p :: ps, x :: xs => setMany (setS s p x) ps xs
  | s, _, _ => s
/-- Slots that held addresses of local variables hold nothing. -/
def noLoc (E : Env) (s : Nat → Value) : Nat → Value := fun t => bif (lookE E.env t).isSome then undef else s t
def roundQ (I : Nat → GH → Prop) (Ix : Exit → GH → Prop) (k : Nat) : Exit → St → Prop
  | .normal, st => I (k + 1) st.G
  | .ret, st => Ix .ret st.G
  | .exit id, st => Ix (.exit id) st.G
  | _, _ => False
def RangeV (P : Program) (E : Env) (V : (Exit → St → Prop) → St → Prop) (g : Operand) (ps : List Nat) (Q : Exit → St → Prop) (st : St) : Prop :=
  ∃ (gf : FuncId) (lb : List Value) (Gi : GH) (n : Nat) (Item : Nat → List Value → GH → GH → Prop) (I : Nat → GH → Prop) (Ix : Exit → GH → Prop),
    ev st g = .func (.func gf) #[] lb.toArray ∧ callable P gf = true ∧ IterC P gf lb Gi n Item ∧
    (∀ k G G', I k G → G.le G' → I k G') ∧ (∀ e G G', Ix e G → G.le G' → Ix e G') ∧ (∀ k G, I k G → Gi.le G) ∧ I 0 st.G ∧
    (∀ k x G0 G, k < n → I k G0 → G0.le G → Item k x G0 G → x.length = ps.length ∧ V (roundQ I Ix k) ⟨setMany (noLoc E st.s) ps x, st.l, G⟩) ∧
    (∀ G', I n G' → Q .normal ⟨st.s, st.l, G'⟩) ∧ (∀ G', Ix .ret G' → Q .ret ⟨st.s, st.l, G'⟩) ∧ ∀ id G', Ix (.exit id) G' → Q (.exit id) ⟨st.s, st.l, G'⟩
section
variable {P : Program} {E : Env}
theorem setMany_rel {w0 w : World} {G0 : GH} {β : Nat → Option Nat} : ∀ (ps : List Nat) (xs : List Value) (st : St) (a : Act), ps.all (fun p => (lookE E.env p).isNone && Nat.blt p E.n) = true → RelB E w0 G0 β st a w →
    RelB E w0 G0 β ⟨setMany st.s ps xs, st.l, st.G⟩ ⟨(ps.zip xs).foldl (fun t (p, v) => t.setIfInBounds p v) a.tmps, a.defers⟩ w
  | [], xs, st, a, _, h => by cases xs <;> exact h
  | p :: ps, [], st, a, _, h => h
  | p :: ps, x :: xs, st, a, hp, h => by
    simp only [List.all_cons, Bool.and_eq_true] at hp
    have h1 : lookE E.env p = none := by simpa using hp.1.1
    exact setMany_rel ps xs ⟨setS st.s p x, st.l, st.G⟩ (a.put (some p) x) hp.2 (h.put h1 (blt_lt hp.1.2) x)
/-- What stands between a round's two turns of the loop's record. -/
theorem fr_round {G G1 G2 : GH} {W w1 w3 : World} {l D : Nat} {ol oD o2 o4 : Obj} (hW : View G W) (hl : G l = some ol) (hD : G D = some oD) (hne : D ≠ l) (h1 : Fr (unp (unp G l) D) W G1 w1) (h2 : Fr G1 (w1.putObj l o2) G2 w3) :
    w1.heap[l]? = some ol ∧ w3.heap[l]? = some o2 ∧ G2 l = none ∧ G2 D = none ∧ Fr G W ((G2.put l o4).put D oD) (w3.putObj l o4) := by
  have a1 := hW.lt hl
  have a2 := hW.lt hD
  have b1 : unp (unp G l) D l = none := by rw [unp_ne (Ne.symm hne), unp_self]
  have b2 : unp (unp G l) D D = none := unp_self _ _
  have c1 := h1.none l a1 b1
  have c2 := h1.none D a2 b2
  have d1 := h1.block l a1 b1
  have d2 := h1.block D a2 b2
  have s1 : l < w1.heap.size := Nat.lt_of_lt_of_le a1 h1.size
  have s2 : D < w1.heap.size := Nat.lt_of_lt_of_le a2 h1.size
  have e1 := h2.none l (by rw [World.putObj_size]; exact s1) c1
  have e2 := h2.none D (by rw [World.putObj_size]; exact s2) c2
  have f1 := h2.block l (by rw [World.putObj_size]; exact s1) c1
  have f2 := h2.block D (by rw [World.putObj_size]; exact s2) c2
  rw [World.putObj_heap_same s1] at f1
  rw [World.putObj_heap_other hne, d2, hW D _ hD] at f2
  have s3 : l < w3.heap.size := (Array.getElem?_eq_some_iff.1 f1).1
  have sz := h2.size
  rw [World.putObj_size] at sz
  refine ⟨d1.trans (hW l _ hl), f1, e1, e2, ⟨h2.os.trans h1.os, h2.tape.trans h1.tape, h2.output.trans h1.output, ?_, fun b hb hn => ?_, fun b hb hn => ?_, fun b o hb => ?_⟩⟩
  · rw [World.putObj_size]; exact Nat.le_trans h1.size sz
  · have n1 : b ≠ l := fun e => by subst e; rw [hl] at hn; cases hn
    have n2 : b ≠ D := fun e => by subst e; rw [hD] at hn; cases hn
    have g1 : unp (unp G l) D b = none := by rw [unp_ne n2, unp_ne n1]; exact hn
    rw [World.putObj_heap_other n1, h2.block b (by rw [World.putObj_size]; exact Nat.lt_of_lt_of_le hb h1.size) (h1.none b hb g1), World.putObj_heap_other n1]
    exact h1.block b hb g1
  · have n1 : b ≠ l := fun e => by subst e; rw [hl] at hn; cases hn
    have n2 : b ≠ D := fun e => by subst e; rw [hD] at hn; cases hn
    have g1 : unp (unp G l) D b = none := by rw [unp_ne n2, unp_ne n1]; exact hn
    rw [GH.put_ne _ _ n2, GH.put_ne _ _ n1]
    exact h2.none b (by rw [World.putObj_size]; exact Nat.lt_of_lt_of_le hb h1.size) (h1.none b hb g1)
  · by_cases n2 : b = D
    · subst n2
      rw [GH.put_same] at hb; cases hb
      rw [World.putObj_heap_other hne]; exact f2
    · rw [GH.put_ne _ _ n2] at hb
      by_cases n1 : b = l
      · subst n1
        rw [GH.put_same] at hb; cases hb
        exact World.putObj_heap_same s3
      · rw [GH.put_ne _ _ n1] at hb
        rw [World.putObj_heap_other n1]; exact h2.view b o hb
def jumpOf : Exit → Option Code
  | .ret => some .ret
  | .exit id => some (.exit id)
  | _ => none
theorem Vw_range {g : Operand} {ps : Array Nat} {as body : Code} {Va : (Exit → St → Prop) → St → Prop} {Vb : (Exit → St → Prop) → St → Prop} {Q : Exit → St → Prop} {st : St} (hx : plainX E g = true) (hps : ps.toList.all (fun p => (lookE E.env p).isNone && Nat.blt p E.n) = true)
    (hA : ∀ l Q st, Va Q st → Vw P E (some l) as Q st) (hB : ∀ l Q st, Vb Q st → Vw P E (some l) body Q st)
    (h : RangeV P E (fun Q => Va (thenQ (Vb Q) (fun _ _ => False))) g ps.toList Q st) : Vw P E none (.rangeFunc g ps as body) Q st := by
  rintro m w0 G0 a w ⟨β, hr⟩
  obtain ⟨gf, lb, Gi, n, Item, I, Ix, e1, e2, ⟨hid, hit⟩, mI, mIx, hGi, h0, hb, hd, hret, hex⟩ := h
  refine wpIn_rangeFunc ?_
  intro fn hfn
  obtain ⟨rec, hrec⟩ : ∃ rec : LoopState → Option Code → Loop, rec = fun s pe => { state := s, pending := pe, fn, tmps := a.tmps, params := ps, assign := as, body, defers := w.heap.size } := ⟨_, rfl⟩
  obtain ⟨W1, hW1⟩ : ∃ W1, (w.alloc (.deferred (some []))).alloc (.loop (rec .ready none)) = W1 := ⟨_, rfl⟩
  have hf1 : Fr st.G w ((st.G.put w.heap.size (.deferred (some []))).put (w.heap.size + 1) (.loop (rec .ready none))) W1 := by
    have := (Fr.alloc hr.view (.deferred (some []))).trans (Fr.alloc (Fr.alloc hr.view (.deferred (some []))).view (.loop (rec .ready none)))
    rw [World.size_alloc] at this
    rw [← hW1]; exact this
  have hev : a.eval g = .func (.func gf) #[] lb.toArray := (hr.eval hx).trans e1
  have eg : ∀ args w, (callFunc gf args).run P w = .ok (.enter gf args) w := fun args w => callable_run (w := w) e2 args
  refine ⟨w.heap.size + 1, [{ target := .collected w.heap.size, args := #[] }], W1, { target := .fn (.func gf) lb.toArray, args := #[.func (.yield (w.heap.size + 1)) #[] #[]] }, W1, gf,
    #[.func (.yield (w.heap.size + 1)) #[] #[]] ++ lb.toArray, W1, ?_, ?_, ?_, ?_, fun h => by simp [Fence.wide] at h, ?_⟩
  · rw [← hW1, hrec]; exact run_enterLoop_outer _ _ _ _ _
  · simp only [resolve, hev]
    simp [go_sem]
  · intro f' _; trivial
  · simp [invoke, go_sem, eg]
  · generalize hD : w.heap.size = D at *
    generalize hL : D + 1 = l at *
    have hne : D ≠ l := by omega
    have hDG : st.G D = none := hr.view.fresh (by omega)
    have hLG : st.G l = none := hr.view.fresh (by omega)
    generalize hG1 : (st.G.put D (.deferred (some []))).put l (.loop (rec .ready none)) = G1 at hf1
    have hG1l : G1 l = some (.loop (rec .ready none)) := by rw [← hG1]; exact GH.put_same _ _ _
    have hG1D : G1 D = some (.deferred (some [])) := by rw [← hG1, GH.put_ne _ _ hne]; exact GH.put_same _ _ _
    have hG1n : ∀ b, b < D → st.G b = none → G1 b = none := fun b hb hn => by rw [← hG1, GH.put_ne _ _ (by omega), GH.put_ne _ _ (by omega)]; exact hn
    have hG1le : st.G.le G1 := by
      rw [← hG1]
      exact GH.le_trans (GH.le_put _ hDG) (GH.le_put _ (by rw [GH.put_ne _ _ (Ne.symm hne)]; exact hLG))
    -- the end of the loop
    have fin : ∀ (pe : Option Code) (s : LoopState) (W2 : World) (G' Gc : GH), Fr G1 W1 G' W2 → G' l = some (.loop (rec s pe)) → s ≠ .busy → G' D = some (.deferred (some [])) → Gc.le G' → Gc l = none → Gc D = none →
        ∃ w4, (Instr.endLoop l).run P W2 = .ok pe w4 ∧ Rel E w0 G0 ⟨st.s, st.l, Gc⟩ { a with defers := [{ target := .collected D, args := #[] }] ++ a.defers } w4 := by
      intro pe s W2 G' Gc hf hl hs hd' hc1 hc2 hc3
      have hl2 := hf.view l _ hl
      have hend := run_endLoop (P := P) hl2 (by rw [hrec]; exact hs)
      have hpe : (rec s pe).pending = pe := by rw [hrec]
      rw [hpe] at hend
      refine ⟨_, hend, β, ?_⟩
      have old : ∀ (o : Obj) (b : Nat), b < D → st.G b = none → Gc b = none ∧ (W2.putObj l o).heap[b]? = w.heap[b]? := fun o b hb hn => by
        have h1 : b < W1.heap.size := Nat.lt_of_lt_of_le (by omega) hf1.size
        have h2 := hf.none b h1 (hG1n b hb hn)
        refine ⟨?_, ?_⟩
        · cases e : Gc b with
          | none => rfl
          | some o => rw [hc1 b o e] at h2; cases h2
        · rw [World.putObj_heap_other (by omega), hf.block b h1 (hG1n b hb hn)]
          exact hf1.block b (by omega) hn
      refine ⟨?_, hr.size, ⟨hf.os.trans (hf1.os.trans hr.fr.os), hf.tape.trans (hf1.tape.trans hr.fr.tape), hf.output.trans (hf1.output.trans hr.fr.output), ?_, fun b hb hn => ?_, fun b hb hn => ?_, fun b o ho => ?_⟩, hr.slot, hr.ptr, fun k b hk => ?_, hr.inj⟩
      · obtain ⟨Ds, m1, m2, m3⟩ := hr.defers
        refine ⟨D :: Ds, by rw [m1]; rfl, List.nodup_cons.2 ⟨fun hm => ?_, m2⟩, fun D' hD' => ?_⟩
        · have := (Array.getElem?_eq_some_iff.1 (m3 D hm).2.2).1
          omega
        · rcases List.mem_cons.1 hD' with rfl | hD'
          · have := hr.fr.size
            exact ⟨by omega, hc3, by rw [World.putObj_heap_other hne]; exact hf.view _ _ hd'⟩
          · obtain ⟨k1, k2, k3⟩ := m3 D' hD'
            have := (Array.getElem?_eq_some_iff.1 k3).1
            obtain ⟨o1, o2⟩ := old _ D' (by omega) k2
            exact ⟨k1, o1, by rw [o2]; exact k3⟩
      · rw [World.putObj_size]; exact Nat.le_trans hr.fr.size (Nat.le_trans hf1.size hf.size)
      · have hs := hr.fr.size
        rw [(old _ b (by omega) (hr.fr.none b hb hn)).2]; exact hr.fr.block b hb hn
      · have hs := hr.fr.size
        exact (old (.deferred none) b (by omega) (hr.fr.none b hb hn)).1
      · change Gc b = some o at ho
        rw [World.putObj_heap_other (fun e => by subst e; rw [hc2] at ho; cases ho)]
        exact hf.view b o (hc1 b o ho)
      · obtain ⟨k1, k2, e, k3⟩ := hr.loc k b hk
        have := (Array.getElem?_eq_some_iff.1 k3).1
        obtain ⟨o1, o2⟩ := old _ b (by omega) k2
        exact ⟨k1, o1, e, by rw [o2]; exact k3⟩
    have hc := hit l (fun k G => G l = some (.loop (rec .ready none)) ∧ G D = some (.deferred (some [])) ∧ ∃ Gc : GH, Gc.le G ∧ Gc l = none ∧ Gc D = none ∧ I k Gc)
      (fun G => ∃ e c, jumpOf e = some c ∧ G l = some (.loop (rec .done (some c))) ∧ G D = some (.deferred (some [])) ∧ ∃ Gc : GH, Gc.le G ∧ Gc l = none ∧ Gc D = none ∧ Ix e Gc)
      (fun k G G' ⟨j1, j2, Gc, j3, j4⟩ hle => ⟨hle _ _ j1, hle _ _ j2, Gc, GH.le_trans j3 hle, j4⟩)
      (fun G G' ⟨e, c, j0, j1, j2, Gc, j3, j4⟩ hle => ⟨e, c, j0, hle _ _ j1, hle _ _ j2, Gc, GH.le_trans j3 hle, j4⟩)
      (fun k G ⟨_, _, Gc, j3, _, _, j4⟩ => GH.le_trans (hGi k Gc j4) j3)
      (by
        intro k x Ga G hk hJ hle hitm
        obtain ⟨j1, j2, Gc, j3, j4, j5, j6⟩ := hJ
        have g1 := hle _ _ j1
        have g2 := hle _ _ j2
        have hitm2 := hid k x _ _ D _ (show (unp G l) D = some _ by rw [unp_ne hne]; exact g2) rfl (hid k x Ga G l _ g1 rfl hitm)
        have hle2 : (unp (unp Ga l) D).le (unp (unp G l) D) := le_unp (le_unp (GH.le_trans (unp_le _ _) (GH.le_trans (unp_le _ _) hle)) (by rw [unp_ne (Ne.symm hne), unp_self])) (unp_self _ _)
        obtain ⟨hlen, hv⟩ := hb k x (unp (unp Ga l) D) (unp (unp G l) D) hk (mI k _ _ j6 (le_unp (le_unp j3 j4) j5)) hle2 hitm2
        intro W hW
        have hl := hW l _ g1
        have hy := run_yield (P := P) (args := x.toArray) hl (by rw [hrec]; simpa using hlen)
        have hvW : View (unp (unp G l) D) W := fun b o ho => hW b o (unp_le _ _ b o (unp_le _ _ b o ho))
        rw [hrec] at hy
        refine ⟨fn, _, as, body, hy, roundIn_of_wpIn trivial ?_⟩
        have hz : (ps.zip x.toArray).foldl (fun t (p, v) => t.setIfInBounds p v) a.tmps = (ps.toList.zip x).foldl (fun t (p, v) => t.setIfInBounds p v) a.tmps := by
          rw [← Array.foldl_toList]; simp
        have hrel : RelB E W (unp (unp G l) D) (fun _ => none) ⟨setMany (noLoc E st.s) ps.toList x, st.l, unp (unp G l) D⟩ ⟨(ps.zip x.toArray).foldl (fun t (p, v) => t.setIfInBounds p v) a.tmps, []⟩ W := by
          rw [hz]
          refine setMany_rel ps.toList x ⟨noLoc E st.s, st.l, _⟩ ⟨a.tmps, []⟩ hps ⟨Marks.nil _ _ _, hr.size, Fr.refl hvW, fun t ht => ?_, fun t k o ht hs => ?_, fun k b hb => (by cases hb), fun k k' b hb _ => (by cases hb)⟩
          · refine (hr.slot t ht).trans ?_
            simp [noLoc, ht]
          · have hs2 : noLoc E st.s t = .int .u64 o := hs
            rw [show noLoc E st.s t = undef by simp [noLoc, ht]] at hs2
            cases hs2
        refine wpIn_mono (hA l _ _ hv 0 W _ _ W ⟨_, hrel⟩) ?_
        rintro e a1 w1 ⟨st1, ⟨β1, hr1⟩, hq⟩
        cases e with
        | normal =>
          have hl1 : w1.heap[l]? = some (.loop (rec .ready none)) := by
            rw [hr1.fr.block l (hW.lt g1) (by rw [unp_ne (Ne.symm hne), unp_self])]; exact hl
          refine ⟨_, run_beginRound hl1 (by rw [hrec]), ?_⟩
          have hvl : unp (unp G l) D l = none := by rw [unp_ne (Ne.symm hne), unp_self]
          have hn1 : st1.G l = none := hr1.fr.none l (hW.lt g1) hvl
          generalize hbz : Obj.loop { rec .ready none with state := .busy } = ob
          have hl1lt := (Array.getElem?_eq_some_iff.1 hl1).1
          have hrel2 : RelB E (W.putObj l ob) (unp (unp G l) D) β1 st1 a1 (w1.putObj l ob) := by
            refine ⟨?_, hr1.size, ⟨hr1.fr.os, hr1.fr.tape, hr1.fr.output, by rw [World.putObj_size, World.putObj_size]; exact hr1.fr.size, fun b hb hn => ?_, fun b hb hn => hr1.fr.none b (by rw [World.putObj_size] at hb; exact hb) hn, fun b o ho => ?_⟩, hr1.slot, hr1.ptr, fun k b hb => ?_, hr1.inj⟩
            · obtain ⟨Ds, m1, m2, m3⟩ := hr1.defers
              refine ⟨Ds, m1, m2, fun D' hD' => ?_⟩
              obtain ⟨k1, k2, k3⟩ := m3 D' hD'
              exact ⟨by rw [World.putObj_size]; exact k1, k2, by rw [World.putObj_heap_other (fun e => by subst e; rw [hl1] at k3; cases k3)]; exact k3⟩
            · rw [World.putObj_size] at hb
              by_cases e : b = l
              · subst e; rw [World.putObj_heap_same hl1lt, World.putObj_heap_same hb]
              · rw [World.putObj_heap_other e, World.putObj_heap_other e]; exact hr1.fr.block b hb hn
            · rw [World.putObj_heap_other (fun e => by subst e; rw [hn1] at ho; cases ho)]; exact hr1.fr.view b o ho
            · obtain ⟨k1, k2, e, k3⟩ := hr1.loc k b hb
              exact ⟨by rw [World.putObj_size]; exact k1, k2, e, by rw [World.putObj_heap_other (fun e => by subst e; rw [hl1] at k3; cases k3)]; exact k3⟩
          refine wpIn_mono (hB l _ _ hq 0 _ _ _ _ ⟨_, hrel2⟩) ?_
          rintro e a3 w3 ⟨st3, ⟨β3, hr3⟩, hq3⟩
          have key : ∀ (jump : Option Code), ∃ w4, (Instr.endRound l jump).run P w3 = .ok (.bool jump.isNone) w4 ∧ st3.G l = none ∧ st3.G D = none ∧ Fr G W ((st3.G.put l (.loop (rec (if jump.isNone then .ready else .done) jump))).put D (.deferred (some []))) w4 := by
            intro jump
            obtain ⟨_, q2, q3, q4, q5⟩ := fr_round (o4 := .loop (rec (if jump.isNone then .ready else .done) jump)) hW g1 g2 hne (Fr.refl hvW) hr3.fr
            rw [← hbz] at q2
            have := run_endRound (P := P) jump q2
            refine ⟨_, this, q3, q4, ?_⟩
            rw [hrec] at q5 ⊢
            exact q5
          have put1 : ∀ o, ((st3.G.put l o).put D (.deferred (some []))) l = some o := fun o => by rw [GH.put_ne _ _ (Ne.symm hne)]; exact GH.put_same _ _ _
          have put3 : ∀ o, st3.G l = none → st3.G D = none → st3.G.le ((st3.G.put l o).put D (.deferred (some []))) := fun o n1 n2 => GH.le_trans (GH.le_put _ n1) (GH.le_put _ (by rw [GH.put_ne _ _ hne]; exact n2))
          cases e with
          | normal =>
            obtain ⟨w4, q1, q2, q3, q4⟩ := key none
            exact ⟨_, _, q1, _, _, rfl, q4, .inl ⟨rfl, put1 _, GH.put_same _ _ _, st3.G, put3 _ q2 q3, q2, q3, hq3⟩⟩
          | ret =>
            obtain ⟨w4, q1, q2, q3, q4⟩ := key (some .ret)
            exact ⟨_, _, q1, _, _, rfl, q4, .inr ⟨rfl, .ret, .ret, rfl, put1 _, GH.put_same _ _ _, st3.G, put3 _ q2 q3, q2, q3, hq3⟩⟩
          | exit id =>
            obtain ⟨w4, q1, q2, q3, q4⟩ := key (some (.exit id))
            exact ⟨_, _, q1, _, _, rfl, q4, .inr ⟨rfl, .exit id, .exit id, rfl, put1 _, GH.put_same _ _ _, st3.G, put3 _ q2 q3, q2, q3, hq3⟩⟩
          | goto t => exact hq3.elim
          | panic ch => exact hq3.elim
          | outgrown => exact hq3.elim
        | exit id => exact hq.elim
        | goto t => exact hq.elim
        | ret => exact hq.elim
        | panic ch => exact hq.elim
        | outgrown => exact hq.elim)
      G1 ⟨hG1l, hG1D, st.G, hG1le, hLG, hDG, h0⟩
    have hcall := (callsIn_wide (n := m - 1)).2 (hc W1 hf1.view)
    have hargs : (Value.func (.yield l) #[] #[] :: lb).toArray = #[Value.func (.yield l) #[] #[]] ++ lb.toArray := by simp
    rw [hargs] at hcall
    refine CallsIn.mono (F := WF none) hcall ?_
    rintro e W2 ⟨v, G', rfl, hf, ⟨j1, j2, Gc, j3, j4, j5, j6⟩ | ⟨e, c, j0, j1, j2, Gc, j3, j4, j5, j6⟩⟩
    · obtain ⟨w4, k1, k2⟩ := fin none .ready W2 G' Gc hf j1 (by simp) j2 j3 j4 j5
      exact ⟨none, w4, k1, _, k2, hd Gc j6⟩
    · obtain ⟨w4, k1, k2⟩ := fin (some c) .done W2 G' Gc hf j1 (by simp) j2 j3 j4 j5
      refine ⟨some c, w4, k1, ?_⟩
      cases e with
      | ret => cases j0; exact wpIn_ret ⟨_, k2, hret Gc j6⟩
      | exit id => cases j0; exact wpIn_exit ⟨_, k2, hex id Gc j6⟩
      | normal => cases j0
      | goto _ => cases j0
      | panic _ => cases j0
      | outgrown => cases j0
end
/-! ### Whole code -/
inductive PC where
  | skip
  | ops (l : List Stp)
  | draw (Ls : List Nat) (pl : Plan)
  | flow (ss : List Stp) (deps : List (List Nat))
  | seq (a b : PC)
  | cond (c : Operand) (a b : PC)
  | block (id : Nat) (b : PC)
  | loop (b : PC)
  | exit (id : Nat)
  | ret
  | scope (b : PC)
  | range (g : Operand) (ps : List Nat) (as b : PC)
  | stuck
/-- A loop: what holds at each round's head is the prover's. -/
def LoopV (V : (Exit → St → Prop) → St → Prop) (Q : Exit → St → Prop) (st : St) : Prop :=
  ∃ (I : Nat → St → Prop) (n : Nat), I n st ∧ ∀ n st, I n st → V (thenQ (fun st' => ∃ m, m < n ∧ I m st') Q) st
/-- Regions that draw: what nobody writes there is the prover's. -/
def DrawV (P : Program) (E : Env) (Ls : List Nat) (pl : Plan) (K : St → Prop) (st : St) : Prop := ∃ Gs : GH, Gs.le st.G ∧ vplan P E Gs Ls K pl st
def scopeQ (Q : Exit → St → Prop) : Exit → St → Prop
  | .goto _, _ => False
  | e, st => Q e st
def vc (P : Program) (E : Env) : PC → (Exit → St → Prop) → St → Prop
  | .skip, Q, st => Q .normal st
  | .ops l, Q, st => vops P E l (Q .normal) st
  | .draw Ls pl, Q, st => DrawV P E Ls pl (Q .normal) st
  | .flow ss deps, Q, st => FlowV P E ss deps (Q .normal) st
  | .seq a b, Q, st => vc P E a (thenQ (vc P E b Q) Q) st
  | .cond c a b, Q, st => ∃ t, ev st c = .bool t ∧ (bif t then vc P E a Q st else vc P E b Q st)
  | .block id b, Q, st => vc P E b (blockQ id Q) st
  | .loop b, Q, st => LoopV (vc P E b) Q st
  | .exit id, Q, st => Q (.exit id) st
  | .ret, Q, st => Q .ret st
  | .scope b, Q, st => vc P E b (scopeQ Q) st
  | .range g ps as b, Q, st => RangeV P E (fun Q => vc P E as (thenQ (vc P E b Q) (fun _ _ => False))) g ps Q st
  | .stuck, _, _ => False
/-- No loop over a function within. -/
def noR : PC → Bool
  | .seq a b => noR a && noR b
  | .cond _ a b => noR a && noR b
  | .block _ b => noR b
  | .loop b => noR b
  | .scope b => noR b
  | .range _ _ _ _ => false
  | _ => true
/-- Local variables that a region reads. -/
def readsL (E : Env) (ops : Array Oper) : List Nat := (ops.toList.filterMap fun o => match o.op with | .load _ x => (locX E x).map (·.2) | _ => none).eraseDups
def writesL (E : Env) (ops : Array Oper) : List Nat := ops.toList.filterMap fun o => match o.op with | .store _ x _ => (locX E x).map (·.2) | .alloc _ => (locD E o.dst).map (·.2) | .box _ _ => (locD E o.dst).map (·.2) | _ => none
def compC (P : Program) (E : Env) : Code → Option PC
  | .skip => some .skip
  | .label _ => some .skip
  | .region _ ops false => (ops.toList.mapM (compStpY P E ops)).map .ops
  | .region id ops true =>
    bif P.follows .mixedOrders && (Region.noSelect ops && ops.toList.all noDefer) then
      bif (lookE E.env (2000000 + id)).isSome then (flowC P E ops).map fun x => .flow x.1 x.2 else
      let Ls := (readsL E ops).filter fun k => !(writesL E ops).contains k
      (mkPlan P E ops Ls ops.size (Array.replicate ops.size false)).map (.draw Ls)
    else some .stuck
  | .seq a b => (compC P E a).bind fun x => (compC P E b).map fun y => .seq x y
  | .cond c a b => bif plainX E c then (compC P E a).bind fun x => (compC P E b).map fun y => .cond c x y else some .stuck
  | .block id b => (compC P E b).map (.block id)
  | .loop b => (compC P E b).map .loop
  | .exit id => some (.exit id)
  | .ret => some .ret
  | .scope b => (compC P E b).map .scope
  | .rangeFunc g ps as b => (compC P E as).bind fun x => (compC P E b).bind fun y => bif plainX E g && (ps.toList.all (fun p => (lookE E.env p).isNone && Nat.blt p E.n) && (noR x && noR y)) then some (.range g ps.toList x y) else some .stuck
  | _ => some .stuck
theorem bif_stuck {c : Bool} {x : PC} {y : Option PC} (h : (bif c then y else some .stuck) = some x) : (c = true ∧ y = some x) ∨ PC.stuck = x := by
  cases c with
  | true => exact .inl ⟨rfl, h⟩
  | false => exact .inr (Option.some.inj h)
theorem stepR_scope {P : Program} {b : Frame} {a : Act} {k : List Item} {cs : List Frame} {w : World} {c : Code} : step P (lone (b.atR a (.code (.scope c) :: k)) cs w) = .next (lone (b.atR a (.code c :: .inScope c :: k)) cs w) :=
  step_lone_go (by simp [stepG, stepG.exec, Frame.atR])
theorem stepR_inScope {P : Program} {b : Frame} {a : Act} {k : List Item} {cs : List Frame} {w : World} {c : Code} : step P (lone (b.atR a (.inScope c :: k)) cs w) = .next (lone (b.atR a k) cs w) :=
  step_lone_go (by simp [stepG, stepG.exec, Frame.atR])
theorem wpIn_scope {F : Fence} {n : Nat} {P : Program} {Q : Exit → Act → World → Prop} {a : Act} {w : World} {c : Code} (h : c.wpIn F n P (Exit.noGoto Q) a w) : (Code.scope c).wpIn F n P Q a w := by
  intro b k cs hro hb hr
  have h0 : (lone (b.atR a (.code (.scope c) :: k)) cs w).fenced P F := fenced_calm hb hr rfl
  obtain ⟨e, a₁, w₁, hq, harr⟩ := h b (.inScope c :: k) cs hro hb hr
  cases e with
  | normal => exact ⟨.normal, a₁, w₁, hq, .head h0 stepR_scope (StepsIn.trans harr (.one (fenced_calm hb hr rfl) stepR_inScope))⟩
  | exit id =>
    have hx : exitTo id (.inScope c :: k) = exitTo id k := by simp [exitTo]
    exact ⟨.exit id, a₁, w₁, hq, fun k' hk => .head h0 stepR_scope (harr.1 k' (by rw [hx]; exact hk)),
      fun hr' hk => let ⟨k₁, h1, h2⟩ := harr.2 hr' (by rw [hx]; exact hk); ⟨k₁, h1, .head h0 stepR_scope h2⟩⟩
  | goto l => exact hq.elim
  | ret => exact ⟨_, a₁, w₁, hq, .of_steps (.one h0 stepR_scope) harr⟩
  | panic ch => exact ⟨_, a₁, w₁, hq, .of_steps (.one h0 stepR_scope) harr⟩
  | outgrown => exact ⟨_, a₁, w₁, hq, .of_steps (.one h0 stepR_scope) harr⟩
theorem Vw_scope {P : Program} {E : Env} {ro : Option Nat} {Q : Exit → St → Prop} {st : St} {c : Code} (h : Vw P E ro c (scopeQ Q) st) : Vw P E ro (.scope c) Q st := by
  intro m w0 G0 a w hr
  refine wpIn_scope (wpIn_mono (h m w0 G0 a w hr) ?_)
  rintro e a' w' ⟨st', hr', hq⟩
  cases e with
  | goto _ => exact hq.elim
  | _ => exact ⟨st', hr', hq⟩
theorem vc_sound {P : Program} {E : Env} : ∀ (c : Code) (pc : PC) (ro : Option Nat) (Q : Exit → St → Prop) (st : St), compC P E c = some pc → (ro = none ∨ noR pc = true) → vc P E pc Q st → Vw P E ro c Q st := by
  intro c
  induction c with
  | skip => intro pc ro Q st hc hn hv; cases hc; exact Vw_skip hv
  | label l => intro pc ro Q st hc hn hv; cases hc; exact Vw_label hv
  | region id ops draw =>
    intro pc ro Q st hc hn hv
    cases draw with
    | false =>
      simp only [compC, Option.map_eq_some_iff] at hc
      obtain ⟨ss, hss, rfl⟩ := hc
      exact Vw_region hss hv
    | true =>
      rcases bif_stuck hc with ⟨h1, hc⟩ | rfl
      rotate_left
      · exact hv.elim
      simp only [Bool.and_eq_true] at h1
      cases hfl : (lookE E.env (2000000 + id)).isSome with
      | true =>
        rw [hfl] at hc
        simp only [cond_true, Option.map_eq_some_iff] at hc
        obtain ⟨⟨ss, deps⟩, hpl, rfl⟩ := hc
        exact Vw_flow h1.1 h1.2.2 hpl hv
      | false =>
      rw [hfl] at hc
      simp only [cond_false, Option.map_eq_some_iff] at hc
      obtain ⟨pl, hpl, rfl⟩ := hc
      obtain ⟨Gs, hG, hv⟩ := hv
      exact Vw_draw _ Gs h1.1 h1.2.1 h1.2.2 hpl hG hv
  | seq x y ihx ihy =>
    intro pc ro Q st hc hn hv
    simp only [compC, Option.bind_eq_some_iff, Option.map_eq_some_iff] at hc
    obtain ⟨px, hx, py, hy, rfl⟩ := hc
    have n1 : ro = none ∨ noR px = true := hn.imp id fun h => by simp only [noR, Bool.and_eq_true] at h; exact h.1
    have n2 : ro = none ∨ noR py = true := hn.imp id fun h => by simp only [noR, Bool.and_eq_true] at h; exact h.2
    refine Vw_seq (Vw.mono (ihx px ro _ st hx n1 hv) fun e st' h => ?_)
    cases e with
    | normal => exact ihy py ro Q st' hy n2 h
    | _ => exact h
  | cond c x y ihx ihy =>
    intro pc ro Q st hc hn hv
    rcases bif_stuck hc with ⟨h1, hc⟩ | rfl
    rotate_left
    · exact hv.elim
    simp only [Option.bind_eq_some_iff, Option.map_eq_some_iff] at hc
    obtain ⟨px, hx, py, hy, rfl⟩ := hc
    have n1 : ro = none ∨ noR px = true := hn.imp id fun h => by simp only [noR, Bool.and_eq_true] at h; exact h.1
    have n2 : ro = none ∨ noR py = true := hn.imp id fun h => by simp only [noR, Bool.and_eq_true] at h; exact h.2
    obtain ⟨t, ht, hv⟩ := hv
    refine Vw_cond h1 ht ?_
    cases t
    · exact ihy py ro Q st hy n2 hv
    · exact ihx px ro Q st hx n1 hv
  | block id b ih =>
    intro pc ro Q st hc hn hv
    simp only [compC, Option.map_eq_some_iff] at hc
    obtain ⟨pb, hb, rfl⟩ := hc
    exact Vw_block (ih pb ro _ st hb hn hv)
  | loop b ih =>
    intro pc ro Q st hc hn hv
    simp only [compC, Option.map_eq_some_iff] at hc
    obtain ⟨pb, hb, rfl⟩ := hc
    obtain ⟨I, n, h0, hround⟩ := hv
    exact Vw_loop I n h0 fun n st' hi => ih pb ro _ st' hb hn (hround n st' hi)
  | exit id => intro pc ro Q st hc hn hv; cases hc; exact Vw_exit hv
  | ret => intro pc ro Q st hc hn hv; cases hc; exact Vw_ret hv
  | scope b ih =>
    intro pc ro Q st hc hn hv
    simp only [compC, Option.map_eq_some_iff] at hc
    obtain ⟨pb, hb, rfl⟩ := hc
    exact Vw_scope (ih pb ro _ st hb hn hv)
  | rangeFunc g ps as b iha ihb =>
    intro pc ro Q st hc hn hv
    simp only [compC, Option.bind_eq_some_iff] at hc
    obtain ⟨px, hx, py, hy, hc⟩ := hc
    cases hb : (plainX E g && (ps.toList.all (fun p => (lookE E.env p).isNone && Nat.blt p E.n) && (noR px && noR py))) with
    | false => rw [hb] at hc; cases hc; exact hv.elim
    | true =>
      rw [hb] at hc
      cases hc
      simp only [Bool.and_eq_true] at hb
      have hro : ro = none := hn.resolve_right (by simp [noR])
      subst hro
      exact Vw_range hb.1 hb.2.1 (fun l Q st h => iha px (some l) Q st hx (.inr hb.2.2.1) h) (fun l Q st h => ihb py (some l) Q st hy (.inr hb.2.2.2) h) hv
  | _ => intro pc ro Q st hc hn hv; cases hc; exact hv.elim
/-- A FUNCTION, by its compiled code. -/
structure Comp (P : Program) (f : FuncId) (E : Env) (nargs : Nat) (rs : List RV) (pc : PC) : Prop where
  ok : ∃ fn c, P.funcs[f]? = some fn ∧ fn.body = some c ∧ fn.results.toList.mapM (compRV P E) = some rs ∧ nargs ≤ fn.ntmps ∧ E.n = fn.ntmps ∧ E.env.all (fun x => decide (nargs ≤ x.1)) = true ∧ compC P E c = some pc
theorem HC.of_comp {P : Program} {f : FuncId} {E : Env} {n : Nat} {rs : List RV} {pc : PC} (h : Comp P f E n rs pc) {args : List Value} {G : GH} {R : Value → GH → Prop} (hn : args.length = n) (l : Nat → Array Value)
    (hv : vc P E pc (endQ rs R) ⟨args0 args, l, G⟩) : HC P f args.toArray G R := by
  obtain ⟨fn, c, hf, hb, hr, h1, h2, h3, hc⟩ := h.ok
  subst hn
  exact HC.of_body E rs hf hb hr h1 h2 h3 l (vc_sound c pc none _ _ hc (.inl rfl) hv)
end Go.Proofs.Ytdeihgcgglhhcaa.V
