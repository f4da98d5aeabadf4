/- Library V, part G: regions that draw their order; whole code. No program here. -/
import Derived.Test.YtbpjjhbkahinjaaPlVF
import Derived.Deep.RegionHeld3
import Derived.Scope
set_option linter.unusedVariables false
set_option linter.unusedSimpArgs false
namespace Go.Proofs.Ytbpjjhbkahinjaa.V
section
variable {P : Program} {E : Env} {st : St} {w0 : World} {G0 : GH} {β : Nat → Option Nat} {a : Act} {w : World}
theorem SW_of {Gs : GH} {Ls : List Nat} {β0 : Nat → Option Nat} {l0 : Nat → Array Value} (hr : RelB E w0 G0 β st a w) (hG : Gs.le st.G) (hβ : ∀ k, k ∈ Ls → β k = β0 k) (hl : ∀ k, k ∈ Ls → st.l k = l0 k) : SW Gs Ls β0 l0 w := by
  refine ⟨fun b o hb => hr.view b o (hG b o hb), fun k hk b hb => ?_⟩
  obtain ⟨_, _, e, h⟩ := hr.loc k b (by rw [hβ k hk]; exact hb)
  exact ⟨e, by rw [← hl k hk]; exact h⟩
theorem alts_mem {f : Nat → Option (Stp × Plan)} {Gs : GH} {Ls : List Nat} {K : St → Prop} : ∀ {is : List Nat} {pl : Plan}, alts f is = some pl → vplan P E Gs Ls K pl st → ∀ i ∈ is, ∃ s rest, f i = some (s, rest) ∧
      (bif gW st s.g then pv P E s.p st (fun st' => stands Gs Ls st st' ∧ vplan P E Gs Ls K rest st') else vplan P E Gs Ls K rest (skipS st s.d))
  | [], pl, h, hv, i, hi => by cases hi
  | j :: js, pl, h, hv, i, hi => by
    simp only [alts, Option.bind_eq_some_iff, Option.map_eq_some_iff] at h
    obtain ⟨⟨s, rest⟩, hf, more, hm, h⟩ := h
    subst h
    obtain ⟨h1, h2⟩ := hv
    rcases List.mem_cons.1 hi with rfl | hi
    · exact ⟨s, rest, hf, h1⟩
    · exact alts_mem hm h2 i hi
theorem newD_disj {Ls : List Nat} {d : Option Nat} (h : disj Ls (newD E d) = true) : ∀ k, k ∈ Ls → k ∉ newD E d := by
  intro k hk
  have := List.all_eq_true.1 h k hk
  simpa using this
theorem plan_sound {ops : Array Oper} {Gs : GH} {Ls : List Nat} {β0 : Nat → Option Nat} {l0 : Nat → Array Value} {K : St → Prop} {Q : Exit → St → Prop} (hQ : ∀ st, K st → Q .normal st) (hs : Region.noSelect ops = true) :
    ∀ (n : Nat) (listed : Array Bool) (pl : Plan) (st : St) (β : Nat → Option Nat) (a : Act) (w : World), mkPlan P E ops Ls n listed = some pl → vplan P E Gs Ls K pl st → RelB E w0 G0 β st a w → Gs.le st.G → (∀ k, k ∈ Ls → β k = β0 k) → (∀ k, k ∈ Ls → st.l k = l0 k) →
      wpAnyH P .any ops (NoPanic (lift E w0 G0 Q)) (SW Gs Ls β0 l0) n listed a w := by
  intro n
  induction n with
  | zero =>
    intro listed pl st β a w hm hv hr hG hβ hl
    simp only [mkPlan] at hm
    split at hm
    · rename_i hrd
      cases hm
      exact wpAnyH_done hrd ⟨st, ⟨β, hr⟩, hQ st hv⟩ 0
    · cases hm
  | succ n ih =>
    intro listed pl st β a w hm hv hr hG hβ hl
    simp only [mkPlan] at hm
    split at hm
    · rename_i hrd
      cases hm
      exact wpAnyH_done hrd ⟨st, ⟨β, hr⟩, hQ st hv⟩ _
    · rename_i r rs hrd
      cases hfd : (r :: rs).find? (canTake P E ops Ls listed) with
      | some i =>
        rw [hfd] at hm
        simp only [Option.bind_eq_some_iff, Option.map_eq_some_iff] at hm
        obtain ⟨s, hs1, rest, hrest, hm⟩ := hm
        subst hm
        have hi := List.mem_of_find?_eq_some hfd
        have hct := List.find?_some hfd
        simp only [canTake, hs1, Bool.and_eq_true] at hct
        obtain ⟨o, ho, hg, hp, hd, hok⟩ := stepAt_some hs1
        have hw := compG_wanted hg hr
        have hcont : (Region.ready .any ops listed).contains i = true := by rw [hrd]; simpa using hi
        simp only [vplan] at hv
        cases hgw : gW st s.g with
        | true =>
          rw [hgw] at hv
          obtain ⟨v, st', h1, h2, h3, h4, h5⟩ := pvT_sound hp hv hr hβ hl
          refine wpAnyH_take ho hs hct.2 hcont (fun c a w h => h) (v := v) (.inl ⟨hw.trans hgw, h1⟩) (SW_of hr hG hβ hl) ?_
          exact ih _ rest st' β _ w hrest h3 h2 (by rw [h5]; exact hG) hβ (by rw [h4]; exact hl)
        | false =>
          rw [hgw] at hv
          refine wpAnyH_take ho hs hct.2 hcont (fun c a w h => h) (v := undef) (.inr ⟨hw.trans hgw, rfl⟩) (SW_of hr hG hβ hl) ?_
          rw [hd]
          exact ih _ rest _ β _ w hrest hv (hr.skip hok) hG hβ hl
      | none =>
        rw [hfd] at hm
        refine wpAnyH_all hrd (by simp) fun i hi => ?_
        obtain ⟨s, rest, hf, hv1⟩ := alts_mem hm hv i hi
        simp only [Option.bind_eq_some_iff] at hf
        obtain ⟨s', hs1, hf⟩ := hf
        obtain ⟨hdis, hf⟩ := bif_some hf
        simp only [Option.map_eq_some_iff] at hf
        obtain ⟨rest', hrest, hf⟩ := hf
        cases hf
        obtain ⟨o, ho, hg, hp, hd, hok⟩ := stepAt_some hs1
        have hw := compG_wanted hg hr
        unfold wpOp
        simp only [ho]
        cases hgw : gW st s.g with
        | true =>
          rw [hgw] at hv1
          rw [if_pos (hw.trans hgw)]
          have hv2 : pv P E s.p st (fun st' => stands Gs Ls st st' ∧ vplan P E Gs Ls K rest st') := hv1
          refine .inl (compOpS_sound hp hv2 w0 G0 β a w hr _ _ ?_)
          rintro β' st' a' w' hr' hb ⟨⟨hG', hl'⟩, hv'⟩
          have hβ' : ∀ k, k ∈ Ls → β' k = β0 k := fun k hk => (hb k (by rw [hd]; exact newD_disj hdis k hk)).trans (hβ k hk)
          have hl'' : ∀ k, k ∈ Ls → st'.l k = l0 k := fun k hk => (hl' k hk).trans (hl k hk)
          exact ⟨SW_of hr' hG' hβ' hl'', ih _ rest st' β' a' w' hrest hv' hr' hG' hβ' hl''⟩
        | false =>
          rw [hgw] at hv1
          rw [if_neg (by rw [hw, hgw]; simp), hd]
          exact ⟨SW_of (hr.skip hok) hG hβ hl, ih _ rest _ β _ w hrest hv1 (hr.skip hok) hG hβ hl⟩
theorem Vw_draw {ops : Array Oper} {id : Nat} {pl : Plan} {Q : Exit → St → Prop} (Ls : List Nat) (Gs : GH) (hm : P.follows .mixedOrders = true) (hs : Region.noSelect ops = true) (hpl : mkPlan P E ops Ls ops.size (Array.replicate ops.size false) = some pl) (hG : Gs.le st.G)
    (hv : vplan P E Gs Ls (Q .normal) pl st) : Vw P E (.region id ops true) Q st := by
  rintro w0 G0 a w ⟨β, hr⟩
  refine wp_region_noPanic (wp_region_held hm (S := SW Gs Ls β st.l) ?_)
  exact plan_sound (fun _ h => h) hs _ _ pl st β a w.drew hpl hv hr.drew hG (fun _ _ => rfl) (fun _ _ => rfl)
end
/-! ### Regions that draw, by what each operation comes to: whatever the order -/
/-- What holds in such a region where the operations D are done. -/
structure Ext (st : St) (ss : List Stp) (Φ : Nat → Value → GH → Prop) (D : Nat → Prop) (st' : St) : Prop where
  l : st'.l = st.l
  G : st.G.le st'.G
  s : ∀ k, (∀ s ∈ ss, s.d ≠ some k) → st'.s k = st.s k
  done : ∀ j, D j → ∀ s d, ss[j]? = some s → s.d = some d → Φ j (st'.s d) st'.G
def flowPost (s : Stp) (φ : Value → GH → Prop) (st' st'' : St) : Prop := st''.l = st'.l ∧ st'.G.le st''.G ∧ (∀ k, s.d ≠ some k → st''.s k = st'.s k) ∧ ∀ d, s.d = some d → φ (st''.s d) st''.G
def FlowV (P : Program) (E : Env) (ss : List Stp) (deps : List (List Nat)) (K : St → Prop) (st : St) : Prop :=
  ∃ Φ : Nat → Value → GH → Prop, (∀ i v G G', Φ i v G → G.le G' → Φ i v G') ∧
    (∀ i s, ss[i]? = some s → ∀ st', Ext st ss Φ (fun j => j ∈ deps.getD i []) st' → vops P E [s] (flowPost s (Φ i) st') st') ∧
    (∀ st', Ext st ss Φ (fun j => j < ss.length) st' → K st')
def onceD : List Stp → Bool
  | [] => true
  | s :: r => r.all (fun x => match s.d, x.d with | some a, some b => !Nat.beq a b | _, _ => true) && onceD r
theorem onceD_ne : ∀ {ss : List Stp} {i j : Nat} {s x : Stp} {d : Nat}, onceD ss = true → ss[i]? = some s → ss[j]? = some x → i ≠ j → s.d = some d → x.d ≠ some d
  | [], i, j, s, x, d, _, hi, _, _, _ => by simp at hi
  | y :: r, i, j, s, x, d, h, hi, hj, hne, hs => by
    simp only [onceD, Bool.and_eq_true] at h
    have key : ∀ z ∈ r, ∀ d, y.d = some d → z.d ≠ some d := fun z hz d hd he => by
      have := List.all_eq_true.1 h.1 z hz
      rw [hd, he] at this
      simp at this
    cases i with
    | zero =>
      simp at hi; subst hi
      cases j with
      | zero => exact absurd rfl hne
      | succ j => simp at hj; exact key x (List.mem_of_getElem? hj) d hs
    | succ i =>
      simp at hi
      cases j with
      | zero => simp at hj; subst hj; exact fun he => key s (List.mem_of_getElem? hi) d he hs
      | succ j => simp at hj; exact onceD_ne h.2 hi hj (by omega) hs
def edgesOf (o : Oper) : List Nat := (o.after.toList.filter (Region.binds .any)).map (·.on)
def backwards : List Oper → Nat → Bool
  | [], _ => true
  | o :: r, i => (edgesOf o).all (fun j => Nat.blt j i) && backwards r (i + 1)
theorem backwards_lt : ∀ {l : List Oper} {n i : Nat} {o : Oper}, backwards l n = true → l[i]? = some o → ∀ j ∈ edgesOf o, j < n + i
  | [], n, i, o, _, hi, _, _ => by simp at hi
  | x :: r, n, i, o, h, hi, j, hj => by
    simp only [backwards, Bool.and_eq_true] at h
    cases i with
    | zero => simp at hi; subst hi; exact blt_lt (List.all_eq_true.1 h.1 j hj)
    | succ i => simp at hi; have := backwards_lt h.2 hi j hj; omega
theorem getDset (l : Array Bool) (d : Bool) {i j : Nat} (h : j ≠ i) : (l.setIfInBounds i true).getD j d = l.getD j d := by
  rw [Array.getD_eq_getD_getElem?, Array.getD_eq_getD_getElem?, Array.getElem?_setIfInBounds_ne (Ne.symm h)]
def flowC (P : Program) (E : Env) (ops : Array Oper) : Option (List Stp × List (List Nat)) :=
  (ops.toList.mapM (compStp P E ops)).bind fun ss => bif onceD ss && backwards ops.toList 0 && ops.toList.all (fun o => (newD E o.dst).isEmpty) then some (ss, ops.toList.map edgesOf) else none
theorem mapM_get2 {α β : Type} {f : α → Option β} : ∀ {l : List α} {r : List β}, l.mapM f = some r → r.length = l.length ∧ ∀ (i : Nat) (x : α), l[i]? = some x → ∃ y, r[i]? = some y ∧ f x = some y
  | [], r, h => by simp at h; subst h; simp
  | x :: l, r, h => by
    rw [List.mapM_cons] at h
    cases h1 : f x with
    | none => rw [h1] at h; cases h
    | some y =>
      rw [h1] at h
      cases h2 : l.mapM f with
      | none => rw [h2] at h; cases h
      | some r' =>
        rw [h2] at h; cases h
        obtain ⟨e1, e2⟩ := mapM_get2 h2
        refine ⟨by simp [e1], fun i z hz => ?_⟩
        cases i with
        | zero => simp at hz; subst hz; exact ⟨y, by simp, h1⟩
        | succ i => simp at hz; obtain ⟨y', h3, h4⟩ := e2 i z hz; exact ⟨y', by simpa using h3, h4⟩
section
variable {P : Program} {E : Env} {st : St} {w0 : World} {G0 : GH}
theorem flow_any {ops : Array Oper} {ss : List Stp} {Φ : Nat → Value → GH → Prop} {Q : Exit → St → Prop} (hm : ops.toList.mapM (compStp P E ops) = some ss) (ho : onceD ss = true) (hb : backwards ops.toList 0 = true) (hn : ∀ o ∈ ops.toList, newD E o.dst = [])
    (mono : ∀ i v G G', Φ i v G → G.le G' → Φ i v G') (step : ∀ i s o, ss[i]? = some s → ops[i]? = some o → ∀ st', Ext st ss Φ (fun j => j ∈ edgesOf o) st' → vops P E [s] (flowPost s (Φ i) st') st')
    (fin : ∀ st', Ext st ss Φ (fun j => j < ss.length) st' → Q .normal st') :
    ∀ (n : Nat) (listed : Array Bool) (st' : St) (β : Nat → Option Nat) (a : Act) (w : World), listed.size = ops.size → ((List.range ops.size).filter fun j => !listed.getD j true).length = n → RelB E w0 G0 β st' a w → Ext st ss Φ (fun j => listed.getD j false = true) st' →
      wpAny P .any ops (lift E w0 G0 Q) n listed a w := by
  obtain ⟨hlen, hget⟩ := mapM_get2 hm
  have hend : ∀ (listed : Array Bool) (st' : St) (β : Nat → Option Nat) (a : Act) (w : World), listed.size = ops.size → RelB E w0 G0 β st' a w → Ext st ss Φ (fun j => listed.getD j false = true) st' → Region.ready .any ops listed = [] → lift E w0 G0 Q .normal a w := by
    intro listed st' β a w hsz hr hx hrd
    refine ⟨st', ⟨β, hr⟩, fin st' ⟨hx.l, hx.G, hx.s, fun j hj s d hs hd => hx.done j ?_ s d hs hd⟩⟩
    have hjs : j < ops.size := by rw [hlen] at hj; simpa using hj
    clear hs hd s d
    induction j using Nat.strongRecOn with
    | _ j ih =>
      cases e : listed.getD j false with
      | true => rfl
      | false =>
        exfalso
        have hjl : j < listed.size := by omega
        have e1 : listed.getD j true = false := by simp [Array.getD, hjl] at e ⊢; exact e
        obtain ⟨o, ho'⟩ : ∃ o, ops[j]? = some o := ⟨_, Array.getElem?_eq_getElem hjs⟩
        have : j ∈ Region.ready .any ops listed := by
          unfold Region.ready
          refine List.mem_filter.2 ⟨List.mem_range.2 hjs, ?_⟩
          rw [e1, ho']
          simp only [Bool.not_false, Bool.true_and, Option.map_some, Option.getD_some]
          rw [← Array.all_toList]
          refine List.all_eq_true.2 fun x hx' => ?_
          cases hbx : Region.binds .any x with
          | false => rfl
          | true =>
            have hmem : x.on ∈ edgesOf o := List.mem_map.2 ⟨x, List.mem_filter.2 ⟨hx', hbx⟩, rfl⟩
            have hlt := backwards_lt hb (i := j) (o := o) (by rw [Array.getElem?_toList]; exact ho') x.on hmem
            simp only [Bool.not_true, Bool.false_or]
            exact ih x.on (by omega) (by rw [hlen]; simp; omega) (by omega)
        rw [hrd] at this
        cases this
  intro n
  induction n with
  | zero =>
    intro listed st' β a w hsz hc hr hx
    have hrd : Region.ready .any ops listed = [] := by
      refine List.eq_nil_iff_forall_not_mem.2 fun i hi => ?_
      unfold Region.ready at hi
      obtain ⟨h1, h2⟩ := List.mem_filter.1 hi
      simp only [Bool.and_eq_true] at h2
      have : i ∈ (List.range ops.size).filter fun j => !listed.getD j true := List.mem_filter.2 ⟨h1, h2.1⟩
      rw [List.eq_nil_of_length_eq_zero hc] at this
      cases this
    exact ⟨hrd, hend listed st' β a w hsz hr hx hrd⟩
  | succ n ih =>
    intro listed st' β a w hsz hc hr hx
    refine ⟨fun hrd => hend listed st' β a w hsz hr hx hrd, fun i hi => ?_⟩
    unfold Region.ready at hi
    obtain ⟨h1, h2⟩ := List.mem_filter.1 hi
    have his := List.mem_range.1 h1
    obtain ⟨o, ho'⟩ : ∃ o, ops[i]? = some o := ⟨_, Array.getElem?_eq_getElem his⟩
    rw [ho'] at h2
    simp only [Bool.and_eq_true, Option.map_some, Option.getD_some] at h2
    obtain ⟨h2, h3⟩ := h2
    have hil : i < listed.size := by omega
    have hdeps : ∀ j ∈ edgesOf o, listed.getD j false = true := fun j hj => by
      obtain ⟨x, hx1, rfl⟩ := List.mem_map.1 hj
      obtain ⟨hx2, hx3⟩ := List.mem_filter.1 hx1
      rw [← Array.all_toList] at h3
      have := List.all_eq_true.1 h3 x hx2
      rw [hx3] at this
      simpa using this
    obtain ⟨s, hs, hcs⟩ := hget i o (by rw [Array.getElem?_toList]; exact ho')
    have hv := step i s o hs ho' st' ⟨hx.l, hx.G, hx.s, fun j hj => hx.done j (hdeps j hj)⟩
    have hcnt : ((List.range ops.size).filter fun j => !(listed.setIfInBounds i true).getD j true).length = n := by
      have e0 : ∀ l : List Nat, l.Nodup → i ∈ l → (l.filter fun j => !(listed.setIfInBounds i true).getD j true).length + 1 = (l.filter fun j => !listed.getD j true).length := by
        intro l
        induction l with
        | nil => intro _ h; cases h
        | cons x l ihl =>
          intro hnd hmem
          rw [List.nodup_cons] at hnd
          by_cases hxi : x = i
          · subst hxi
            have e1 : (!(listed.setIfInBounds x true).getD x true) = false := by simp [Array.getD, hil]
            rw [List.filter_cons, List.filter_cons, if_neg (by rw [e1]; simp), if_pos h2, List.length_cons]
            congr 2
            refine List.filter_congr fun j hj => ?_
            have hne : x ≠ j := fun e => hnd.1 (e ▸ hj)
            exact congrArg _ (getDset _ true (Ne.symm hne))
          · have e1 : (listed.setIfInBounds i true).getD x true = listed.getD x true := getDset _ true hxi
            rw [List.filter_cons, List.filter_cons, e1]
            have hm' : i ∈ l := (List.mem_cons.1 hmem).resolve_left (fun e => hxi e.symm)
            have := ihl hnd.2 hm'
            split
            · rw [List.length_cons, List.length_cons, this]
            · exact this
      have := e0 _ List.nodup_range h1
      omega
    have next : ∀ (st'' : St), flowPost s (Φ i) st' st'' → Ext st ss Φ (fun j => (listed.setIfInBounds i true).getD j false = true) st'' := by
      rintro st'' ⟨p1, p2, p3, p4⟩
      refine ⟨p1.trans hx.l, GH.le_trans hx.G p2, fun k hk => (p3 k (hk s (List.mem_of_getElem? hs))).trans (hx.s k hk), fun j hj x d hxj hd => ?_⟩
      by_cases hji : j = i
      · subst hji
        rw [hs] at hxj; cases hxj
        exact p4 d hd
      · have hj' : listed.getD j false = true := (getDset _ false hji).symm.trans hj
        have hne := onceD_ne ho hxj hs hji hd
        rw [p3 d hne]
        exact mono j _ _ _ (hx.done j hj' x d hxj hd) p2
    simp only [compStp, Option.bind_eq_some_iff] at hcs
    obtain ⟨g, hg, p, hp, hcs⟩ := hcs
    obtain ⟨hd, hcs⟩ := bif_some hcs
    cases hcs
    have hw := compG_wanted hg hr
    have hsz' : (listed.setIfInBounds i true).size = ops.size := by simp [hsz]
    have hnew := hn o (by exact List.mem_of_getElem? (by rw [Array.getElem?_toList]; exact ho'))
    unfold wpOp
    simp only [ho']
    have go : pv P E p st' (flowPost ⟨g, o.dst, p⟩ (Φ i) st') → o.wp P a w (wpAny P .any ops (lift E w0 G0 Q) n (listed.setIfInBounds i true)) (lift E w0 G0 Q) := fun hpv =>
      compOpS_sound hp hpv w0 G0 β a w hr _ _ fun β' st'' a' w' hr' _ hpost => ih _ st'' β' a' w' hsz' hcnt hr' (next st'' hpost)
    cases g with
    | none =>
      rw [if_pos (show _ = true from hw)]
      exact .inl (go hv)
    | some x =>
      obtain ⟨t, b⟩ := x
      simp only [vops] at hv
      cases hbb : isB (st'.s t) b with
      | true =>
        rw [hbb] at hv
        rw [if_pos (hw.trans hbb)]
        exact .inl (go hv)
      | false =>
        rw [hbb] at hv
        rw [if_neg (by rw [hw]; simp [gW, hbb])]
        exact ih _ _ β _ w hsz' hcnt (hr.skip hd) (next _ hv)
theorem Vw_flow {ops : Array Oper} {id : Nat} {ss : List Stp} {deps : List (List Nat)} {Q : Exit → St → Prop} (hm : P.follows .mixedOrders = true) (hc : flowC P E ops = some (ss, deps)) (hv : FlowV P E ss deps (Q .normal) st) : Vw P E (.region id ops true) Q st := by
  rintro w0 G0 a w ⟨β, hr⟩
  simp only [flowC, Option.bind_eq_some_iff] at hc
  obtain ⟨ss', h1, hc⟩ := hc
  obtain ⟨h2, hc⟩ := bif_some hc
  simp only [Bool.and_eq_true] at h2
  cases hc
  obtain ⟨Φ, mono, step, fin⟩ := hv
  refine wp_region_any hm (flow_any (Φ := Φ) (st := st) h1 h2.1.1 h2.1.2 (fun o ho => ?_) mono (fun i s o hs ho st' hx => step i s hs st' ?_) fin ops.size _ st β a w.drew (by simp) ?_ hr.drew ⟨rfl, GH.le_refl _, fun _ _ => rfl, fun j hj => ?_⟩)
  · exact List.isEmpty_iff.1 (List.all_eq_true.1 h2.2 o ho)
  · have : (ops.toList.map edgesOf).getD i [] = edgesOf o := by simp [List.getD, ho]
    rw [this]; exact hx
  · rw [List.filter_eq_self.2 fun j hj => ?_, List.length_range]
    have := List.mem_range.1 hj
    simp [Array.getD, this]
  · simp [Array.getD] at hj
end
/-! ### Whole code -/
inductive PC where
  | skip
  | ops (l : List Stp)
  | draw (Ls : List Nat) (pl : Plan)
  | flow (ss : List Stp) (deps : List (List Nat))
  | seq (a b : PC)
  | cond (c : Operand) (a b : PC)
  | block (id : Nat) (b : PC)
  | loop (b : PC)
  | exit (id : Nat)
  | ret
  | scope (b : PC)
  | stuck
/-- A loop: what holds at each round's head is the prover's. -/
def LoopV (V : (Exit → St → Prop) → St → Prop) (Q : Exit → St → Prop) (st : St) : Prop :=
  ∃ (I : Nat → St → Prop) (n : Nat), I n st ∧ ∀ n st, I n st → V (thenQ (fun st' => ∃ m, m < n ∧ I m st') Q) st
/-- Regions that draw: what nobody writes there is the prover's. -/
def DrawV (P : Program) (E : Env) (Ls : List Nat) (pl : Plan) (K : St → Prop) (st : St) : Prop := ∃ Gs : GH, Gs.le st.G ∧ vplan P E Gs Ls K pl st
def scopeQ (Q : Exit → St → Prop) : Exit → St → Prop
  | .goto _, _ => False
  | e, st => Q e st
def vc (P : Program) (E : Env) : PC → (Exit → St → Prop) → St → Prop
  | .skip, Q, st => Q .normal st
  | .ops l, Q, st => vops P E l (Q .normal) st
  | .draw Ls pl, Q, st => DrawV P E Ls pl (Q .normal) st
  | .flow ss deps, Q, st => FlowV P E ss deps (Q .normal) st
  | .seq a b, Q, st => vc P E a (thenQ (vc P E b Q) Q) st
  | .cond c a b, Q, st => ∃ t, ev st c = .bool t ∧ (bif t then vc P E a Q st else vc P E b Q st)
  | .block id b, Q, st => vc P E b (blockQ id Q) st
  | .loop b, Q, st => LoopV (vc P E b) Q st
  | .exit id, Q, st => Q (.exit id) st
  | .ret, Q, st => Q .ret st
  | .scope b, Q, st => vc P E b (scopeQ Q) st
  | .stuck, _, _ => False
/-- Local variables that a region reads. -/
def readsL (E : Env) (ops : Array Oper) : List Nat := (ops.toList.filterMap fun o => match o.op with | .load _ x => (locX E x).map (·.2) | _ => none).eraseDups
def writesL (E : Env) (ops : Array Oper) : List Nat := ops.toList.filterMap fun o => match o.op with | .store _ x _ => (locX E x).map (·.2) | .alloc _ => (locD E o.dst).map (·.2) | .box _ _ => (locD E o.dst).map (·.2) | _ => none
def compC (P : Program) (E : Env) : Code → Option PC
  | .skip => some .skip
  | .label _ => some .skip
  | .region _ ops false => (ops.toList.mapM (compStp P E ops)).map .ops
  | .region id ops true =>
    bif P.follows .mixedOrders && Region.noSelect ops then
      bif (lookE E.env (2000000 + id)).isSome then (flowC P E ops).map fun x => .flow x.1 x.2 else
      let Ls := (readsL E ops).filter fun k => !(writesL E ops).contains k
      (mkPlan P E ops Ls ops.size (Array.replicate ops.size false)).map (.draw Ls)
    else some .stuck
  | .seq a b => (compC P E a).bind fun x => (compC P E b).map fun y => .seq x y
  | .cond c a b => bif plainX E c then (compC P E a).bind fun x => (compC P E b).map fun y => .cond c x y else some .stuck
  | .block id b => (compC P E b).map (.block id)
  | .loop b => (compC P E b).map .loop
  | .exit id => some (.exit id)
  | .ret => some .ret
  | .scope b => (compC P E b).map .scope
  | _ => some .stuck
theorem bif_stuck {c : Bool} {x : PC} {y : Option PC} (h : (bif c then y else some .stuck) = some x) : (c = true ∧ y = some x) ∨ PC.stuck = x := by
  cases c with
  | true => exact .inl ⟨rfl, h⟩
  | false => exact .inr (Option.some.inj h)
theorem Vw_scope {P : Program} {E : Env} {Q : Exit → St → Prop} {st : St} {c : Code} (h : Vw P E c (scopeQ Q) st) : Vw P E (.scope c) Q st := by
  intro w0 G0 a w hr
  refine wp_scope_straight (wp_mono (h w0 G0 a w hr) ?_)
  rintro e a' w' ⟨st', hr', hq⟩
  cases e with
  | goto _ => exact hq.elim
  | _ => exact ⟨st', hr', hq⟩
theorem vc_sound {P : Program} {E : Env} : ∀ (c : Code) (pc : PC) (Q : Exit → St → Prop) (st : St), compC P E c = some pc → vc P E pc Q st → Vw P E c Q st := by
  intro c
  induction c with
  | skip => intro pc Q st hc hv; cases hc; exact Vw_skip hv
  | label l => intro pc Q st hc hv; cases hc; exact Vw_label hv
  | region id ops draw =>
    intro pc Q st hc hv
    cases draw with
    | false =>
      simp only [compC, Option.map_eq_some_iff] at hc
      obtain ⟨ss, hss, rfl⟩ := hc
      exact Vw_region hss hv
    | true =>
      rcases bif_stuck hc with ⟨h1, hc⟩ | rfl
      rotate_left
      · exact hv.elim
      simp only [Bool.and_eq_true] at h1
      cases hfl : (lookE E.env (2000000 + id)).isSome with
      | true =>
        rw [hfl] at hc
        simp only [cond_true, Option.map_eq_some_iff] at hc
        obtain ⟨⟨ss, deps⟩, hpl, rfl⟩ := hc
        exact Vw_flow h1.1 hpl hv
      | false =>
      rw [hfl] at hc
      simp only [cond_false, Option.map_eq_some_iff] at hc
      obtain ⟨pl, hpl, rfl⟩ := hc
      obtain ⟨Gs, hG, hv⟩ := hv
      exact Vw_draw _ Gs h1.1 h1.2 hpl hG hv
  | seq x y ihx ihy =>
    intro pc Q st hc hv
    simp only [compC, Option.bind_eq_some_iff, Option.map_eq_some_iff] at hc
    obtain ⟨px, hx, py, hy, rfl⟩ := hc
    refine Vw_seq (Vw.mono (ihx px _ st hx hv) fun e st' h => ?_)
    cases e with
    | normal => exact ihy py Q st' hy h
    | _ => exact h
  | cond c x y ihx ihy =>
    intro pc Q st hc hv
    rcases bif_stuck hc with ⟨h1, hc⟩ | rfl
    rotate_left
    · exact hv.elim
    simp only [Option.bind_eq_some_iff, Option.map_eq_some_iff] at hc
    obtain ⟨px, hx, py, hy, rfl⟩ := hc
    obtain ⟨t, ht, hv⟩ := hv
    refine Vw_cond h1 ht ?_
    cases t
    · exact ihy py Q st hy hv
    · exact ihx px Q st hx hv
  | block id b ih =>
    intro pc Q st hc hv
    simp only [compC, Option.map_eq_some_iff] at hc
    obtain ⟨pb, hb, rfl⟩ := hc
    exact Vw_block (ih pb _ st hb hv)
  | loop b ih =>
    intro pc Q st hc hv
    simp only [compC, Option.map_eq_some_iff] at hc
    obtain ⟨pb, hb, rfl⟩ := hc
    obtain ⟨I, n, h0, hround⟩ := hv
    exact Vw_loop I n h0 fun n st' hi => ih pb _ st' hb (hround n st' hi)
  | exit id => intro pc Q st hc hv; cases hc; exact Vw_exit hv
  | ret => intro pc Q st hc hv; cases hc; exact Vw_ret hv
  | scope b ih =>
    intro pc Q st hc hv
    simp only [compC, Option.map_eq_some_iff] at hc
    obtain ⟨pb, hb, rfl⟩ := hc
    exact Vw_scope (ih pb _ st hb hv)
  | _ => intro pc Q st hc hv; cases hc; exact hv.elim
/-- A FUNCTION, by its compiled code. -/
structure Comp (P : Program) (f : FuncId) (E : Env) (nargs : Nat) (rs : List RV) (pc : PC) : Prop where
  ok : ∃ fn c, P.funcs[f]? = some fn ∧ fn.body = some c ∧ fn.results.toList.mapM (compRV P E) = some rs ∧ nargs ≤ fn.ntmps ∧ E.n = fn.ntmps ∧ E.env.all (fun x => decide (nargs ≤ x.1)) = true ∧ compC P E c = some pc
theorem HC.of_comp {P : Program} {f : FuncId} {E : Env} {n : Nat} {rs : List RV} {pc : PC} (h : Comp P f E n rs pc) {args : List Value} {G : GH} {R : Value → GH → Prop} (hn : args.length = n) (l : Nat → Array Value)
    (hv : vc P E pc (endQ rs R) ⟨args0 args, l, G⟩) : HC P f args.toArray G R := by
  obtain ⟨fn, c, hf, hb, hr, h1, h2, h3, hc⟩ := h.ok
  subst hn
  exact HC.of_body E rs hf hb hr h1 h2 h3 l (vc_sound c pc _ _ hc hv)
end Go.Proofs.Ytbpjjhbkahinjaa.V
