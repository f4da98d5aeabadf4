/- Library V, part F: the program's code is the library's, and what is to be shown suffices. No program here. -/
import Derived.Test.YtdeihgcgglhhcaaPeVE
set_option linter.unusedVariables false
set_option linter.unusedSimpArgs false
namespace Go.Proofs.Ytdeihgcgglhhcaa.V
section
variable {P : Program} {E : Env} {st : St}
theorem isStr_some {t : TypeId} (h : isStr P t = true) : P.underlying t = some .string := by
  unfold isStr at h
  split at h
  · assumption
  · cases h
theorem isKind_some {t : TypeId} {k : IntKind} (h : (isKind P t == some k) = true) : P.underlying t = some (.int k) := by
  have h := eq_of_beq h
  unfold isKind at h
  split at h
  · cases h; assumption
  · cases h
def newD (E : Env) (d : Option Nat) : List Nat := match locD E d with | some (_, k) => [k] | none => []
theorem compOp_sound {o : Oper} {p : POp} {K : St → Prop} (hc : compOp P E o = some p) (hp : pv P E p st K) : Sound P E o (newD E o.dst) st K := by
  unfold compOp at hc
  cases hl : locD E o.dst with
  | some x =>
    obtain ⟨d, k⟩ := x
    rw [hl] at hc
    have := sound_loc hl hc hp
    simpa [newD, hl] using this
  | none =>
    rw [hl] at hc
    have hnew : newD E o.dst = [] := by simp [newD, hl]
    rw [hnew]
    cases ho : o.op with
    | alloc t =>
      simp only [ho, Option.bind_eq_some_iff, Option.map_eq_some_iff] at hc
      obtain ⟨d, hd, z, hz, hc⟩ := hc
      cases hc
      exact sound_halloc ho hd hz hp
    | box t x =>
      simp only [ho, Option.bind_eq_some_iff] at hc
      obtain ⟨d, hd, hc⟩ := hc
      obtain ⟨h1, hc⟩ := bif_some hc
      cases hc
      exact sound_hbox ho hd h1 hp
    | load t x =>
      simp only [ho, Option.bind_eq_some_iff] at hc
      obtain ⟨d, hd, ⟨g, n⟩, ht, hc⟩ := hc
      cases hx : locX E x with
      | some y =>
        obtain ⟨s, k⟩ := y
        simp only [hx] at hc
        cases hc
        exact sound_lload ho hd ht hx hp
      | none =>
        simp only [hx] at hc
        obtain ⟨h1, hc⟩ := bif_some hc
        cases hc
        exact sound_hload ho hd ht h1 hp
    | store t x v =>
      simp only [ho] at hc
      obtain ⟨h1, hc⟩ := bif_some hc
      simp only [Bool.and_eq_true] at h1
      have hd : o.dst = none := by simpa using h1.1
      simp only [Option.bind_eq_some_iff] at hc
      obtain ⟨⟨g, n⟩, ht, hc⟩ := hc
      cases hx : locX E x with
      | some y =>
        obtain ⟨s, k⟩ := y
        simp only [hx] at hc
        cases hc
        exact sound_lstore ho hd ht hx h1.2 hp
      | none =>
        simp only [hx] at hc
        obtain ⟨h2, hc⟩ := bif_some hc
        cases hc
        exact sound_hstore ho hd ht h2 h1.2 hp
    | buildSlice t len parts =>
      simp only [ho, Option.bind_eq_some_iff] at hc
      obtain ⟨d, hd, ⟨e, i⟩, hi, z, hz, hc⟩ := hc
      obtain ⟨h1, hc⟩ := bif_some hc
      simp only [Bool.and_eq_true] at h1
      cases hc
      exact sound_bslice ho hd hi hz h1.1.1 (Nat.le_of_ble_eq_true h1.1.2) (Nat.eq_of_beq_eq_true h1.2) hp
    | makeSlice t l c =>
      simp only [ho, Option.bind_eq_some_iff] at hc
      obtain ⟨d, hd, ⟨e, i⟩, hi, z, hz, hc⟩ := hc
      obtain ⟨h1, hc⟩ := bif_some hc
      simp only [Bool.and_eq_true] at h1
      cases hc
      exact sound_mslice ho hd hi hz h1.1.1 h1.1.2 (Nat.eq_of_beq_eq_true h1.2) hp
    | convert s t x =>
      simp only [ho] at hc
      cases h1 : slcT P s with
      | some e =>
        cases h2 : slcT P t with
        | some e' => rw [h1, h2] at hc; exact sound_pure hc hp
        | none =>
          rw [h1, h2] at hc
          obtain ⟨h3, hc⟩ := bif_some hc
          simp only [Bool.and_eq_true] at h3
          simp only [Option.map_eq_some_iff] at hc
          obtain ⟨d, hd, hc⟩ := hc
          cases hc
          exact sound_b2s ho hd (slcT_some h1) (isKind_some h3.1.2) (isStr_some h3.1.1) h3.2 hp
      | none =>
        cases h2 : slcT P t with
        | none => rw [h1, h2] at hc; exact sound_pure hc hp
        | some e =>
          rw [h1, h2] at hc
          obtain ⟨h3, hc⟩ := bif_some hc
          simp only [Bool.and_eq_true] at h3
          simp only [Option.map_eq_some_iff] at hc
          obtain ⟨d, hd, hc⟩ := hc
          cases hc
          exact sound_s2b ho hd (isStr_some h3.1.1) (slcT_some h2) (isKind_some h3.1.2) h3.2 hp
    | call c =>
      obtain ⟨callee, args, ts⟩ := c
      simp only [ho] at hc
      cases callee with
      | builtin b =>
        cases b with
        | append =>
          simp only at hc
          split at hc
          · rename_i x y t t' hx ht
            have ha : args = #[x, y] := by rw [← Array.toList_inj, hx]
            have hat : ts = #[t, t'] := by rw [← Array.toList_inj, ht]
            subst ha hat
            simp only [Option.bind_eq_some_iff] at hc
            obtain ⟨d, hd, ⟨e, i⟩, hi, z, hz, hc⟩ := hc
            cases hb : (plainX E x && plainX E y && (slcT P t').isSome && Nat.beq z.cells.size i.size) with
            | true =>
              simp only [hb, cond_true] at hc
              have h1 := hb
              simp only [Bool.and_eq_true] at h1
              cases hc
              exact sound_append ho hd hi hz h1.1.1.1 h1.1.1.2 h1.1.2 hp
            | false =>
              simp only [hb, cond_false] at hc
              obtain ⟨h1, hc⟩ := bif_some hc
              simp only [Bool.and_eq_true] at h1
              cases hc
              obtain ⟨kk, hkk⟩ := Option.isSome_iff_exists.1 h1.1.2
              exact sound_growz ho hd hi hz h1.1.1.1 h1.1.1.2 (isKind_some (k := kk) (by rw [hkk]; simp)) (Nat.eq_of_beq_eq_true h1.2) hp
          · cases hc
        | copy =>
          simp only at hc
          split at hc
          · rename_i x y t t' hx ht
            have ha : args = #[x, y] := by rw [← Array.toList_inj, hx]
            have hat : ts = #[t, t'] := by rw [← Array.toList_inj, ht]
            subst ha hat
            simp only [Option.bind_eq_some_iff] at hc
            obtain ⟨d, hd, ⟨e, i⟩, hi, hc⟩ := hc
            obtain ⟨h1, hc⟩ := bif_some hc
            simp only [Bool.and_eq_true] at h1
            cases hc
            exact sound_copy ho hd hi h1.1.1 h1.1.2 hp
          · cases hc
        | _ => exact sound_pure hc hp
      | invoke r m => exact sound_pure hc hp
      | value x =>
        cases x with
        | func f =>
          simp only [Option.bind_eq_some_iff] at hc
          obtain ⟨d, hd, hc⟩ := hc
          obtain ⟨h1, hc⟩ := bif_some hc
          simp only [Bool.and_eq_true] at h1
          cases hc
          exact sound_call ho hd h1.1 h1.2 hp
        | _ =>
          simp only [Option.bind_eq_some_iff] at hc
          obtain ⟨d, hd, hc⟩ := hc
          obtain ⟨h1, hc⟩ := bif_some hc
          simp only [Bool.and_eq_true] at h1
          cases hc
          exact sound_callv ho hd h1.1 h1.2 hp
    | _ => simp only [ho] at hc; exact sound_pure hc hp
/-- What the library doesn't take may not be come to. -/
def compOpS (P : Program) (E : Env) (o : Oper) : Option POp := match compOp P E o with | some p => some p | none => match compX P E o with | some p => some p | none => some .stuck
theorem compOpS_sound {o : Oper} {p : POp} {K : St → Prop} (hc : compOpS P E o = some p) (hp : pv P E p st K) : Sound P E o (newD E o.dst) st K := by
  unfold compOpS at hc
  split at hc
  · rename_i h; cases hc; exact compOp_sound h hp
  · split at hc
    · rename_i h
      cases hc
      obtain ⟨d, _, hd⟩ := compX_form h
      obtain ⟨e1, e2, e3⟩ := plainD_some hd
      have hnew : newD E o.dst = [] := by rw [e1]; simp [newD, locD, e2]
      rw [hnew]
      exact compX_sound h hp
    · cases hc; exact hp.elim
end
/-! ### Regions in the text's order -/
/-- A guard: the slot, what is wanted there. A step: its guard, its slot, what it does. -/
structure Stp where
  g : Option (Nat × Bool)
  d : Option Nat
  p : POp
def isB (v : Value) (b : Bool) : Bool := match v with | .bool c => (c == b) | _ => false
def gW (st : St) : Option (Nat × Bool) → Bool
  | none => true
  | some (t, b) => isB (st.s t) b
def compG (E : Env) (ops : Array Oper) : Option (Nat × Bool) → Option (Option (Nat × Bool))
  | none => some none
  | some (j, b) => match (ops[j]?).bind (·.dst) with
    | some t => bif (lookE E.env t).isNone && Nat.blt t E.n then some (some (t, b)) else none
    | none => none
def okD (E : Env) (d : Option Nat) : Bool := match d with | some d => Nat.blt d E.n | none => true
def compStp (P : Program) (E : Env) (ops : Array Oper) (o : Oper) : Option Stp :=
  (compG E ops o.guard).bind fun g => (compOpS P E o).bind fun p => bif okD E o.dst then some ⟨g, o.dst, p⟩ else none
def skipS (st : St) (d : Option Nat) : St := ⟨setO st d undef, st.l, st.G⟩
def vops (P : Program) (E : Env) : List Stp → (St → Prop) → St → Prop
  | [], K, st => K st
  | s :: r, K, st => match s.g with
    | none => pv P E s.p st (vops P E r K)
    | some (t, b) => bif isB (st.s t) b then pv P E s.p st (vops P E r K) else vops P E r K (skipS st s.d)
section
variable {P : Program} {E : Env} {st : St} {w0 : World} {G0 : GH} {β : Nat → Option Nat} {a : Act} {w : World}
theorem RelB.skip (r : RelB E w0 G0 β st a w) {d : Option Nat} (hd : okD E d = true) : RelB E w0 G0 β (skipS st d) (a.put d undef) w := by
  cases d with
  | none => exact r
  | some d =>
    have hn := blt_lt hd
    cases hl : lookE E.env d with
    | none => exact r.put hl hn undef
    | some k => exact r.putP hl hn (z := undef) fun o ho => by cases ho
theorem compG_wanted {ops : Array Oper} {o : Oper} {g : Option (Nat × Bool)} (h : compG E ops o.guard = some g) (r : RelB E w0 G0 β st a w) : Region.wanted o (yielded ops a.tmps) = gW st g := by
  unfold Region.wanted
  cases hg : o.guard with
  | none => rw [hg] at h; cases h; rfl
  | some x =>
    obtain ⟨j, b⟩ := x
    rw [hg] at h
    simp only [compG] at h
    cases hd : (ops[j]?).bind (·.dst) with
    | none => rw [hd] at h; cases h
    | some t =>
      rw [hd] at h
      obtain ⟨h1, h⟩ := bif_some h
      cases h
      simp only [Bool.and_eq_true] at h1
      have hl : lookE E.env t = none := by simpa using h1.1
      have hn := blt_lt h1.2
      have hs := r.slot t hl
      have ht : a.tmps[t]? = some (st.s t) := by
        rw [← hs]
        have : t < a.tmps.size := by rw [r.size]; exact hn
        simp [Array.getD_eq_getD_getElem?, this]
      have hd' : (ops[j]?).bind (fun x => x.dst) = some t := hd
      simp only [yielded, hd', Option.bind_some, ht]
      simp only [gW, isB]
      cases st.s t <;> simp
/-- A call of yield. -/
def compY (E : Env) (o : Oper) : Option POp :=
  match o.op with
  | .call c => match c.callee with
    | .value x => (plainD E o.dst).bind fun d => bif (lookE E.env (3000000 + d)).isSome && (allPlain E c.args.toList && plainX E x) then some (.yieldc d x c.args.toList) else none
    | _ => none
  | _ => none
def compStpY (P : Program) (E : Env) (ops : Array Oper) (o : Oper) : Option Stp :=
  bif noDefer o then (compG E ops o.guard).bind fun g => (match compY E o with | some p => some p | none => compOpS P E o).bind fun p => bif okD E o.dst then some ⟨g, o.dst, p⟩ else none else none
theorem compY_sound {ro : Option Nat} {m : Nat} {o : Oper} {p : POp} {K : St → Prop} (hc : compY E o = some p) (hp : pv P E p st K) (hr : RelB E w0 G0 β st a w) (K' : Act → World → Prop) (Q' : Exit → Act → World → Prop)
    (hk : ∀ st' a' w', RelB E w0 G0 β st' a' w' → K st' → K' a' w') : o.wpIn (WF ro) m P a w K' Q' := by
  unfold compY at hc
  split at hc
  · rename_i c ho
    split at hc
    · rename_i x hx
      simp only [Option.bind_eq_some_iff] at hc
      obtain ⟨d, hd, hc⟩ := hc
      obtain ⟨h1, hc⟩ := bif_some hc
      cases hc
      simp only [Bool.and_eq_true] at h1
      obtain ⟨e1, e2, e3⟩ := plainD_some hd
      obtain ⟨l, hl, hy⟩ := hp
      obtain ⟨fn, tmps, assign, body, hy1, hy2⟩ := hy w hr.view
      have ha : c.args.map a.eval = (c.args.toList.map (ev st)).toArray := by
        rw [← hr.evals h1.2.1, ← Array.toList_inj]; simp
      have hrun : (execOp a.eval o).run P w = .ok (.round l fn tmps assign body) w := by
        simp only [execOp, ho, resolve, invoke, Deferred.ofValue, hx, hr.eval h1.2.2, hl, Sem.run_bind, Sem.run_pure, Result.andThen_ok, ha]
        simpa using hy1
      refine ⟨fun _ _ => trivial, ?_⟩
      rw [Oper.semAt_eq _ _ _ (by rw [ho]; simp), hrun]
      refine ⟨fun h => by simp [Fence.wide] at h, ?_⟩
      have h2 : RoundIn (WF ro) (m - 1) P l fn tmps assign body w _ := ⟨hy2.1, fun c cs _ => hy2.2 c cs (room_wide _)⟩
      refine h2.mono ?_
      rintro e w' ⟨v, G', rfl, hf, hK⟩
      rw [e1]
      exact hk _ _ _ ((hr.world hf).put e2 e3 v) hK
    · cases hc
  · cases hc
theorem vops_sound {ro : Option Nat} {m : Nat} {ops : Array Oper} {Q : Exit → St → Prop} {K : St → Prop} (hQ : ∀ st, K st → Q .normal st) : ∀ (l : List Oper) (ss : List Stp) (st : St), l.mapM (compStpY P E ops) = some ss → vops P E ss K st →
    ∀ w0 G0 β a w, RelB E w0 G0 β st a w → wpListIn (WF ro) m P ops (lift E w0 G0 Q) l a w
  | [], ss, st, hm, hv, w0, G0, β, a, w, hr => by
    simp at hm; subst hm
    exact ⟨st, ⟨β, hr⟩, hQ st hv⟩
  | o :: l, ss, st, hm, hv, w0, G0, β, a, w, hr => by
    rw [List.mapM_cons] at hm
    cases h1 : compStpY P E ops o with
    | none => rw [h1] at hm; cases hm
    | some s =>
      rw [h1] at hm
      cases h2 : l.mapM (compStpY P E ops) with
      | none => rw [h2] at hm; cases hm
      | some ss' =>
        rw [h2] at hm
        cases hm
        unfold compStpY at h1
        obtain ⟨hnd, h1⟩ := bif_some h1
        simp only [Option.bind_eq_some_iff] at h1
        obtain ⟨g, hg, p, hp, h1⟩ := h1
        obtain ⟨hd, h1⟩ := bif_some h1
        cases h1
        have hw := compG_wanted hg hr
        have go : pv P E p st (vops P E ss' K) → Region.wanted o (yielded ops a.tmps) = true → wpListIn (WF ro) m P ops (lift E w0 G0 Q) (o :: l) a w := by
          intro hpv hwt
          unfold wpListIn
          rw [if_pos hwt]
          cases hy : compY E o with
          | some q =>
            rw [hy] at hp; cases hp
            exact compY_sound hy hpv hr _ _ fun st' a' w' hr' hv' => vops_sound hQ l ss' st' h2 hv' w0 G0 β a' w' hr'
          | none =>
            rw [hy] at hp
            refine oper_in hnd (compOpS_sound hp hpv w0 G0 β a w hr _ _ ?_)
            intro β' st' a' w' hr' _ hv'
            exact vops_sound hQ l ss' st' h2 hv' w0 G0 β' a' w' hr'
        simp only [vops] at hv
        cases g with
        | none => exact go hv hw
        | some x =>
          obtain ⟨t, b⟩ := x
          simp only at hv hw
          cases hb : isB (st.s t) b with
          | true => rw [hb] at hv; exact go hv (hw.trans hb)
          | false =>
            rw [hb] at hv
            unfold wpListIn
            rw [if_neg (by rw [hw]; simp [gW, hb])]
            exact ⟨fun _ _ => trivial, vops_sound hQ l ss' _ h2 hv w0 G0 β _ w (hr.skip hd)⟩
theorem Vw_region {ro : Option Nat} {ops : Array Oper} {id : Nat} {ss : List Stp} {Q : Exit → St → Prop} (hm : ops.toList.mapM (compStpY P E ops) = some ss) (hv : vops P E ss (Q .normal) st) : Vw P E ro (.region id ops false) Q st := by
  rintro m w0 G0 a w ⟨β, hr⟩
  exact wpIn_region_list (vops_sound (fun _ h => h) _ ss st hm hv w0 G0 β a w hr)
end
/-! ### Regions that draw their order -/
/-- A way through such a region: what reckons, or reads what nobody writes, is taken as soon as it may come; of the others each that may come. -/
inductive Plan where
  | done
  | take (i : Nat) (s : Stp) (rest : Plan)
  | alt (i : Nat) (s : Stp) (rest more : Plan)
  | no
/-- What is to be shown at a step that is taken: in every memory that has Gs and the local variables Ls. -/
def pvT (P : Program) (E : Env) (Gs : GH) (Ls : List Nat) (o : POp) (st : St) (K : St → Prop) : Prop :=
  match o with
  | .pure d f xs => ∃ v, pureV f (xs.map (ev st)) = some v ∧ K ⟨setS st.s d v, st.l, st.G⟩
  | .lmove d s => K ⟨setS st.s d (st.s s), st.l, st.G⟩
  | .lfield d s o => ∃ p, st.s s = .int .u64 p ∧ K ⟨setS st.s d (.int .u64 (p + o)), st.l, st.G⟩
  | .lindex d s len n i => ∃ p k j, st.s s = .int .u64 p ∧ ev st i = .int k j ∧ (0 ≤ j ∧ j < len) ∧ K ⟨setS st.s d (.int .u64 (p + j * n)), st.l, st.G⟩
  | .lload d k s n g => Ls.contains k = true ∧ ∃ p v, st.s s = .int .u64 p ∧ takeV g (st.l k) p.toNat n = some v ∧ K ⟨setS st.s d v, st.l, st.G⟩
  | .hload d n g x => ∃ b q cs e fr v, ev st x = .pointer (some ⟨b, q, none⟩) ∧ Gs b = some (.cells cs e fr) ∧ takeV g cs q n = some v ∧ K ⟨setS st.s d v, st.l, st.G⟩
  | .b2s d x => ∃ xs : List Int, rd Gs 1 (ev st x) = some (xs.map (Value.int .u8)) ∧ K ⟨setS st.s d (.string (strOfNums xs)), st.l, st.G⟩
  | _ => False
def disj (xs ys : List Nat) : Bool := xs.all fun x => !ys.contains x
/-- Gs and Ls stand. -/
def stands (Gs : GH) (Ls : List Nat) (st st' : St) : Prop := Gs.le st'.G ∧ ∀ k, k ∈ Ls → st'.l k = st.l k
def vplan (P : Program) (E : Env) (Gs : GH) (Ls : List Nat) (K : St → Prop) : Plan → St → Prop
  | .done, st => K st
  | .take _ s rest, st => bif gW st s.g then pvT P E Gs Ls s.p st (vplan P E Gs Ls K rest) else vplan P E Gs Ls K rest (skipS st s.d)
  | .alt _ s rest more, st => (bif gW st s.g then pv P E s.p st (fun st' => stands Gs Ls st st' ∧ vplan P E Gs Ls K rest st') else vplan P E Gs Ls K rest (skipS st s.d)) ∧ vplan P E Gs Ls K more st
  | .no, _ => True
def takeable (Ls : List Nat) : POp → Bool
  | .pure _ _ _ | .lmove _ _ | .lfield _ _ _ | .lindex _ _ _ _ _ | .hload _ _ _ _ | .b2s _ _ => true
  | .lload _ k _ _ _ => Ls.contains k
  | _ => false
def stepAt (P : Program) (E : Env) (ops : Array Oper) (i : Nat) : Option Stp := (ops[i]?).bind (compStp P E ops)
/-- Does an operand come of something that is made in the region? -/
def madeHere (ops : List Oper) : Nat → Operand → Bool
  | 0, _ => false
  | f + 1, .tmp t => match ops.find? (fun o => match o.dst with | some d => Nat.beq d t | none => false) with
    | none => false
    | some o => match o.op with
      | .call _ => true
      | .buildSlice _ _ _ => true
      | .makeSlice _ _ _ => true
      | .move x => madeHere ops f x
      | .slice _ x _ _ _ => madeHere ops f x
      | _ => false
  | _ + 1, _ => false
/-- Is memory written that isn't a local variable's? -/
def writesHeap (E : Env) (o : Oper) : Bool := match o.op with
  | .store _ x _ => (locX E x).isNone
  | _ => false
/-- Is an operand reckoned in the region? -/
def definedHere (ops : List Oper) : Operand → Bool
  | .tmp t => ops.any (fun o => match o.dst with | some d => Nat.beq d t | none => false)
  | _ => false
/-- What reads memory that is made, or may be written, in the region isn't taken ahead, nor what the functions' own table marks (a pair 1000000 + the slot). -/
def oldRead (E : Env) (ops : Array Oper) : POp → Bool
  | .hload d _ _ x => !madeHere ops.toList 4 x && !(definedHere ops.toList x && ops.toList.any (writesHeap E)) && (lookE E.env (1000000 + d)).isNone
  | .b2s _ x => !madeHere ops.toList 4 x && !(definedHere ops.toList x && ops.toList.any (writesHeap E))
  | _ => true
def canTake (P : Program) (E : Env) (ops : Array Oper) (Ls : List Nat) (listed : Array Bool) (i : Nat) : Bool :=
  match stepAt P E ops i with
  | some s => (oldRead E ops s.p && takeable Ls s.p) && Region.free .any ops listed i
  | none => false
def alts (f : Nat → Option (Stp × Plan)) : List Nat → Option Plan
  | [] => some .no
  | i :: is => (f i).bind fun (s, pl) => (alts f is).map fun more => .alt i s pl more
/-- The way through all orders. -/
def mkPlan (P : Program) (E : Env) (ops : Array Oper) (Ls : List Nat) : Nat → Array Bool → Option Plan
  | 0, listed => match Region.ready .any ops listed with
    | [] => some .done
    | _ => none
  | n + 1, listed =>
    match Region.ready .any ops listed with
    | [] => some .done
    | r :: rs =>
      match (r :: rs).find? (canTake P E ops Ls listed) with
      | some i => (stepAt P E ops i).bind fun s => (mkPlan P E ops Ls n (listed.setIfInBounds i true)).map fun rest => .take i s rest
      | none => alts (fun i => (stepAt P E ops i).bind fun s => bif disj Ls (newD E s.d) then (mkPlan P E ops Ls n (listed.setIfInBounds i true)).map fun rest => (s, rest) else none) (r :: rs)
section
variable {P : Program} {E : Env} {st : St} {w0 : World} {G0 : GH} {β : Nat → Option Nat} {a : Act} {w : World}
theorem stepAt_some {ops : Array Oper} {i : Nat} {s : Stp} (h : stepAt P E ops i = some s) : ∃ o, ops[i]? = some o ∧ compG E ops o.guard = some s.g ∧ compOpS P E o = some s.p ∧ o.dst = s.d ∧ okD E s.d = true := by
  simp only [stepAt, Option.bind_eq_some_iff] at h
  obtain ⟨o, ho, h⟩ := h
  simp only [compStp, Option.bind_eq_some_iff] at h
  obtain ⟨g, hg, p, hp, h⟩ := h
  obtain ⟨hd, h⟩ := bif_some h
  cases h
  exact ⟨o, ho, hg, hp, rfl, hd⟩
/-- In every memory that has Gs and the local variables Ls. -/
def SW (Gs : GH) (Ls : List Nat) (β0 : Nat → Option Nat) (l0 : Nat → Array Value) (w : World) : Prop :=
  View Gs w ∧ ∀ k, k ∈ Ls → ∀ b, β0 k = some b → ∃ e, w.heap[b]? = some (.cells (l0 k) e (0, 0))
/-- What one step that is taken comes to. -/
def Takes (P : Program) (E : Env) (Gs : GH) (Ls : List Nat) (β0 : Nat → Option Nat) (l0 : Nat → Array Value) (w0 : World) (G0 : GH) (β : Nat → Option Nat) (o : Oper) (st : St) (K : St → Prop) (a : Act) (w : World) : Prop :=
  ∃ v st', (∀ w, SW Gs Ls β0 l0 w → (execOp a.eval o).run P w = .ok (.value v) w) ∧ RelB E w0 G0 β st' (a.put o.dst v) w ∧ K st' ∧ st'.l = st.l ∧ st'.G = st.G
theorem takes_pure {Gs : GH} {Ls : List Nat} {β0 : Nat → Option Nat} {l0 : Nat → Array Value} {o : Oper} {p : POp} {K : St → Prop} (hc : compPure P E o = some p) (hp : pvT P E Gs Ls p st K) (hr : RelB E w0 G0 β st a w) : Takes P E Gs Ls β0 l0 w0 G0 β o st K a w := by
  unfold compPure at hc
  cases hd : plainD E o.dst with
  | none => rw [hd] at hc; cases hc
  | some d =>
    cases hf : compPF P o.op with
    | none => rw [hd, hf] at hc; cases hc
    | some x =>
      obtain ⟨f, xs⟩ := x
      rw [hd, hf] at hc
      obtain ⟨h1, hc⟩ := bif_some hc
      cases hc
      obtain ⟨v, hv, hK⟩ := hp
      obtain ⟨e1, e2, e3⟩ := plainD_some hd
      rw [← hr.evals h1] at hv
      exact ⟨v, _, fun w' _ => pure_run hf hv, by rw [e1]; exact hr.put e2 e3 v, hK, rfl, rfl⟩
theorem takes_loc {Gs : GH} {Ls : List Nat} {β0 : Nat → Option Nat} {l0 : Nat → Array Value} {o : Oper} {d k : Nat} {p : POp} {K : St → Prop} (hd : locD E o.dst = some (d, k)) (hc : compLoc P E o d k = some p) (hp : pvT P E Gs Ls p st K) (hr : RelB E w0 G0 β st a w) : Takes P E Gs Ls β0 l0 w0 G0 β o st K a w := by
  obtain ⟨e1, e2, e3⟩ := locD_some hd
  obtain ⟨dst, op, ty, pos, after, guard⟩ := o
  simp only at e1
  subst e1
  cases op with
  | alloc t =>
    simp only [compLoc, Option.map_eq_some_iff] at hc
    obtain ⟨z, hz, hc⟩ := hc
    cases hc
    exact hp.elim
  | box t x =>
    obtain ⟨h1, hc⟩ := bif_some hc
    cases hc
    exact hp.elim
  | move x =>
    simp only [compLoc, Option.bind_eq_some_iff] at hc
    obtain ⟨⟨s, k'⟩, hx, hc⟩ := hc
    obtain ⟨h1, hc⟩ := bif_some hc
    cases hc
    have hkk := Nat.eq_of_beq_eq_true h1
    subst hkk
    obtain ⟨rfl, hs⟩ := locX_some hx
    refine ⟨a.eval (.tmp s), _, fun _ _ => rfl, hr.putP e2 e3 (z := st.s s) fun o ho => ?_, hp, rfl, rfl⟩
    obtain ⟨b, h1, h2, h3⟩ := hr.ptr s k o hs ho
    exact ⟨b, h1, h2, h3⟩
  | fieldAddr t x i =>
    simp only [compLoc, Option.bind_eq_some_iff] at hc
    obtain ⟨⟨s, k'⟩, hx, hc1⟩ := hc
    obtain ⟨h1, hc2⟩ := bif_some hc1
    clear hc1
    simp only [Option.bind_eq_some_iff] at hc2
    obtain ⟨⟨q, ft⟩, hq, ⟨g, n⟩, hn, hc⟩ := hc2
    have hkk := Nat.eq_of_beq_eq_true h1
    subst hkk
    obtain ⟨rfl, hs⟩ := locX_some hx
    cases hz : (n == 0) with
    | true => simp only [hz] at hc; cases hc
    | false =>
      simp only [hz] at hc
      cases hc
      obtain ⟨p, hp1, hK⟩ := hp
      obtain ⟨b, h4, h5, h6⟩ := hr.addr hs hp1
      refine ⟨.pointer (some ⟨b, p.toNat + q, none⟩), _, fun w' _ => ?_, hr.putP e2 e3 (z := .int .u64 (p + q)) fun o ho => ?_, hK, rfl, rfl⟩
      · refine pure_run (f := .fptr q) (xs := [.tmp s]) ?_ ?_
        · simp only [compPF, hq, Option.bind_some, hn, hz]; rfl
        · simp only [List.map_cons, List.map_nil, h6, pureV]
      · cases ho
        exact ⟨b, h4, by omega, by congr 3; omega⟩
  | indexAddr t x i =>
    simp only [compLoc, Option.bind_eq_some_iff] at hc
    obtain ⟨⟨s, k'⟩, hx, hc1⟩ := hc
    obtain ⟨h1, hc2⟩ := bif_some hc1
    clear hc1
    simp only [Option.bind_eq_some_iff, Option.map_eq_some_iff] at hc2
    obtain ⟨⟨len, e⟩, hq, ⟨g, n⟩, hn, hc⟩ := hc2
    simp only [Bool.and_eq_true] at h1
    have hkk := Nat.eq_of_beq_eq_true h1.1
    subst hkk
    obtain ⟨rfl, hs⟩ := locX_some hx
    cases hc
    obtain ⟨p, ki, j, hp1, hi, hj, hK⟩ := hp
    obtain ⟨b, h4, h5, h6⟩ := hr.addr hs hp1
    have hu : P.underlying t = some (.array len e) := by
      unfold arrT at hq
      split at hq
      · cases hq; assumption
      · cases hq
    refine ⟨.pointer (some ⟨b, p.toNat + j.toNat * n, none⟩), _, fun w' _ => ?_, hr.putP e2 e3 (z := .int .u64 (p + j * n)) fun o ho => ?_, hK, rfl, rfl⟩
    · refine pure_run (f := .iptrA len n) (xs := [.tmp s, i]) ?_ ?_
      · simp only [compPF, hu, hn]; rfl
      · simp only [List.map_cons, List.map_nil, h6, hr.eval h1.2, hi, pureV]
        rw [if_pos hj]
    · cases ho
      have hjn : 0 ≤ j * (n : Int) := Int.mul_nonneg hj.1 (Int.natCast_nonneg n)
      refine ⟨b, h4, by omega, ?_⟩
      congr 3
      have : (j * (n : Int)).toNat = j.toNat * n := by
        obtain ⟨m, rfl⟩ := Int.eq_ofNat_of_zero_le hj.1
        rw [Int.toNat_natCast, ← Int.natCast_mul, Int.toNat_natCast]
      omega
  | _ => cases hc
theorem run_b2s {s t e : TypeId} (hs : P.underlying s = some (.slice e)) (he : P.underlying e = some (.int .u8)) (ht : P.underlying t = some .string) {G : GH} (hv : View G w) {v : Value} {xs : List Int} (hxs : rd G 1 v = some (xs.map (Value.int .u8))) :
    (convert s t v).run P w = .ok (.string (strOfNums xs)) w := by
  unfold rd at hxs
  split at hxs
  · rename_i cap
    have h0 := Option.some.inj hxs
    obtain rfl : xs = [] := by cases xs with | nil => rfl | cons _ _ => cases h0
    exact run_convert_bytes_nil w s e hs he 0 cap t ht
  · rename_i b q len cap
    split at hxs
    · rename_i h0
      have h1 := Option.some.inj hxs
      obtain rfl : xs = [] := by cases xs with | nil => rfl | cons _ _ => cases h1
      obtain rfl : len = 0 := by omega
      exact run_convert_bytes_arg w s e hs he b q 0 cap [] rfl (fun i hi => by omega) t ht
    · cases hG : G b with
      | none => rw [hG] at hxs; cases hxs
      | some ob =>
        rw [hG] at hxs
        cases ob <;> first | (cases hxs; done) | skip
        rename_i cs e' fr
        obtain ⟨hh, hxs⟩ := Option.ite_none_right_eq_some.1 hxs
        have h1 := Option.some.inj hxs
        have hl : xs.length = len := by
          have := congrArg List.length h1
          simp at this; omega
        refine run_convert_bytes_arg w s e hs he b q len cap xs hl (fun i hi => ?_) t ht
        rw [cell_of (hv b _ hG)]
        have h2 : (cs.extract q (q + len * 1)).toList[i]? = (xs.map (Value.int .u8))[i]? := by rw [h1]
        have hi' : i < xs.length := by omega
        simp only [List.getElem?_map, List.getElem?_eq_getElem hi', Option.map_some] at h2
        rw [Array.getElem?_toList, Array.getElem?_extract] at h2
        rw [if_pos (by omega)] at h2
        rw [h2]
        simp [List.getD_eq_getElem?_getD, hi']
  · have h0 := Option.some.inj hxs
    obtain rfl : xs = [] := by cases xs with | nil => rfl | cons _ _ => cases h0
    exact run_convert_bytes_none w hs he _ _ ht
  · cases hxs
theorem pvT_sound {Gs : GH} {Ls : List Nat} {β0 : Nat → Option Nat} {l0 : Nat → Array Value} {o : Oper} {p : POp} {K : St → Prop} (hc : compOpS P E o = some p) (hp : pvT P E Gs Ls p st K) (hr : RelB E w0 G0 β st a w) (hβ : ∀ k, k ∈ Ls → β k = β0 k) (hl : ∀ k, k ∈ Ls → st.l k = l0 k) :
    Takes P E Gs Ls β0 l0 w0 G0 β o st K a w := by
  unfold compOpS at hc
  cases hc0 : compOp P E o with
  | none =>
    rw [hc0] at hc
    cases hx : compX P E o with
    | none => rw [hx] at hc; cases hc; exact hp.elim
    | some q =>
      rw [hx] at hc
      cases hc
      obtain ⟨d, hX, _⟩ := compX_form hx
      cases p <;> first | exact hp.elim | (cases hX; done)
  | some p0 =>
  rw [hc0] at hc
  cases hc
  have hc := hc0
  clear hc0
  unfold compOp at hc
  cases hld : locD E o.dst with
  | some x =>
    obtain ⟨d, k⟩ := x
    rw [hld] at hc
    exact takes_loc hld hc hp hr
  | none =>
    rw [hld] at hc
    cases ho : o.op with
    | alloc t =>
      simp only [ho, Option.bind_eq_some_iff, Option.map_eq_some_iff] at hc
      obtain ⟨d, hd, z, hz, hc⟩ := hc
      cases hc
      exact hp.elim
    | box t x =>
      simp only [ho, Option.bind_eq_some_iff] at hc
      obtain ⟨d, hd, hc⟩ := hc
      obtain ⟨h1, hc⟩ := bif_some hc
      cases hc
      exact hp.elim
    | load t x =>
      simp only [ho, Option.bind_eq_some_iff] at hc
      obtain ⟨d, hd, ⟨g, n⟩, ht, hc⟩ := hc
      obtain ⟨e1, e2, e3⟩ := plainD_some hd
      cases hx : locX E x with
      | some y =>
        obtain ⟨s, k⟩ := y
        simp only [hx] at hc
        cases hc
        obtain ⟨rfl, hs⟩ := locX_some hx
        obtain ⟨hk, p, v, h1, h2, hK⟩ := hp
        have hk' : k ∈ Ls := by simpa using hk
        obtain ⟨b, h3, h4, h5⟩ := hr.addr hs h1
        refine ⟨v, _, fun w' hw' => ?_, by rw [e1]; exact hr.put e2 e3 v, hK, rfl, rfl⟩
        obtain ⟨e, h6⟩ := hw'.2 k hk' b (by rw [← hβ k hk']; exact h3)
        rw [← hl k hk'] at h6
        simp only [execOp, ho, h5, Sem.run_bind, run_loadAt ht h6 p.toNat h2, Result.andThen_ok, Sem.run_pure]
      | none =>
        simp only [hx] at hc
        obtain ⟨h1, hc⟩ := bif_some hc
        cases hc
        obtain ⟨b, q, cs, e, fr, v, h3, h4, h5, hK⟩ := hp
        refine ⟨v, _, fun w' hw' => ?_, by rw [e1]; exact hr.put e2 e3 v, hK, rfl, rfl⟩
        simp only [execOp, ho, hr.eval h1, h3, Sem.run_bind, run_loadAt ht (hw'.1 b _ h4) q h5, Result.andThen_ok, Sem.run_pure]
    | store t x v =>
      simp only [ho] at hc
      obtain ⟨h1, hc⟩ := bif_some hc
      simp only [Option.bind_eq_some_iff] at hc
      obtain ⟨⟨g, n⟩, ht, hc⟩ := hc
      cases hx : locX E x with
      | some y =>
        simp only [hx] at hc
        cases hc
        exact hp.elim
      | none =>
        simp only [hx] at hc
        obtain ⟨h2, hc⟩ := bif_some hc
        cases hc
        exact hp.elim
    | buildSlice t len parts =>
      simp only [ho, Option.bind_eq_some_iff] at hc
      obtain ⟨d, hd, ⟨e, i⟩, hi, z, hz, hc⟩ := hc
      obtain ⟨h1, hc⟩ := bif_some hc
      cases hc
      exact hp.elim
    | makeSlice t l c =>
      simp only [ho, Option.bind_eq_some_iff] at hc
      obtain ⟨d, hd, ⟨e, i⟩, hi, z, hz, hc⟩ := hc
      obtain ⟨h1, hc⟩ := bif_some hc
      cases hc
      exact hp.elim
    | convert s t x =>
      simp only [ho] at hc
      cases h1 : slcT P s with
      | some e =>
        cases h2 : slcT P t with
        | some e' => rw [h1, h2] at hc; exact takes_pure hc hp hr
        | none =>
          rw [h1, h2] at hc
          obtain ⟨h3, hc⟩ := bif_some hc
          simp only [Bool.and_eq_true] at h3
          simp only [Option.map_eq_some_iff] at hc
          obtain ⟨d, hd, hc⟩ := hc
          cases hc
          obtain ⟨e1, e2, e3⟩ := plainD_some hd
          obtain ⟨xs, hxs, hK⟩ := hp
          refine ⟨.string (strOfNums xs), _, fun w' hw' => ?_, by rw [e1]; exact hr.put e2 e3 _, hK, rfl, rfl⟩
          simp only [execOp, ho, hr.eval h3.2, Sem.run_bind, run_b2s (slcT_some h1) (isKind_some h3.1.2) (isStr_some h3.1.1) hw'.1 hxs, Result.andThen_ok, Sem.run_pure]
      | none =>
        cases h2 : slcT P t with
        | none => rw [h1, h2] at hc; exact takes_pure hc hp hr
        | some e =>
          rw [h1, h2] at hc
          obtain ⟨h3, hc⟩ := bif_some hc
          simp only [Option.map_eq_some_iff] at hc
          obtain ⟨d, hd, hc⟩ := hc
          cases hc
          exact hp.elim
    | call c =>
      obtain ⟨callee, args, ts⟩ := c
      simp only [ho] at hc
      cases callee with
      | builtin b =>
        cases b with
        | append =>
          simp only at hc
          split at hc
          · rename_i x y t t' hx ht
            simp only [Option.bind_eq_some_iff] at hc
            obtain ⟨d, hd, ⟨e, i⟩, hi, z, hz, hc⟩ := hc
            cases hb : (plainX E x && plainX E y && (slcT P t').isSome && Nat.beq z.cells.size i.size) with
            | true =>
              simp only [hb, cond_true] at hc
              cases hc
              exact hp.elim
            | false =>
              simp only [hb, cond_false] at hc
              obtain ⟨h1, hc⟩ := bif_some hc
              cases hc
              exact hp.elim
          · cases hc
        | copy =>
          simp only at hc
          split at hc
          · simp only [Option.bind_eq_some_iff] at hc
            obtain ⟨d, hd, ⟨e, i⟩, hi, hc⟩ := hc
            obtain ⟨h1, hc⟩ := bif_some hc
            cases hc
            exact hp.elim
          · cases hc
        | _ => exact takes_pure hc hp hr
      | invoke r m => exact takes_pure hc hp hr
      | value x =>
        cases x with
        | func f =>
          simp only [Option.bind_eq_some_iff] at hc
          obtain ⟨d, hd, hc⟩ := hc
          obtain ⟨h1, hc⟩ := bif_some hc
          cases hc
          exact hp.elim
        | _ =>
          simp only [Option.bind_eq_some_iff] at hc
          obtain ⟨d, hd, hc⟩ := hc
          obtain ⟨h1, hc⟩ := bif_some hc
          cases hc
          exact hp.elim
    | _ => simp only [ho] at hc; exact takes_pure hc hp hr
end
end Go.Proofs.Ytdeihgcgglhhcaa.V
