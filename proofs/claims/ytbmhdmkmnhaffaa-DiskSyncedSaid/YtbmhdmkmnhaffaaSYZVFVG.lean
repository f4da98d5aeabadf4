/- Library V, part F: the program's code is the library's, and what is to be shown suffices. No program here. -/
import Derived.Test.YtbmhdmkmnhaffaaSYZVDVE
import Derived.Deep.RegionHeld3
import Derived.Scope
section
set_option linter.unusedVariables false
set_option linter.unusedSimpArgs false
namespace Go.Proofs.Ytbmhdmkmnhaffaa.V
section
variable {P : Program} {E : Env} {st : St}
theorem isStr_some {t : TypeId} (h : isStr P t = true) : P.underlying t = some .string := by
  unfold isStr at h
  split at h
  · assumption
  · cases h
theorem isKind_some {t : TypeId} {k : IntKind} (h : (isKind P t == some k) = true) : P.underlying t = some (.int k) := by
  have h := eq_of_beq h
  unfold isKind at h
  split at h
  · cases h; assumption
  · cases h
def newD (E : Env) (d : Option Nat) : List Nat := match locD E d with | some (_, k) => [k] | none => []
theorem compOp_sound {o : Oper} {p : POp} {K : St → Prop} (hc : compOp P E o = some p) (hp : pv P E p st K) : Sound P E o (newD E o.dst) st K := by
  unfold compOp at hc
  cases hl : locD E o.dst with
  | some x =>
    obtain ⟨d, k⟩ := x
    rw [hl] at hc
    have := sound_loc hl hc hp
    simpa [newD, hl] using this
  | none =>
    rw [hl] at hc
    have hnew : newD E o.dst = [] := by simp [newD, hl]
    rw [hnew]
    cases ho : o.op with
    | alloc t =>
      simp only [ho, Option.bind_eq_some_iff, Option.map_eq_some_iff] at hc
      obtain ⟨d, hd, z, hz, hc⟩ := hc
      cases hc
      exact sound_halloc ho hd hz hp
    | box t x =>
      simp only [ho, Option.bind_eq_some_iff] at hc
      obtain ⟨d, hd, hc⟩ := hc
      obtain ⟨h1, hc⟩ := bif_some hc
      cases hc
      exact sound_hbox ho hd h1 hp
    | load t x =>
      simp only [ho, Option.bind_eq_some_iff] at hc
      obtain ⟨d, hd, ⟨g, n⟩, ht, hc⟩ := hc
      cases hx : locX E x with
      | some y =>
        obtain ⟨s, k⟩ := y
        simp only [hx] at hc
        cases hc
        exact sound_lload ho hd ht hx hp
      | none =>
        simp only [hx] at hc
        obtain ⟨h1, hc⟩ := bif_some hc
        cases hc
        exact sound_hload ho hd ht h1 hp
    | store t x v =>
      simp only [ho] at hc
      obtain ⟨h1, hc⟩ := bif_some hc
      simp only [Bool.and_eq_true] at h1
      have hd : o.dst = none := by simpa using h1.1
      simp only [Option.bind_eq_some_iff] at hc
      obtain ⟨⟨g, n⟩, ht, hc⟩ := hc
      cases hx : locX E x with
      | some y =>
        obtain ⟨s, k⟩ := y
        simp only [hx] at hc
        cases hc
        exact sound_lstore ho hd ht hx h1.2 hp
      | none =>
        simp only [hx] at hc
        obtain ⟨h2, hc⟩ := bif_some hc
        cases hc
        exact sound_hstore ho hd ht h2 h1.2 hp
    | buildSlice t len parts =>
      simp only [ho, Option.bind_eq_some_iff] at hc
      obtain ⟨d, hd, ⟨e, i⟩, hi, z, hz, hc⟩ := hc
      obtain ⟨h1, hc⟩ := bif_some hc
      simp only [Bool.and_eq_true] at h1
      cases hc
      exact sound_bslice ho hd hi hz h1.1.1 (Nat.le_of_ble_eq_true h1.1.2) (Nat.eq_of_beq_eq_true h1.2) hp
    | makeSlice t l c =>
      simp only [ho, Option.bind_eq_some_iff] at hc
      obtain ⟨d, hd, ⟨e, i⟩, hi, z, hz, hc⟩ := hc
      obtain ⟨h1, hc⟩ := bif_some hc
      simp only [Bool.and_eq_true] at h1
      cases hc
      exact sound_mslice ho hd hi hz h1.1.1 h1.1.2 (Nat.eq_of_beq_eq_true h1.2) hp
    | convert s t x =>
      simp only [ho] at hc
      cases h1 : slcT P s with
      | some e =>
        cases h2 : slcT P t with
        | some e' => rw [h1, h2] at hc; exact sound_pure hc hp
        | none =>
          rw [h1, h2] at hc
          obtain ⟨h3, hc⟩ := bif_some hc
          simp only [Bool.and_eq_true] at h3
          simp only [Option.map_eq_some_iff] at hc
          obtain ⟨d, hd, hc⟩ := hc
          cases hc
          exact sound_b2s ho hd (slcT_some h1) (isKind_some h3.1.2) (isStr_some h3.1.1) h3.2 hp
      | none =>
        cases h2 : slcT P t with
        | none => rw [h1, h2] at hc; exact sound_pure hc hp
        | some e =>
          rw [h1, h2] at hc
          obtain ⟨h3, hc⟩ := bif_some hc
          simp only [Bool.and_eq_true] at h3
          simp only [Option.map_eq_some_iff] at hc
          obtain ⟨d, hd, hc⟩ := hc
          cases hc
          exact sound_s2b ho hd (isStr_some h3.1.1) (slcT_some h2) (isKind_some h3.1.2) h3.2 hp
    | makeMap t r =>
      simp only [ho] at hc
      obtain ⟨h1, hc⟩ := bif_some hc
      obtain rfl := Option.isNone_iff_eq_none.1 h1
      obtain ⟨d, hd, hc⟩ := Option.map_eq_some_iff.1 hc
      cases hc
      exact sound_mkmap ho hd hp
    | lookup t x k ok =>
      simp only [ho, Option.bind_eq_some_iff] at hc
      obtain ⟨d, hd, e, he, z, hz, hc⟩ := hc
      obtain ⟨h1, hc⟩ := bif_some hc
      simp only [Bool.and_eq_true] at h1
      cases hc
      exact sound_mlook ho hd he hz h1.1 h1.2 hp
    | mapUpdate t x k v =>
      simp only [ho] at hc
      obtain ⟨h1, hc⟩ := bif_some hc
      simp only [Bool.and_eq_true] at h1
      cases hc
      obtain ⟨e, he⟩ := Option.isSome_iff_exists.1 h1.1.1.2
      exact sound_mput ho (Option.isNone_iff_eq_none.1 h1.1.1.1) he h1.1.2 h1.2.1 h1.2.2 hp
    | call c =>
      obtain ⟨callee, args, ts⟩ := c
      simp only [ho] at hc
      cases callee with
      | builtin b =>
        cases b with
        | append =>
          simp only at hc
          split at hc
          · rename_i x y t t' hx ht
            have ha : args = #[x, y] := by rw [← Array.toList_inj, hx]
            have hat : ts = #[t, t'] := by rw [← Array.toList_inj, ht]
            subst ha hat
            simp only [Option.bind_eq_some_iff] at hc
            obtain ⟨d, hd, ⟨e, i⟩, hi, z, hz, hc⟩ := hc
            cases hb : (plainX E x && plainX E y && (slcT P t').isSome && Nat.beq z.cells.size i.size) with
            | true =>
              simp only [hb, cond_true] at hc
              have h1 := hb
              simp only [Bool.and_eq_true] at h1
              cases hc
              exact sound_append ho hd hi hz h1.1.1.1 h1.1.1.2 h1.1.2 hp
            | false =>
              simp only [hb, cond_false] at hc
              obtain ⟨h1, hc⟩ := bif_some hc
              simp only [Bool.and_eq_true] at h1
              cases hc
              obtain ⟨kk, hkk⟩ := Option.isSome_iff_exists.1 h1.1.2
              exact sound_growz ho hd hi hz h1.1.1.1 h1.1.1.2 (isKind_some (k := kk) (by rw [hkk]; simp)) (Nat.eq_of_beq_eq_true h1.2) hp
          · cases hc
        | delete =>
          simp only at hc
          split at hc
          · rename_i x y t t' hx ht
            have ha : args = #[x, y] := by rw [← Array.toList_inj, hx]
            have hat : ts = #[t, t'] := by rw [← Array.toList_inj, ht]
            subst ha hat
            obtain ⟨h1, hc⟩ := bif_some hc
            simp only [Bool.and_eq_true] at h1
            cases hc
            obtain ⟨e, he⟩ := Option.isSome_iff_exists.1 h1.1.1.2
            exact sound_mdel ho (Option.isNone_iff_eq_none.1 h1.1.1.1) he h1.1.2 h1.2 hp
          · cases hc
        | copy =>
          simp only at hc
          split at hc
          · rename_i x y t t' hx ht
            have ha : args = #[x, y] := by rw [← Array.toList_inj, hx]
            have hat : ts = #[t, t'] := by rw [← Array.toList_inj, ht]
            subst ha hat
            simp only [Option.bind_eq_some_iff] at hc
            obtain ⟨d, hd, ⟨e, i⟩, hi, hc⟩ := hc
            obtain ⟨h1, hc⟩ := bif_some hc
            simp only [Bool.and_eq_true] at h1
            cases hc
            exact sound_copy ho hd hi h1.1.1 h1.1.2 hp
          · cases hc
        | _ => exact sound_pure hc hp
      | invoke r m => exact sound_pure hc hp
      | value x =>
        cases x with
        | func f =>
          simp only [Option.bind_eq_some_iff] at hc
          obtain ⟨d, hd, hc⟩ := hc
          obtain ⟨h1, hc⟩ := bif_some hc
          simp only [Bool.and_eq_true] at h1
          cases hc
          exact sound_call ho hd h1.1 h1.2 hp
        | _ =>
          simp only [Option.bind_eq_some_iff] at hc
          obtain ⟨d, hd, hc⟩ := hc
          obtain ⟨h1, hc⟩ := bif_some hc
          simp only [Bool.and_eq_true] at h1
          cases hc
          exact sound_callv ho hd h1.1 h1.2 hp
    | _ => simp only [ho] at hc; exact sound_pure hc hp
/-- What the library doesn't take may not be come to. -/
def compOpS (P : Program) (E : Env) (o : Oper) : Option POp := match compOp P E o with | some p => some p | none => match compX P E o with | some p => some p | none => some .stuck
theorem compOpS_sound {o : Oper} {p : POp} {K : St → Prop} (hc : compOpS P E o = some p) (hp : pv P E p st K) : Sound P E o (newD E o.dst) st K := by
  unfold compOpS at hc
  split at hc
  · rename_i h; cases hc; exact compOp_sound h hp
  · split at hc
    · rename_i h
      cases hc
      obtain ⟨d, _, hd⟩ := compX_form h
      obtain ⟨e1, e2, e3⟩ := plainD_some hd
      have hnew : newD E o.dst = [] := by rw [e1]; simp [newD, locD, e2]
      rw [hnew]
      exact compX_sound h hp
    · cases hc; exact hp.elim
end
/-! ### Regions in the text's order -/
/-- A guard: the slot, what is wanted there. A step: its guard, its slot, what it does. -/
structure Stp where
  g : Option (Nat × Bool)
  d : Option Nat
  p : POp
def isB (v : Value) (b : Bool) : Bool := match v with | .bool c => (c == b) | _ => false
def gW (st : St) : Option (Nat × Bool) → Bool
  | none => true
  | some (t, b) => isB (st.s t) b
def compG (E : Env) (ops : Array Oper) : Option (Nat × Bool) → Option (Option (Nat × Bool))
  | none => some none
  | some (j, b) => match (ops[j]?).bind (·.dst) with
    | some t => bif (lookE E.env t).isNone && Nat.blt t E.n then some (some (t, b)) else none
    | none => none
def okD (E : Env) (d : Option Nat) : Bool := match d with | some d => Nat.blt d E.n | none => true
def compStp (P : Program) (E : Env) (ops : Array Oper) (o : Oper) : Option Stp :=
  (compG E ops o.guard).bind fun g => (compOpS P E o).bind fun p => bif okD E o.dst then some ⟨g, o.dst, p⟩ else none
def skipS (st : St) (d : Option Nat) : St := ⟨setO st d undef, st.l, st.G⟩
def vops (P : Program) (E : Env) : List Stp → (St → Prop) → St → Prop
  | [], K, st => K st
  | s :: r, K, st => match s.g with
    | none => pv P E s.p st (vops P E r K)
    | some (t, b) => bif isB (st.s t) b then pv P E s.p st (vops P E r K) else vops P E r K (skipS st s.d)
section
variable {P : Program} {E : Env} {st : St} {w0 : World} {G0 : GH} {β : Nat → Option Nat} {a : Act} {w : World}
theorem RelB.skip (r : RelB E w0 G0 β st a w) {d : Option Nat} (hd : okD E d = true) : RelB E w0 G0 β (skipS st d) (a.put d undef) w := by
  cases d with
  | none => exact r
  | some d =>
    have hn := blt_lt hd
    cases hl : lookE E.env d with
    | none => exact r.put hl hn undef
    | some k => exact r.putP hl hn (z := undef) fun o ho => by cases ho
theorem compG_wanted {ops : Array Oper} {o : Oper} {g : Option (Nat × Bool)} (h : compG E ops o.guard = some g) (r : RelB E w0 G0 β st a w) : Region.wanted o (yielded ops a.tmps) = gW st g := by
  unfold Region.wanted
  cases hg : o.guard with
  | none => rw [hg] at h; cases h; rfl
  | some x =>
    obtain ⟨j, b⟩ := x
    rw [hg] at h
    simp only [compG] at h
    cases hd : (ops[j]?).bind (·.dst) with
    | none => rw [hd] at h; cases h
    | some t =>
      rw [hd] at h
      obtain ⟨h1, h⟩ := bif_some h
      cases h
      simp only [Bool.and_eq_true] at h1
      have hl : lookE E.env t = none := by simpa using h1.1
      have hn := blt_lt h1.2
      have hs := r.slot t hl
      have ht : a.tmps[t]? = some (st.s t) := by
        rw [← hs]
        have : t < a.tmps.size := by rw [r.size]; exact hn
        simp [Array.getD_eq_getD_getElem?, this]
      have hd' : (ops[j]?).bind (fun x => x.dst) = some t := hd
      simp only [yielded, hd', Option.bind_some, ht]
      simp only [gW, isB]
      cases st.s t <;> simp
/-- A call of yield. -/
def compY (E : Env) (o : Oper) : Option POp :=
  match o.op with
  | .call c => match c.callee with
    | .value x => (plainD E o.dst).bind fun d => bif (lookE E.env (3000000 + d)).isSome && (allPlain E c.args.toList && plainX E x) then some (.yieldc d x c.args.toList) else none
    | _ => none
  | _ => none
def compStpY (P : Program) (E : Env) (ops : Array Oper) (o : Oper) : Option Stp :=
  bif noDefer o then (compG E ops o.guard).bind fun g => (match compY E o with | some p => some p | none => compOpS P E o).bind fun p => bif okD E o.dst then some ⟨g, o.dst, p⟩ else none else none
theorem compY_sound {ro : Option Nat} {m : Nat} {o : Oper} {p : POp} {K : St → Prop} (hc : compY E o = some p) (hp : pv P E p st K) (hr : RelB E w0 G0 β st a w) (K' : Act → World → Prop) (Q' : Exit → Act → World → Prop)
    (hk : ∀ st' a' w', RelB E w0 G0 β st' a' w' → K st' → K' a' w') : o.wpIn (WF ro) m P a w K' Q' := by
  unfold compY at hc
  split at hc
  · rename_i c ho
    split at hc
    · rename_i x hx
      simp only [Option.bind_eq_some_iff] at hc
      obtain ⟨d, hd, hc⟩ := hc
      obtain ⟨h1, hc⟩ := bif_some hc
      cases hc
      simp only [Bool.and_eq_true] at h1
      obtain ⟨e1, e2, e3⟩ := plainD_some hd
      obtain ⟨l, hl, hy⟩ := hp
      obtain ⟨fn, tmps, assign, body, hy1, hy2⟩ := hy w hr.view
      have ha : c.args.map a.eval = (c.args.toList.map (ev st)).toArray := by
        rw [← hr.evals h1.2.1, ← Array.toList_inj]; simp
      have hrun : (execOp a.eval o).run P w = .ok (.round l fn tmps assign body) w := by
        simp only [execOp, ho, resolve, invoke, Deferred.ofValue, hx, hr.eval h1.2.2, hl, Sem.run_bind, Sem.run_pure, Result.andThen_ok, ha]
        simpa using hy1
      refine ⟨fun _ _ => trivial, ?_⟩
      rw [Oper.semAt_eq _ _ _ (by rw [ho]; simp), hrun]
      refine ⟨fun h => by simp [Fence.wide] at h, ?_⟩
      have h2 : RoundIn (WF ro) (m - 1) P l fn tmps assign body w _ := ⟨hy2.1, fun c cs _ => hy2.2 c cs (room_wide _)⟩
      refine h2.mono ?_
      rintro e w' ⟨v, G', rfl, hf, hK⟩
      rw [e1]
      exact hk _ _ _ ((hr.world hf).put e2 e3 v) hK
    · cases hc
  · cases hc
theorem vops_sound {ro : Option Nat} {m : Nat} {ops : Array Oper} {Q : Exit → St → Prop} {K : St → Prop} (hQ : ∀ st, K st → Q .normal st) : ∀ (l : List Oper) (ss : List Stp) (st : St), l.mapM (compStpY P E ops) = some ss → vops P E ss K st →
    ∀ w0 G0 β a w, RelB E w0 G0 β st a w → wpListIn (WF ro) m P ops (lift E w0 G0 Q) l a w
  | [], ss, st, hm, hv, w0, G0, β, a, w, hr => by
    simp at hm; subst hm
    exact ⟨st, ⟨β, hr⟩, hQ st hv⟩
  | o :: l, ss, st, hm, hv, w0, G0, β, a, w, hr => by
    rw [List.mapM_cons] at hm
    cases h1 : compStpY P E ops o with
    | none => rw [h1] at hm; cases hm
    | some s =>
      rw [h1] at hm
      cases h2 : l.mapM (compStpY P E ops) with
      | none => rw [h2] at hm; cases hm
      | some ss' =>
        rw [h2] at hm
        cases hm
        unfold compStpY at h1
        obtain ⟨hnd, h1⟩ := bif_some h1
        simp only [Option.bind_eq_some_iff] at h1
        obtain ⟨g, hg, p, hp, h1⟩ := h1
        obtain ⟨hd, h1⟩ := bif_some h1
        cases h1
        have hw := compG_wanted hg hr
        have go : pv P E p st (vops P E ss' K) → Region.wanted o (yielded ops a.tmps) = true → wpListIn (WF ro) m P ops (lift E w0 G0 Q) (o :: l) a w := by
          intro hpv hwt
          unfold wpListIn
          rw [if_pos hwt]
          cases hy : compY E o with
          | some q =>
            rw [hy] at hp; cases hp
            exact compY_sound hy hpv hr _ _ fun st' a' w' hr' hv' => vops_sound hQ l ss' st' h2 hv' w0 G0 β a' w' hr'
          | none =>
            rw [hy] at hp
            refine oper_in hnd (compOpS_sound hp hpv w0 G0 β a w hr _ _ ?_)
            intro β' st' a' w' hr' _ hv'
            exact vops_sound hQ l ss' st' h2 hv' w0 G0 β' a' w' hr'
        simp only [vops] at hv
        cases g with
        | none => exact go hv hw
        | some x =>
          obtain ⟨t, b⟩ := x
          simp only at hv hw
          cases hb : isB (st.s t) b with
          | true => rw [hb] at hv; exact go hv (hw.trans hb)
          | false =>
            rw [hb] at hv
            unfold wpListIn
            rw [if_neg (by rw [hw]; simp [gW, hb])]
            exact ⟨fun _ _ => trivial, vops_sound hQ l ss' _ h2 hv w0 G0 β _ w (hr.skip hd)⟩
theorem Vw_region {ro : Option Nat} {ops : Array Oper} {id : Nat} {ss : List Stp} {Q : Exit → St → Prop} (hm : ops.toList.mapM (compStpY P E ops) = some ss) (hv : vops P E ss (Q .normal) st) : Vw P E ro (.region id ops false) Q st := by
  rintro m w0 G0 a w ⟨β, hr⟩
  exact wpIn_region_list (vops_sound (fun _ h => h) _ ss st hm hv w0 G0 β a w hr)
end
/-! ### Regions that draw their order -/
/-- A way through such a region: what reckons, or reads what nobody writes, is taken as soon as it may come; of the others each that may come. -/
inductive Plan where
  | done
  | take (i : Nat) (s : Stp) (rest : Plan)
  | alt (i : Nat) (s : Stp) (rest more : Plan)
  | no
/-- What is to be shown at a step that is taken: in every memory that has Gs and the local variables Ls. -/
def pvT (P : Program) (E : Env) (Gs : GH) (Ls : List Nat) (o : POp) (st : St) (K : St → Prop) : Prop :=
  match o with
  | .pure d f xs => ∃ v, pureV f (xs.map (ev st)) = some v ∧ K ⟨setS st.s d v, st.l, st.G⟩
  | .lmove d s => K ⟨setS st.s d (st.s s), st.l, st.G⟩
  | .lfield d s o => ∃ p, st.s s = .int .u64 p ∧ K ⟨setS st.s d (.int .u64 (p + o)), st.l, st.G⟩
  | .lindex d s len n i => ∃ p k j, st.s s = .int .u64 p ∧ ev st i = .int k j ∧ (0 ≤ j ∧ j < len) ∧ K ⟨setS st.s d (.int .u64 (p + j * n)), st.l, st.G⟩
  | .lload d k s n g => Ls.contains k = true ∧ ∃ p v, st.s s = .int .u64 p ∧ takeV g (st.l k) p.toNat n = some v ∧ K ⟨setS st.s d v, st.l, st.G⟩
  | .hload d n g x => ∃ b q cs e fr v, ev st x = .pointer (some ⟨b, q, none⟩) ∧ Gs b = some (.cells cs e fr) ∧ takeV g cs q n = some v ∧ K ⟨setS st.s d v, st.l, st.G⟩
  | .b2s d x => ∃ xs : List Int, rd Gs 1 (ev st x) = some (xs.map (Value.int .u8)) ∧ K ⟨setS st.s d (.string (strOfNums xs)), st.l, st.G⟩
  | _ => False
def disj (xs ys : List Nat) : Bool := xs.all fun x => !ys.contains x
/-- Gs and Ls stand. -/
def stands (Gs : GH) (Ls : List Nat) (st st' : St) : Prop := Gs.le st'.G ∧ ∀ k, k ∈ Ls → st'.l k = st.l k
def vplan (P : Program) (E : Env) (Gs : GH) (Ls : List Nat) (K : St → Prop) : Plan → St → Prop
  | .done, st => K st
  | .take _ s rest, st => bif gW st s.g then pvT P E Gs Ls s.p st (vplan P E Gs Ls K rest) else vplan P E Gs Ls K rest (skipS st s.d)
  | .alt _ s rest more, st => (bif gW st s.g then pv P E s.p st (fun st' => stands Gs Ls st st' ∧ vplan P E Gs Ls K rest st') else vplan P E Gs Ls K rest (skipS st s.d)) ∧ vplan P E Gs Ls K more st
  | .no, _ => True
def takeable (Ls : List Nat) : POp → Bool
  | .pure _ _ _ | .lmove _ _ | .lfield _ _ _ | .lindex _ _ _ _ _ | .hload _ _ _ _ | .b2s _ _ => true
  | .lload _ k _ _ _ => Ls.contains k
  | _ => false
def stepAt (P : Program) (E : Env) (ops : Array Oper) (i : Nat) : Option Stp := (ops[i]?).bind (compStp P E ops)
/-- Does an operand come of something that is made in the region? -/
def madeHere (ops : List Oper) : Nat → Operand → Bool
  | 0, _ => false
  | f + 1, .tmp t => match ops.find? (fun o => match o.dst with | some d => Nat.beq d t | none => false) with
    | none => false
    | some o => match o.op with
      | .call _ => true
      | .buildSlice _ _ _ => true
      | .makeSlice _ _ _ => true
      | .move x => madeHere ops f x
      | .slice _ x _ _ _ => madeHere ops f x
      | _ => false
  | _ + 1, _ => false
/-- Is memory written that isn't a local variable's? -/
def writesHeap (E : Env) (o : Oper) : Bool := match o.op with
  | .store _ x _ => (locX E x).isNone
  | _ => false
/-- Is an operand reckoned in the region? -/
def definedHere (ops : List Oper) : Operand → Bool
  | .tmp t => ops.any (fun o => match o.dst with | some d => Nat.beq d t | none => false)
  | _ => false
/-- What reads memory that is made, or may be written, in the region isn't taken ahead, nor what the functions' own table marks (a pair 1000000 + the slot). -/
def oldRead (E : Env) (ops : Array Oper) : POp → Bool
  | .hload d _ _ x => !madeHere ops.toList 4 x && !(definedHere ops.toList x && ops.toList.any (writesHeap E)) && (lookE E.env (1000000 + d)).isNone
  | .b2s _ x => !madeHere ops.toList 4 x && !(definedHere ops.toList x && ops.toList.any (writesHeap E))
  | _ => true
def canTake (P : Program) (E : Env) (ops : Array Oper) (Ls : List Nat) (listed : Array Bool) (i : Nat) : Bool :=
  match stepAt P E ops i with
  | some s => (oldRead E ops s.p && takeable Ls s.p) && Region.free .any ops listed i
  | none => false
def alts (f : Nat → Option (Stp × Plan)) : List Nat → Option Plan
  | [] => some .no
  | i :: is => (f i).bind fun (s, pl) => (alts f is).map fun more => .alt i s pl more
/-- The way through all orders. -/
def mkPlan (P : Program) (E : Env) (ops : Array Oper) (Ls : List Nat) : Nat → Array Bool → Option Plan
  | 0, listed => match Region.ready .any ops listed with
    | [] => some .done
    | _ => none
  | n + 1, listed =>
    match Region.ready .any ops listed with
    | [] => some .done
    | r :: rs =>
      match (r :: rs).find? (canTake P E ops Ls listed) with
      | some i => (stepAt P E ops i).bind fun s => (mkPlan P E ops Ls n (listed.setIfInBounds i true)).map fun rest => .take i s rest
      | none => alts (fun i => (stepAt P E ops i).bind fun s => bif disj Ls (newD E s.d) then (mkPlan P E ops Ls n (listed.setIfInBounds i true)).map fun rest => (s, rest) else none) (r :: rs)
section
variable {P : Program} {E : Env} {st : St} {w0 : World} {G0 : GH} {β : Nat → Option Nat} {a : Act} {w : World}
theorem stepAt_some {ops : Array Oper} {i : Nat} {s : Stp} (h : stepAt P E ops i = some s) : ∃ o, ops[i]? = some o ∧ compG E ops o.guard = some s.g ∧ compOpS P E o = some s.p ∧ o.dst = s.d ∧ okD E s.d = true := by
  simp only [stepAt, Option.bind_eq_some_iff] at h
  obtain ⟨o, ho, h⟩ := h
  simp only [compStp, Option.bind_eq_some_iff] at h
  obtain ⟨g, hg, p, hp, h⟩ := h
  obtain ⟨hd, h⟩ := bif_some h
  cases h
  exact ⟨o, ho, hg, hp, rfl, hd⟩
/-- In every memory that has Gs and the local variables Ls. -/
def SW (Gs : GH) (Ls : List Nat) (β0 : Nat → Option Nat) (l0 : Nat → Array Value) (w : World) : Prop :=
  View Gs w ∧ ∀ k, k ∈ Ls → ∀ b, β0 k = some b → ∃ e, w.heap[b]? = some (.cells (l0 k) e (0, 0))
/-- What one step that is taken comes to. -/
def Takes (P : Program) (E : Env) (Gs : GH) (Ls : List Nat) (β0 : Nat → Option Nat) (l0 : Nat → Array Value) (w0 : World) (G0 : GH) (β : Nat → Option Nat) (o : Oper) (st : St) (K : St → Prop) (a : Act) (w : World) : Prop :=
  ∃ v st', (∀ w, SW Gs Ls β0 l0 w → (execOp a.eval o).run P w = .ok (.value v) w) ∧ RelB E w0 G0 β st' (a.put o.dst v) w ∧ K st' ∧ st'.l = st.l ∧ st'.G = st.G
theorem takes_pure {Gs : GH} {Ls : List Nat} {β0 : Nat → Option Nat} {l0 : Nat → Array Value} {o : Oper} {p : POp} {K : St → Prop} (hc : compPure P E o = some p) (hp : pvT P E Gs Ls p st K) (hr : RelB E w0 G0 β st a w) : Takes P E Gs Ls β0 l0 w0 G0 β o st K a w := by
  unfold compPure at hc
  cases hd : plainD E o.dst with
  | none => rw [hd] at hc; cases hc
  | some d =>
    cases hf : compPF P o.op with
    | none => rw [hd, hf] at hc; cases hc
    | some x =>
      obtain ⟨f, xs⟩ := x
      rw [hd, hf] at hc
      obtain ⟨h1, hc⟩ := bif_some hc
      cases hc
      obtain ⟨v, hv, hK⟩ := hp
      obtain ⟨e1, e2, e3⟩ := plainD_some hd
      rw [← hr.evals h1] at hv
      exact ⟨v, _, fun w' _ => pure_run hf hv, by rw [e1]; exact hr.put e2 e3 v, hK, rfl, rfl⟩
theorem takes_loc {Gs : GH} {Ls : List Nat} {β0 : Nat → Option Nat} {l0 : Nat → Array Value} {o : Oper} {d k : Nat} {p : POp} {K : St → Prop} (hd : locD E o.dst = some (d, k)) (hc : compLoc P E o d k = some p) (hp : pvT P E Gs Ls p st K) (hr : RelB E w0 G0 β st a w) : Takes P E Gs Ls β0 l0 w0 G0 β o st K a w := by
  obtain ⟨e1, e2, e3⟩ := locD_some hd
  obtain ⟨dst, op, ty, pos, after, guard⟩ := o
  simp only at e1
  subst e1
  cases op with
  | alloc t =>
    simp only [compLoc, Option.map_eq_some_iff] at hc
    obtain ⟨z, hz, hc⟩ := hc
    cases hc
    exact hp.elim
  | box t x =>
    obtain ⟨h1, hc⟩ := bif_some hc
    cases hc
    exact hp.elim
  | move x =>
    simp only [compLoc, Option.bind_eq_some_iff] at hc
    obtain ⟨⟨s, k'⟩, hx, hc⟩ := hc
    obtain ⟨h1, hc⟩ := bif_some hc
    cases hc
    have hkk := Nat.eq_of_beq_eq_true h1
    subst hkk
    obtain ⟨rfl, hs⟩ := locX_some hx
    refine ⟨a.eval (.tmp s), _, fun _ _ => rfl, hr.putP e2 e3 (z := st.s s) fun o ho => ?_, hp, rfl, rfl⟩
    obtain ⟨b, h1, h2, h3⟩ := hr.ptr s k o hs ho
    exact ⟨b, h1, h2, h3⟩
  | fieldAddr t x i =>
    simp only [compLoc, Option.bind_eq_some_iff] at hc
    obtain ⟨⟨s, k'⟩, hx, hc1⟩ := hc
    obtain ⟨h1, hc2⟩ := bif_some hc1
    clear hc1
    simp only [Option.bind_eq_some_iff] at hc2
    obtain ⟨⟨q, ft⟩, hq, ⟨g, n⟩, hn, hc⟩ := hc2
    have hkk := Nat.eq_of_beq_eq_true h1
    subst hkk
    obtain ⟨rfl, hs⟩ := locX_some hx
    cases hz : (n == 0) with
    | true => simp only [hz] at hc; cases hc
    | false =>
      simp only [hz] at hc
      cases hc
      obtain ⟨p, hp1, hK⟩ := hp
      obtain ⟨b, h4, h5, h6⟩ := hr.addr hs hp1
      refine ⟨.pointer (some ⟨b, p.toNat + q, none⟩), _, fun w' _ => ?_, hr.putP e2 e3 (z := .int .u64 (p + q)) fun o ho => ?_, hK, rfl, rfl⟩
      · refine pure_run (f := .fptr q) (xs := [.tmp s]) ?_ ?_
        · simp only [compPF, hq, Option.bind_some, hn, hz]; rfl
        · simp only [List.map_cons, List.map_nil, h6, pureV]
      · cases ho
        exact ⟨b, h4, by omega, by congr 3; omega⟩
  | indexAddr t x i =>
    simp only [compLoc, Option.bind_eq_some_iff] at hc
    obtain ⟨⟨s, k'⟩, hx, hc1⟩ := hc
    obtain ⟨h1, hc2⟩ := bif_some hc1
    clear hc1
    simp only [Option.bind_eq_some_iff, Option.map_eq_some_iff] at hc2
    obtain ⟨⟨len, e⟩, hq, ⟨g, n⟩, hn, hc⟩ := hc2
    simp only [Bool.and_eq_true] at h1
    have hkk := Nat.eq_of_beq_eq_true h1.1
    subst hkk
    obtain ⟨rfl, hs⟩ := locX_some hx
    cases hc
    obtain ⟨p, ki, j, hp1, hi, hj, hK⟩ := hp
    obtain ⟨b, h4, h5, h6⟩ := hr.addr hs hp1
    have hu : P.underlying t = some (.array len e) := by
      unfold arrT at hq
      split at hq
      · cases hq; assumption
      · cases hq
    refine ⟨.pointer (some ⟨b, p.toNat + j.toNat * n, none⟩), _, fun w' _ => ?_, hr.putP e2 e3 (z := .int .u64 (p + j * n)) fun o ho => ?_, hK, rfl, rfl⟩
    · refine pure_run (f := .iptrA len n) (xs := [.tmp s, i]) ?_ ?_
      · simp only [compPF, hu, hn]; rfl
      · simp only [List.map_cons, List.map_nil, h6, hr.eval h1.2, hi, pureV]
        rw [if_pos hj]
    · cases ho
      have hjn : 0 ≤ j * (n : Int) := Int.mul_nonneg hj.1 (Int.natCast_nonneg n)
      refine ⟨b, h4, by omega, ?_⟩
      congr 3
      have : (j * (n : Int)).toNat = j.toNat * n := by
        obtain ⟨m, rfl⟩ := Int.eq_ofNat_of_zero_le hj.1
        rw [Int.toNat_natCast, ← Int.natCast_mul, Int.toNat_natCast]
      omega
  | _ => cases hc
theorem run_b2s {s t e : TypeId} (hs : P.underlying s = some (.slice e)) (he : P.underlying e = some (.int .u8)) (ht : P.underlying t = some .string) {G : GH} (hv : View G w) {v : Value} {xs : List Int} (hxs : rd G 1 v = some (xs.map (Value.int .u8))) :
    (convert s t v).run P w = .ok (.string (strOfNums xs)) w := by
  unfold rd at hxs
  split at hxs
  · rename_i cap
    have h0 := Option.some.inj hxs
    obtain rfl : xs = [] := by cases xs with | nil => rfl | cons _ _ => cases h0
    exact run_convert_bytes_nil w s e hs he 0 cap t ht
  · rename_i b q len cap
    split at hxs
    · rename_i h0
      have h1 := Option.some.inj hxs
      obtain rfl : xs = [] := by cases xs with | nil => rfl | cons _ _ => cases h1
      obtain rfl : len = 0 := by omega
      exact run_convert_bytes_arg w s e hs he b q 0 cap [] rfl (fun i hi => by omega) t ht
    · cases hG : G b with
      | none => rw [hG] at hxs; cases hxs
      | some ob =>
        rw [hG] at hxs
        cases ob <;> first | (cases hxs; done) | skip
        rename_i cs e' fr
        obtain ⟨hh, hxs⟩ := Option.ite_none_right_eq_some.1 hxs
        have h1 := Option.some.inj hxs
        have hl : xs.length = len := by
          have := congrArg List.length h1
          simp at this; omega
        refine run_convert_bytes_arg w s e hs he b q len cap xs hl (fun i hi => ?_) t ht
        rw [cell_of (hv b _ hG)]
        have h2 : (cs.extract q (q + len * 1)).toList[i]? = (xs.map (Value.int .u8))[i]? := by rw [h1]
        have hi' : i < xs.length := by omega
        simp only [List.getElem?_map, List.getElem?_eq_getElem hi', Option.map_some] at h2
        rw [Array.getElem?_toList, Array.getElem?_extract] at h2
        rw [if_pos (by omega)] at h2
        rw [h2]
        simp [List.getD_eq_getElem?_getD, hi']
  · have h0 := Option.some.inj hxs
    obtain rfl : xs = [] := by cases xs with | nil => rfl | cons _ _ => cases h0
    exact run_convert_bytes_none w hs he _ _ ht
  · cases hxs
theorem pvT_sound {Gs : GH} {Ls : List Nat} {β0 : Nat → Option Nat} {l0 : Nat → Array Value} {o : Oper} {p : POp} {K : St → Prop} (hc : compOpS P E o = some p) (hp : pvT P E Gs Ls p st K) (hr : RelB E w0 G0 β st a w) (hβ : ∀ k, k ∈ Ls → β k = β0 k) (hl : ∀ k, k ∈ Ls → st.l k = l0 k) :
    Takes P E Gs Ls β0 l0 w0 G0 β o st K a w := by
  unfold compOpS at hc
  cases hc0 : compOp P E o with
  | none =>
    rw [hc0] at hc
    cases hx : compX P E o with
    | none => rw [hx] at hc; cases hc; exact hp.elim
    | some q =>
      rw [hx] at hc
      cases hc
      obtain ⟨d, hX, _⟩ := compX_form hx
      cases p <;> first | exact hp.elim | (cases hX; done)
  | some p0 =>
  rw [hc0] at hc
  cases hc
  have hc := hc0
  clear hc0
  unfold compOp at hc
  cases hld : locD E o.dst with
  | some x =>
    obtain ⟨d, k⟩ := x
    rw [hld] at hc
    exact takes_loc hld hc hp hr
  | none =>
    rw [hld] at hc
    cases ho : o.op with
    | alloc t =>
      simp only [ho, Option.bind_eq_some_iff, Option.map_eq_some_iff] at hc
      obtain ⟨d, hd, z, hz, hc⟩ := hc
      cases hc
      exact hp.elim
    | box t x =>
      simp only [ho, Option.bind_eq_some_iff] at hc
      obtain ⟨d, hd, hc⟩ := hc
      obtain ⟨h1, hc⟩ := bif_some hc
      cases hc
      exact hp.elim
    | load t x =>
      simp only [ho, Option.bind_eq_some_iff] at hc
      obtain ⟨d, hd, ⟨g, n⟩, ht, hc⟩ := hc
      obtain ⟨e1, e2, e3⟩ := plainD_some hd
      cases hx : locX E x with
      | some y =>
        obtain ⟨s, k⟩ := y
        simp only [hx] at hc
        cases hc
        obtain ⟨rfl, hs⟩ := locX_some hx
        obtain ⟨hk, p, v, h1, h2, hK⟩ := hp
        have hk' : k ∈ Ls := by simpa using hk
        obtain ⟨b, h3, h4, h5⟩ := hr.addr hs h1
        refine ⟨v, _, fun w' hw' => ?_, by rw [e1]; exact hr.put e2 e3 v, hK, rfl, rfl⟩
        obtain ⟨e, h6⟩ := hw'.2 k hk' b (by rw [← hβ k hk']; exact h3)
        rw [← hl k hk'] at h6
        simp only [execOp, ho, h5, Sem.run_bind, run_loadAt ht h6 p.toNat h2, Result.andThen_ok, Sem.run_pure]
      | none =>
        simp only [hx] at hc
        obtain ⟨h1, hc⟩ := bif_some hc
        cases hc
        obtain ⟨b, q, cs, e, fr, v, h3, h4, h5, hK⟩ := hp
        refine ⟨v, _, fun w' hw' => ?_, by rw [e1]; exact hr.put e2 e3 v, hK, rfl, rfl⟩
        simp only [execOp, ho, hr.eval h1, h3, Sem.run_bind, run_loadAt ht (hw'.1 b _ h4) q h5, Result.andThen_ok, Sem.run_pure]
    | store t x v =>
      simp only [ho] at hc
      obtain ⟨h1, hc⟩ := bif_some hc
      simp only [Option.bind_eq_some_iff] at hc
      obtain ⟨⟨g, n⟩, ht, hc⟩ := hc
      cases hx : locX E x with
      | some y =>
        simp only [hx] at hc
        cases hc
        exact hp.elim
      | none =>
        simp only [hx] at hc
        obtain ⟨h2, hc⟩ := bif_some hc
        cases hc
        exact hp.elim
    | buildSlice t len parts =>
      simp only [ho, Option.bind_eq_some_iff] at hc
      obtain ⟨d, hd, ⟨e, i⟩, hi, z, hz, hc⟩ := hc
      obtain ⟨h1, hc⟩ := bif_some hc
      cases hc
      exact hp.elim
    | makeSlice t l c =>
      simp only [ho, Option.bind_eq_some_iff] at hc
      obtain ⟨d, hd, ⟨e, i⟩, hi, z, hz, hc⟩ := hc
      obtain ⟨h1, hc⟩ := bif_some hc
      cases hc
      exact hp.elim
    | convert s t x =>
      simp only [ho] at hc
      cases h1 : slcT P s with
      | some e =>
        cases h2 : slcT P t with
        | some e' => rw [h1, h2] at hc; exact takes_pure hc hp hr
        | none =>
          rw [h1, h2] at hc
          obtain ⟨h3, hc⟩ := bif_some hc
          simp only [Bool.and_eq_true] at h3
          simp only [Option.map_eq_some_iff] at hc
          obtain ⟨d, hd, hc⟩ := hc
          cases hc
          obtain ⟨e1, e2, e3⟩ := plainD_some hd
          obtain ⟨xs, hxs, hK⟩ := hp
          refine ⟨.string (strOfNums xs), _, fun w' hw' => ?_, by rw [e1]; exact hr.put e2 e3 _, hK, rfl, rfl⟩
          simp only [execOp, ho, hr.eval h3.2, Sem.run_bind, run_b2s (slcT_some h1) (isKind_some h3.1.2) (isStr_some h3.1.1) hw'.1 hxs, Result.andThen_ok, Sem.run_pure]
      | none =>
        cases h2 : slcT P t with
        | none => rw [h1, h2] at hc; exact takes_pure hc hp hr
        | some e =>
          rw [h1, h2] at hc
          obtain ⟨h3, hc⟩ := bif_some hc
          simp only [Option.map_eq_some_iff] at hc
          obtain ⟨d, hd, hc⟩ := hc
          cases hc
          exact hp.elim
    | call c =>
      obtain ⟨callee, args, ts⟩ := c
      simp only [ho] at hc
      cases callee with
      | builtin b =>
        cases b with
        | append =>
          simp only at hc
          split at hc
          · rename_i x y t t' hx ht
            simp only [Option.bind_eq_some_iff] at hc
            obtain ⟨d, hd, ⟨e, i⟩, hi, z, hz, hc⟩ := hc
            cases hb : (plainX E x && plainX E y && (slcT P t').isSome && Nat.beq z.cells.size i.size) with
            | true =>
              simp only [hb, cond_true] at hc
              cases hc
              exact hp.elim
            | false =>
              simp only [hb, cond_false] at hc
              obtain ⟨h1, hc⟩ := bif_some hc
              cases hc
              exact hp.elim
          · cases hc
        | delete =>
          simp only at hc
          split at hc
          · obtain ⟨h1, hc⟩ := bif_some hc
            cases hc
            exact hp.elim
          · cases hc
        | copy =>
          simp only at hc
          split at hc
          · simp only [Option.bind_eq_some_iff] at hc
            obtain ⟨d, hd, ⟨e, i⟩, hi, hc⟩ := hc
            obtain ⟨h1, hc⟩ := bif_some hc
            cases hc
            exact hp.elim
          · cases hc
        | _ => exact takes_pure hc hp hr
      | invoke r m => exact takes_pure hc hp hr
      | value x =>
        cases x with
        | func f =>
          simp only [Option.bind_eq_some_iff] at hc
          obtain ⟨d, hd, hc⟩ := hc
          obtain ⟨h1, hc⟩ := bif_some hc
          cases hc
          exact hp.elim
        | _ =>
          simp only [Option.bind_eq_some_iff] at hc
          obtain ⟨d, hd, hc⟩ := hc
          obtain ⟨h1, hc⟩ := bif_some hc
          cases hc
          exact hp.elim
    | makeMap t r =>
      simp only [ho] at hc
      obtain ⟨h1, hc⟩ := bif_some hc
      obtain ⟨d, hd, hc⟩ := Option.map_eq_some_iff.1 hc
      cases hc
      exact hp.elim
    | lookup t x k ok =>
      simp only [ho, Option.bind_eq_some_iff] at hc
      obtain ⟨d, hd, e, he, z, hz, hc⟩ := hc
      obtain ⟨h1, hc⟩ := bif_some hc
      cases hc
      exact hp.elim
    | mapUpdate t x k v =>
      simp only [ho] at hc
      obtain ⟨h1, hc⟩ := bif_some hc
      cases hc
      exact hp.elim
    | _ => simp only [ho] at hc; exact takes_pure hc hp hr
end
end Go.Proofs.Ytbmhdmkmnhaffaa.V
end
section
/- Library V, part G: regions that draw their order; whole code. No program here. -/
set_option linter.unusedVariables false
set_option linter.unusedSimpArgs false
namespace Go.Proofs.Ytbmhdmkmnhaffaa.V
section
variable {P : Program} {E : Env} {st : St} {w0 : World} {G0 : GH} {β : Nat → Option Nat} {a : Act} {w : World}
theorem SW_of {Gs : GH} {Ls : List Nat} {β0 : Nat → Option Nat} {l0 : Nat → Array Value} (hr : RelB E w0 G0 β st a w) (hG : Gs.le st.G) (hβ : ∀ k, k ∈ Ls → β k = β0 k) (hl : ∀ k, k ∈ Ls → st.l k = l0 k) : SW Gs Ls β0 l0 w := by
  refine ⟨fun b o hb => hr.view b o (hG b o hb), fun k hk b hb => ?_⟩
  obtain ⟨_, _, e, h⟩ := hr.loc k b (by rw [hβ k hk]; exact hb)
  exact ⟨e, by rw [← hl k hk]; exact h⟩
theorem alts_mem {f : Nat → Option (Stp × Plan)} {Gs : GH} {Ls : List Nat} {K : St → Prop} : ∀ {is : List Nat} {pl : Plan}, alts f is = some pl → vplan P E Gs Ls K pl st → ∀ i ∈ is, ∃ s rest, f i = some (s, rest) ∧
      (bif gW st s.g then pv P E s.p st (fun st' => stands Gs Ls st st' ∧ vplan P E Gs Ls K rest st') else vplan P E Gs Ls K rest (skipS st s.d))
  | [], pl, h, hv, i, hi => by cases hi
  | j :: js, pl, h, hv, i, hi => by
    simp only [alts, Option.bind_eq_some_iff, Option.map_eq_some_iff] at h
    obtain ⟨⟨s, rest⟩, hf, more, hm, h⟩ := h
    subst h
    obtain ⟨h1, h2⟩ := hv
    rcases List.mem_cons.1 hi with rfl | hi
    · exact ⟨s, rest, hf, h1⟩
    · exact alts_mem hm h2 i hi
theorem newD_disj {Ls : List Nat} {d : Option Nat} (h : disj Ls (newD E d) = true) : ∀ k, k ∈ Ls → k ∉ newD E d := by
  intro k hk
  have := List.all_eq_true.1 h k hk
  simpa using this
theorem plan_sound {ops : Array Oper} {Gs : GH} {Ls : List Nat} {β0 : Nat → Option Nat} {l0 : Nat → Array Value} {K : St → Prop} {Q : Exit → St → Prop} (hQ : ∀ st, K st → Q .normal st) (hs : Region.noSelect ops = true) :
    ∀ (n : Nat) (listed : Array Bool) (pl : Plan) (st : St) (β : Nat → Option Nat) (a : Act) (w : World), mkPlan P E ops Ls n listed = some pl → vplan P E Gs Ls K pl st → RelB E w0 G0 β st a w → Gs.le st.G → (∀ k, k ∈ Ls → β k = β0 k) → (∀ k, k ∈ Ls → st.l k = l0 k) →
      wpAnyH P .any ops (NoPanic (lift E w0 G0 Q)) (SW Gs Ls β0 l0) n listed a w := by
  intro n
  induction n with
  | zero =>
    intro listed pl st β a w hm hv hr hG hβ hl
    simp only [mkPlan] at hm
    split at hm
    · rename_i hrd
      cases hm
      exact wpAnyH_done hrd ⟨st, ⟨β, hr⟩, hQ st hv⟩ 0
    · cases hm
  | succ n ih =>
    intro listed pl st β a w hm hv hr hG hβ hl
    simp only [mkPlan] at hm
    split at hm
    · rename_i hrd
      cases hm
      exact wpAnyH_done hrd ⟨st, ⟨β, hr⟩, hQ st hv⟩ _
    · rename_i r rs hrd
      cases hfd : (r :: rs).find? (canTake P E ops Ls listed) with
      | some i =>
        rw [hfd] at hm
        simp only [Option.bind_eq_some_iff, Option.map_eq_some_iff] at hm
        obtain ⟨s, hs1, rest, hrest, hm⟩ := hm
        subst hm
        have hi := List.mem_of_find?_eq_some hfd
        have hct := List.find?_some hfd
        simp only [canTake, hs1, Bool.and_eq_true] at hct
        obtain ⟨o, ho, hg, hp, hd, hok⟩ := stepAt_some hs1
        have hw := compG_wanted hg hr
        have hcont : (Region.ready .any ops listed).contains i = true := by rw [hrd]; simpa using hi
        simp only [vplan] at hv
        cases hgw : gW st s.g with
        | true =>
          rw [hgw] at hv
          obtain ⟨v, st', h1, h2, h3, h4, h5⟩ := pvT_sound hp hv hr hβ hl
          refine wpAnyH_take ho hs hct.2 hcont (fun c a w h => h) (v := v) (.inl ⟨hw.trans hgw, h1⟩) (SW_of hr hG hβ hl) ?_
          exact ih _ rest st' β _ w hrest h3 h2 (by rw [h5]; exact hG) hβ (by rw [h4]; exact hl)
        | false =>
          rw [hgw] at hv
          refine wpAnyH_take ho hs hct.2 hcont (fun c a w h => h) (v := undef) (.inr ⟨hw.trans hgw, rfl⟩) (SW_of hr hG hβ hl) ?_
          rw [hd]
          exact ih _ rest _ β _ w hrest hv (hr.skip hok) hG hβ hl
      | none =>
        rw [hfd] at hm
        refine wpAnyH_all hrd (by simp) fun i hi => ?_
        obtain ⟨s, rest, hf, hv1⟩ := alts_mem hm hv i hi
        simp only [Option.bind_eq_some_iff] at hf
        obtain ⟨s', hs1, hf⟩ := hf
        obtain ⟨hdis, hf⟩ := bif_some hf
        simp only [Option.map_eq_some_iff] at hf
        obtain ⟨rest', hrest, hf⟩ := hf
        cases hf
        obtain ⟨o, ho, hg, hp, hd, hok⟩ := stepAt_some hs1
        have hw := compG_wanted hg hr
        unfold wpOp
        simp only [ho]
        cases hgw : gW st s.g with
        | true =>
          rw [hgw] at hv1
          rw [if_pos (hw.trans hgw)]
          have hv2 : pv P E s.p st (fun st' => stands Gs Ls st st' ∧ vplan P E Gs Ls K rest st') := hv1
          refine .inl (compOpS_sound hp hv2 w0 G0 β a w hr _ _ ?_)
          rintro β' st' a' w' hr' hb ⟨⟨hG', hl'⟩, hv'⟩
          have hβ' : ∀ k, k ∈ Ls → β' k = β0 k := fun k hk => (hb k (by rw [hd]; exact newD_disj hdis k hk)).trans (hβ k hk)
          have hl'' : ∀ k, k ∈ Ls → st'.l k = l0 k := fun k hk => (hl' k hk).trans (hl k hk)
          exact ⟨SW_of hr' hG' hβ' hl'', ih _ rest st' β' a' w' hrest hv' hr' hG' hβ' hl''⟩
        | false =>
          rw [hgw] at hv1
          rw [if_neg (by rw [hw, hgw]; simp), hd]
          exact ⟨SW_of (hr.skip hok) hG hβ hl, ih _ rest _ β _ w hrest hv1 (hr.skip hok) hG hβ hl⟩
/-- Within the fence that bars nothing. -/
theorem any_in {ro : Option Nat} {m : Nat} {ops : Array Oper} {Q : Exit → Act → World → Prop} (hn : ops.toList.all noDefer = true) (hl : ¬ LetsOut Q) : ∀ (n : Nat) (listed : Array Bool) (a : Act) (w : World), wpAny P .any ops Q n listed a w → wpAnyIn (WF ro) m P .any ops Q n listed a w
  | 0, listed, a, w, h => h
  | n + 1, listed, a, w, h => by
    refine ⟨h.1, fun i hi => ?_⟩
    have h2 := h.2 i hi
    unfold wpOp at h2
    unfold wpOpIn
    cases ho : ops[i]? with
    | none => rw [ho] at h2; exact any_in hn hl n _ a w h2
    | some o =>
      rw [ho] at h2
      dsimp only at h2 ⊢
      have hd : noDefer o = true := List.all_eq_true.1 hn o (List.mem_of_getElem? (by rw [Array.getElem?_toList]; exact ho))
      split at h2
      · rename_i hw
        rw [if_pos hw]
        rcases h2 with h2 | h2
        · exact Oper.wpIn_mono (fun a w => any_in hn hl n _ a w) (oper_in hd h2)
        · exact absurd h2.2 hl
      · rename_i hw
        rw [if_neg hw]
        exact ⟨fun _ _ => trivial, any_in hn hl n _ _ w h2⟩
def onlyN (K : St → Prop) : Exit → St → Prop
  | .normal, st => K st
  | _, _ => False
theorem onlyN_out {K : St → Prop} : ¬ LetsOut (lift E w0 G0 (onlyN K)) := fun ⟨_, _, _, _, h⟩ => h
theorem onlyN_to {K : St → Prop} {Q : Exit → St → Prop} (h : ∀ st, K st → Q .normal st) : ∀ e a w, lift E w0 G0 (onlyN K) e a w → lift E w0 G0 Q e a w := by
  rintro e a w ⟨st, hr, hq⟩
  cases e with
  | normal => exact ⟨st, hr, h st hq⟩
  | _ => exact hq.elim
theorem Vw_draw {ro : Option Nat} {ops : Array Oper} {id : Nat} {pl : Plan} {Q : Exit → St → Prop} (Ls : List Nat) (Gs : GH) (hm : P.follows .mixedOrders = true) (hs : Region.noSelect ops = true) (hn : ops.toList.all noDefer = true) (hpl : mkPlan P E ops Ls ops.size (Array.replicate ops.size false) = some pl) (hG : Gs.le st.G)
    (hv : vplan P E Gs Ls (Q .normal) pl st) : Vw P E ro (.region id ops true) Q st := by
  rintro m w0 G0 a w ⟨β, hr⟩
  have h1 := plan_sound (w0 := w0) (G0 := G0) (β0 := β) (l0 := st.l) (Q := onlyN (Q .normal)) (fun _ h => h) hs _ _ pl st β a w.drew hpl hv hr.drew hG (fun _ _ => rfl) (fun _ _ => rfl)
  have h2 := any_in (ro := ro) (m := m) hn (fun h => by obtain ⟨a, w, h⟩ := h; exact onlyN_out ⟨a, w, h⟩) _ _ _ _ (wpAny_of_held _ _ _ _ h1)
  exact wpIn_mono (wpIn_region_any hm h2) fun e a w h => onlyN_to (fun _ h => h) e a w (NoPanic.imp e a w h)
end
/-! ### Regions that draw, by what each operation comes to: whatever the order -/
/-- What holds in such a region where the operations D are done. -/
structure Ext (st : St) (ss : List Stp) (Φ : Nat → Value → GH → Prop) (D : Nat → Prop) (st' : St) : Prop where
  l : st'.l = st.l
  G : st.G.le st'.G
  s : ∀ k, (∀ s ∈ ss, s.d ≠ some k) → st'.s k = st.s k
  done : ∀ j, D j → ∀ s d, ss[j]? = some s → s.d = some d → Φ j (st'.s d) st'.G
def flowPost (s : Stp) (φ : Value → GH → Prop) (st' st'' : St) : Prop := st''.l = st'.l ∧ st'.G.le st''.G ∧ (∀ k, s.d ≠ some k → st''.s k = st'.s k) ∧ ∀ d, s.d = some d → φ (st''.s d) st''.G
def FlowV (P : Program) (E : Env) (ss : List Stp) (deps : List (List Nat)) (K : St → Prop) (st : St) : Prop :=
  ∃ Φ : Nat → Value → GH → Prop, (∀ i v G G', Φ i v G → G.le G' → Φ i v G') ∧
    (∀ i s, ss[i]? = some s → ∀ st', Ext st ss Φ (fun j => j ∈ deps.getD i []) st' → vops P E [s] (flowPost s (Φ i) st') st') ∧
    (∀ st', Ext st ss Φ (fun j => j < ss.length) st' → K st')
def onceD : List Stp → Bool
  | [] => true
  | s :: r => r.all (fun x => match s.d, x.d with | some a, some b => !Nat.beq a b | _, _ => true) && onceD r
theorem onceD_ne : ∀ {ss : List Stp} {i j : Nat} {s x : Stp} {d : Nat}, onceD ss = true → ss[i]? = some s → ss[j]? = some x → i ≠ j → s.d = some d → x.d ≠ some d
  | [], i, j, s, x, d, _, hi, _, _, _ => by simp at hi
  | y :: r, i, j, s, x, d, h, hi, hj, hne, hs => by
    simp only [onceD, Bool.and_eq_true] at h
    have key : ∀ z ∈ r, ∀ d, y.d = some d → z.d ≠ some d := fun z hz d hd he => by
      have := List.all_eq_true.1 h.1 z hz
      rw [hd, he] at this
      simp at this
    cases i with
    | zero =>
      simp at hi; subst hi
      cases j with
      | zero => exact absurd rfl hne
      | succ j => simp at hj; exact key x (List.mem_of_getElem? hj) d hs
    | succ i =>
      simp at hi
      cases j with
      | zero => simp at hj; subst hj; exact fun he => key s (List.mem_of_getElem? hi) d he hs
      | succ j => simp at hj; exact onceD_ne h.2 hi hj (by omega) hs
def edgesOf (o : Oper) : List Nat := (o.after.toList.filter (Region.binds .any)).map (·.on)
def backwards : List Oper → Nat → Bool
  | [], _ => true
  | o :: r, i => (edgesOf o).all (fun j => Nat.blt j i) && backwards r (i + 1)
theorem backwards_lt : ∀ {l : List Oper} {n i : Nat} {o : Oper}, backwards l n = true → l[i]? = some o → ∀ j ∈ edgesOf o, j < n + i
  | [], n, i, o, _, hi, _, _ => by simp at hi
  | x :: r, n, i, o, h, hi, j, hj => by
    simp only [backwards, Bool.and_eq_true] at h
    cases i with
    | zero => simp at hi; subst hi; exact blt_lt (List.all_eq_true.1 h.1 j hj)
    | succ i => simp at hi; have := backwards_lt h.2 hi j hj; omega
theorem getDset (l : Array Bool) (d : Bool) {i j : Nat} (h : j ≠ i) : (l.setIfInBounds i true).getD j d = l.getD j d := by
  rw [Array.getD_eq_getD_getElem?, Array.getD_eq_getD_getElem?, Array.getElem?_setIfInBounds_ne (Ne.symm h)]
def flowC (P : Program) (E : Env) (ops : Array Oper) : Option (List Stp × List (List Nat)) :=
  (ops.toList.mapM (compStp P E ops)).bind fun ss => bif onceD ss && backwards ops.toList 0 && ops.toList.all (fun o => (newD E o.dst).isEmpty) then some (ss, ops.toList.map edgesOf) else none
theorem mapM_get2 {α β : Type} {f : α → Option β} : ∀ {l : List α} {r : List β}, l.mapM f = some r → r.length = l.length ∧ ∀ (i : Nat) (x : α), l[i]? = some x → ∃ y, r[i]? = some y ∧ f x = some y
  | [], r, h => by simp at h; subst h; simp
  | x :: l, r, h => by
    rw [List.mapM_cons] at h
    cases h1 : f x with
    | none => rw [h1] at h; cases h
    | some y =>
      rw [h1] at h
      cases h2 : l.mapM f with
      | none => rw [h2] at h; cases h
      | some r' =>
        rw [h2] at h; cases h
        obtain ⟨e1, e2⟩ := mapM_get2 h2
        refine ⟨by simp [e1], fun i z hz => ?_⟩
        cases i with
        | zero => simp at hz; subst hz; exact ⟨y, by simp, h1⟩
        | succ i => simp at hz; obtain ⟨y', h3, h4⟩ := e2 i z hz; exact ⟨y', by simpa using h3, h4⟩
section
variable {P : Program} {E : Env} {st : St} {w0 : World} {G0 : GH}
theorem flow_any {ops : Array Oper} {ss : List Stp} {Φ : Nat → Value → GH → Prop} {Q : Exit → St → Prop} (hm : ops.toList.mapM (compStp P E ops) = some ss) (ho : onceD ss = true) (hb : backwards ops.toList 0 = true) (hn : ∀ o ∈ ops.toList, newD E o.dst = [])
    (mono : ∀ i v G G', Φ i v G → G.le G' → Φ i v G') (step : ∀ i s o, ss[i]? = some s → ops[i]? = some o → ∀ st', Ext st ss Φ (fun j => j ∈ edgesOf o) st' → vops P E [s] (flowPost s (Φ i) st') st')
    (fin : ∀ st', Ext st ss Φ (fun j => j < ss.length) st' → Q .normal st') :
    ∀ (n : Nat) (listed : Array Bool) (st' : St) (β : Nat → Option Nat) (a : Act) (w : World), listed.size = ops.size → ((List.range ops.size).filter fun j => !listed.getD j true).length = n → RelB E w0 G0 β st' a w → Ext st ss Φ (fun j => listed.getD j false = true) st' →
      wpAny P .any ops (lift E w0 G0 Q) n listed a w := by
  obtain ⟨hlen, hget⟩ := mapM_get2 hm
  have hend : ∀ (listed : Array Bool) (st' : St) (β : Nat → Option Nat) (a : Act) (w : World), listed.size = ops.size → RelB E w0 G0 β st' a w → Ext st ss Φ (fun j => listed.getD j false = true) st' → Region.ready .any ops listed = [] → lift E w0 G0 Q .normal a w := by
    intro listed st' β a w hsz hr hx hrd
    refine ⟨st', ⟨β, hr⟩, fin st' ⟨hx.l, hx.G, hx.s, fun j hj s d hs hd => hx.done j ?_ s d hs hd⟩⟩
    have hjs : j < ops.size := by rw [hlen] at hj; simpa using hj
    clear hs hd s d
    induction j using Nat.strongRecOn with
    | _ j ih =>
      cases e : listed.getD j false with
      | true => rfl
      | false =>
        exfalso
        have hjl : j < listed.size := by omega
        have e1 : listed.getD j true = false := by simp [Array.getD, hjl] at e ⊢; exact e
        obtain ⟨o, ho'⟩ : ∃ o, ops[j]? = some o := ⟨_, Array.getElem?_eq_getElem hjs⟩
        have : j ∈ Region.ready .any ops listed := by
          unfold Region.ready
          refine List.mem_filter.2 ⟨List.mem_range.2 hjs, ?_⟩
          rw [e1, ho']
          simp only [Bool.not_false, Bool.true_and, Option.map_some, Option.getD_some]
          rw [← Array.all_toList]
          refine List.all_eq_true.2 fun x hx' => ?_
          cases hbx : Region.binds .any x with
          | false => rfl
          | true =>
            have hmem : x.on ∈ edgesOf o := List.mem_map.2 ⟨x, List.mem_filter.2 ⟨hx', hbx⟩, rfl⟩
            have hlt := backwards_lt hb (i := j) (o := o) (by rw [Array.getElem?_toList]; exact ho') x.on hmem
            simp only [Bool.not_true, Bool.false_or]
            exact ih x.on (by omega) (by rw [hlen]; simp; omega) (by omega)
        rw [hrd] at this
        cases this
  intro n
  induction n with
  | zero =>
    intro listed st' β a w hsz hc hr hx
    have hrd : Region.ready .any ops listed = [] := by
      refine List.eq_nil_iff_forall_not_mem.2 fun i hi => ?_
      unfold Region.ready at hi
      obtain ⟨h1, h2⟩ := List.mem_filter.1 hi
      simp only [Bool.and_eq_true] at h2
      have : i ∈ (List.range ops.size).filter fun j => !listed.getD j true := List.mem_filter.2 ⟨h1, h2.1⟩
      rw [List.eq_nil_of_length_eq_zero hc] at this
      cases this
    exact ⟨hrd, hend listed st' β a w hsz hr hx hrd⟩
  | succ n ih =>
    intro listed st' β a w hsz hc hr hx
    refine ⟨fun hrd => hend listed st' β a w hsz hr hx hrd, fun i hi => ?_⟩
    unfold Region.ready at hi
    obtain ⟨h1, h2⟩ := List.mem_filter.1 hi
    have his := List.mem_range.1 h1
    obtain ⟨o, ho'⟩ : ∃ o, ops[i]? = some o := ⟨_, Array.getElem?_eq_getElem his⟩
    rw [ho'] at h2
    simp only [Bool.and_eq_true, Option.map_some, Option.getD_some] at h2
    obtain ⟨h2, h3⟩ := h2
    have hil : i < listed.size := by omega
    have hdeps : ∀ j ∈ edgesOf o, listed.getD j false = true := fun j hj => by
      obtain ⟨x, hx1, rfl⟩ := List.mem_map.1 hj
      obtain ⟨hx2, hx3⟩ := List.mem_filter.1 hx1
      rw [← Array.all_toList] at h3
      have := List.all_eq_true.1 h3 x hx2
      rw [hx3] at this
      simpa using this
    obtain ⟨s, hs, hcs⟩ := hget i o (by rw [Array.getElem?_toList]; exact ho')
    have hv := step i s o hs ho' st' ⟨hx.l, hx.G, hx.s, fun j hj => hx.done j (hdeps j hj)⟩
    have hcnt : ((List.range ops.size).filter fun j => !(listed.setIfInBounds i true).getD j true).length = n := by
      have e0 : ∀ l : List Nat, l.Nodup → i ∈ l → (l.filter fun j => !(listed.setIfInBounds i true).getD j true).length + 1 = (l.filter fun j => !listed.getD j true).length := by
        intro l
        induction l with
        | nil => intro _ h; cases h
        | cons x l ihl =>
          intro hnd hmem
          rw [List.nodup_cons] at hnd
          by_cases hxi : x = i
          · subst hxi
            have e1 : (!(listed.setIfInBounds x true).getD x true) = false := by simp [Array.getD, hil]
            rw [List.filter_cons, List.filter_cons, if_neg (by rw [e1]; simp), if_pos h2, List.length_cons]
            congr 2
            refine List.filter_congr fun j hj => ?_
            have hne : x ≠ j := fun e => hnd.1 (e ▸ hj)
            exact congrArg _ (getDset _ true (Ne.symm hne))
          · have e1 : (listed.setIfInBounds i true).getD x true = listed.getD x true := getDset _ true hxi
            rw [List.filter_cons, List.filter_cons, e1]
            have hm' : i ∈ l := (List.mem_cons.1 hmem).resolve_left (fun e => hxi e.symm)
            have := ihl hnd.2 hm'
            split
            · rw [List.length_cons, List.length_cons, this]
            · exact this
      have := e0 _ List.nodup_range h1
      omega
    have next : ∀ (st'' : St), flowPost s (Φ i) st' st'' → Ext st ss Φ (fun j => (listed.setIfInBounds i true).getD j false = true) st'' := by
      rintro st'' ⟨p1, p2, p3, p4⟩
      refine ⟨p1.trans hx.l, GH.le_trans hx.G p2, fun k hk => (p3 k (hk s (List.mem_of_getElem? hs))).trans (hx.s k hk), fun j hj x d hxj hd => ?_⟩
      by_cases hji : j = i
      · subst hji
        rw [hs] at hxj; cases hxj
        exact p4 d hd
      · have hj' : listed.getD j false = true := (getDset _ false hji).symm.trans hj
        have hne := onceD_ne ho hxj hs hji hd
        rw [p3 d hne]
        exact mono j _ _ _ (hx.done j hj' x d hxj hd) p2
    simp only [compStp, Option.bind_eq_some_iff] at hcs
    obtain ⟨g, hg, p, hp, hcs⟩ := hcs
    obtain ⟨hd, hcs⟩ := bif_some hcs
    cases hcs
    have hw := compG_wanted hg hr
    have hsz' : (listed.setIfInBounds i true).size = ops.size := by simp [hsz]
    have hnew := hn o (by exact List.mem_of_getElem? (by rw [Array.getElem?_toList]; exact ho'))
    unfold wpOp
    simp only [ho']
    have go : pv P E p st' (flowPost ⟨g, o.dst, p⟩ (Φ i) st') → o.wp P a w (wpAny P .any ops (lift E w0 G0 Q) n (listed.setIfInBounds i true)) (lift E w0 G0 Q) := fun hpv =>
      compOpS_sound hp hpv w0 G0 β a w hr _ _ fun β' st'' a' w' hr' _ hpost => ih _ st'' β' a' w' hsz' hcnt hr' (next st'' hpost)
    cases g with
    | none =>
      rw [if_pos (show _ = true from hw)]
      exact .inl (go hv)
    | some x =>
      obtain ⟨t, b⟩ := x
      simp only [vops] at hv
      cases hbb : isB (st'.s t) b with
      | true =>
        rw [hbb] at hv
        rw [if_pos (hw.trans hbb)]
        exact .inl (go hv)
      | false =>
        rw [hbb] at hv
        rw [if_neg (by rw [hw]; simp [gW, hbb])]
        exact ih _ _ β _ w hsz' hcnt (hr.skip hd) (next _ hv)
theorem Vw_flow {ro : Option Nat} {ops : Array Oper} {id : Nat} {ss : List Stp} {deps : List (List Nat)} {Q : Exit → St → Prop} (hm : P.follows .mixedOrders = true) (hn : ops.toList.all noDefer = true) (hc : flowC P E ops = some (ss, deps)) (hv : FlowV P E ss deps (Q .normal) st) : Vw P E ro (.region id ops true) Q st := by
  rintro m w0 G0 a w ⟨β, hr⟩
  simp only [flowC, Option.bind_eq_some_iff] at hc
  obtain ⟨ss', h1, hc⟩ := hc
  obtain ⟨h2, hc⟩ := bif_some hc
  simp only [Bool.and_eq_true] at h2
  cases hc
  obtain ⟨Φ, mono, step, fin⟩ := hv
  refine wpIn_mono (wpIn_region_any hm (any_in hn onlyN_out _ _ _ _ (flow_any (Q := onlyN (Q .normal)) (Φ := Φ) (st := st) h1 h2.1.1 h2.1.2 (fun o ho => ?_) mono (fun i s o hs ho st' hx => step i s hs st' ?_) fin ops.size _ st β a w.drew (by simp) ?_ hr.drew ⟨rfl, GH.le_refl _, fun _ _ => rfl, fun j hj => ?_⟩))) (onlyN_to fun _ h => h)
  · exact List.isEmpty_iff.1 (List.all_eq_true.1 h2.2 o ho)
  · have : (ops.toList.map edgesOf).getD i [] = edgesOf o := by simp [List.getD, ho]
    rw [this]; exact hx
  · rw [List.filter_eq_self.2 fun j hj => ?_, List.length_range]
    have := List.mem_range.1 hj
    simp [Array.getD, this]
  · simp [Array.getD] at hj
end
/-! ### Loops over functions -/
/-- All that is known but one block. -/
def unp (G : GH) (l : Nat) : GH := fun c => if c = l then none else G c
theorem unp_le (G : GH) (l : Nat) : (unp G l).le G := fun c o h => by
  unfold unp at h; split at h
  · cases h
  · exact h
theorem unp_self (G : GH) (l : Nat) : unp G l l = none := by simp [unp]
theorem unp_ne {G : GH} {l c : Nat} (h : c ≠ l) : unp G l c = G c := by simp [unp, h]
theorem le_unp {B G : GH} {l : Nat} (h : B.le G) (hn : B l = none) : B.le (unp G l) := fun c o hc => by
  rw [unp_ne (fun e => by subst e; rw [hn] at hc; cases hc)]; exact h c o hc
/-- CONTRACT of what is ranged over: it tells n items, one behind the other; Gi is what it must find as it was. -/
def IterC (P : Program) (gf : FuncId) (lb : List Value) (Gi : GH) (n : Nat) (Item : Nat → List Value → GH → GH → Prop) : Prop :=
  (∀ k x G0 G l o, G l = some o → o.isCells = false → Item k x G0 G → Item k x (unp G0 l) (unp G l)) ∧
  ∀ (yl : Nat) (J : Nat → GH → Prop) (Jx : GH → Prop), (∀ k G G', J k G → G.le G' → J k G') → (∀ G G', Jx G → G.le G' → Jx G') → (∀ k G, J k G → Gi.le G) →
    (∀ k x G0 G, k < n → J k G0 → G0.le G → Item k x G0 G → HY P yl x.toArray G fun v G' => (v = .bool true ∧ J (k + 1) G') ∨ (v = .bool false ∧ Jx G')) →
    ∀ G, J 0 G → HC P gf (Value.func (.yield yl) #[] #[] :: lb).toArray G fun _ G' => J n G' ∨ Jx G'
def setMany : (Nat → Value) → List Nat → List Value → Nat → Value
  | s, p :: ps, x :: xs => setMany (setS s p x) ps xs
  | s, _, _ => s
/-- Slots that held addresses of local variables hold nothing. -/
def noLoc (E : Env) (s : Nat → Value) : Nat → Value := fun t => bif (lookE E.env t).isSome then undef else s t
def roundQ (I : Nat → GH → Prop) (Ix : Exit → GH → Prop) (k : Nat) : Exit → St → Prop
  | .normal, st => I (k + 1) st.G
  | .ret, st => Ix .ret st.G
  | .exit id, st => Ix (.exit id) st.G
  | _, _ => False
def RangeV (P : Program) (E : Env) (V : (Exit → St → Prop) → St → Prop) (g : Operand) (ps : List Nat) (Q : Exit → St → Prop) (st : St) : Prop :=
  ∃ (gf : FuncId) (lb : List Value) (Gi : GH) (n : Nat) (Item : Nat → List Value → GH → GH → Prop) (I : Nat → GH → Prop) (Ix : Exit → GH → Prop),
    ev st g = .func (.func gf) #[] lb.toArray ∧ callable P gf = true ∧ IterC P gf lb Gi n Item ∧
    (∀ k G G', I k G → G.le G' → I k G') ∧ (∀ e G G', Ix e G → G.le G' → Ix e G') ∧ (∀ k G, I k G → Gi.le G) ∧ I 0 st.G ∧
    (∀ k x G0 G, k < n → I k G0 → G0.le G → Item k x G0 G → x.length = ps.length ∧ V (roundQ I Ix k) ⟨setMany (noLoc E st.s) ps x, st.l, G⟩) ∧
    (∀ G', I n G' → Q .normal ⟨st.s, st.l, G'⟩) ∧ (∀ G', Ix .ret G' → Q .ret ⟨st.s, st.l, G'⟩) ∧ ∀ id G', Ix (.exit id) G' → Q (.exit id) ⟨st.s, st.l, G'⟩
section
variable {P : Program} {E : Env}
theorem setMany_rel {w0 w : World} {G0 : GH} {β : Nat → Option Nat} : ∀ (ps : List Nat) (xs : List Value) (st : St) (a : Act), ps.all (fun p => (lookE E.env p).isNone && Nat.blt p E.n) = true → RelB E w0 G0 β st a w →
    RelB E w0 G0 β ⟨setMany st.s ps xs, st.l, st.G⟩ ⟨(ps.zip xs).foldl (fun t (p, v) => t.setIfInBounds p v) a.tmps, a.defers⟩ w
  | [], xs, st, a, _, h => by cases xs <;> exact h
  | p :: ps, [], st, a, _, h => h
  | p :: ps, x :: xs, st, a, hp, h => by
    simp only [List.all_cons, Bool.and_eq_true] at hp
    have h1 : lookE E.env p = none := by simpa using hp.1.1
    exact setMany_rel ps xs ⟨setS st.s p x, st.l, st.G⟩ (a.put (some p) x) hp.2 (h.put h1 (blt_lt hp.1.2) x)
/-- What stands between a round's two turns of the loop's record. -/
theorem fr_round {G G1 G2 : GH} {W w1 w3 : World} {l D : Nat} {ol oD o2 o4 : Obj} (hW : View G W) (hl : G l = some ol) (hD : G D = some oD) (hne : D ≠ l) (h1 : Fr (unp (unp G l) D) W G1 w1) (h2 : Fr G1 (w1.putObj l o2) G2 w3) :
    w1.heap[l]? = some ol ∧ w3.heap[l]? = some o2 ∧ G2 l = none ∧ G2 D = none ∧ Fr G W ((G2.put l o4).put D oD) (w3.putObj l o4) := by
  have a1 := hW.lt hl
  have a2 := hW.lt hD
  have b1 : unp (unp G l) D l = none := by rw [unp_ne (Ne.symm hne), unp_self]
  have b2 : unp (unp G l) D D = none := unp_self _ _
  have c1 := h1.none l a1 b1
  have c2 := h1.none D a2 b2
  have d1 := h1.block l a1 b1
  have d2 := h1.block D a2 b2
  have s1 : l < w1.heap.size := Nat.lt_of_lt_of_le a1 h1.size
  have s2 : D < w1.heap.size := Nat.lt_of_lt_of_le a2 h1.size
  have e1 := h2.none l (by rw [World.putObj_size]; exact s1) c1
  have e2 := h2.none D (by rw [World.putObj_size]; exact s2) c2
  have f1 := h2.block l (by rw [World.putObj_size]; exact s1) c1
  have f2 := h2.block D (by rw [World.putObj_size]; exact s2) c2
  rw [World.putObj_heap_same s1] at f1
  rw [World.putObj_heap_other hne, d2, hW D _ hD] at f2
  have s3 : l < w3.heap.size := (Array.getElem?_eq_some_iff.1 f1).1
  have sz := h2.size
  rw [World.putObj_size] at sz
  refine ⟨d1.trans (hW l _ hl), f1, e1, e2, ⟨h2.os.trans h1.os, h2.tape.trans h1.tape, h2.output.trans h1.output, ?_, fun b hb hn => ?_, fun b hb hn => ?_, fun b o hb => ?_⟩⟩
  · rw [World.putObj_size]; exact Nat.le_trans h1.size sz
  · have n1 : b ≠ l := fun e => by subst e; rw [hl] at hn; cases hn
    have n2 : b ≠ D := fun e => by subst e; rw [hD] at hn; cases hn
    have g1 : unp (unp G l) D b = none := by rw [unp_ne n2, unp_ne n1]; exact hn
    rw [World.putObj_heap_other n1, h2.block b (by rw [World.putObj_size]; exact Nat.lt_of_lt_of_le hb h1.size) (h1.none b hb g1), World.putObj_heap_other n1]
    exact h1.block b hb g1
  · have n1 : b ≠ l := fun e => by subst e; rw [hl] at hn; cases hn
    have n2 : b ≠ D := fun e => by subst e; rw [hD] at hn; cases hn
    have g1 : unp (unp G l) D b = none := by rw [unp_ne n2, unp_ne n1]; exact hn
    rw [GH.put_ne _ _ n2, GH.put_ne _ _ n1]
    exact h2.none b (by rw [World.putObj_size]; exact Nat.lt_of_lt_of_le hb h1.size) (h1.none b hb g1)
  · by_cases n2 : b = D
    · subst n2
      rw [GH.put_same] at hb; cases hb
      rw [World.putObj_heap_other hne]; exact f2
    · rw [GH.put_ne _ _ n2] at hb
      by_cases n1 : b = l
      · subst n1
        rw [GH.put_same] at hb; cases hb
        exact World.putObj_heap_same s3
      · rw [GH.put_ne _ _ n1] at hb
        rw [World.putObj_heap_other n1]; exact h2.view b o hb
def jumpOf : Exit → Option Code
  | .ret => some .ret
  | .exit id => some (.exit id)
  | _ => none
theorem Vw_range {g : Operand} {ps : Array Nat} {as body : Code} {Va : (Exit → St → Prop) → St → Prop} {Vb : (Exit → St → Prop) → St → Prop} {Q : Exit → St → Prop} {st : St} (hx : plainX E g = true) (hps : ps.toList.all (fun p => (lookE E.env p).isNone && Nat.blt p E.n) = true)
    (hA : ∀ l Q st, Va Q st → Vw P E (some l) as Q st) (hB : ∀ l Q st, Vb Q st → Vw P E (some l) body Q st)
    (h : RangeV P E (fun Q => Va (thenQ (Vb Q) (fun _ _ => False))) g ps.toList Q st) : Vw P E none (.rangeFunc g ps as body) Q st := by
  rintro m w0 G0 a w ⟨β, hr⟩
  obtain ⟨gf, lb, Gi, n, Item, I, Ix, e1, e2, ⟨hid, hit⟩, mI, mIx, hGi, h0, hb, hd, hret, hex⟩ := h
  refine wpIn_rangeFunc ?_
  intro fn hfn
  obtain ⟨rec, hrec⟩ : ∃ rec : LoopState → Option Code → Loop, rec = fun s pe => { state := s, pending := pe, fn, tmps := a.tmps, params := ps, assign := as, body, defers := w.heap.size } := ⟨_, rfl⟩
  obtain ⟨W1, hW1⟩ : ∃ W1, (w.alloc (.deferred (some []))).alloc (.loop (rec .ready none)) = W1 := ⟨_, rfl⟩
  have hf1 : Fr st.G w ((st.G.put w.heap.size (.deferred (some []))).put (w.heap.size + 1) (.loop (rec .ready none))) W1 := by
    have := (Fr.alloc hr.view (.deferred (some []))).trans (Fr.alloc (Fr.alloc hr.view (.deferred (some []))).view (.loop (rec .ready none)))
    rw [World.size_alloc] at this
    rw [← hW1]; exact this
  have hev : a.eval g = .func (.func gf) #[] lb.toArray := (hr.eval hx).trans e1
  have eg : ∀ args w, (callFunc gf args).run P w = .ok (.enter gf args) w := fun args w => callable_run (w := w) e2 args
  refine ⟨w.heap.size + 1, [{ target := .collected w.heap.size, args := #[] }], W1, { target := .fn (.func gf) lb.toArray, args := #[.func (.yield (w.heap.size + 1)) #[] #[]] }, W1, gf,
    #[.func (.yield (w.heap.size + 1)) #[] #[]] ++ lb.toArray, W1, ?_, ?_, ?_, ?_, fun h => by simp [Fence.wide] at h, ?_⟩
  · rw [← hW1, hrec]; exact run_enterLoop_outer _ _ _ _ _
  · simp only [resolve, hev]
    simp [go_sem]
  · intro f' _; trivial
  · simp [invoke, go_sem, eg]
  · generalize hD : w.heap.size = D at *
    generalize hL : D + 1 = l at *
    have hne : D ≠ l := by omega
    have hDG : st.G D = none := hr.view.fresh (by omega)
    have hLG : st.G l = none := hr.view.fresh (by omega)
    generalize hG1 : (st.G.put D (.deferred (some []))).put l (.loop (rec .ready none)) = G1 at hf1
    have hG1l : G1 l = some (.loop (rec .ready none)) := by rw [← hG1]; exact GH.put_same _ _ _
    have hG1D : G1 D = some (.deferred (some [])) := by rw [← hG1, GH.put_ne _ _ hne]; exact GH.put_same _ _ _
    have hG1n : ∀ b, b < D → st.G b = none → G1 b = none := fun b hb hn => by rw [← hG1, GH.put_ne _ _ (by omega), GH.put_ne _ _ (by omega)]; exact hn
    have hG1le : st.G.le G1 := by
      rw [← hG1]
      exact GH.le_trans (GH.le_put _ hDG) (GH.le_put _ (by rw [GH.put_ne _ _ (Ne.symm hne)]; exact hLG))
    -- the end of the loop
    have fin : ∀ (pe : Option Code) (s : LoopState) (W2 : World) (G' Gc : GH), Fr G1 W1 G' W2 → G' l = some (.loop (rec s pe)) → s ≠ .busy → G' D = some (.deferred (some [])) → Gc.le G' → Gc l = none → Gc D = none →
        ∃ w4, (Instr.endLoop l).run P W2 = .ok pe w4 ∧ Rel E w0 G0 ⟨st.s, st.l, Gc⟩ { a with defers := [{ target := .collected D, args := #[] }] ++ a.defers } w4 := by
      intro pe s W2 G' Gc hf hl hs hd' hc1 hc2 hc3
      have hl2 := hf.view l _ hl
      have hend := run_endLoop (P := P) hl2 (by rw [hrec]; exact hs)
      have hpe : (rec s pe).pending = pe := by rw [hrec]
      rw [hpe] at hend
      refine ⟨_, hend, β, ?_⟩
      have old : ∀ (o : Obj) (b : Nat), b < D → st.G b = none → Gc b = none ∧ (W2.putObj l o).heap[b]? = w.heap[b]? := fun o b hb hn => by
        have h1 : b < W1.heap.size := Nat.lt_of_lt_of_le (by omega) hf1.size
        have h2 := hf.none b h1 (hG1n b hb hn)
        refine ⟨?_, ?_⟩
        · cases e : Gc b with
          | none => rfl
          | some o => rw [hc1 b o e] at h2; cases h2
        · rw [World.putObj_heap_other (by omega), hf.block b h1 (hG1n b hb hn)]
          exact hf1.block b (by omega) hn
      refine ⟨?_, hr.size, ⟨hf.os.trans (hf1.os.trans hr.fr.os), hf.tape.trans (hf1.tape.trans hr.fr.tape), hf.output.trans (hf1.output.trans hr.fr.output), ?_, fun b hb hn => ?_, fun b hb hn => ?_, fun b o ho => ?_⟩, hr.slot, hr.ptr, fun k b hk => ?_, hr.inj⟩
      · obtain ⟨Ds, m1, m2, m3⟩ := hr.defers
        refine ⟨D :: Ds, by rw [m1]; rfl, List.nodup_cons.2 ⟨fun hm => ?_, m2⟩, fun D' hD' => ?_⟩
        · have := (Array.getElem?_eq_some_iff.1 (m3 D hm).2.2).1
          omega
        · rcases List.mem_cons.1 hD' with rfl | hD'
          · have := hr.fr.size
            exact ⟨by omega, hc3, by rw [World.putObj_heap_other hne]; exact hf.view _ _ hd'⟩
          · obtain ⟨k1, k2, k3⟩ := m3 D' hD'
            have := (Array.getElem?_eq_some_iff.1 k3).1
            obtain ⟨o1, o2⟩ := old _ D' (by omega) k2
            exact ⟨k1, o1, by rw [o2]; exact k3⟩
      · rw [World.putObj_size]; exact Nat.le_trans hr.fr.size (Nat.le_trans hf1.size hf.size)
      · have hs := hr.fr.size
        rw [(old _ b (by omega) (hr.fr.none b hb hn)).2]; exact hr.fr.block b hb hn
      · have hs := hr.fr.size
        exact (old (.deferred none) b (by omega) (hr.fr.none b hb hn)).1
      · change Gc b = some o at ho
        rw [World.putObj_heap_other (fun e => by subst e; rw [hc2] at ho; cases ho)]
        exact hf.view b o (hc1 b o ho)
      · obtain ⟨k1, k2, e, k3⟩ := hr.loc k b hk
        have := (Array.getElem?_eq_some_iff.1 k3).1
        obtain ⟨o1, o2⟩ := old _ b (by omega) k2
        exact ⟨k1, o1, e, by rw [o2]; exact k3⟩
    have hc := hit l (fun k G => G l = some (.loop (rec .ready none)) ∧ G D = some (.deferred (some [])) ∧ ∃ Gc : GH, Gc.le G ∧ Gc l = none ∧ Gc D = none ∧ I k Gc)
      (fun G => ∃ e c, jumpOf e = some c ∧ G l = some (.loop (rec .done (some c))) ∧ G D = some (.deferred (some [])) ∧ ∃ Gc : GH, Gc.le G ∧ Gc l = none ∧ Gc D = none ∧ Ix e Gc)
      (fun k G G' ⟨j1, j2, Gc, j3, j4⟩ hle => ⟨hle _ _ j1, hle _ _ j2, Gc, GH.le_trans j3 hle, j4⟩)
      (fun G G' ⟨e, c, j0, j1, j2, Gc, j3, j4⟩ hle => ⟨e, c, j0, hle _ _ j1, hle _ _ j2, Gc, GH.le_trans j3 hle, j4⟩)
      (fun k G ⟨_, _, Gc, j3, _, _, j4⟩ => GH.le_trans (hGi k Gc j4) j3)
      (by
        intro k x Ga G hk hJ hle hitm
        obtain ⟨j1, j2, Gc, j3, j4, j5, j6⟩ := hJ
        have g1 := hle _ _ j1
        have g2 := hle _ _ j2
        have hitm2 := hid k x _ _ D _ (show (unp G l) D = some _ by rw [unp_ne hne]; exact g2) rfl (hid k x Ga G l _ g1 rfl hitm)
        have hle2 : (unp (unp Ga l) D).le (unp (unp G l) D) := le_unp (le_unp (GH.le_trans (unp_le _ _) (GH.le_trans (unp_le _ _) hle)) (by rw [unp_ne (Ne.symm hne), unp_self])) (unp_self _ _)
        obtain ⟨hlen, hv⟩ := hb k x (unp (unp Ga l) D) (unp (unp G l) D) hk (mI k _ _ j6 (le_unp (le_unp j3 j4) j5)) hle2 hitm2
        intro W hW
        have hl := hW l _ g1
        have hy := run_yield (P := P) (args := x.toArray) hl (by rw [hrec]; simpa using hlen)
        have hvW : View (unp (unp G l) D) W := fun b o ho => hW b o (unp_le _ _ b o (unp_le _ _ b o ho))
        rw [hrec] at hy
        refine ⟨fn, _, as, body, hy, roundIn_of_wpIn trivial ?_⟩
        have hz : (ps.zip x.toArray).foldl (fun t (p, v) => t.setIfInBounds p v) a.tmps = (ps.toList.zip x).foldl (fun t (p, v) => t.setIfInBounds p v) a.tmps := by
          rw [← Array.foldl_toList]; simp
        have hrel : RelB E W (unp (unp G l) D) (fun _ => none) ⟨setMany (noLoc E st.s) ps.toList x, st.l, unp (unp G l) D⟩ ⟨(ps.zip x.toArray).foldl (fun t (p, v) => t.setIfInBounds p v) a.tmps, []⟩ W := by
          rw [hz]
          refine setMany_rel ps.toList x ⟨noLoc E st.s, st.l, _⟩ ⟨a.tmps, []⟩ hps ⟨Marks.nil _ _ _, hr.size, Fr.refl hvW, fun t ht => ?_, fun t k o ht hs => ?_, fun k b hb => (by cases hb), fun k k' b hb _ => (by cases hb)⟩
          · refine (hr.slot t ht).trans ?_
            simp [noLoc, ht]
          · have hs2 : noLoc E st.s t = .int .u64 o := hs
            rw [show noLoc E st.s t = undef by simp [noLoc, ht]] at hs2
            cases hs2
        refine wpIn_mono (hA l _ _ hv 0 W _ _ W ⟨_, hrel⟩) ?_
        rintro e a1 w1 ⟨st1, ⟨β1, hr1⟩, hq⟩
        cases e with
        | normal =>
          have hl1 : w1.heap[l]? = some (.loop (rec .ready none)) := by
            rw [hr1.fr.block l (hW.lt g1) (by rw [unp_ne (Ne.symm hne), unp_self])]; exact hl
          refine ⟨_, run_beginRound hl1 (by rw [hrec]), ?_⟩
          have hvl : unp (unp G l) D l = none := by rw [unp_ne (Ne.symm hne), unp_self]
          have hn1 : st1.G l = none := hr1.fr.none l (hW.lt g1) hvl
          generalize hbz : Obj.loop { rec .ready none with state := .busy } = ob
          have hl1lt := (Array.getElem?_eq_some_iff.1 hl1).1
          have hrel2 : RelB E (W.putObj l ob) (unp (unp G l) D) β1 st1 a1 (w1.putObj l ob) := by
            refine ⟨?_, hr1.size, ⟨hr1.fr.os, hr1.fr.tape, hr1.fr.output, by rw [World.putObj_size, World.putObj_size]; exact hr1.fr.size, fun b hb hn => ?_, fun b hb hn => hr1.fr.none b (by rw [World.putObj_size] at hb; exact hb) hn, fun b o ho => ?_⟩, hr1.slot, hr1.ptr, fun k b hb => ?_, hr1.inj⟩
            · obtain ⟨Ds, m1, m2, m3⟩ := hr1.defers
              refine ⟨Ds, m1, m2, fun D' hD' => ?_⟩
              obtain ⟨k1, k2, k3⟩ := m3 D' hD'
              exact ⟨by rw [World.putObj_size]; exact k1, k2, by rw [World.putObj_heap_other (fun e => by subst e; rw [hl1] at k3; cases k3)]; exact k3⟩
            · rw [World.putObj_size] at hb
              by_cases e : b = l
              · subst e; rw [World.putObj_heap_same hl1lt, World.putObj_heap_same hb]
              · rw [World.putObj_heap_other e, World.putObj_heap_other e]; exact hr1.fr.block b hb hn
            · rw [World.putObj_heap_other (fun e => by subst e; rw [hn1] at ho; cases ho)]; exact hr1.fr.view b o ho
            · obtain ⟨k1, k2, e, k3⟩ := hr1.loc k b hb
              exact ⟨by rw [World.putObj_size]; exact k1, k2, e, by rw [World.putObj_heap_other (fun e => by subst e; rw [hl1] at k3; cases k3)]; exact k3⟩
          refine wpIn_mono (hB l _ _ hq 0 _ _ _ _ ⟨_, hrel2⟩) ?_
          rintro e a3 w3 ⟨st3, ⟨β3, hr3⟩, hq3⟩
          have key : ∀ (jump : Option Code), ∃ w4, (Instr.endRound l jump).run P w3 = .ok (.bool jump.isNone) w4 ∧ st3.G l = none ∧ st3.G D = none ∧ Fr G W ((st3.G.put l (.loop (rec (if jump.isNone then .ready else .done) jump))).put D (.deferred (some []))) w4 := by
            intro jump
            obtain ⟨_, q2, q3, q4, q5⟩ := fr_round (o4 := .loop (rec (if jump.isNone then .ready else .done) jump)) hW g1 g2 hne (Fr.refl hvW) hr3.fr
            rw [← hbz] at q2
            have := run_endRound (P := P) jump q2
            refine ⟨_, this, q3, q4, ?_⟩
            rw [hrec] at q5 ⊢
            exact q5
          have put1 : ∀ o, ((st3.G.put l o).put D (.deferred (some []))) l = some o := fun o => by rw [GH.put_ne _ _ (Ne.symm hne)]; exact GH.put_same _ _ _
          have put3 : ∀ o, st3.G l = none → st3.G D = none → st3.G.le ((st3.G.put l o).put D (.deferred (some []))) := fun o n1 n2 => GH.le_trans (GH.le_put _ n1) (GH.le_put _ (by rw [GH.put_ne _ _ hne]; exact n2))
          cases e with
          | normal =>
            obtain ⟨w4, q1, q2, q3, q4⟩ := key none
            exact ⟨_, _, q1, _, _, rfl, q4, .inl ⟨rfl, put1 _, GH.put_same _ _ _, st3.G, put3 _ q2 q3, q2, q3, hq3⟩⟩
          | ret =>
            obtain ⟨w4, q1, q2, q3, q4⟩ := key (some .ret)
            exact ⟨_, _, q1, _, _, rfl, q4, .inr ⟨rfl, .ret, .ret, rfl, put1 _, GH.put_same _ _ _, st3.G, put3 _ q2 q3, q2, q3, hq3⟩⟩
          | exit id =>
            obtain ⟨w4, q1, q2, q3, q4⟩ := key (some (.exit id))
            exact ⟨_, _, q1, _, _, rfl, q4, .inr ⟨rfl, .exit id, .exit id, rfl, put1 _, GH.put_same _ _ _, st3.G, put3 _ q2 q3, q2, q3, hq3⟩⟩
          | goto t => exact hq3.elim
          | panic ch => exact hq3.elim
          | outgrown => exact hq3.elim
        | exit id => exact hq.elim
        | goto t => exact hq.elim
        | ret => exact hq.elim
        | panic ch => exact hq.elim
        | outgrown => exact hq.elim)
      G1 ⟨hG1l, hG1D, st.G, hG1le, hLG, hDG, h0⟩
    have hcall := (callsIn_wide (n := m - 1)).2 (hc W1 hf1.view)
    have hargs : (Value.func (.yield l) #[] #[] :: lb).toArray = #[Value.func (.yield l) #[] #[]] ++ lb.toArray := by simp
    rw [hargs] at hcall
    refine CallsIn.mono (F := WF none) hcall ?_
    rintro e W2 ⟨v, G', rfl, hf, ⟨j1, j2, Gc, j3, j4, j5, j6⟩ | ⟨e, c, j0, j1, j2, Gc, j3, j4, j5, j6⟩⟩
    · obtain ⟨w4, k1, k2⟩ := fin none .ready W2 G' Gc hf j1 (by simp) j2 j3 j4 j5
      exact ⟨none, w4, k1, _, k2, hd Gc j6⟩
    · obtain ⟨w4, k1, k2⟩ := fin (some c) .done W2 G' Gc hf j1 (by simp) j2 j3 j4 j5
      refine ⟨some c, w4, k1, ?_⟩
      cases e with
      | ret => cases j0; exact wpIn_ret ⟨_, k2, hret Gc j6⟩
      | exit id => cases j0; exact wpIn_exit ⟨_, k2, hex id Gc j6⟩
      | normal => cases j0
      | goto _ => cases j0
      | panic _ => cases j0
      | outgrown => cases j0
end
/-! ### Whole code -/
inductive PC where
  | skip
  | ops (l : List Stp)
  | draw (Ls : List Nat) (pl : Plan)
  | flow (ss : List Stp) (deps : List (List Nat))
  | seq (a b : PC)
  | cond (c : Operand) (a b : PC)
  | block (id : Nat) (b : PC)
  | loop (b : PC)
  | exit (id : Nat)
  | ret
  | scope (b : PC)
  | range (g : Operand) (ps : List Nat) (as b : PC)
  | stuck
/-- A loop: what holds at each round's head is the prover's. -/
def LoopV (V : (Exit → St → Prop) → St → Prop) (Q : Exit → St → Prop) (st : St) : Prop :=
  ∃ (I : Nat → St → Prop) (n : Nat), I n st ∧ ∀ n st, I n st → V (thenQ (fun st' => ∃ m, m < n ∧ I m st') Q) st
/-- Regions that draw: what nobody writes there is the prover's. -/
def DrawV (P : Program) (E : Env) (Ls : List Nat) (pl : Plan) (K : St → Prop) (st : St) : Prop := ∃ Gs : GH, Gs.le st.G ∧ vplan P E Gs Ls K pl st
def scopeQ (Q : Exit → St → Prop) : Exit → St → Prop
  | .goto _, _ => False
  | e, st => Q e st
def vc (P : Program) (E : Env) : PC → (Exit → St → Prop) → St → Prop
  | .skip, Q, st => Q .normal st
  | .ops l, Q, st => vops P E l (Q .normal) st
  | .draw Ls pl, Q, st => DrawV P E Ls pl (Q .normal) st
  | .flow ss deps, Q, st => FlowV P E ss deps (Q .normal) st
  | .seq a b, Q, st => vc P E a (thenQ (vc P E b Q) Q) st
  | .cond c a b, Q, st => ∃ t, ev st c = .bool t ∧ (bif t then vc P E a Q st else vc P E b Q st)
  | .block id b, Q, st => vc P E b (blockQ id Q) st
  | .loop b, Q, st => LoopV (vc P E b) Q st
  | .exit id, Q, st => Q (.exit id) st
  | .ret, Q, st => Q .ret st
  | .scope b, Q, st => vc P E b (scopeQ Q) st
  | .range g ps as b, Q, st => RangeV P E (fun Q => vc P E as (thenQ (vc P E b Q) (fun _ _ => False))) g ps Q st
  | .stuck, _, _ => False
/-- No loop over a function within. -/
def noR : PC → Bool
  | .seq a b => noR a && noR b
  | .cond _ a b => noR a && noR b
  | .block _ b => noR b
  | .loop b => noR b
  | .scope b => noR b
  | .range _ _ _ _ => false
  | _ => true
/-- Local variables that a region reads. -/
def readsL (E : Env) (ops : Array Oper) : List Nat := (ops.toList.filterMap fun o => match o.op with | .load _ x => (locX E x).map (·.2) | _ => none).eraseDups
def writesL (E : Env) (ops : Array Oper) : List Nat := ops.toList.filterMap fun o => match o.op with | .store _ x _ => (locX E x).map (·.2) | .alloc _ => (locD E o.dst).map (·.2) | .box _ _ => (locD E o.dst).map (·.2) | _ => none
def compC (P : Program) (E : Env) : Code → Option PC
  | .skip => some .skip
  | .label _ => some .skip
  | .region _ ops false => (ops.toList.mapM (compStpY P E ops)).map .ops
  | .region id ops true =>
    bif P.follows .mixedOrders && (Region.noSelect ops && ops.toList.all noDefer) then
      bif (lookE E.env (2000000 + id)).isSome then (flowC P E ops).map fun x => .flow x.1 x.2 else
      let Ls := (readsL E ops).filter fun k => !(writesL E ops).contains k
      (mkPlan P E ops Ls ops.size (Array.replicate ops.size false)).map (.draw Ls)
    else some .stuck
  | .seq a b => (compC P E a).bind fun x => (compC P E b).map fun y => .seq x y
  | .cond c a b => bif plainX E c then (compC P E a).bind fun x => (compC P E b).map fun y => .cond c x y else some .stuck
  | .block id b => (compC P E b).map (.block id)
  | .loop b => (compC P E b).map .loop
  | .exit id => some (.exit id)
  | .ret => some .ret
  | .scope b => (compC P E b).map .scope
  | .rangeFunc g ps as b => (compC P E as).bind fun x => (compC P E b).bind fun y => bif plainX E g && (ps.toList.all (fun p => (lookE E.env p).isNone && Nat.blt p E.n) && (noR x && noR y)) then some (.range g ps.toList x y) else some .stuck
  | _ => some .stuck
theorem bif_stuck {c : Bool} {x : PC} {y : Option PC} (h : (bif c then y else some .stuck) = some x) : (c = true ∧ y = some x) ∨ PC.stuck = x := by
  cases c with
  | true => exact .inl ⟨rfl, h⟩
  | false => exact .inr (Option.some.inj h)
theorem stepR_scope {P : Program} {b : Frame} {a : Act} {k : List Item} {cs : List Frame} {w : World} {c : Code} : step P (lone (b.atR a (.code (.scope c) :: k)) cs w) = .next (lone (b.atR a (.code c :: .inScope c :: k)) cs w) :=
  step_lone_go (by simp [stepG, stepG.exec, Frame.atR])
theorem stepR_inScope {P : Program} {b : Frame} {a : Act} {k : List Item} {cs : List Frame} {w : World} {c : Code} : step P (lone (b.atR a (.inScope c :: k)) cs w) = .next (lone (b.atR a k) cs w) :=
  step_lone_go (by simp [stepG, stepG.exec, Frame.atR])
theorem wpIn_scope {F : Fence} {n : Nat} {P : Program} {Q : Exit → Act → World → Prop} {a : Act} {w : World} {c : Code} (h : c.wpIn F n P (Exit.noGoto Q) a w) : (Code.scope c).wpIn F n P Q a w := by
  intro b k cs hro hb hr
  have h0 : (lone (b.atR a (.code (.scope c) :: k)) cs w).fenced P F := fenced_calm hb hr rfl
  obtain ⟨e, a₁, w₁, hq, harr⟩ := h b (.inScope c :: k) cs hro hb hr
  cases e with
  | normal => exact ⟨.normal, a₁, w₁, hq, .head h0 stepR_scope (StepsIn.trans harr (.one (fenced_calm hb hr rfl) stepR_inScope))⟩
  | exit id =>
    have hx : exitTo id (.inScope c :: k) = exitTo id k := by simp [exitTo]
    exact ⟨.exit id, a₁, w₁, hq, fun k' hk => .head h0 stepR_scope (harr.1 k' (by rw [hx]; exact hk)),
      fun hr' hk => let ⟨k₁, h1, h2⟩ := harr.2 hr' (by rw [hx]; exact hk); ⟨k₁, h1, .head h0 stepR_scope h2⟩⟩
  | goto l => exact hq.elim
  | ret => exact ⟨_, a₁, w₁, hq, .of_steps (.one h0 stepR_scope) harr⟩
  | panic ch => exact ⟨_, a₁, w₁, hq, .of_steps (.one h0 stepR_scope) harr⟩
  | outgrown => exact ⟨_, a₁, w₁, hq, .of_steps (.one h0 stepR_scope) harr⟩
theorem Vw_scope {P : Program} {E : Env} {ro : Option Nat} {Q : Exit → St → Prop} {st : St} {c : Code} (h : Vw P E ro c (scopeQ Q) st) : Vw P E ro (.scope c) Q st := by
  intro m w0 G0 a w hr
  refine wpIn_scope (wpIn_mono (h m w0 G0 a w hr) ?_)
  rintro e a' w' ⟨st', hr', hq⟩
  cases e with
  | goto _ => exact hq.elim
  | _ => exact ⟨st', hr', hq⟩
theorem vc_sound {P : Program} {E : Env} : ∀ (c : Code) (pc : PC) (ro : Option Nat) (Q : Exit → St → Prop) (st : St), compC P E c = some pc → (ro = none ∨ noR pc = true) → vc P E pc Q st → Vw P E ro c Q st := by
  intro c
  induction c with
  | skip => intro pc ro Q st hc hn hv; cases hc; exact Vw_skip hv
  | label l => intro pc ro Q st hc hn hv; cases hc; exact Vw_label hv
  | region id ops draw =>
    intro pc ro Q st hc hn hv
    cases draw with
    | false =>
      simp only [compC, Option.map_eq_some_iff] at hc
      obtain ⟨ss, hss, rfl⟩ := hc
      exact Vw_region hss hv
    | true =>
      rcases bif_stuck hc with ⟨h1, hc⟩ | rfl
      rotate_left
      · exact hv.elim
      simp only [Bool.and_eq_true] at h1
      cases hfl : (lookE E.env (2000000 + id)).isSome with
      | true =>
        rw [hfl] at hc
        simp only [cond_true, Option.map_eq_some_iff] at hc
        obtain ⟨⟨ss, deps⟩, hpl, rfl⟩ := hc
        exact Vw_flow h1.1 h1.2.2 hpl hv
      | false =>
      rw [hfl] at hc
      simp only [cond_false, Option.map_eq_some_iff] at hc
      obtain ⟨pl, hpl, rfl⟩ := hc
      obtain ⟨Gs, hG, hv⟩ := hv
      exact Vw_draw _ Gs h1.1 h1.2.1 h1.2.2 hpl hG hv
  | seq x y ihx ihy =>
    intro pc ro Q st hc hn hv
    simp only [compC, Option.bind_eq_some_iff, Option.map_eq_some_iff] at hc
    obtain ⟨px, hx, py, hy, rfl⟩ := hc
    have n1 : ro = none ∨ noR px = true := hn.imp id fun h => by simp only [noR, Bool.and_eq_true] at h; exact h.1
    have n2 : ro = none ∨ noR py = true := hn.imp id fun h => by simp only [noR, Bool.and_eq_true] at h; exact h.2
    refine Vw_seq (Vw.mono (ihx px ro _ st hx n1 hv) fun e st' h => ?_)
    cases e with
    | normal => exact ihy py ro Q st' hy n2 h
    | _ => exact h
  | cond c x y ihx ihy =>
    intro pc ro Q st hc hn hv
    rcases bif_stuck hc with ⟨h1, hc⟩ | rfl
    rotate_left
    · exact hv.elim
    simp only [Option.bind_eq_some_iff, Option.map_eq_some_iff] at hc
    obtain ⟨px, hx, py, hy, rfl⟩ := hc
    have n1 : ro = none ∨ noR px = true := hn.imp id fun h => by simp only [noR, Bool.and_eq_true] at h; exact h.1
    have n2 : ro = none ∨ noR py = true := hn.imp id fun h => by simp only [noR, Bool.and_eq_true] at h; exact h.2
    obtain ⟨t, ht, hv⟩ := hv
    refine Vw_cond h1 ht ?_
    cases t
    · exact ihy py ro Q st hy n2 hv
    · exact ihx px ro Q st hx n1 hv
  | block id b ih =>
    intro pc ro Q st hc hn hv
    simp only [compC, Option.map_eq_some_iff] at hc
    obtain ⟨pb, hb, rfl⟩ := hc
    exact Vw_block (ih pb ro _ st hb hn hv)
  | loop b ih =>
    intro pc ro Q st hc hn hv
    simp only [compC, Option.map_eq_some_iff] at hc
    obtain ⟨pb, hb, rfl⟩ := hc
    obtain ⟨I, n, h0, hround⟩ := hv
    exact Vw_loop I n h0 fun n st' hi => ih pb ro _ st' hb hn (hround n st' hi)
  | exit id => intro pc ro Q st hc hn hv; cases hc; exact Vw_exit hv
  | ret => intro pc ro Q st hc hn hv; cases hc; exact Vw_ret hv
  | scope b ih =>
    intro pc ro Q st hc hn hv
    simp only [compC, Option.map_eq_some_iff] at hc
    obtain ⟨pb, hb, rfl⟩ := hc
    exact Vw_scope (ih pb ro _ st hb hn hv)
  | rangeFunc g ps as b iha ihb =>
    intro pc ro Q st hc hn hv
    simp only [compC, Option.bind_eq_some_iff] at hc
    obtain ⟨px, hx, py, hy, hc⟩ := hc
    cases hb : (plainX E g && (ps.toList.all (fun p => (lookE E.env p).isNone && Nat.blt p E.n) && (noR px && noR py))) with
    | false => rw [hb] at hc; cases hc; exact hv.elim
    | true =>
      rw [hb] at hc
      cases hc
      simp only [Bool.and_eq_true] at hb
      have hro : ro = none := hn.resolve_right (by simp [noR])
      subst hro
      exact Vw_range hb.1 hb.2.1 (fun l Q st h => iha px (some l) Q st hx (.inr hb.2.2.1) h) (fun l Q st h => ihb py (some l) Q st hy (.inr hb.2.2.2) h) hv
  | _ => intro pc ro Q st hc hn hv; cases hc; exact hv.elim
/-- A FUNCTION, by its compiled code. -/
structure Comp (P : Program) (f : FuncId) (E : Env) (nargs : Nat) (rs : List RV) (pc : PC) : Prop where
  ok : ∃ fn c, P.funcs[f]? = some fn ∧ fn.body = some c ∧ fn.results.toList.mapM (compRV P E) = some rs ∧ nargs ≤ fn.ntmps ∧ E.n = fn.ntmps ∧ E.env.all (fun x => decide (nargs ≤ x.1)) = true ∧ compC P E c = some pc
theorem HC.of_comp {P : Program} {f : FuncId} {E : Env} {n : Nat} {rs : List RV} {pc : PC} (h : Comp P f E n rs pc) {args : List Value} {G : GH} {R : Value → GH → Prop} (hn : args.length = n) (l : Nat → Array Value)
    (hv : vc P E pc (endQ rs R) ⟨args0 args, l, G⟩) : HC P f args.toArray G R := by
  obtain ⟨fn, c, hf, hb, hr, h1, h2, h3, hc⟩ := h.ok
  subst hn
  exact HC.of_body E rs hf hb hr h1 h2 h3 l (vc_sound c pc none _ _ hc (.inl rfl) hv)
end Go.Proofs.Ytbmhdmkmnhaffaa.V
end
