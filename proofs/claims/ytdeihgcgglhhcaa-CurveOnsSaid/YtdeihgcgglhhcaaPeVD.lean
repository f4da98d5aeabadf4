/- Library V, part D: operations on memory and on local variables, calls. No program here. -/
import Derived.Test.YtdeihgcgglhhcaaPeVC
import Derived.Laws.AppendOwn
import Derived.Laws.BytesArg
set_option linter.unusedVariables false
set_option linter.unusedSimpArgs false
namespace Go.Proofs.Ytdeihgcgglhhcaa.V
/-! ### Memory's words -/
/-- Cells written, one behind the other. -/
def wr : Array Value → Nat → List Value → Array Value
  | cs, _, [] => cs
  | cs, o, v :: vs => wr (cs.setIfInBounds o v) (o + 1) vs
theorem wr_size : ∀ (vs : List Value) (cs : Array Value) (o : Nat), (wr cs o vs).size = cs.size
  | [], _, _ => rfl
  | v :: vs, cs, o => by simp [wr, wr_size vs]
def cells1 (vs : List Value) : Bool := vs.all Value.oneCell'
/-- The cells of a slice. -/
def rd (G : GH) (n : Nat) : Value → Option (List Value)
  | .slice none 0 _ => some []
  | .slice (some ⟨b, q, none⟩) len _ =>
    if len * n = 0 then some [] else
    match G b with
    | some (.cells cs _ _) => if q + len * n ≤ cs.size then some (cs.extract q (q + len * n)).toList else none
    | _ => none
  | .slice (some _) 0 _ => some []
  | _ => none
theorem rd_le {G G' : GH} (h : G.le G') {n : Nat} {v : Value} {l : List Value} (hr : rd G n v = some l) : rd G' n v = some l := by
  unfold rd at hr ⊢
  split at hr
  · exact hr
  · rename_i b q len cap
    split at hr
    · rename_i h0
      simp only [h0, if_true]; exact hr
    · rename_i h0
      simp only [h0, if_false]
      cases hG : G b with
      | none => rw [hG] at hr; cases hr
      | some o => rw [hG] at hr; rw [h b o hG]; exact hr
  · exact hr
  · cases hr
/-! ### One operation -/
def Sound (P : Program) (E : Env) (o : Oper) (new : List Nat) (st : St) (K : St → Prop) : Prop :=
  ∀ w0 G0 β a w, RelB E w0 G0 β st a w → ∀ (K' : Act → World → Prop) (Q' : Exit → Act → World → Prop), (∀ β' st' a' w', RelB E w0 G0 β' st' a' w' → (∀ k, k ∉ new → β' k = β k) → K st' → K' a' w') → o.wp P a w K' Q'
section
variable {P : Program} {E : Env} {st : St} {w0 : World} {G0 : GH} {β : Nat → Option Nat} {a : Act} {w : World}
theorem wp_value {o : Oper} {K' : Act → World → Prop} {Q' : Exit → Act → World → Prop} {v : Value} {w' : World} (h : (execOp a.eval o).run P w = .ok (.value v) w') (k : K' (a.put o.dst v) w') : o.wp P a w K' Q' := by
  unfold Oper.wp; rw [h]; exact k
theorem wp_skipped {o : Oper} {K' : Act → World → Prop} {Q' : Exit → Act → World → Prop} {w' : World} (h : (execOp a.eval o).run P w = .ok .skip w') (k : K' (a.put o.dst undef) w') : o.wp P a w K' Q' := by
  unfold Oper.wp; rw [h]; exact k
theorem getD_set (x : Array Value) (d t : Nat) (v : Value) (hd : d < x.size) : (x.setIfInBounds d v).getD t undef = if t = d then v else x.getD t undef := by
  simp only [Array.getD_eq_getD_getElem?, Array.getElem?_setIfInBounds]
  by_cases h : d = t
  · subst h; simp [hd]
  · rw [if_neg h, if_neg (fun e => h e.symm)]
/-- A plain slot is written. -/
theorem RelB.put (r : RelB E w0 G0 β st a w) {d : Nat} (hd : lookE E.env d = none) (hn : d < E.n) (v : Value) : RelB E w0 G0 β ⟨setS st.s d v, st.l, st.G⟩ (a.put (some d) v) w := by
  refine ⟨r.defers, by simp [Act.put, r.size], r.fr, fun t ht => ?_, fun t k o ht hs => ?_, r.loc, r.inj⟩
  · simp only [Act.put]
    rw [getD_set _ _ _ _ (by rw [r.size]; exact hn)]
    by_cases e : t = d
    · subst e; rw [if_pos rfl, setS_same]
    · rw [if_neg e, setS_ne _ _ e]; exact r.slot t ht
  · have e : t ≠ d := fun e => by subst e; rw [hd] at ht; cases ht
    change setS st.s d v t = _ at hs
    rw [setS_ne _ _ e] at hs
    obtain ⟨b, h1, h2, h3⟩ := r.ptr t k o ht hs
    refine ⟨b, h1, h2, ?_⟩
    simp only [Act.put]
    rw [getD_set _ _ _ _ (by rw [r.size]; exact hn), if_neg e]; exact h3
/-- A slot that holds an address of a local variable is written. -/
theorem RelB.putP (r : RelB E w0 G0 β st a w) {d k : Nat} (hd : lookE E.env d = some k) (hn : d < E.n) {v : Value} {z : Value} (hv : ∀ o, z = .int .u64 o → ∃ b, β k = some b ∧ 0 ≤ o ∧ v = .pointer (some ⟨b, o.toNat, none⟩)) :
    RelB E w0 G0 β ⟨setS st.s d z, st.l, st.G⟩ (a.put (some d) v) w := by
  refine ⟨r.defers, by simp [Act.put, r.size], r.fr, fun t ht => ?_, fun t k' o ht hs => ?_, r.loc, r.inj⟩
  · have e : t ≠ d := fun e => by subst e; rw [hd] at ht; cases ht
    simp only [Act.put]
    rw [getD_set _ _ _ _ (by rw [r.size]; exact hn), if_neg e, setS_ne _ _ e]; exact r.slot t ht
  · simp only [Act.put]
    rw [getD_set _ _ _ _ (by rw [r.size]; exact hn)]
    by_cases e : t = d
    · subst e
      change setS st.s t z t = _ at hs
      rw [setS_same] at hs
      rw [hd] at ht; cases ht
      rw [if_pos rfl]
      exact hv o hs
    · rw [if_neg e]
      change setS st.s d z t = _ at hs
      rw [setS_ne _ _ e] at hs
      exact r.ptr t k' o ht hs
/-- The world and what is known of it turn; the local variables stand. -/
theorem RelB.world (r : RelB E w0 G0 β st a w) {G' : GH} {w' : World} (hf : Fr st.G w G' w') : RelB E w0 G0 β ⟨st.s, st.l, G'⟩ a w' := by
  refine ⟨r.defers.fr hf, r.size, r.fr.trans hf, r.slot, r.ptr, fun k b hb => ?_, r.inj⟩
  obtain ⟨h1, h2, e, h3⟩ := r.loc k b hb
  have hlt : b < w.heap.size := (Array.getElem?_eq_some_iff.1 h3).1
  exact ⟨h1, hf.none b hlt h2, e, by rw [hf.block b hlt h2]; exact h3⟩
theorem RelB.drew (h : RelB E w0 G0 β st a w) : RelB E w0 G0 β st a w.drew := h.world (Fr.drew h.view)
/-- A block of which cells are written. -/
theorem heap_setCell (w : World) {b : Nat} {cs : Array Value} {e : TypeId} {fr : Nat × Nat} (h : w.heap[b]? = some (.cells cs e fr)) (o : Nat) (v : Value) :
    (w.setCell ⟨b, o, none⟩ v).heap[b]? = some (.cells (cs.setIfInBounds o v) e fr) ∧ ∀ j, j ≠ b → (w.setCell ⟨b, o, none⟩ v).heap[j]? = w.heap[j]? := by
  constructor
  · simp [World.setCell, Array.getElem?_modify, h]
  · intro j hj
    simp only [World.setCell, Array.getElem?_modify]
    rw [if_neg (by omega)]
structure SameBut (b : Nat) (w w' : World) : Prop where
  os : w'.os = w.os
  tape : w'.tape = w.tape
  output : w'.output = w.output
  size : w'.heap.size = w.heap.size
  block : ∀ j, j ≠ b → w'.heap[j]? = w.heap[j]?
theorem SameBut.trans {b : Nat} {w w1 w2 : World} (h : SameBut b w w1) (k : SameBut b w1 w2) : SameBut b w w2 :=
  ⟨k.os.trans h.os, k.tape.trans h.tape, k.output.trans h.output, k.size.trans h.size, fun j hj => (k.block j hj).trans (h.block j hj)⟩
theorem SameBut.refl (b : Nat) (w : World) : SameBut b w w := ⟨rfl, rfl, rfl, rfl, fun _ _ => rfl⟩
theorem run_storeCells : ∀ (vs : List Value) (w : World) {b : Nat} {cs : Array Value} {e : TypeId} {fr : Nat × Nat} (o i : Nat), w.heap[b]? = some (.cells cs e fr) → cells1 vs = true → o + i + vs.length ≤ cs.size → (fr.2 ≤ o + i ∨ o + i + vs.length ≤ fr.1) →
    ∃ w', (storeCells ⟨b, o, none⟩ vs i).run P w = .ok () w' ∧ w'.heap[b]? = some (.cells (wr cs (o + i) vs) e fr) ∧ SameBut b w w'
  | [], w, b, cs, e, fr, o, i, h, _, _, _ => ⟨w, by simp [storeCells], h, SameBut.refl b w⟩
  | v :: vs, w, b, cs, e, fr, o, i, h, h1, hs, hfr => by
    simp only [cells1, List.all_cons, Bool.and_eq_true] at h1
    simp only [List.length_cons] at hs hfr
    have hc : w.cell? ⟨b, o + i, none⟩ = some cs[o + i] := by rw [cell_of h]; exact Array.getElem?_eq_getElem (by omega)
    have hz : w.frozen? ⟨b, o + i, none⟩ = false := by
      simp only [World.frozen?, h]
      have : ¬ (fr.1 ≤ o + i ∧ o + i < fr.2) := by omega
      simpa using this
    obtain ⟨h2, h3⟩ := heap_setCell w h (o + i) v
    obtain ⟨w', r1, r2, r3⟩ := run_storeCells vs (w.setCell ⟨b, o + i, none⟩ v) (b := b) o (i + 1) h2 h1.2 (by simp; omega) (by omega)
    refine ⟨w', ?_, by simpa [wr, Nat.add_assoc] using r2, SameBut.trans (show SameBut b w (w.setCell ⟨b, o + i, none⟩ v) from ⟨rfl, rfl, rfl, by simp, h3⟩) r3⟩
    simp only [storeCells, Sem.run_bind, add_plain, run_store _ _ _ _ _ h1.1, hc, hz, Bool.false_eq_true, if_false, Result.andThen_ok, r1]
theorem Fr.write {G : GH} {w w' : World} (hv : View G w) {b : Nat} {o o' : Obj} (hG : G b = some o) (hb : w'.heap[b]? = some o') (hs : SameBut b w w') : Fr G w (G.put b o') w' := by
  refine ⟨hs.os, hs.tape, hs.output, Nat.le_of_eq hs.size.symm, fun j hj hn => hs.block j (fun e => by subst e; rw [hG] at hn; cases hn), fun j hj hn => ?_, fun j p hp => ?_⟩
  · have e : j ≠ b := fun e => by subst e; rw [hG] at hn; cases hn
    rw [GH.put_ne _ _ e]; exact hn
  · by_cases e : j = b
    · subst e; rw [GH.put_same] at hp; cases hp; exact hb
    · rw [GH.put_ne _ _ e] at hp; rw [hs.block j e]; exact hv j p hp
/-- A store into a local variable's block. -/
theorem RelB.storeL (h : RelB E w0 G0 β st a w) {k b : Nat} (hb : β k = some b) {cs' : Array Value} {w' : World} {e : TypeId} (h1 : w'.heap[b]? = some (.cells cs' e (0, 0))) (hs : SameBut b w w') : RelB E w0 G0 β ⟨st.s, setL st.l k cs', st.G⟩ a w' := by
  obtain ⟨hge, hno, e0, he0⟩ := h.loc k b hb
  refine ⟨h.defers.keep fun D hD => by rw [hs.block D (fun e => by subst e; rw [he0] at hD; cases hD)]; exact hD, h.size, ⟨hs.os.trans h.fr.os, hs.tape.trans h.fr.tape, hs.output.trans h.fr.output, by rw [hs.size]; exact h.fr.size, fun j hj hn => ?_, h.fr.none, fun j p hp => ?_⟩, h.slot, h.ptr, fun k' b' hb' => ?_, h.inj⟩
  · rw [hs.block j (by omega)]; exact h.fr.block j hj hn
  · have : j ≠ b := fun e => by subst e; rw [hno] at hp; cases hp
    rw [hs.block j this]; exact h.fr.view j p hp
  · obtain ⟨h2, h3, e2, h4⟩ := h.loc k' b' hb'
    refine ⟨h2, h3, ?_⟩
    by_cases hk : k' = k
    · subst hk
      rw [hb] at hb'; cases hb'
      exact ⟨e, by rw [show (⟨st.s, setL st.l k' cs', st.G⟩ : St).l k' = cs' from setL_same _ _ _]; exact h1⟩
    · have hne : b' ≠ b := fun e => hk (h.inj k' k b' hb' (e ▸ hb))
      exact ⟨e2, by rw [show (⟨st.s, setL st.l k cs', st.G⟩ : St).l k' = st.l k' from setL_ne _ _ hk, hs.block b' hne]; exact h4⟩
/-- A local variable is made anew. -/
theorem RelB.allocL (r : RelB E w0 G0 β st a w) {d k : Nat} (hd : lookE E.env d = some k) (hn : d < E.n) (cs : Array Value) (e : TypeId) :
    RelB E w0 G0 (fun i => if i = k then some w.heap.size else β i) ⟨setS (fun t => bif (lookE E.env t == some k) then undef else st.s t) d (.int .u64 0), setL st.l k cs, st.G⟩ (a.put (some d) (.pointer (some ⟨w.heap.size, 0, none⟩))) (w.alloc (.cells cs e)) := by
  have hfr := r.fr.trans (Fr.alloc_hid r.fr.view (.cells cs e))
  refine ⟨r.defers.fr (Fr.alloc_hid r.fr.view (.cells cs e)), by simp [Act.put, r.size], hfr, fun t ht => ?_, fun t k' o ht hs => ?_, fun k' b hb => ?_, fun k1 k2 b h1 h2 => ?_⟩
  · have e1 : t ≠ d := fun e => by subst e; rw [hd] at ht; cases ht
    simp only [Act.put]
    rw [getD_set _ _ _ _ (by rw [r.size]; exact hn), if_neg e1, setS_ne _ _ e1]
    simp only [ht]
    exact r.slot t ht
  · simp only [Act.put]
    rw [getD_set _ _ _ _ (by rw [r.size]; exact hn)]
    by_cases e1 : t = d
    · subst e1
      dsimp only at hs
      rw [setS_same] at hs
      cases hs
      rw [hd] at ht; cases ht
      exact ⟨w.heap.size, by simp, by omega, by simp⟩
    · rw [if_neg e1]
      dsimp only at hs
      rw [setS_ne _ _ e1] at hs
      simp only [ht] at hs
      by_cases hk : k' = k
      · subst hk
        simp [undef] at hs
      · have : (some k' == some k) = false := by simpa using hk
        rw [this] at hs
        obtain ⟨b, h1, h2, h3⟩ := r.ptr t k' o ht hs
        exact ⟨b, by simp [hk, h1], h2, h3⟩
  · by_cases hk : k' = k
    · subst hk
      simp at hb; subst hb
      refine ⟨r.fr.size, r.fr.view.fresh (Nat.le_refl _), e, ?_⟩
      rw [show (⟨_, setL st.l k' cs, st.G⟩ : St).l k' = cs from setL_same _ _ _]
      exact heap_alloc_new w _
    · simp [hk] at hb
      obtain ⟨h1, h2, e2, h3⟩ := r.loc k' b hb
      have hlt : b < w.heap.size := (Array.getElem?_eq_some_iff.1 h3).1
      refine ⟨h1, h2, e2, ?_⟩
      rw [show (⟨_, setL st.l k cs, st.G⟩ : St).l k' = st.l k' from setL_ne _ _ hk, heap_alloc_old w _ hlt]
      exact h3
  · by_cases e1 : k1 = k <;> by_cases e2 : k2 = k
    · rw [e1, e2]
    · simp [e1] at h1; simp [e2] at h2
      obtain ⟨_, _, e3, h3⟩ := r.loc k2 b h2
      have := (Array.getElem?_eq_some_iff.1 h3).1
      omega
    · simp [e1] at h1; simp [e2] at h2
      obtain ⟨_, _, e3, h3⟩ := r.loc k1 b h1
      have := (Array.getElem?_eq_some_iff.1 h3).1
      omega
    · simp [e1] at h1; simp [e2] at h2
      exact r.inj k1 k2 b h1 h2
end
/-! ### The operations of the library -/
inductive POp where
  | pure (d : Nat) (f : PF) (xs : List Operand)
  | lalloc (d k : Nat) (zero : Array Value)
  | lbox (d k : Nat) (x : Operand)
  | lmove (d s : Nat)
  | lfield (d s o : Nat)
  | lindex (d s len n : Nat) (i : Operand)
  | lload (d k s n : Nat) (g : Bool)
  | lstore (k s n : Nat) (x : Operand)
  | halloc (d : Nat) (t : TypeId) (zero : Array Value)
  | hbox (d : Nat) (t : TypeId) (x : Operand)
  | hload (d n : Nat) (g : Bool) (x : Operand)
  | hstore (n : Nat) (x v : Operand)
  | bslice (d : Nat) (e : TypeId) (len : Nat) (cells : Array Value) (parts : List (Nat × Nat)) (xs : List Operand)
  | mslice (d : Nat) (e : TypeId) (n bytes : Nat) (zero : Array Value) (l c : Operand)
  | append (d : Nat) (e : TypeId) (n bytes : Nat) (zero : Array Value) (x y : Operand)
  | growz (d : Nat) (e : TypeId) (n bytes : Nat) (zero : Array Value) (x y : Operand)
  | copy (d n : Nat) (x y : Operand)
  | b2s (d : Nat) (x : Operand)
  | s2b (d : Nat) (e : TypeId) (x : Operand)
  | call (d : Option Nat) (f : FuncId) (xs : List Operand)
  | callv (d : Option Nat) (x : Operand) (xs : List Operand)
  | yieldc (d : Nat) (x : Operand) (xs : List Operand)
  | callx (d : Nat) (f : FuncId) (xs : List Operand)
  | markb (d : Nat) (x : Operand)
  | stuck
def setO (st : St) (d : Option Nat) (v : Value) : Nat → Value := match d with | some d => setS st.s d v | none => st.s
/-- May it be called (it has a body; it is no word of the runtime's)? -/
def callable (P : Program) (f : FuncId) : Bool := match P.funcs[f]? with | some fn => !(fn.name == "runtime.NumGoroutine") && fn.body.isSome | none => false
/-- CONTRACT of a loop's body, called as yield. -/
def HY (P : Program) (l : Nat) (args : Array Value) (G : GH) (R : Value → GH → Prop) : Prop :=
  ∀ w, View G w → YieldAt Fence.wide 0 P l args w fun e w' => ∃ v G', e = .returned v ∧ Fr G w G' w' ∧ R v G'
theorem HY.mono {P : Program} {l : Nat} {args : Array Value} {G : GH} {R R' : Value → GH → Prop} (h : HY P l args G R) (hr : ∀ v G', R v G' → R' v G') : HY P l args G R' :=
  fun w hw => let ⟨fn, tmps, assign, body, h1, h2⟩ := h w hw; ⟨fn, tmps, assign, body, h1, h2.mono fun _ _ ⟨v, G', e, hf, r⟩ => ⟨v, G', e, hf, hr v G' r⟩⟩
/-- There is room for so many bytes. -/
abbrev fitB (m bytes : Nat) : Prop := m ≤ 140737488355328 ∨ (bytes ≤ 4096 ∧ m ≤ 211106232532992)
/-- WHAT IS TO BE SHOWN at an operation. -/
def pv (P : Program) (E : Env) (o : POp) (st : St) (K : St → Prop) : Prop :=
  match o with
  | .pure d f xs => ∃ v, pureV f (xs.map (ev st)) = some v ∧ K ⟨setS st.s d v, st.l, st.G⟩
  | .lalloc d k zero => K ⟨setS (fun t => bif (lookE E.env t == some k) then undef else st.s t) d (.int .u64 0), setL st.l k zero, st.G⟩
  | .lbox d k x => K ⟨setS (fun t => bif (lookE E.env t == some k) then undef else st.s t) d (.int .u64 0), setL st.l k (ev st x).cells, st.G⟩
  | .lmove d s => K ⟨setS st.s d (st.s s), st.l, st.G⟩
  | .lfield d s o => ∃ p, st.s s = .int .u64 p ∧ K ⟨setS st.s d (.int .u64 (p + o)), st.l, st.G⟩
  | .lindex d s len n i => ∃ p k j, st.s s = .int .u64 p ∧ ev st i = .int k j ∧ (0 ≤ j ∧ j < len) ∧ K ⟨setS st.s d (.int .u64 (p + j * n)), st.l, st.G⟩
  | .lload d k s n g => ∃ p v, st.s s = .int .u64 p ∧ takeV g (st.l k) p.toNat n = some v ∧ K ⟨setS st.s d v, st.l, st.G⟩
  | .lstore k s n x => ∃ p, st.s s = .int .u64 p ∧ ((ev st x).cells.size = n ∧ p.toNat + n ≤ (st.l k).size ∧ cells1 (ev st x).cells.toList = true) ∧ K ⟨st.s, setL st.l k (wr (st.l k) p.toNat (ev st x).cells.toList), st.G⟩
  | .halloc d t zero => ∀ b, st.G b = none → K ⟨setS st.s d (.pointer (some ⟨b, 0, none⟩)), st.l, st.G.put b (.cells zero t)⟩
  | .hbox d t x => ∀ b, st.G b = none → K ⟨setS st.s d (.pointer (some ⟨b, 0, none⟩)), st.l, st.G.put b (.cells (ev st x).cells t)⟩
  | .hload d n g x => ∃ b q cs e fr v, ev st x = .pointer (some ⟨b, q, none⟩) ∧ st.G b = some (.cells cs e fr) ∧ takeV g cs q n = some v ∧ K ⟨setS st.s d v, st.l, st.G⟩
  | .hstore n x v => ∃ b q cs e fr, ev st x = .pointer (some ⟨b, q, none⟩) ∧ st.G b = some (.cells cs e fr) ∧ ((ev st v).cells.size = n ∧ q + n ≤ cs.size ∧ cells1 (ev st v).cells.toList = true ∧ (fr.2 ≤ q ∨ q + n ≤ fr.1)) ∧ K ⟨st.s, st.l, st.G.put b (.cells (wr cs q (ev st v).cells.toList) e fr)⟩
  | .bslice d e len cells parts xs => ∃ cs, fillV parts (xs.map (ev st)) cells = some cs ∧ ∀ b, st.G b = none → K ⟨setS st.s d (.slice (some ⟨b, 0, none⟩) len len), st.l, st.G.put b (.cells cs e)⟩
  | .mslice d e n bytes zero l c => ∃ k l' k' c', ev st l = .int k l' ∧ ev st c = .int k' c' ∧ (0 ≤ l' ∧ l' ≤ c' ∧ c' * bytes ≤ 140737488355328 ∧ c' ≤ 9223372036854775807) ∧ ∀ b, st.G b = none → K ⟨setS st.s d (.slice (some ⟨b, 0, none⟩) l'.toNat c'.toNat), st.l, st.G.put b (.cells (Builtin.zeroCells zero c'.toNat) e)⟩
  | .append d e n bytes zero x y => ∃ a len cap a' len' cap' es, ev st x = .slice a len cap ∧ ev st y = .slice a' len' cap' ∧ rd st.G n (ev st y) = some es ∧ fitB ((len + len') * bytes) bytes ∧ len + len' ≤ 9223372036854775807 ∧
      if len + len' ≤ cap then
        (match a with
         | none => es = [] ∧ K ⟨setS st.s d (.slice none (len + len') cap), st.l, st.G⟩
         | some ⟨b, q, sp⟩ => sp = none ∧ ∃ cs e' fr, st.G b = some (.cells cs e' fr) ∧ (q + (len + len') * n ≤ cs.size ∧ cells1 es = true ∧ (fr.2 ≤ q + len * n ∨ q + (len + len') * n ≤ fr.1)) ∧ K ⟨setS st.s d (.slice a (len + len') cap), st.l, st.G.put b (.cells (wr cs (q + len * n) es) e' fr)⟩)
      else ∃ xs, rd st.G n (ev st x) = some xs ∧ ∀ b c, st.G b = none → len + len' ≤ c → c ≤ 9223372036854775807 → K ⟨setS st.s d (.slice (some ⟨b, 0, none⟩) (len + len') c), st.l, st.G.put b (.cells (xs.toArray ++ es.toArray ++ Builtin.zeroCells zero (c - (len + len'))) e)⟩
  | .growz d e n bytes zero x y => ∃ a len cap k l, ev st x = .slice a len cap ∧ ev st y = .int k l ∧ 0 ≤ l ∧ fitB ((len + l.toNat) * bytes) bytes ∧ len + l.toNat ≤ 9223372036854775807 ∧
      if len + l.toNat ≤ cap then
        (match a with
         | none => False
         | some ⟨b, q, sp⟩ => sp = none ∧ ∃ cs e' fr, st.G b = some (.cells cs e' fr) ∧ (q + (len + l.toNat) * n ≤ cs.size ∧ cells1 (Builtin.zeroCells zero l.toNat).toList = true ∧ (fr.2 ≤ q + len * n ∨ q + (len + l.toNat) * n ≤ fr.1)) ∧ K ⟨setS st.s d (.slice a (len + l.toNat) cap), st.l, st.G.put b (.cells (wr cs (q + len * n) (Builtin.zeroCells zero l.toNat).toList) e' fr)⟩)
      else ∃ xs, rd st.G n (ev st x) = some xs ∧ ∀ b c, st.G b = none → len + l.toNat ≤ c → c ≤ 9223372036854775807 → K ⟨setS st.s d (.slice (some ⟨b, 0, none⟩) (len + l.toNat) c), st.l, st.G.put b (.cells (xs.toArray ++ Builtin.zeroCells zero l.toNat ++ Builtin.zeroCells zero (c - (len + l.toNat))) e)⟩
  | .copy d n x y => ∃ a len cap a' len' cap' es, ev st x = .slice a len cap ∧ ev st y = .slice a' len' cap' ∧ rd st.G n (.slice a' (Nat.min len' len) cap') = some es ∧
      (match a with
       | none => K ⟨setS st.s d (.int .i64 (Nat.min len' len)), st.l, st.G⟩
       | some ⟨b, q, sp⟩ => sp = none ∧ ∃ cs e' fr, st.G b = some (.cells cs e' fr) ∧ (q + (Nat.min len' len) * n ≤ cs.size ∧ cells1 es = true ∧ (fr.2 ≤ q ∨ q + (Nat.min len' len) * n ≤ fr.1)) ∧ K ⟨setS st.s d (.int .i64 (Nat.min len' len)), st.l, st.G.put b (.cells (wr cs q es) e' fr)⟩)
  | .b2s d x => ∃ xs : List Int, rd st.G 1 (ev st x) = some (xs.map (Value.int .u8)) ∧ K ⟨setS st.s d (.string (strOfNums xs)), st.l, st.G⟩
  | .s2b d e x => ∃ s, ev st x = .string s ∧ s.size ≤ 9223372036854775807 ∧ ∀ b c, st.G b = none → s.size ≤ c → c ≤ 9223372036854775807 → K ⟨setS st.s d (.slice (some ⟨b, 0, none⟩) s.size c), st.l, st.G.put b (.cells (s.data.map (fun b => .int .u8 b.toNat) ++ Array.replicate (c - s.size) (.int .u8 0)) e (c, c + 1))⟩
  | .call d f xs => HC P f (xs.map (ev st)).toArray st.G fun v G' => K ⟨setO st d v, st.l, G'⟩
  | .callv d x xs => ∃ f first captured, ev st x = .func (.func f) first captured ∧ callable P f = true ∧ HC P f (first ++ (xs.map (ev st)).toArray ++ captured) st.G fun v G' => K ⟨setO st d v, st.l, G'⟩
  | .yieldc d x xs => ∃ l, ev st x = .func (.yield l) #[] #[] ∧ HY P l (xs.map (ev st)).toArray st.G fun v G' => K ⟨setS st.s d v, st.l, G'⟩
  | .callx d f xs => ∃ v, (∀ w : World, (callFunc f (xs.map (ev st)).toArray).run P w = .ok (.value v) w) ∧ K ⟨setS st.s d v, st.l, st.G⟩
  | .markb d x => ∃ b q n c cs e, ev st x = .slice (some ⟨b, q, none⟩) n c ∧ st.G b = some (.cells cs e (0, 0)) ∧ K ⟨setS st.s d (ev st x), st.l, st.G.put b (.cells cs e (cs.size, cs.size + 1))⟩
  | .stuck => False
end Go.Proofs.Ytdeihgcgglhhcaa.V
