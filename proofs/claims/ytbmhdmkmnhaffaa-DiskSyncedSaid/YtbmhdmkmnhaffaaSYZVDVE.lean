/- Library V, part D: operations on memory and on local variables, calls. No program here. -/
import Derived.Test.YtbmhdmkmnhaffaaSYZVAVC
import Derived.Laws.AppendOwn
import Derived.Laws.BytesArg
import Derived.Laws.Append
import Derived.Lib.ConvBytes
section
set_option linter.unusedVariables false
set_option linter.unusedSimpArgs false
namespace Go.Proofs.Ytbmhdmkmnhaffaa.V
/-! ### Memory's words -/
/-- Cells written, one behind the other. -/
def wr : Array Value → Nat → List Value → Array Value
  | cs, _, [] => cs
  | cs, o, v :: vs => wr (cs.setIfInBounds o v) (o + 1) vs
theorem wr_size : ∀ (vs : List Value) (cs : Array Value) (o : Nat), (wr cs o vs).size = cs.size
  | [], _, _ => rfl
  | v :: vs, cs, o => by simp [wr, wr_size vs]
def cells1 (vs : List Value) : Bool := vs.all Value.oneCell'
/-- The cells of a slice. -/
def rd (G : GH) (n : Nat) : Value → Option (List Value)
  | .slice none 0 _ => some []
  | .slice (some ⟨b, q, none⟩) len _ =>
    if len * n = 0 then some [] else
    match G b with
    | some (.cells cs _ _) => if q + len * n ≤ cs.size then some (cs.extract q (q + len * n)).toList else none
    | _ => none
  | .slice (some _) 0 _ => some []
  | _ => none
theorem rd_le {G G' : GH} (h : G.le G') {n : Nat} {v : Value} {l : List Value} (hr : rd G n v = some l) : rd G' n v = some l := by
  unfold rd at hr ⊢
  split at hr
  · exact hr
  · rename_i b q len cap
    split at hr
    · rename_i h0
      simp only [h0, if_true]; exact hr
    · rename_i h0
      simp only [h0, if_false]
      cases hG : G b with
      | none => rw [hG] at hr; cases hr
      | some o => rw [hG] at hr; rw [h b o hG]; exact hr
  · exact hr
  · cases hr
/-! ### One operation -/
def Sound (P : Program) (E : Env) (o : Oper) (new : List Nat) (st : St) (K : St → Prop) : Prop :=
  ∀ w0 G0 β a w, RelB E w0 G0 β st a w → ∀ (K' : Act → World → Prop) (Q' : Exit → Act → World → Prop), (∀ β' st' a' w', RelB E w0 G0 β' st' a' w' → (∀ k, k ∉ new → β' k = β k) → K st' → K' a' w') → o.wp P a w K' Q'
section
variable {P : Program} {E : Env} {st : St} {w0 : World} {G0 : GH} {β : Nat → Option Nat} {a : Act} {w : World}
theorem wp_value {o : Oper} {K' : Act → World → Prop} {Q' : Exit → Act → World → Prop} {v : Value} {w' : World} (h : (execOp a.eval o).run P w = .ok (.value v) w') (k : K' (a.put o.dst v) w') : o.wp P a w K' Q' := by
  unfold Oper.wp; rw [h]; exact k
theorem wp_skipped {o : Oper} {K' : Act → World → Prop} {Q' : Exit → Act → World → Prop} {w' : World} (h : (execOp a.eval o).run P w = .ok .skip w') (k : K' (a.put o.dst undef) w') : o.wp P a w K' Q' := by
  unfold Oper.wp; rw [h]; exact k
theorem getD_set (x : Array Value) (d t : Nat) (v : Value) (hd : d < x.size) : (x.setIfInBounds d v).getD t undef = if t = d then v else x.getD t undef := by
  simp only [Array.getD_eq_getD_getElem?, Array.getElem?_setIfInBounds]
  by_cases h : d = t
  · subst h; simp [hd]
  · rw [if_neg h, if_neg (fun e => h e.symm)]
/-- A plain slot is written. -/
theorem RelB.put (r : RelB E w0 G0 β st a w) {d : Nat} (hd : lookE E.env d = none) (hn : d < E.n) (v : Value) : RelB E w0 G0 β ⟨setS st.s d v, st.l, st.G⟩ (a.put (some d) v) w := by
  refine ⟨r.defers, by simp [Act.put, r.size], r.fr, fun t ht => ?_, fun t k o ht hs => ?_, r.loc, r.inj⟩
  · simp only [Act.put]
    rw [getD_set _ _ _ _ (by rw [r.size]; exact hn)]
    by_cases e : t = d
    · subst e; rw [if_pos rfl, setS_same]
    · rw [if_neg e, setS_ne _ _ e]; exact r.slot t ht
  · have e : t ≠ d := fun e => by subst e; rw [hd] at ht; cases ht
    change setS st.s d v t = _ at hs
    rw [setS_ne _ _ e] at hs
    obtain ⟨b, h1, h2, h3⟩ := r.ptr t k o ht hs
    refine ⟨b, h1, h2, ?_⟩
    simp only [Act.put]
    rw [getD_set _ _ _ _ (by rw [r.size]; exact hn), if_neg e]; exact h3
/-- A slot that holds an address of a local variable is written. -/
theorem RelB.putP (r : RelB E w0 G0 β st a w) {d k : Nat} (hd : lookE E.env d = some k) (hn : d < E.n) {v : Value} {z : Value} (hv : ∀ o, z = .int .u64 o → ∃ b, β k = some b ∧ 0 ≤ o ∧ v = .pointer (some ⟨b, o.toNat, none⟩)) :
    RelB E w0 G0 β ⟨setS st.s d z, st.l, st.G⟩ (a.put (some d) v) w := by
  refine ⟨r.defers, by simp [Act.put, r.size], r.fr, fun t ht => ?_, fun t k' o ht hs => ?_, r.loc, r.inj⟩
  · have e : t ≠ d := fun e => by subst e; rw [hd] at ht; cases ht
    simp only [Act.put]
    rw [getD_set _ _ _ _ (by rw [r.size]; exact hn), if_neg e, setS_ne _ _ e]; exact r.slot t ht
  · simp only [Act.put]
    rw [getD_set _ _ _ _ (by rw [r.size]; exact hn)]
    by_cases e : t = d
    · subst e
      change setS st.s t z t = _ at hs
      rw [setS_same] at hs
      rw [hd] at ht; cases ht
      rw [if_pos rfl]
      exact hv o hs
    · rw [if_neg e]
      change setS st.s d z t = _ at hs
      rw [setS_ne _ _ e] at hs
      exact r.ptr t k' o ht hs
/-- The world and what is known of it turn; the local variables stand. -/
theorem RelB.world (r : RelB E w0 G0 β st a w) {G' : GH} {w' : World} (hf : Fr st.G w G' w') : RelB E w0 G0 β ⟨st.s, st.l, G'⟩ a w' := by
  refine ⟨r.defers.fr hf, r.size, r.fr.trans hf, r.slot, r.ptr, fun k b hb => ?_, r.inj⟩
  obtain ⟨h1, h2, e, h3⟩ := r.loc k b hb
  have hlt : b < w.heap.size := (Array.getElem?_eq_some_iff.1 h3).1
  exact ⟨h1, hf.none b hlt h2, e, by rw [hf.block b hlt h2]; exact h3⟩
theorem RelB.drew (h : RelB E w0 G0 β st a w) : RelB E w0 G0 β st a w.drew := h.world (Fr.drew h.view)
/-- A block of which cells are written. -/
theorem heap_setCell (w : World) {b : Nat} {cs : Array Value} {e : TypeId} {fr : Nat × Nat} (h : w.heap[b]? = some (.cells cs e fr)) (o : Nat) (v : Value) :
    (w.setCell ⟨b, o, none⟩ v).heap[b]? = some (.cells (cs.setIfInBounds o v) e fr) ∧ ∀ j, j ≠ b → (w.setCell ⟨b, o, none⟩ v).heap[j]? = w.heap[j]? := by
  constructor
  · simp [World.setCell, Array.getElem?_modify, h]
  · intro j hj
    simp only [World.setCell, Array.getElem?_modify]
    rw [if_neg (by omega)]
structure SameBut (b : Nat) (w w' : World) : Prop where
  os : w'.os = w.os
  tape : w'.tape = w.tape
  output : w'.output = w.output
  size : w'.heap.size = w.heap.size
  block : ∀ j, j ≠ b → w'.heap[j]? = w.heap[j]?
theorem SameBut.trans {b : Nat} {w w1 w2 : World} (h : SameBut b w w1) (k : SameBut b w1 w2) : SameBut b w w2 :=
  ⟨k.os.trans h.os, k.tape.trans h.tape, k.output.trans h.output, k.size.trans h.size, fun j hj => (k.block j hj).trans (h.block j hj)⟩
theorem SameBut.refl (b : Nat) (w : World) : SameBut b w w := ⟨rfl, rfl, rfl, rfl, fun _ _ => rfl⟩
theorem run_storeCells : ∀ (vs : List Value) (w : World) {b : Nat} {cs : Array Value} {e : TypeId} {fr : Nat × Nat} (o i : Nat), w.heap[b]? = some (.cells cs e fr) → cells1 vs = true → o + i + vs.length ≤ cs.size → (fr.2 ≤ o + i ∨ o + i + vs.length ≤ fr.1) →
    ∃ w', (storeCells ⟨b, o, none⟩ vs i).run P w = .ok () w' ∧ w'.heap[b]? = some (.cells (wr cs (o + i) vs) e fr) ∧ SameBut b w w'
  | [], w, b, cs, e, fr, o, i, h, _, _, _ => ⟨w, by simp [storeCells], h, SameBut.refl b w⟩
  | v :: vs, w, b, cs, e, fr, o, i, h, h1, hs, hfr => by
    simp only [cells1, List.all_cons, Bool.and_eq_true] at h1
    simp only [List.length_cons] at hs hfr
    have hc : w.cell? ⟨b, o + i, none⟩ = some cs[o + i] := by rw [cell_of h]; exact Array.getElem?_eq_getElem (by omega)
    have hz : w.frozen? ⟨b, o + i, none⟩ = false := by
      simp only [World.frozen?, h]
      have : ¬ (fr.1 ≤ o + i ∧ o + i < fr.2) := by omega
      simpa using this
    obtain ⟨h2, h3⟩ := heap_setCell w h (o + i) v
    obtain ⟨w', r1, r2, r3⟩ := run_storeCells vs (w.setCell ⟨b, o + i, none⟩ v) (b := b) o (i + 1) h2 h1.2 (by simp; omega) (by omega)
    refine ⟨w', ?_, by simpa [wr, Nat.add_assoc] using r2, SameBut.trans (show SameBut b w (w.setCell ⟨b, o + i, none⟩ v) from ⟨rfl, rfl, rfl, by simp, h3⟩) r3⟩
    simp only [storeCells, Sem.run_bind, add_plain, run_store _ _ _ _ _ h1.1, hc, hz, Bool.false_eq_true, if_false, Result.andThen_ok, r1]
theorem Fr.write {G : GH} {w w' : World} (hv : View G w) {b : Nat} {o o' : Obj} (hG : G b = some o) (hb : w'.heap[b]? = some o') (hs : SameBut b w w') : Fr G w (G.put b o') w' := by
  refine ⟨hs.os, hs.tape, hs.output, Nat.le_of_eq hs.size.symm, fun j hj hn => hs.block j (fun e => by subst e; rw [hG] at hn; cases hn), fun j hj hn => ?_, fun j p hp => ?_⟩
  · have e : j ≠ b := fun e => by subst e; rw [hG] at hn; cases hn
    rw [GH.put_ne _ _ e]; exact hn
  · by_cases e : j = b
    · subst e; rw [GH.put_same] at hp; cases hp; exact hb
    · rw [GH.put_ne _ _ e] at hp; rw [hs.block j e]; exact hv j p hp
/-- A store into a local variable's block. -/
theorem RelB.storeL (h : RelB E w0 G0 β st a w) {k b : Nat} (hb : β k = some b) {cs' : Array Value} {w' : World} {e : TypeId} (h1 : w'.heap[b]? = some (.cells cs' e (0, 0))) (hs : SameBut b w w') : RelB E w0 G0 β ⟨st.s, setL st.l k cs', st.G⟩ a w' := by
  obtain ⟨hge, hno, e0, he0⟩ := h.loc k b hb
  refine ⟨h.defers.keep fun D hD => by rw [hs.block D (fun e => by subst e; rw [he0] at hD; cases hD)]; exact hD, h.size, ⟨hs.os.trans h.fr.os, hs.tape.trans h.fr.tape, hs.output.trans h.fr.output, by rw [hs.size]; exact h.fr.size, fun j hj hn => ?_, h.fr.none, fun j p hp => ?_⟩, h.slot, h.ptr, fun k' b' hb' => ?_, h.inj⟩
  · rw [hs.block j (by omega)]; exact h.fr.block j hj hn
  · have : j ≠ b := fun e => by subst e; rw [hno] at hp; cases hp
    rw [hs.block j this]; exact h.fr.view j p hp
  · obtain ⟨h2, h3, e2, h4⟩ := h.loc k' b' hb'
    refine ⟨h2, h3, ?_⟩
    by_cases hk : k' = k
    · subst hk
      rw [hb] at hb'; cases hb'
      exact ⟨e, by rw [show (⟨st.s, setL st.l k' cs', st.G⟩ : St).l k' = cs' from setL_same _ _ _]; exact h1⟩
    · have hne : b' ≠ b := fun e => hk (h.inj k' k b' hb' (e ▸ hb))
      exact ⟨e2, by rw [show (⟨st.s, setL st.l k cs', st.G⟩ : St).l k' = st.l k' from setL_ne _ _ hk, hs.block b' hne]; exact h4⟩
/-- A local variable is made anew. -/
theorem RelB.allocL (r : RelB E w0 G0 β st a w) {d k : Nat} (hd : lookE E.env d = some k) (hn : d < E.n) (cs : Array Value) (e : TypeId) :
    RelB E w0 G0 (fun i => if i = k then some w.heap.size else β i) ⟨setS (fun t => bif (lookE E.env t == some k) then undef else st.s t) d (.int .u64 0), setL st.l k cs, st.G⟩ (a.put (some d) (.pointer (some ⟨w.heap.size, 0, none⟩))) (w.alloc (.cells cs e)) := by
  have hfr := r.fr.trans (Fr.alloc_hid r.fr.view (.cells cs e))
  refine ⟨r.defers.fr (Fr.alloc_hid r.fr.view (.cells cs e)), by simp [Act.put, r.size], hfr, fun t ht => ?_, fun t k' o ht hs => ?_, fun k' b hb => ?_, fun k1 k2 b h1 h2 => ?_⟩
  · have e1 : t ≠ d := fun e => by subst e; rw [hd] at ht; cases ht
    simp only [Act.put]
    rw [getD_set _ _ _ _ (by rw [r.size]; exact hn), if_neg e1, setS_ne _ _ e1]
    simp only [ht]
    exact r.slot t ht
  · simp only [Act.put]
    rw [getD_set _ _ _ _ (by rw [r.size]; exact hn)]
    by_cases e1 : t = d
    · subst e1
      dsimp only at hs
      rw [setS_same] at hs
      cases hs
      rw [hd] at ht; cases ht
      exact ⟨w.heap.size, by simp, by omega, by simp⟩
    · rw [if_neg e1]
      dsimp only at hs
      rw [setS_ne _ _ e1] at hs
      simp only [ht] at hs
      by_cases hk : k' = k
      · subst hk
        simp [undef] at hs
      · have : (some k' == some k) = false := by simpa using hk
        rw [this] at hs
        obtain ⟨b, h1, h2, h3⟩ := r.ptr t k' o ht hs
        exact ⟨b, by simp [hk, h1], h2, h3⟩
  · by_cases hk : k' = k
    · subst hk
      simp at hb; subst hb
      refine ⟨r.fr.size, r.fr.view.fresh (Nat.le_refl _), e, ?_⟩
      rw [show (⟨_, setL st.l k' cs, st.G⟩ : St).l k' = cs from setL_same _ _ _]
      exact heap_alloc_new w _
    · simp [hk] at hb
      obtain ⟨h1, h2, e2, h3⟩ := r.loc k' b hb
      have hlt : b < w.heap.size := (Array.getElem?_eq_some_iff.1 h3).1
      refine ⟨h1, h2, e2, ?_⟩
      rw [show (⟨_, setL st.l k cs, st.G⟩ : St).l k' = st.l k' from setL_ne _ _ hk, heap_alloc_old w _ hlt]
      exact h3
  · by_cases e1 : k1 = k <;> by_cases e2 : k2 = k
    · rw [e1, e2]
    · simp [e1] at h1; simp [e2] at h2
      obtain ⟨_, _, e3, h3⟩ := r.loc k2 b h2
      have := (Array.getElem?_eq_some_iff.1 h3).1
      omega
    · simp [e1] at h1; simp [e2] at h2
      obtain ⟨_, _, e3, h3⟩ := r.loc k1 b h1
      have := (Array.getElem?_eq_some_iff.1 h3).1
      omega
    · simp [e1] at h1; simp [e2] at h2
      exact r.inj k1 k2 b h1 h2
end
/-! ### The operations of the library -/
inductive POp where
  | pure (d : Nat) (f : PF) (xs : List Operand)
  | lalloc (d k : Nat) (zero : Array Value)
  | lbox (d k : Nat) (x : Operand)
  | lmove (d s : Nat)
  | lfield (d s o : Nat)
  | lindex (d s len n : Nat) (i : Operand)
  | lload (d k s n : Nat) (g : Bool)
  | lstore (k s n : Nat) (x : Operand)
  | halloc (d : Nat) (t : TypeId) (zero : Array Value)
  | hbox (d : Nat) (t : TypeId) (x : Operand)
  | hload (d n : Nat) (g : Bool) (x : Operand)
  | hstore (n : Nat) (x v : Operand)
  | bslice (d : Nat) (e : TypeId) (len : Nat) (cells : Array Value) (parts : List (Nat × Nat)) (xs : List Operand)
  | mslice (d : Nat) (e : TypeId) (n bytes : Nat) (zero : Array Value) (l c : Operand)
  | append (d : Nat) (e : TypeId) (n bytes : Nat) (zero : Array Value) (x y : Operand)
  | growz (d : Nat) (e : TypeId) (n bytes : Nat) (zero : Array Value) (x y : Operand)
  | copy (d n : Nat) (x y : Operand)
  | b2s (d : Nat) (x : Operand)
  | s2b (d : Nat) (e : TypeId) (x : Operand)
  | call (d : Option Nat) (f : FuncId) (xs : List Operand)
  | callv (d : Option Nat) (x : Operand) (xs : List Operand)
  | yieldc (d : Nat) (x : Operand) (xs : List Operand)
  | callx (d : Nat) (f : FuncId) (xs : List Operand)
  | markb (d : Nat) (x : Operand)
  | mkmap (d : Nat)
  | mlook (d : Nat) (zero : Value) (ok : Bool) (x k : Operand)
  | mput (x k v : Operand)
  | mdel (x k : Operand)
  | stuck
def setO (st : St) (d : Option Nat) (v : Value) : Nat → Value := match d with | some d => setS st.s d v | none => st.s
/-- May it be called (it has a body; it is no word of the runtime's)? -/
def callable (P : Program) (f : FuncId) : Bool := match P.funcs[f]? with | some fn => !(fn.name == "runtime.NumGoroutine") && fn.body.isSome | none => false
/-- CONTRACT of a loop's body, called as yield. -/
def HY (P : Program) (l : Nat) (args : Array Value) (G : GH) (R : Value → GH → Prop) : Prop :=
  ∀ w, View G w → YieldAt Fence.wide 0 P l args w fun e w' => ∃ v G', e = .returned v ∧ Fr G w G' w' ∧ R v G'
theorem HY.mono {P : Program} {l : Nat} {args : Array Value} {G : GH} {R R' : Value → GH → Prop} (h : HY P l args G R) (hr : ∀ v G', R v G' → R' v G') : HY P l args G R' :=
  fun w hw => let ⟨fn, tmps, assign, body, h1, h2⟩ := h w hw; ⟨fn, tmps, assign, body, h1, h2.mono fun _ _ ⟨v, G', e, hf, r⟩ => ⟨v, G', e, hf, hr v G' r⟩⟩
/-- Maps whose keys are strings: an entry's place and value; written; taken away. -/
def findS (s : ByteArray) : List MapEntry → Nat → Option (Nat × Value)
  | [], _ => none
  | e :: es, i => match e.key with
    | .string t => bif s == t then some (i, e.val) else findS s es (i + 1)
    | _ => none
def strK (es : Array MapEntry) : Prop := ∀ e ∈ es.toList, ∃ s, e.key = .string s
def putS (s : ByteArray) (v : Value) (es : Array MapEntry) (clock : Nat) : Obj := match findS s es.toList 0 with
  | some (i, _) => .map (es.modify i fun e => { e with key := .string s, val := v }) clock
  | none => .map (es.push { key := .string s, val := v, born := clock }) (clock + 1)
def delS (s : ByteArray) (es : Array MapEntry) (clock : Nat) : Obj := match findS s es.toList 0 with
  | some (i, _) => .map (es.eraseIdxIfInBounds i) clock
  | none => .map es clock
def lookV (ok : Bool) (zero : Value) (r : Option (Nat × Value)) : Value := bif ok then .tuple #[(match r with | some (_, v) => v | none => zero), .bool r.isSome] else (match r with | some (_, v) => v | none => zero)
/-- There is room for so many bytes. -/
abbrev fitB (m bytes : Nat) : Prop := m ≤ 140737488355328 ∨ (bytes ≤ 4096 ∧ m ≤ 211106232532992)
/-- WHAT IS TO BE SHOWN at an operation. -/
def pv (P : Program) (E : Env) (o : POp) (st : St) (K : St → Prop) : Prop :=
  match o with
  | .pure d f xs => ∃ v, pureV f (xs.map (ev st)) = some v ∧ K ⟨setS st.s d v, st.l, st.G⟩
  | .lalloc d k zero => K ⟨setS (fun t => bif (lookE E.env t == some k) then undef else st.s t) d (.int .u64 0), setL st.l k zero, st.G⟩
  | .lbox d k x => K ⟨setS (fun t => bif (lookE E.env t == some k) then undef else st.s t) d (.int .u64 0), setL st.l k (ev st x).cells, st.G⟩
  | .lmove d s => K ⟨setS st.s d (st.s s), st.l, st.G⟩
  | .lfield d s o => ∃ p, st.s s = .int .u64 p ∧ K ⟨setS st.s d (.int .u64 (p + o)), st.l, st.G⟩
  | .lindex d s len n i => ∃ p k j, st.s s = .int .u64 p ∧ ev st i = .int k j ∧ (0 ≤ j ∧ j < len) ∧ K ⟨setS st.s d (.int .u64 (p + j * n)), st.l, st.G⟩
  | .lload d k s n g => ∃ p v, st.s s = .int .u64 p ∧ takeV g (st.l k) p.toNat n = some v ∧ K ⟨setS st.s d v, st.l, st.G⟩
  | .lstore k s n x => ∃ p, st.s s = .int .u64 p ∧ ((ev st x).cells.size = n ∧ p.toNat + n ≤ (st.l k).size ∧ cells1 (ev st x).cells.toList = true) ∧ K ⟨st.s, setL st.l k (wr (st.l k) p.toNat (ev st x).cells.toList), st.G⟩
  | .halloc d t zero => ∀ b, st.G b = none → K ⟨setS st.s d (.pointer (some ⟨b, 0, none⟩)), st.l, st.G.put b (.cells zero t)⟩
  | .hbox d t x => ∀ b, st.G b = none → K ⟨setS st.s d (.pointer (some ⟨b, 0, none⟩)), st.l, st.G.put b (.cells (ev st x).cells t)⟩
  | .hload d n g x => ∃ b q cs e fr v, ev st x = .pointer (some ⟨b, q, none⟩) ∧ st.G b = some (.cells cs e fr) ∧ takeV g cs q n = some v ∧ K ⟨setS st.s d v, st.l, st.G⟩
  | .hstore n x v => ∃ b q cs e fr, ev st x = .pointer (some ⟨b, q, none⟩) ∧ st.G b = some (.cells cs e fr) ∧ ((ev st v).cells.size = n ∧ q + n ≤ cs.size ∧ cells1 (ev st v).cells.toList = true ∧ (fr.2 ≤ q ∨ q + n ≤ fr.1)) ∧ K ⟨st.s, st.l, st.G.put b (.cells (wr cs q (ev st v).cells.toList) e fr)⟩
  | .bslice d e len cells parts xs => ∃ cs, fillV parts (xs.map (ev st)) cells = some cs ∧ ∀ b, st.G b = none → K ⟨setS st.s d (.slice (some ⟨b, 0, none⟩) len len), st.l, st.G.put b (.cells cs e)⟩
  | .mslice d e n bytes zero l c => ∃ k l' k' c', ev st l = .int k l' ∧ ev st c = .int k' c' ∧ (0 ≤ l' ∧ l' ≤ c' ∧ c' * bytes ≤ 140737488355328 ∧ c' ≤ 9223372036854775807) ∧ ∀ b, st.G b = none → K ⟨setS st.s d (.slice (some ⟨b, 0, none⟩) l'.toNat c'.toNat), st.l, st.G.put b (.cells (Builtin.zeroCells zero c'.toNat) e)⟩
  | .append d e n bytes zero x y => ∃ a len cap a' len' cap' es, ev st x = .slice a len cap ∧ ev st y = .slice a' len' cap' ∧ rd st.G n (ev st y) = some es ∧ fitB ((len + len') * bytes) bytes ∧ len + len' ≤ 9223372036854775807 ∧
      if len + len' ≤ cap then
        (match a with
         | none => es = [] ∧ K ⟨setS st.s d (.slice none (len + len') cap), st.l, st.G⟩
         | some ⟨b, q, sp⟩ => sp = none ∧ ∃ cs e' fr, st.G b = some (.cells cs e' fr) ∧ (q + (len + len') * n ≤ cs.size ∧ cells1 es = true ∧ (fr.2 ≤ q + len * n ∨ q + (len + len') * n ≤ fr.1)) ∧ K ⟨setS st.s d (.slice a (len + len') cap), st.l, st.G.put b (.cells (wr cs (q + len * n) es) e' fr)⟩)
      else ∃ xs, rd st.G n (ev st x) = some xs ∧ ∀ b c, st.G b = none → len + len' ≤ c → c ≤ 9223372036854775807 → K ⟨setS st.s d (.slice (some ⟨b, 0, none⟩) (len + len') c), st.l, st.G.put b (.cells (xs.toArray ++ es.toArray ++ Builtin.zeroCells zero (c - (len + len'))) e)⟩
  | .growz d e n bytes zero x y => ∃ a len cap k l, ev st x = .slice a len cap ∧ ev st y = .int k l ∧ 0 ≤ l ∧ fitB ((len + l.toNat) * bytes) bytes ∧ len + l.toNat ≤ 9223372036854775807 ∧
      if len + l.toNat ≤ cap then
        (match a with
         | none => False
         | some ⟨b, q, sp⟩ => sp = none ∧ ∃ cs e' fr, st.G b = some (.cells cs e' fr) ∧ (q + (len + l.toNat) * n ≤ cs.size ∧ cells1 (Builtin.zeroCells zero l.toNat).toList = true ∧ (fr.2 ≤ q + len * n ∨ q + (len + l.toNat) * n ≤ fr.1)) ∧ K ⟨setS st.s d (.slice a (len + l.toNat) cap), st.l, st.G.put b (.cells (wr cs (q + len * n) (Builtin.zeroCells zero l.toNat).toList) e' fr)⟩)
      else ∃ xs, rd st.G n (ev st x) = some xs ∧ ∀ b c, st.G b = none → len + l.toNat ≤ c → c ≤ 9223372036854775807 → K ⟨setS st.s d (.slice (some ⟨b, 0, none⟩) (len + l.toNat) c), st.l, st.G.put b (.cells (xs.toArray ++ Builtin.zeroCells zero l.toNat ++ Builtin.zeroCells zero (c - (len + l.toNat))) e)⟩
  | .copy d n x y => ∃ a len cap a' len' cap' es, ev st x = .slice a len cap ∧ ev st y = .slice a' len' cap' ∧ rd st.G n (.slice a' (Nat.min len' len) cap') = some es ∧
      (match a with
       | none => K ⟨setS st.s d (.int .i64 (Nat.min len' len)), st.l, st.G⟩
       | some ⟨b, q, sp⟩ => sp = none ∧ ∃ cs e' fr, st.G b = some (.cells cs e' fr) ∧ (q + (Nat.min len' len) * n ≤ cs.size ∧ cells1 es = true ∧ (fr.2 ≤ q ∨ q + (Nat.min len' len) * n ≤ fr.1)) ∧ K ⟨setS st.s d (.int .i64 (Nat.min len' len)), st.l, st.G.put b (.cells (wr cs q es) e' fr)⟩)
  | .b2s d x => ∃ xs : List Int, rd st.G 1 (ev st x) = some (xs.map (Value.int .u8)) ∧ K ⟨setS st.s d (.string (strOfNums xs)), st.l, st.G⟩
  | .s2b d e x => ∃ s, ev st x = .string s ∧ s.size ≤ 9223372036854775807 ∧ ∀ b c, st.G b = none → s.size ≤ c → c ≤ 9223372036854775807 → K ⟨setS st.s d (.slice (some ⟨b, 0, none⟩) s.size c), st.l, st.G.put b (.cells (s.data.map (fun b => .int .u8 b.toNat) ++ Array.replicate (c - s.size) (.int .u8 0)) e (c, c + 1))⟩
  | .call d f xs => HC P f (xs.map (ev st)).toArray st.G fun v G' => K ⟨setO st d v, st.l, G'⟩
  | .callv d x xs => ∃ f first captured, ev st x = .func (.func f) first captured ∧ callable P f = true ∧ HC P f (first ++ (xs.map (ev st)).toArray ++ captured) st.G fun v G' => K ⟨setO st d v, st.l, G'⟩
  | .yieldc d x xs => ∃ l, ev st x = .func (.yield l) #[] #[] ∧ HY P l (xs.map (ev st)).toArray st.G fun v G' => K ⟨setS st.s d v, st.l, G'⟩
  | .callx d f xs => ∃ v, (∀ w : World, (callFunc f (xs.map (ev st)).toArray).run P w = .ok (.value v) w) ∧ K ⟨setS st.s d v, st.l, st.G⟩
  | .markb d x => ∃ b q n c cs e, ev st x = .slice (some ⟨b, q, none⟩) n c ∧ st.G b = some (.cells cs e (0, 0)) ∧ K ⟨setS st.s d (ev st x), st.l, st.G.put b (.cells cs e (cs.size, cs.size + 1))⟩
  | .mkmap d => ∀ b, st.G b = none → K ⟨setS st.s d (.map (some b)), st.l, st.G.put b (.map #[] 0)⟩
  | .mlook d zero ok x k => ∃ s, ev st k = .string s ∧ ((ev st x = .map none ∧ K ⟨setS st.s d (lookV ok zero none), st.l, st.G⟩) ∨ ∃ b es clock, ev st x = .map (some b) ∧ st.G b = some (.map es clock) ∧ strK es ∧ K ⟨setS st.s d (lookV ok zero (findS s es.toList 0)), st.l, st.G⟩)
  | .mput x k v => ∃ s b es clock, ev st k = .string s ∧ ev st x = .map (some b) ∧ st.G b = some (.map es clock) ∧ strK es ∧ K ⟨st.s, st.l, st.G.put b (putS s (ev st v) es clock)⟩
  | .mdel x k => ∃ s, ev st k = .string s ∧ ((ev st x = .map none ∧ K st) ∨ ∃ b es clock, ev st x = .map (some b) ∧ st.G b = some (.map es clock) ∧ strK es ∧ K ⟨st.s, st.l, st.G.put b (delS s es clock)⟩)
  | .stuck => False
end Go.Proofs.Ytbmhdmkmnhaffaa.V
end
section
/- Library V, part E: the program's operations are the library's, and what is to be shown at each suffices. No program here. -/
set_option linter.unusedVariables false
set_option linter.unusedSimpArgs false
namespace Go.Proofs.Ytbmhdmkmnhaffaa.V
def locX (E : Env) : Operand → Option (Nat × Nat)
  | .tmp t => (lookE E.env t).map fun k => (t, k)
  | _ => none
def plainD (E : Env) (d : Option Nat) : Option Nat := match d with
  | some d => bif (lookE E.env d).isNone && Nat.blt d E.n then some d else none
  | none => none
def locD (E : Env) (d : Option Nat) : Option (Nat × Nat) := match d with
  | some d => bif Nat.blt d E.n then (lookE E.env d).map fun k => (d, k) else none
  | none => none
def allPlain (E : Env) (xs : List Operand) : Bool := xs.all (plainX E)
def compPure (P : Program) (E : Env) (o : Oper) : Option POp :=
  match plainD E o.dst, compPF P o.op with
  | some d, some (f, xs) => bif allPlain E xs then some (.pure d f xs) else none
  | _, _ => none
/-- A local variable's address: where from, how. -/
def compLoc (P : Program) (E : Env) (o : Oper) (d k : Nat) : Option POp :=
  match o.op with
  | .alloc t => (zeroOf P t).map fun z => .lalloc d k z.cells
  | .box t x => bif plainX E x then some (.lbox d k x) else none
  | .move x => (locX E x).bind fun (s, k') => bif Nat.beq k k' then some (.lmove d s) else none
  | .fieldAddr t x i => (locX E x).bind fun (s, k') => bif Nat.beq k k' then (fldT P t i).bind fun (q, ft) => (tyInfo P ft).bind fun (_, n) => bif n == 0 then none else some (.lfield d s q) else none
  | .indexAddr t x i => (locX E x).bind fun (s, k') => bif Nat.beq k k' && plainX E i then (arrT P t).bind fun (len, e) => (tyInfo P e).map fun (_, n) => .lindex d s len n i else none
  | _ => none
def retD (E : Env) (d : Option Nat) : Option (Option Nat) := match d with
  | some d => bif (lookE E.env d).isNone && Nat.blt d E.n then some (some d) else none
  | none => some none
def sliceInfo (P : Program) (t : TypeId) : Option (TypeId × TypeInfo) := (slcT P t).bind fun e => (P.info? e).map fun i => (e, i)
/-- A map's type whose keys are strings; its values' zero. -/
def mapT (P : Program) (t : TypeId) : Option TypeId := match P.underlying t with
  | some (.map k e) => bif isStr P k then some e else none
  | _ => none
def compOp (P : Program) (E : Env) (o : Oper) : Option POp :=
  match locD E o.dst with
  | some (d, k) => compLoc P E o d k
  | none =>
    match o.op with
    | .alloc t => (plainD E o.dst).bind fun d => (zeroOf P t).map fun z => .halloc d t z.cells
    | .box t x => (plainD E o.dst).bind fun d => bif plainX E x then some (.hbox d t x) else none
    | .load t x => (plainD E o.dst).bind fun d => (tyInfo P t).bind fun (g, n) =>
      match locX E x with
      | some (s, k) => some (.lload d k s n g)
      | none => bif plainX E x then some (.hload d n g x) else none
    | .store t x v => bif o.dst.isNone && plainX E v then (tyInfo P t).bind fun (g, n) =>
      match locX E x with
      | some (s, k) => some (.lstore k s n v)
      | none => bif plainX E x then some (.hstore n x v) else none
      else none
    | .buildSlice t len parts => (plainD E o.dst).bind fun d => (sliceInfo P t).bind fun (e, i) => i.zero.bind fun z =>
      bif allPlain E (parts.toList.map (·.2)) && Nat.ble (len * i.size) 16777216 && Nat.beq z.cells.size i.size then some (.bslice d e len (Builtin.zeroCells z.cells len) (parts.toList.map fun p => (p.1 * i.size, i.size)) (parts.toList.map (·.2))) else none
    | .makeSlice t l c => (plainD E o.dst).bind fun d => (sliceInfo P t).bind fun (e, i) => i.zero.bind fun z =>
      bif plainX E l && plainX E c && Nat.beq z.cells.size i.size then some (.mslice d e i.size i.bytes z.cells l c) else none
    | .convert s t x =>
      match slcT P s, slcT P t with
      | some e, none => bif isStr P t && (isKind P e == some .u8) && plainX E x then (plainD E o.dst).map fun d => .b2s d x else none
      | none, some e => bif isStr P s && (isKind P e == some .u8) && plainX E x then (plainD E o.dst).map fun d => .s2b d e x else none
      | _, _ => compPure P E o
    | .call c =>
      match c.callee with
      | .builtin .append => match c.args.toList, c.argTypes.toList with
        | [x, y], [t, t'] => (plainD E o.dst).bind fun d => (sliceInfo P t).bind fun (e, i) => i.zero.bind fun z =>
          bif plainX E x && plainX E y && (slcT P t').isSome && Nat.beq z.cells.size i.size then some (.append d e i.size i.bytes z.cells x y)
          else bif plainX E x && plainX E y && (isKind P t').isSome && Nat.beq z.cells.size i.size then some (.growz d e i.size i.bytes z.cells x y) else none
        | _, _ => none
      | .builtin .copy => match c.args.toList, c.argTypes.toList with
        | [x, y], [t, t'] => (plainD E o.dst).bind fun d => (sliceInfo P t).bind fun (e, i) =>
          bif plainX E x && plainX E y && (slcT P t').isSome then some (.copy d i.size x y) else none
        | _, _ => none
      | .builtin .delete => match c.args.toList, c.argTypes.toList with
        | [x, k], [t, t'] => bif o.dst.isNone && (mapT P t).isSome && plainX E x && plainX E k then some (.mdel x k) else none
        | _, _ => none
      | .value (.func f) => (retD E o.dst).bind fun d => bif allPlain E c.args.toList && callable P f then some (.call d f c.args.toList) else none
      | .value x => (retD E o.dst).bind fun d => bif allPlain E c.args.toList && plainX E x then some (.callv d x c.args.toList) else none
      | _ => compPure P E o
    | .makeMap t r => bif r.isNone then (plainD E o.dst).map fun d => .mkmap d else none
    | .lookup t x k ok => (plainD E o.dst).bind fun d => (mapT P t).bind fun e => (zeroOf P e).bind fun z => bif plainX E x && plainX E k then some (.mlook d z ok x k) else none
    | .mapUpdate t x k v => bif o.dst.isNone && (mapT P t).isSome && plainX E x && (plainX E k && plainX E v) then some (.mput x k v) else none
    | _ => compPure P E o
section
variable {P : Program} {E : Env} {st : St} {w0 : World} {G0 : GH} {β : Nat → Option Nat} {a : Act} {w : World}
theorem blt_lt {a b : Nat} (h : Nat.blt a b = true) : a < b := by
  simp only [Nat.blt, Nat.ble_eq] at h; omega
theorem plainD_some {d : Option Nat} {i : Nat} (h : plainD E d = some i) : d = some i ∧ lookE E.env i = none ∧ i < E.n := by
  cases d with
  | none => cases h
  | some j =>
    simp only [plainD] at h
    cases hb : ((lookE E.env j).isNone && Nat.blt j E.n) with
    | false => rw [hb] at h; cases h
    | true =>
      rw [hb] at h; cases h
      simp only [Bool.and_eq_true] at hb
      exact ⟨rfl, by simpa using hb.1, blt_lt hb.2⟩
theorem locD_some {d : Option Nat} {i k : Nat} (h : locD E d = some (i, k)) : d = some i ∧ lookE E.env i = some k ∧ i < E.n := by
  cases d with
  | none => cases h
  | some j =>
    simp only [locD] at h
    cases hb : (Nat.blt j E.n) with
    | false => rw [hb] at h; cases h
    | true =>
      rw [hb] at h
      simp only [cond_true, Option.map_eq_some_iff] at h
      obtain ⟨k', h1, h2⟩ := h
      cases h2
      exact ⟨rfl, h1, blt_lt hb⟩
theorem locX_some {x : Operand} {s k : Nat} (h : locX E x = some (s, k)) : x = .tmp s ∧ lookE E.env s = some k := by
  cases x with
  | tmp t =>
    simp only [locX, Option.map_eq_some_iff] at h
    obtain ⟨k', h1, h2⟩ := h
    cases h2
    exact ⟨rfl, h1⟩
  | _ => cases h
theorem bif_some {α : Type} {c : Bool} {x : α} {y : Option α} (h : (bif c then y else none) = some x) : c = true ∧ y = some x := by
  cases c with
  | true => exact ⟨rfl, h⟩
  | false => cases h
theorem retD_some {d : Option Nat} {r : Option Nat} (h : retD E d = some r) : d = r ∧ ∀ i, r = some i → lookE E.env i = none ∧ i < E.n := by
  cases d with
  | none => cases h; exact ⟨rfl, fun i hi => by cases hi⟩
  | some j =>
    obtain ⟨h1, h2⟩ := bif_some h
    cases h2
    simp only [Bool.and_eq_true] at h1
    refine ⟨rfl, fun i hi => ?_⟩
    cases hi
    exact ⟨by simpa using h1.1, blt_lt h1.2⟩
theorem RelB.evals (h : RelB E w0 G0 β st a w) : ∀ {xs : List Operand}, allPlain E xs = true → xs.map a.eval = xs.map (ev st)
  | [], _ => rfl
  | x :: xs, hx => by
    simp only [allPlain, List.all_cons, Bool.and_eq_true] at hx
    simp only [List.map_cons, h.eval hx.1, h.evals hx.2]
theorem RelB.addr (r : RelB E w0 G0 β st a w) {s k : Nat} (hs : lookE E.env s = some k) {p : Int} (hp : st.s s = .int .u64 p) : ∃ b, β k = some b ∧ 0 ≤ p ∧ a.eval (.tmp s) = .pointer (some ⟨b, p.toNat, none⟩) := by
  obtain ⟨b, h1, h2, h3⟩ := r.ptr s k p hs hp
  exact ⟨b, h1, h2, h3⟩
theorem sound_pure {o : Oper} {p : POp} {K : St → Prop} (hc : compPure P E o = some p) (hp : pv P E p st K) : Sound P E o [] st K := by
  intro w0 G0 β a w hr K' Q' hk
  unfold compPure at hc
  cases hd : plainD E o.dst with
  | none => rw [hd] at hc; cases hc
  | some d =>
    cases hf : compPF P o.op with
    | none => rw [hd, hf] at hc; cases hc
    | some x =>
      obtain ⟨f, xs⟩ := x
      rw [hd, hf] at hc
      obtain ⟨h1, hc⟩ := bif_some hc
      cases hc
      obtain ⟨v, hv, hK⟩ := hp
      obtain ⟨e1, e2, e3⟩ := plainD_some hd
      rw [← hr.evals h1] at hv
      refine wp_value (pure_run hf hv) ?_
      rw [e1]
      exact hk _ _ _ _ (hr.put e2 e3 v) (fun _ _ => rfl) hK
theorem info_of_zero {t : TypeId} {z : Value} (h : zeroOf P t = some z) : (zeroValue t).run P w = .ok z w := by
  unfold zeroOf at h
  cases hi : P.info? t with
  | none => rw [hi] at h; cases h
  | some i => rw [hi] at h; simp [zeroValue, typeInfo, hi, show i.zero = some z from h]
theorem sound_loc {o : Oper} {d k : Nat} {p : POp} {K : St → Prop} (hd : locD E o.dst = some (d, k)) (hc : compLoc P E o d k = some p) (hp : pv P E p st K) : Sound P E o [k] st K := by
  intro w0 G0 β a w hr K' Q' hk
  obtain ⟨e1, e2, e3⟩ := locD_some hd
  obtain ⟨dst, op, ty, pos, after, guard⟩ := o
  simp only at e1
  subst e1
  cases op with
  | alloc t =>
    simp only [compLoc, Option.map_eq_some_iff] at hc
    obtain ⟨z, hz, hc⟩ := hc
    cases hc
    refine wp_value (v := .pointer (some ⟨w.heap.size, 0, none⟩)) (w' := w.alloc (.cells z.cells t)) ?_ ?_
    · simp [execOp, Instr.alloc, info_of_zero hz, newVar, newRow]
    · exact hk _ _ _ _ (hr.allocL e2 e3 z.cells t) (fun k' hne => if_neg (by simpa using hne)) hp
  | box t x =>
    obtain ⟨h1, hc⟩ := bif_some hc
    cases hc
    refine wp_value (v := .pointer (some ⟨w.heap.size, 0, none⟩)) (w' := w.alloc (.cells (ev st x).cells t)) ?_ ?_
    · simp [execOp, Instr.box, hr.eval h1, newVar, newRow]
    · exact hk _ _ _ _ (hr.allocL e2 e3 (ev st x).cells t) (fun k' hne => if_neg (by simpa using hne)) hp
  | move x =>
    simp only [compLoc, Option.bind_eq_some_iff] at hc
    obtain ⟨⟨s, k'⟩, hx, hc⟩ := hc
    obtain ⟨h1, hc⟩ := bif_some hc
    cases hc
    have hkk := Nat.eq_of_beq_eq_true h1
    subst hkk
    obtain ⟨rfl, hs⟩ := locX_some hx
    refine wp_value (v := a.eval (.tmp s)) (w' := w) rfl ?_
    refine hk _ _ _ _ (hr.putP e2 e3 (z := st.s s) fun o ho => ?_) (fun _ _ => rfl) hp
    obtain ⟨b, h1, h2, h3⟩ := hr.ptr s k o hs ho
    exact ⟨b, h1, h2, h3⟩
  | fieldAddr t x i =>
    simp only [compLoc, Option.bind_eq_some_iff] at hc
    obtain ⟨⟨s, k'⟩, hx, hc1⟩ := hc
    obtain ⟨h1, hc2⟩ := bif_some hc1
    clear hc1
    simp only [Option.bind_eq_some_iff] at hc2
    obtain ⟨⟨q, ft⟩, hq, ⟨g, n⟩, hn, hc⟩ := hc2
    have hkk := Nat.eq_of_beq_eq_true h1
    subst hkk
    obtain ⟨rfl, hs⟩ := locX_some hx
    cases hz : (n == 0) with
    | true => simp only [hz] at hc; cases hc
    | false =>
      simp only [hz] at hc
      cases hc
      obtain ⟨p, hp1, hK⟩ := hp
      obtain ⟨b, h4, h5, h6⟩ := hr.addr hs hp1
      refine wp_value (v := .pointer (some ⟨b, p.toNat + q, none⟩)) (w' := w) ?_ ?_
      · refine pure_run (f := .fptr q) (xs := [.tmp s]) ?_ ?_
        · simp only [compPF, hq, Option.bind_some, hn, hz]; rfl
        · simp only [List.map_cons, List.map_nil, h6, pureV]
      · refine hk _ _ _ _ (hr.putP e2 e3 (z := .int .u64 (p + q)) fun o ho => ?_) (fun _ _ => rfl) hK
        cases ho
        obtain ⟨b', h7, h8, h9⟩ := hr.ptr s k p hs hp1
        have h10 : a.eval (.tmp s) = .pointer (some ⟨b', p.toNat, none⟩) := h9
        rw [h6] at h10
        cases h10
        exact ⟨b, h7, by omega, by congr 3; omega⟩
  | indexAddr t x i =>
    simp only [compLoc, Option.bind_eq_some_iff] at hc
    obtain ⟨⟨s, k'⟩, hx, hc1⟩ := hc
    obtain ⟨h1, hc2⟩ := bif_some hc1
    clear hc1
    simp only [Option.bind_eq_some_iff, Option.map_eq_some_iff] at hc2
    obtain ⟨⟨len, e⟩, hq, ⟨g, n⟩, hn, hc⟩ := hc2
    simp only [Bool.and_eq_true] at h1
    have hkk := Nat.eq_of_beq_eq_true h1.1
    subst hkk
    obtain ⟨rfl, hs⟩ := locX_some hx
    cases hc
    obtain ⟨p, ki, j, hp1, hi, hj, hK⟩ := hp
    obtain ⟨b, h4, h5, h6⟩ := hr.addr hs hp1
    have hu : P.underlying t = some (.array len e) := by
      unfold arrT at hq
      split at hq
      · cases hq; assumption
      · cases hq
    refine wp_value (v := .pointer (some ⟨b, p.toNat + j.toNat * n, none⟩)) (w' := w) ?_ ?_
    · refine pure_run (f := .iptrA len n) (xs := [.tmp s, i]) ?_ ?_
      · simp only [compPF, hu, hn]; rfl
      · simp only [List.map_cons, List.map_nil, h6, hr.eval h1.2, hi, pureV]
        rw [if_pos hj]
    · refine hk _ _ _ _ (hr.putP e2 e3 (z := .int .u64 (p + j * n)) fun o ho => ?_) (fun _ _ => rfl) hK
      cases ho
      obtain ⟨b', h7, h8, h9⟩ := hr.ptr s k p hs hp1
      have h10 : a.eval (.tmp s) = .pointer (some ⟨b', p.toNat, none⟩) := h9
      rw [h6] at h10
      cases h10
      have hjn : 0 ≤ j * (n : Int) := Int.mul_nonneg hj.1 (Int.natCast_nonneg n)
      refine ⟨b, h7, by omega, ?_⟩
      congr 3
      have : (j * (n : Int)).toNat = j.toNat * n := by
        obtain ⟨m, rfl⟩ := Int.eq_ofNat_of_zero_le hj.1
        rw [Int.toNat_natCast, ← Int.natCast_mul, Int.toNat_natCast]
      omega
  | _ => cases hc
theorem RelB.blk (h : RelB E w0 G0 β st a w) {b : Nat} {o : Obj} (hb : st.G b = some o) : w.heap[b]? = some o := h.view b o hb
theorem RelB.newB (h : RelB E w0 G0 β st a w) (o : Obj) : RelB E w0 G0 β ⟨st.s, st.l, st.G.put w.heap.size o⟩ a (w.alloc o) := h.world (Fr.alloc h.view o)
theorem RelB.none_new (h : RelB E w0 G0 β st a w) : st.G w.heap.size = none := h.view.fresh (Nat.le_refl _)
theorem mapT_some {t e : TypeId} (h : mapT P t = some e) : ∃ k, P.underlying t = some (.map k e) ∧ P.underlying k = some .string := by
  unfold mapT at h
  split at h
  · rename_i k e' hu
    cases hk : isStr P k with
    | false => rw [hk] at h; cases h
    | true =>
      rw [hk] at h
      cases h
      refine ⟨k, hu, ?_⟩
      unfold isStr at hk
      split at hk
      · assumption
      · cases hk
  · cases h
theorem findNow_str (s : ByteArray) : ∀ (es : List MapEntry) (i : Nat), (∀ e ∈ es, ∃ t, e.key = .string t) → Instr.findNow .string (.string s) es i = some (findS s es i)
  | [], _, _ => rfl
  | e :: es, i, h => by
    obtain ⟨t, ht⟩ := h e (List.mem_cons_self)
    have ih := findNow_str s es (i + 1) fun e he => h e (List.mem_cons_of_mem _ he)
    simp only [Instr.findNow, findS, ht, Instr.sameNow]
    cases hst : s == t with
    | true => simp only [cond_true]
    | false => simp only [cond_false]; exact ih
theorem run_findKey {k : TypeId} (hk : P.underlying k = some .string) (s : ByteArray) {es : Array MapEntry} (he : strK es) : (Instr.findKey k (.string s) es.toList).run P w = .ok (findS s es.toList 0) w := by
  simp only [Instr.findKey, Sem.run_bind, run_underlying hk, Result.andThen_ok, findNow_str s es.toList 0 he, Sem.run_pure]
theorem run_checkKey {k : TypeId} (hk : P.underlying k = some .string) (b : Bool) (n : Nat) (s : ByteArray) : (Instr.checkKey b (n + 1) k (.string s)).run P w = .ok () w := by
  simp only [Instr.checkKey, Sem.run_bind, run_underlying hk, Result.andThen_ok, Sem.run_pure]
theorem run_getObjM {b : Nat} {es : Array MapEntry} {c : Nat} (h : w.heap[b]? = some (.map es c)) : (getObj b).run P w = .ok (.map es c) w := by
  simp [getObj, Sem.run, h]
theorem sameBut_put (b : Nat) (o : Obj) : SameBut b w (w.putObj b o) := ⟨rfl, rfl, rfl, by rw [World.putObj_size], fun j hj => World.putObj_heap_other hj⟩
theorem putObj_at {b : Nat} {o o' : Obj} (h : w.heap[b]? = some o) : (w.putObj b o').heap[b]? = some o' := by
  have := (Array.getElem?_eq_some_iff.1 h).1
  simp [World.putObj, this]
theorem run_setObjM {b : Nat} {es : Array MapEntry} {c : Nat} {o : Obj} (h : w.heap[b]? = some (.map es c)) : (setObj b o).run P w = .ok () (w.putObj b o) := by
  simp [setObj, Sem.run, h, World.putObj]
theorem beqBA (a b : ByteArray) : (a == b) = decide (a = b) := by
  obtain ⟨a⟩ := a
  obtain ⟨b⟩ := b
  show (a == b) = _
  by_cases h : a = b
  · subst h
    simp
  · have : ¬(⟨a⟩ : ByteArray) = ⟨b⟩ := fun e => h (by cases e; rfl)
    simp [this, h]
theorem sound_halloc {o : Oper} {d : Nat} {t : TypeId} {z : Value} {K : St → Prop} (ho : o.op = .alloc t) (hd : plainD E o.dst = some d) (hz : zeroOf P t = some z) (hp : pv P E (.halloc d t z.cells) st K) : Sound P E o [] st K := by
  intro w0 G0 β a w hr K' Q' hk
  obtain ⟨e1, e2, e3⟩ := plainD_some hd
  refine wp_value (v := .pointer (some ⟨w.heap.size, 0, none⟩)) (w' := w.alloc (.cells z.cells t)) ?_ ?_
  · simp [execOp, ho, Instr.alloc, info_of_zero hz, newVar, newRow]
  · rw [e1]
    exact hk _ _ _ _ ((hr.newB _).put e2 e3 _) (fun _ _ => rfl) (hp _ hr.none_new)
theorem sound_mkmap {o : Oper} {d : Nat} {t : TypeId} {K : St → Prop} (ho : o.op = .makeMap t none) (hd : plainD E o.dst = some d) (hp : pv P E (.mkmap d) st K) : Sound P E o [] st K := by
  intro w0 G0 β a w hr K' Q' hk
  obtain ⟨e1, e2, e3⟩ := plainD_some hd
  refine wp_value (v := .map (some w.heap.size)) (w' := w.alloc (.map #[] 0)) ?_ ?_
  · simp only [execOp, ho, Option.map_none, Instr.makeMap, Sem.run_bind, Sem.run_pure, Result.andThen_ok, run_newObj_alloc]
  · rw [e1]
    exact hk _ _ _ _ ((hr.newB _).put e2 e3 _) (fun _ _ => rfl) (hp _ hr.none_new)
theorem sound_mlook {o : Oper} {d : Nat} {t e : TypeId} {z : Value} {ok : Bool} {x k : Operand} {K : St → Prop} (ho : o.op = .lookup t x k ok) (hd : plainD E o.dst = some d) (ht : mapT P t = some e) (hz : zeroOf P e = some z) (hx : plainX E x = true) (hk' : plainX E k = true) (hp : pv P E (.mlook d z ok x k) st K) : Sound P E o [] st K := by
  intro w0 G0 β a w hr K' Q' hk
  obtain ⟨e1, e2, e3⟩ := plainD_some hd
  obtain ⟨kt, hu, hs⟩ := mapT_some ht
  obtain ⟨s, h1, h2⟩ := hp
  rcases h2 with ⟨h3, hK⟩ | ⟨b, es, clock, h3, h4, h5, hK⟩
  · refine wp_value (v := lookV ok z none) (w' := w) ?_ ?_
    · simp only [execOp, ho, hr.eval hx, hr.eval hk', h1, h3, Instr.lookup, Sem.run_bind, run_underlying hu, Result.andThen_ok, Sem.run_pure, run_checkKey hs, run_findKey (es := #[]) hs s (fun e he => by cases he), findS, info_of_zero hz]
      cases ok <;> rfl
    · rw [e1]
      exact hk _ _ _ _ (hr.put e2 e3 _) (fun _ _ => rfl) hK
  · refine wp_value (v := lookV ok z (findS s es.toList 0)) (w' := w) ?_ ?_
    · simp only [execOp, ho, hr.eval hx, hr.eval hk', h1, h3, Instr.lookup, Sem.run_bind, run_underlying hu, Result.andThen_ok, Sem.run_pure, run_checkKey hs, run_getObjM (hr.blk h4), run_findKey hs s h5]
      cases hf : findS s es.toList 0 with
      | none => simp only [Sem.run_bind, info_of_zero hz, Result.andThen_ok, Sem.run_pure]; cases ok <;> rfl
      | some r => obtain ⟨i, v⟩ := r; simp only [Sem.run_pure, Result.andThen_ok]; cases ok <;> rfl
    · rw [e1]
      exact hk _ _ _ _ (hr.put e2 e3 _) (fun _ _ => rfl) hK
theorem sameBits_str (s : ByteArray) : Instr.sameBits 10000 (.string s) (.string s) = true := by
  simp only [Instr.sameBits, beqBA, decide_true]
theorem findS_key {s : ByteArray} : ∀ {es : List MapEntry} {i j : Nat} {v : Value}, findS s es i = some (j, v) → i ≤ j ∧ ∃ e, es[j - i]? = some e ∧ e.key = .string s
  | e :: es, i, j, v, h => by
    simp only [findS] at h
    split at h
    · rename_i t ht
      cases hst : s == t with
      | true =>
        rw [hst] at h
        cases h
        exact ⟨Nat.le_refl _, e, by simp, by rw [ht]; rw [beqBA, decide_eq_true_eq] at hst; rw [hst]⟩
      | false =>
        rw [hst] at h
        obtain ⟨h1, e', h2, h3⟩ := findS_key (es := es) h
        refine ⟨by omega, e', ?_, h3⟩
        rw [show j - i = (j - (i + 1)) + 1 by omega]
        exact h2
    · cases h
theorem sound_mput {o : Oper} {t e : TypeId} {x k v : Operand} {K : St → Prop} (ho : o.op = .mapUpdate t x k v) (hd : o.dst = none) (ht : mapT P t = some e) (hx : plainX E x = true) (hk' : plainX E k = true) (hv : plainX E v = true) (hp : pv P E (.mput x k v) st K) : Sound P E o [] st K := by
  intro w0 G0 β a w hr K' Q' hk
  obtain ⟨kt, hu, hs⟩ := mapT_some ht
  obtain ⟨s, b, es, clock, h1, h2, h3, h4, hK⟩ := hp
  refine wp_skipped (w' := w.putObj b (putS s (ev st v) es clock)) ?_ ?_
  · simp only [execOp, ho, hr.eval hx, hr.eval hk', hr.eval hv, h1, h2, Instr.mapUpdate, Sem.run_bind, run_underlying hu, Result.andThen_ok, run_checkKey hs, run_getObjM (hr.blk h3), run_findKey hs s h4, Sem.run_pure]
    unfold putS
    cases hf : findS s es.toList 0 with
    | none => simp only [run_setObjM (hr.blk h3), Result.andThen_ok, Sem.run_pure]
    | some r =>
      obtain ⟨i, u⟩ := r
      obtain ⟨_, e', h6, h7⟩ := findS_key hf
      have h8 : es[i]? = some e' := by rw [← Array.getElem?_toList]; exact h6
      simp only [h8, Option.map_some, Option.getD_some, h7, Instr.keyThatStays, sameBits_str, if_true, Sem.run_bind, Sem.run_pure, Result.andThen_ok, run_setObjM (hr.blk h3)]
  · rw [hd]
    exact hk _ _ _ _ (hr.world (Fr.write hr.view h3 (putObj_at (hr.blk h3)) (sameBut_put b _))) (fun _ _ => rfl) hK
theorem sound_mdel {o : Oper} {t t' e : TypeId} {x k : Operand} {K : St → Prop} (ho : o.op = .call { callee := .builtin .delete, args := #[x, k], argTypes := #[t, t'] }) (hd : o.dst = none) (ht : mapT P t = some e) (hx : plainX E x = true) (hk' : plainX E k = true) (hp : pv P E (.mdel x k) st K) : Sound P E o [] st K := by
  intro w0 G0 β a w hr K' Q' hk
  obtain ⟨kt, hu, hs⟩ := mapT_some ht
  obtain ⟨s, h1, h2⟩ := hp
  have hat : #[t, t'][0]? = some t := rfl
  rcases h2 with ⟨h3, hK⟩ | ⟨b, es, clock, h3, h4, h5, hK⟩
  · refine wp_value (v := .tuple #[]) (w' := w) ?_ ?_
    · simp only [execOp, ho, resolve, invoke, builtin, List.map_toArray, List.map_cons, List.map_nil, hr.eval hx, hr.eval hk', h1, h3, Sem.run_bind, Sem.run_pure, Result.andThen_ok]
      simp [Builtin.delete_, run_underlying hu, run_checkKey hs]
    · rw [hd]
      exact hk _ _ _ _ hr (fun _ _ => rfl) hK
  · refine wp_value (v := .tuple #[]) (w' := w.putObj b (delS s es clock)) ?_ ?_
    · simp only [execOp, ho, resolve, invoke, builtin, List.map_toArray, List.map_cons, List.map_nil, hr.eval hx, hr.eval hk', h1, h3, Sem.run_bind, Sem.run_pure, Result.andThen_ok]
      unfold delS
      cases hf : findS s es.toList 0 with
      | none => simp [Builtin.delete_, run_underlying hu, run_checkKey hs, run_getObjM (hr.blk h4), run_findKey hs s h5, hf, run_setObjM (hr.blk h4)]
      | some r =>
        obtain ⟨i, v⟩ := r
        simp [Builtin.delete_, run_underlying hu, run_checkKey hs, run_getObjM (hr.blk h4), run_findKey hs s h5, hf, run_setObjM (hr.blk h4)]
    · rw [hd]
      exact hk _ _ _ _ (hr.world (Fr.write hr.view h4 (putObj_at (hr.blk h4)) (sameBut_put b _))) (fun _ _ => rfl) hK
theorem sound_hbox {o : Oper} {d : Nat} {t : TypeId} {x : Operand} {K : St → Prop} (ho : o.op = .box t x) (hd : plainD E o.dst = some d) (hx : plainX E x = true) (hp : pv P E (.hbox d t x) st K) : Sound P E o [] st K := by
  intro w0 G0 β a w hr K' Q' hk
  obtain ⟨e1, e2, e3⟩ := plainD_some hd
  refine wp_value (v := .pointer (some ⟨w.heap.size, 0, none⟩)) (w' := w.alloc (.cells (ev st x).cells t)) ?_ ?_
  · simp [execOp, ho, Instr.box, hr.eval hx, newVar, newRow]
  · rw [e1]
    exact hk _ _ _ _ ((hr.newB _).put e2 e3 _) (fun _ _ => rfl) (hp _ hr.none_new)
theorem run_loadAt {t : TypeId} {g : Bool} {n : Nat} (ht : tyInfo P t = some (g, n)) {b : Nat} {cs : Array Value} {e : TypeId} {fr : Nat × Nat} (h : w.heap[b]? = some (.cells cs e fr)) (o : Nat) {v : Value} (hv : takeV g cs o n = some v) :
    (Instr.loadAt t (.pointer (some ⟨b, o, none⟩))).run P w = .ok v w := by
  simp only [Instr.loadAt, Instr.sureAddr, Sem.run_bind, Sem.run_pure, Result.andThen_ok, run_loadVar ht h o hv]
theorem run_storeAt {t : TypeId} {g : Bool} {n : Nat} (ht : tyInfo P t = some (g, n)) {b : Nat} {cs : Array Value} {e : TypeId} {fr : Nat × Nat} (h : w.heap[b]? = some (.cells cs e fr)) (o : Nat) {v : Value} (hn : v.cells.size = n) (hs : o + n ≤ cs.size) (h1 : cells1 v.cells.toList = true) (hfr : fr.2 ≤ o ∨ o + n ≤ fr.1) :
    ∃ w', (Instr.storeAt t (.pointer (some ⟨b, o, none⟩)) v).run P w = .ok () w' ∧ w'.heap[b]? = some (.cells (wr cs o v.cells.toList) e fr) ∧ SameBut b w w' := by
  obtain ⟨w', r1, r2, r3⟩ := run_storeCells (P := P) v.cells.toList w o 0 h h1 (by simpa [hn] using hs) (by simpa [hn] using hfr)
  refine ⟨w', ?_, by simpa using r2, r3⟩
  have h2 := (tyInfo_agg ht w).2
  simp only [Instr.storeAt, Instr.sureAddr, Sem.run_bind, Sem.run_pure, Result.andThen_ok, storeVar, h2, hn, ne_eq, not_true_eq_false, if_false, r1]
theorem sound_hload {o : Oper} {d n : Nat} {g : Bool} {t : TypeId} {x : Operand} {K : St → Prop} (ho : o.op = .load t x) (hd : plainD E o.dst = some d) (ht : tyInfo P t = some (g, n)) (hx : plainX E x = true) (hp : pv P E (.hload d n g x) st K) : Sound P E o [] st K := by
  intro w0 G0 β a w hr K' Q' hk
  obtain ⟨e1, e2, e3⟩ := plainD_some hd
  obtain ⟨b, q, cs, e, fr, v, h1, h2, h3, hK⟩ := hp
  refine wp_value (v := v) (w' := w) ?_ ?_
  · simp only [execOp, ho, hr.eval hx, h1, Sem.run_bind, run_loadAt ht (hr.blk h2) q h3, Result.andThen_ok, Sem.run_pure]
  · rw [e1]
    exact hk _ _ _ _ (hr.put e2 e3 v) (fun _ _ => rfl) hK
theorem sound_lload {o : Oper} {d n s k : Nat} {g : Bool} {t : TypeId} {x : Operand} {K : St → Prop} (ho : o.op = .load t x) (hd : plainD E o.dst = some d) (ht : tyInfo P t = some (g, n)) (hx : locX E x = some (s, k)) (hp : pv P E (.lload d k s n g) st K) : Sound P E o [] st K := by
  intro w0 G0 β a w hr K' Q' hk
  obtain ⟨e1, e2, e3⟩ := plainD_some hd
  obtain ⟨rfl, hs⟩ := locX_some hx
  obtain ⟨p, v, h1, h2, hK⟩ := hp
  obtain ⟨b, h3, h4, h5⟩ := hr.addr hs h1
  obtain ⟨_, _, e, h6⟩ := hr.loc k b h3
  refine wp_value (v := v) (w' := w) ?_ ?_
  · simp only [execOp, ho, h5, Sem.run_bind, run_loadAt ht h6 p.toNat h2, Result.andThen_ok, Sem.run_pure]
  · rw [e1]
    exact hk _ _ _ _ (hr.put e2 e3 v) (fun _ _ => rfl) hK
theorem sound_hstore {o : Oper} {n : Nat} {g : Bool} {t : TypeId} {x v : Operand} {K : St → Prop} (ho : o.op = .store t x v) (hd : o.dst = none) (ht : tyInfo P t = some (g, n)) (hx : plainX E x = true) (hv : plainX E v = true) (hp : pv P E (.hstore n x v) st K) : Sound P E o [] st K := by
  intro w0 G0 β a w hr K' Q' hk
  obtain ⟨b, q, cs, e, fr, h1, h2, ⟨h3, h4, h5, h6⟩, hK⟩ := hp
  obtain ⟨w', r1, r2, r3⟩ := run_storeAt ht (hr.blk h2) q h3 h4 h5 h6
  refine wp_skipped (w' := w') ?_ ?_
  · simp only [execOp, ho, hr.eval hx, hr.eval hv, h1, Sem.run_bind, r1, Result.andThen_ok, Sem.run_pure]
  · rw [hd]
    exact hk _ _ _ _ (hr.world (Fr.write hr.view h2 r2 r3)) (fun _ _ => rfl) hK
theorem sound_lstore {o : Oper} {n s k : Nat} {g : Bool} {t : TypeId} {x v : Operand} {K : St → Prop} (ho : o.op = .store t x v) (hd : o.dst = none) (ht : tyInfo P t = some (g, n)) (hx : locX E x = some (s, k)) (hv : plainX E v = true) (hp : pv P E (.lstore k s n v) st K) : Sound P E o [] st K := by
  intro w0 G0 β a w hr K' Q' hk
  obtain ⟨rfl, hs⟩ := locX_some hx
  obtain ⟨p, h1, ⟨h3, h4, h5⟩, hK⟩ := hp
  obtain ⟨b, h6, h7, h8⟩ := hr.addr hs h1
  obtain ⟨_, _, e, h9⟩ := hr.loc k b h6
  obtain ⟨w', r1, r2, r3⟩ := run_storeAt ht h9 p.toNat h3 h4 h5 (.inl (Nat.zero_le _))
  refine wp_skipped (w' := w') ?_ ?_
  · simp only [execOp, ho, hr.eval hv, h8, Sem.run_bind, r1, Result.andThen_ok, Sem.run_pure]
  · rw [hd]
    exact hk _ _ _ _ (hr.storeL h6 r2 r3) (fun _ _ => rfl) hK
theorem sliceInfo_some {t e : TypeId} {i : TypeInfo} (h : sliceInfo P t = some (e, i)) : P.underlying t = some (.slice e) ∧ P.info? e = some i := by
  simp only [sliceInfo, slcT, Option.bind_eq_some_iff, Option.map_eq_some_iff] at h
  obtain ⟨e', h1, i', h2, h3⟩ := h
  cases h3
  split at h1
  · cases h1; exact ⟨by assumption, h2⟩
  · cases h1
theorem sound_bslice {o : Oper} {d : Nat} {t e : TypeId} {len : Nat} {parts : Array (Nat × Operand)} {i : TypeInfo} {z : Value} {K : St → Prop} (ho : o.op = .buildSlice t len parts) (hd : plainD E o.dst = some d) (hi : sliceInfo P t = some (e, i)) (hz : i.zero = some z) (hx : allPlain E (parts.toList.map (·.2)) = true) (hlen : len * i.size ≤ 16777216) (hzs : z.cells.size = i.size)
    (hp : pv P E (.bslice d e len (Builtin.zeroCells z.cells len) (parts.toList.map fun p => (p.1 * i.size, i.size)) (parts.toList.map (·.2))) st K) : Sound P E o [] st K := by
  intro w0 G0 β a w hr K' Q' hk
  obtain ⟨e1, e2, e3⟩ := plainD_some hd
  obtain ⟨hu, hinf⟩ := sliceInfo_some hi
  obtain ⟨cs, hcs, hK⟩ := hp
  have hzip : ∀ l : List (Nat × Operand), (l.map fun p => (p.1, a.eval p.2)) = (l.map (·.1)).zip ((l.map (·.2)).map a.eval) := by
    intro l
    induction l with
    | nil => rfl
    | cons a l ih => simp only [List.map_cons, List.zip_cons_cons, ih]
  rw [← hr.evals hx] at hcs
  have hf := run_fill (parts.toList.map fun p => (p.1 * i.size, i.size)) (((parts.toList.map (·.2))).map a.eval) (Builtin.zeroCells z.cells len) cs (fun j => some (j * i.size, i.size)) (parts.toList.map (·.1)) hcs (by simp) (by
    intro j hj
    have hj2 : j < parts.size := by simpa using hj
    simp [List.getD_eq_getElem?_getD, hj2])
  rw [← hzip] at hf
  refine wp_value (v := .slice (some ⟨w.heap.size, 0, none⟩) len len) (w' := w.alloc (.cells cs e)) ?_ ?_
  · have hsz : (sizeOf e).run P w = .ok i.size w := run_sizeI hinf
    have e3 : (fun (x : Nat × Operand) => (match x with | (i, x) => (i, a.eval x) : Nat × Value)) = fun p => (p.1, a.eval p.2) := rfl
    simp only [execOp, ho, Instr.buildSlice, Sem.run_bind, run_underlying hu, Result.andThen_ok, hsz]
    rw [if_neg (by omega)]
    by_cases h0 : len * i.size = 0
    · have hz0 : ∀ f : Nat → Value, (Array.range (len * i.size)).map f = Builtin.zeroCells z.cells len := by
        intro f
        unfold Builtin.zeroCells
        rw [hzs, h0]
        simp [Array.range]
      rw [if_pos h0]
      simp only [Sem.run_pure, Result.andThen_ok, Sem.run_bind, hz0, Array.toList_map, e3, hf]
      simp [newRow]
    · have hz0 : (Array.range (len * i.size)).map (fun j => z.cells[j % z.cells.size]!) = Builtin.zeroCells z.cells len := by
        unfold Builtin.zeroCells
        rw [hzs]
      have hzero : (zeroValue e).run P w = .ok z w := by simp [zeroValue, typeInfo, hinf, hz]
      rw [if_neg h0]
      simp only [Sem.run_pure, Result.andThen_ok, Sem.run_bind, hzero, hz0, Array.toList_map, e3, hf]
      simp [newRow]
  · rw [e1]
    exact hk _ _ _ _ ((hr.newB _).put e2 e3 _) (fun _ _ => rfl) (hK _ hr.none_new)
theorem sound_mslice {o : Oper} {d : Nat} {t e : TypeId} {l c : Operand} {i : TypeInfo} {z : Value} {K : St → Prop} (ho : o.op = .makeSlice t l c) (hd : plainD E o.dst = some d) (hi : sliceInfo P t = some (e, i)) (hz : i.zero = some z) (hl : plainX E l = true) (hc : plainX E c = true) (hzs : z.cells.size = i.size)
    (hp : pv P E (.mslice d e i.size i.bytes z.cells l c) st K) : Sound P E o [] st K := by
  intro w0 G0 β a w hr K' Q' hk
  obtain ⟨e1, e2, e3⟩ := plainD_some hd
  obtain ⟨hu, hinf⟩ := sliceInfo_some hi
  obtain ⟨k, l', k', c', h1, h2, ⟨h3, h4, h5, h6⟩, hK⟩ := hp
  obtain ⟨l, rfl⟩ := Int.eq_ofNat_of_zero_le h3
  obtain ⟨c, rfl⟩ := Int.eq_ofNat_of_zero_le (show 0 ≤ c' by omega)
  have h5' : c * i.bytes ≤ 140737488355328 := Int.ofNat_le.1 (by rw [Int.natCast_mul]; exact h5)
  have w1 : IntKind.i64.wrap (l : Int) = l := wrap_i64 (by omega) (by omega)
  have w2 : IntKind.i64.wrap (c : Int) = c := wrap_i64 (by omega) (by omega)
  refine wp_value (v := .slice (some ⟨w.heap.size, 0, none⟩) l c) (w' := w.alloc (.cells (Builtin.zeroCells z.cells c) e)) ?_ ?_
  · have hb : ¬ ((i.bytes : Int) * (c : Int) > 2 ^ 48) := by
      have : (i.bytes : Int) * (c : Int) = ((c * i.bytes : Nat) : Int) := by rw [Nat.mul_comm]; simp
      omega
    have hzero : (zeroValue e).run P w = .ok z w := by simp [zeroValue, typeInfo, hinf, hz]
    by_cases h0 : c * i.size = 0
    · have hz0 : ∀ f : Nat → Value, (Array.range (c * i.size)).map f = Builtin.zeroCells z.cells c := by
        intro f
        unfold Builtin.zeroCells
        rw [hzs, h0]
        simp [Array.range]
      have hlc : ¬ ((l : Int) > (c : Int)) := by omega
      have hn1 : ¬ ((c : Int) < 0) := by omega
      have hn2 : ¬ ((l : Int) < 0) := by omega
      simp only [execOp, ho, Instr.makeSlice, hr.eval hl, hr.eval hc, h1, h2, asInt, asIntOf, Sem.run_bind, run_underlying hu, Result.andThen_ok, Sem.run_pure, typeInfo, run_program, hinf, w1, w2, hb, hlc, hn1, hn2, decide_false, Bool.or_false, Bool.false_or, Bool.false_eq_true, if_false, or_self, run_askRoom, Int.toNat_natCast, run_sizeI hinf]
      rw [if_pos h0]
      simp only [Sem.run_pure, Result.andThen_ok, Sem.run_bind, hz0]
      simp [newRow]
    · have hz0 : (Array.range (c * i.size)).map (fun j => z.cells[j % z.cells.size]!) = Builtin.zeroCells z.cells c := by
        unfold Builtin.zeroCells
        rw [hzs]
      have hlc : ¬ ((l : Int) > (c : Int)) := by omega
      have hn1 : ¬ ((c : Int) < 0) := by omega
      have hn2 : ¬ ((l : Int) < 0) := by omega
      simp only [execOp, ho, Instr.makeSlice, hr.eval hl, hr.eval hc, h1, h2, asInt, asIntOf, Sem.run_bind, run_underlying hu, Result.andThen_ok, Sem.run_pure, typeInfo, run_program, hinf, w1, w2, hb, hlc, hn1, hn2, decide_false, Bool.or_false, Bool.false_or, Bool.false_eq_true, if_false, or_self, run_askRoom, Int.toNat_natCast, run_sizeI hinf]
      rw [if_neg h0]
      simp only [Sem.run_pure, Result.andThen_ok, Sem.run_bind, hzero, hz0]
      simp [newRow]
  · rw [e1]
    exact hk _ _ _ _ ((hr.newB _).put e2 e3 _) (fun _ _ => rfl) (hK _ hr.none_new)
/-- A slice's cells are in the world. -/
theorem rd_run {G : GH} (hv : View G w) {n len cap : Nat} {x : Option Addr} {es : List Value} (h : rd G n (.slice x len cap) = some es) : (Builtin.firstCells n len (.slice x len cap)).run P w = .ok es.toArray w ∧ es.length = len * n := by
  unfold rd at h
  split at h
  · rename_i heq
    cases heq; cases h
    exact ⟨by simp [Builtin.firstCells], by simp⟩
  · rename_i b q len' cap' heq
    cases heq
    split at h
    · rename_i h0
      cases h
      refine ⟨?_, by simp [h0]⟩
      simp [Builtin.firstCells, h0, loadCells, loadCellsFrom]
    · cases hG : G b with
      | none => rw [hG] at h; cases h
      | some ob =>
        rw [hG] at h
        cases ob <;> first | (cases h; done) | skip
        rename_i cs e fr
        obtain ⟨hh, h⟩ := Option.ite_none_right_eq_some.1 h
        cases h
        refine ⟨?_, by simp; omega⟩
        simp only [Builtin.firstCells, run_loadN (hv b _ hG) q (len * n) hh]
  · rename_i heq
    cases heq
    cases h
    exact ⟨by simp [Builtin.firstCells, loadCells, loadCellsFrom], by simp⟩
  · cases h
theorem run_convert_bytes_none (w : World) {src e : TypeId} (hs : P.underlying src = some (.slice e)) (he : P.underlying e = some (.int .u8)) (x : Addr) (c : Nat) {dst : TypeId} (hd : P.underlying dst = some .string) : (convert src dst (.slice (some x) 0 c)).run P w = .ok (.string (strOfNums [])) w := by
  have hl : (loadCells x 0).run P w = .ok (([] : List Int).map (Value.int .u8)).toArray w := by simp [loadCells, loadCellsFrom]
  rw [run_convert_bytes_string w src dst e _ 0 c hs he hd, run_bytesToString w _ 0 c [] hl]
  rfl
theorem slcT_some {t e : TypeId} (h : slcT P t = some e) : P.underlying t = some (.slice e) := by
  unfold slcT at h
  split at h
  · cases h; assumption
  · cases h
theorem growBy_le (m : Nat) : ∀ (r c : Nat), c ≤ m + (m + 768) / 4 → Builtin.growBy m r c ≤ m + (m + 768) / 4
  | 0, c, h => h
  | r + 1, c, h => by
    rw [Builtin.growBy]
    split
    · exact h
    · exact growBy_le m r _ (by omega)
theorem grow_fits {need old bytes : Nat} (h : old < need) (hb : fitB (need * bytes) bytes) : Builtin.nextslicecap need old * bytes ≤ 2 ^ 48 := by
  rcases hb with hb | ⟨h1, h2⟩
  · exact growslice_fits h hb
  · have h48 : (2 : Nat) ^ 48 = 281474976710656 := by decide
    rw [h48]
    unfold Builtin.nextslicecap
    split
    · omega
    · split
      · have : 2 * old * bytes ≤ 512 * 4096 := Nat.mul_le_mul (by omega) h1
        omega
      · have a := growBy_le need 4 old (by omega)
        have b : 4 * (need + (need + 768) / 4) ≤ 5 * need + 768 := by omega
        have c := Nat.mul_le_mul_right bytes a
        have d := Nat.mul_le_mul_right bytes b
        rw [Nat.add_mul, Nat.mul_assoc, Nat.mul_assoc] at d
        have e : 768 * bytes ≤ 768 * 4096 := Nat.mul_le_mul_left _ h1
        omega
theorem sound_append {o : Oper} {d : Nat} {t t' e : TypeId} {x y : Operand} {i : TypeInfo} {z : Value} {K : St → Prop} (ho : o.op = .call { callee := .builtin .append, args := #[x, y], argTypes := #[t, t'] }) (hd : plainD E o.dst = some d) (hi : sliceInfo P t = some (e, i)) (hz : i.zero = some z) (hx : plainX E x = true) (hy : plainX E y = true) (ht' : (slcT P t').isSome = true)
    (hp : pv P E (.append d e i.size i.bytes z.cells x y) st K) : Sound P E o [] st K := by
  intro w0 G0 β a w hr K' Q' hk
  obtain ⟨e1, e2, e3⟩ := plainD_some hd
  obtain ⟨hu, hinf⟩ := sliceInfo_some hi
  obtain ⟨e', he'⟩ := Option.isSome_iff_exists.1 ht'
  have hu' := slcT_some he'
  obtain ⟨ax, len, cap, ay, len', cap', es, hex, hey, hes, hby, hmx, hK⟩ := hp
  rw [hey] at hes
  obtain ⟨hr1, hl1⟩ := rd_run (P := P) hr.view hes
  have hsz : ∀ w : World, (sizeOf e).run P w = .ok i.size w := fun w => run_sizeI hinf
  split at hK
  · rename_i hle
    cases ax with
    | none =>
      obtain ⟨hnil, hK⟩ := hK
      subst hnil
      refine wp_value (v := .slice none (len + len') cap) (w' := w) ?_ ?_
      · simp only [execOp, ho, resolve, invoke, builtin, List.map_toArray, List.map_cons, List.map_nil, hr.eval hx, hr.eval hy, hex, hey, Sem.run_bind, Sem.run_pure, Result.andThen_ok]
        simp [Builtin.append_, run_underlying hu, run_underlying hu', hsz, Builtin.lenOf, hle, hr1]
      · rw [e1]
        exact hk _ _ _ _ (hr.put e2 e3 _) (fun _ _ => rfl) hK
    | some ad =>
      obtain ⟨b, q, sp⟩ := ad
      obtain ⟨rfl, cs, e4, fr, hG, ⟨h1, h2, h3⟩, hK⟩ := hK
      obtain ⟨w', r1, r2, r3⟩ := run_storeCells (P := P) es w (q + len * i.size) 0 (hr.blk hG) h2 (by rw [hl1, Nat.add_zero, Nat.add_assoc, ← Nat.add_mul]; exact h1) (by rw [hl1, Nat.add_zero, Nat.add_assoc, ← Nat.add_mul]; exact h3)
      refine wp_value (v := .slice (some ⟨b, q, none⟩) (len + len') cap) (w' := w') ?_ ?_
      · simp only [execOp, ho, resolve, invoke, builtin, List.map_toArray, List.map_cons, List.map_nil, hr.eval hx, hr.eval hy, hex, hey, Sem.run_bind, Sem.run_pure, Result.andThen_ok]
        simp [Builtin.append_, run_underlying hu, run_underlying hu', hsz, Builtin.lenOf, hle, hr1, add_plain, r1]
      · rw [e1]
        exact hk _ _ _ _ ((hr.world (Fr.write hr.view hG (by simpa using r2) r3)).put e2 e3 _) (fun _ _ => rfl) hK
  · rename_i hle
    obtain ⟨xs, hxs, hK⟩ := hK
    rw [hex] at hxs
    obtain ⟨hr2, hl2⟩ := rd_run (P := P) hr.drew.view hxs
    obtain ⟨hr3, _⟩ := rd_run (P := P) hr.drew.view hes
    have hfit : ¬ (Builtin.nextslicecap (len + len') cap * i.bytes > 2 ^ 48) := by
      have := grow_fits (need := len + len') (old := cap) (bytes := i.bytes) (by omega) hby
      omega
    have hmx' : ¬ (((len + len' : Nat) : Int) > IntKind.i64.max) := by
      simp only [IntKind.max, IntKind.signed, IntKind.bits]; simp; omega
    have hge := grownCap_ge w (len + len') cap e
    have hcm : grownCap w (len + len') cap e ≤ 9223372036854775807 := by have := grownCap_le_maxLen w (len + len') cap e (by unfold maxLen; omega); unfold maxLen at this; exact this
    refine wp_value (v := .slice (some ⟨w.heap.size, 0, none⟩) (len + len') (grownCap w (len + len') cap e)) (w' := w.drew.alloc (.cells (xs.toArray ++ es.toArray ++ Builtin.zeroCells z.cells (grownCap w (len + len') cap e - (len + len'))) e)) ?_ ?_
    · simp only [execOp, ho, resolve, invoke, builtin, List.map_toArray, List.map_cons, List.map_nil, hr.eval hx, hr.eval hy, hex, hey, Sem.run_bind, Sem.run_pure, Result.andThen_ok]
      simp [Builtin.append_, run_underlying hu, run_underlying hu', hsz, typeInfo, zeroValue, hinf, hz, Builtin.lenOf, hle, hmx', hfit, Question.forced, hr2, hr3, newRow, grownCap]
      rw [if_neg (by omega)]
      congr 3
      rw [← Array.toList_inj]
      simp
    · rw [e1]
      exact hk _ _ _ _ ((hr.drew.newB _).put e2 e3 _) (fun _ _ => rfl) (hK _ _ hr.none_new hge hcm)
theorem sound_growz {o : Oper} {d : Nat} {t t' e : TypeId} {kk : IntKind} {x y : Operand} {i : TypeInfo} {z : Value} {K : St → Prop} (ho : o.op = .call { callee := .builtin .append, args := #[x, y], argTypes := #[t, t'] }) (hd : plainD E o.dst = some d) (hi : sliceInfo P t = some (e, i)) (hz : i.zero = some z) (hx : plainX E x = true) (hy : plainX E y = true) (hu' : P.underlying t' = some (.int kk)) (hzs : z.cells.size = i.size)
    (hp : pv P E (.growz d e i.size i.bytes z.cells x y) st K) : Sound P E o [] st K := by
  intro w0 G0 β a w hr K' Q' hk
  obtain ⟨e1, e2, e3⟩ := plainD_some hd
  obtain ⟨hu, hinf⟩ := sliceInfo_some hi
  obtain ⟨ax, len, cap, k, l, hex, hey, hl0, hby, hmx, hK⟩ := hp
  obtain ⟨n, rfl⟩ : ∃ n : Nat, l = n := ⟨l.toNat, by omega⟩
  simp only [Int.toNat_natCast] at hby hmx hK
  have hsz : ∀ w : World, (sizeOf e).run P w = .ok i.size w := fun w => run_sizeI hinf
  have hw : IntKind.i64.wrap (n : Int) = n := wrap_i64 (by omega) (by omega)
  have hn0 : ¬ ((n : Int) < 0) := by omega
  have hb1 : n * i.bytes ≤ (len + n) * i.bytes := Nat.mul_le_mul_right _ (by omega)
  have hb2 : ¬ ((n : Int) * (i.bytes : Int) > 2 ^ 48) := by
    have : ((n * i.bytes : Nat) : Int) ≤ 211106232532992 := by have : fitB ((len + n) * i.bytes) i.bytes := hby; unfold fitB at this; omega
    simp only [Int.natCast_mul] at this
    omega
  have hb3 : ¬ (281474976710656 < (n : Int) * (i.bytes : Int)) := by
    have h : (2 : Int) ^ 48 = 281474976710656 := by decide
    rw [h] at hb2; omega
  have hzc : (if n * i.size = 0 then (#[] : Array Value) else Builtin.zeroCells z.cells n) = Builtin.zeroCells z.cells n := by
    split
    · rename_i h0
      symm; rw [← Array.size_eq_zero_iff]; simp [Builtin.zeroCells, hzs, h0]
    · rfl
  split at hK
  · rename_i hle
    cases ax with
    | none => exact hK.elim
    | some ad =>
      obtain ⟨b, q, sp⟩ := ad
      obtain ⟨rfl, cs, e4, fr, hG, ⟨h1, h2, h3⟩, hK⟩ := hK
      have hl1 : (Builtin.zeroCells z.cells n).toList.length = n * i.size := by simp [Builtin.zeroCells, hzs]
      obtain ⟨w', r1, r2, r3⟩ := run_storeCells (P := P) (Builtin.zeroCells z.cells n).toList w (q + len * i.size) 0 (hr.blk hG) h2 (by rw [hl1, Nat.add_zero, Nat.add_assoc, ← Nat.add_mul]; exact h1) (by rw [hl1, Nat.add_zero, Nat.add_assoc, ← Nat.add_mul]; exact h3)
      refine wp_value (v := .slice (some ⟨b, q, none⟩) (len + n) cap) (w' := w') ?_ ?_
      · simp only [execOp, ho, resolve, invoke, builtin, List.map_toArray, List.map_cons, List.map_nil, hr.eval hx, hr.eval hy, hex, hey, Sem.run_bind, Sem.run_pure, Result.andThen_ok]
        by_cases h0 : n * i.size = 0
        · rw [if_pos h0] at hzc
          rw [← hzc] at r1
          simp [Builtin.append_, run_underlying hu, run_underlying hu', hsz, typeInfo, zeroValue, hinf, hz, asInt, asIntOf, hw, hn0, hb2, hle, h0, add_plain, r1]
          exact fun h => absurd h hb3
        · simp [Builtin.append_, run_underlying hu, run_underlying hu', hsz, typeInfo, zeroValue, hinf, hz, asInt, asIntOf, hw, hn0, hb2, hle, h0, add_plain, r1]
          exact fun h => absurd h hb3
      · rw [e1]
        exact hk _ _ _ _ ((hr.world (Fr.write hr.view hG (by simpa using r2) r3)).put e2 e3 _) (fun _ _ => rfl) hK
  · rename_i hcap
    obtain ⟨xs, hxs, hK⟩ := hK
    rw [hex] at hxs
    have hle : ¬ (len + n ≤ cap) := by omega
    obtain ⟨hr2, hl2⟩ := rd_run (P := P) hr.drew.view hxs
    have hfit : ¬ (Builtin.nextslicecap (len + n) cap * i.bytes > 2 ^ 48) := by
      have := grow_fits (need := len + n) (old := cap) (bytes := i.bytes) (by omega) hby
      omega
    have hmx' : ¬ (((len + n : Nat) : Int) > IntKind.i64.max) := by
      simp only [IntKind.max, IntKind.signed, IntKind.bits]; simp; omega
    have hge := grownCap_ge w (len + n) cap e
    have hcm : grownCap w (len + n) cap e ≤ 9223372036854775807 := by have := grownCap_le_maxLen w (len + n) cap e (by unfold maxLen; omega); unfold maxLen at this; exact this
    refine wp_value (v := .slice (some ⟨w.heap.size, 0, none⟩) (len + n) (grownCap w (len + n) cap e)) (w' := w.drew.alloc (.cells (xs.toArray ++ Builtin.zeroCells z.cells n ++ Builtin.zeroCells z.cells (grownCap w (len + n) cap e - (len + n))) e)) ?_ ?_
    · simp only [execOp, ho, resolve, invoke, builtin, List.map_toArray, List.map_cons, List.map_nil, hr.eval hx, hr.eval hy, hex, hey, Sem.run_bind, Sem.run_pure, Result.andThen_ok]
      by_cases h0 : n * i.size = 0
      · rw [if_pos h0] at hzc
        rw [← hzc]
        simp [Builtin.append_, run_underlying hu, run_underlying hu', hsz, typeInfo, zeroValue, hinf, hz, asInt, asIntOf, hw, hn0, hb2, hle, hmx', hfit, h0, Question.forced, hr2, newRow, grownCap]
        rw [if_neg hb3, if_neg (by omega)]
      · simp [Builtin.append_, run_underlying hu, run_underlying hu', hsz, typeInfo, zeroValue, hinf, hz, asInt, asIntOf, hw, hn0, hb2, hle, hmx', hfit, h0, Question.forced, hr2, newRow, grownCap]
        rw [if_neg hb3, if_neg (by omega)]
    · rw [e1]
      exact hk _ _ _ _ ((hr.drew.newB _).put e2 e3 _) (fun _ _ => rfl) (hK _ _ hr.none_new hge hcm)
theorem sound_copy {o : Oper} {d : Nat} {t t' e : TypeId} {x y : Operand} {i : TypeInfo} {K : St → Prop} (ho : o.op = .call { callee := .builtin .copy, args := #[x, y], argTypes := #[t, t'] }) (hd : plainD E o.dst = some d) (hi : sliceInfo P t = some (e, i)) (hx : plainX E x = true) (hy : plainX E y = true)
    (hp : pv P E (.copy d i.size x y) st K) : Sound P E o [] st K := by
  intro w0 G0 β a w hr K' Q' hk
  obtain ⟨e1, e2, e3⟩ := plainD_some hd
  obtain ⟨hu, hinf⟩ := sliceInfo_some hi
  obtain ⟨ax, len, cap, ay, len', cap', es, hex, hey, hes, hK⟩ := hp
  obtain ⟨hr1, hl1⟩ := rd_run (P := P) hr.view hes
  have hr1' : (Builtin.firstCells i.size (Nat.min len' len) (.slice ay len' cap')).run P w = .ok es.toArray w := by
    cases ay with
    | none => exact hr1
    | some _ => exact hr1
  have hsz : ∀ w : World, (sizeOf e).run P w = .ok i.size w := fun w => run_sizeI hinf
  cases ax with
  | none =>
    refine wp_value (v := .int .i64 (Nat.min len' len)) (w' := w) ?_ ?_
    · simp only [execOp, ho, resolve, invoke, builtin, List.map_toArray, List.map_cons, List.map_nil, hr.eval hx, hr.eval hy, hex, hey, Sem.run_bind, Sem.run_pure, Result.andThen_ok]
      simp [Builtin.copy_, run_underlying hu, hsz, Builtin.lenOf, hr1', goInt]
    · rw [e1]
      exact hk _ _ _ _ (hr.put e2 e3 _) (fun _ _ => rfl) hK
  | some ad =>
    obtain ⟨b, q, sp⟩ := ad
    obtain ⟨rfl, cs, e4, fr, hG, ⟨h1, h2, h3⟩, hK⟩ := hK
    obtain ⟨w', r1, r2, r3⟩ := run_storeCells (P := P) es w q 0 (hr.blk hG) h2 (by rw [hl1, Nat.add_zero]; exact h1) (by rw [hl1, Nat.add_zero]; exact h3)
    refine wp_value (v := .int .i64 (Nat.min len' len)) (w' := w') ?_ ?_
    · simp only [execOp, ho, resolve, invoke, builtin, List.map_toArray, List.map_cons, List.map_nil, hr.eval hx, hr.eval hy, hex, hey, Sem.run_bind, Sem.run_pure, Result.andThen_ok]
      simp [Builtin.copy_, run_underlying hu, hsz, Builtin.lenOf, hr1', goInt, r1]
    · rw [e1]
      exact hk _ _ _ _ ((hr.world (Fr.write hr.view hG (by simpa using r2) r3)).put e2 e3 _) (fun _ _ => rfl) hK
theorem sound_b2s {o : Oper} {d : Nat} {s t e : TypeId} {x : Operand} {K : St → Prop} (ho : o.op = .convert s t x) (hd : plainD E o.dst = some d) (hs : P.underlying s = some (.slice e)) (he : P.underlying e = some (.int .u8)) (ht : P.underlying t = some .string) (hx : plainX E x = true)
    (hp : pv P E (.b2s d x) st K) : Sound P E o [] st K := by
  intro w0 G0 β a w hr K' Q' hk
  obtain ⟨e1, e2, e3⟩ := plainD_some hd
  obtain ⟨xs, hxs, hK⟩ := hp
  refine wp_value (v := .string (strOfNums xs)) (w' := w) ?_ ?_
  · simp only [execOp, ho, hr.eval hx, Sem.run_bind]
    have key : (convert s t (ev st x)).run P w = .ok (.string (strOfNums xs)) w := by
      generalize ev st x = v at hxs
      unfold rd at hxs
      split at hxs
      · rename_i cap
        have h0 := Option.some.inj hxs
        obtain rfl : xs = [] := by cases xs with | nil => rfl | cons _ _ => cases h0
        exact run_convert_bytes_nil w s e hs he 0 cap t ht
      · rename_i b q len cap
        split at hxs
        · rename_i h0
          have h1 := Option.some.inj hxs
          obtain rfl : xs = [] := by cases xs with | nil => rfl | cons _ _ => cases h1
          obtain rfl : len = 0 := by omega
          exact run_convert_bytes_arg w s e hs he b q 0 cap [] rfl (fun i hi => by omega) t ht
        · cases hG : st.G b with
          | none => rw [hG] at hxs; cases hxs
          | some ob =>
            rw [hG] at hxs
            cases ob <;> first | (cases hxs; done) | skip
            rename_i cs e' fr
            obtain ⟨hh, hxs⟩ := Option.ite_none_right_eq_some.1 hxs
            have h1 := Option.some.inj hxs
            have hl : xs.length = len := by
              have := congrArg List.length h1
              simp at this; omega
            refine run_convert_bytes_arg w s e hs he b q len cap xs hl (fun i hi => ?_) t ht
            rw [cell_of (hr.blk hG)]
            have h2 : (cs.extract q (q + len * 1)).toList[i]? = (xs.map (Value.int .u8))[i]? := by rw [h1]
            have hi' : i < xs.length := by omega
            simp only [List.getElem?_map, List.getElem?_eq_getElem hi', Option.map_some] at h2
            rw [Array.getElem?_toList, Array.getElem?_extract] at h2
            rw [if_pos (by omega)] at h2
            rw [h2]
            simp [List.getD_eq_getElem?_getD, hi']
      · have h0 := Option.some.inj hxs
        obtain rfl : xs = [] := by cases xs with | nil => rfl | cons _ _ => cases h0
        exact run_convert_bytes_none w hs he _ _ ht
      · cases hxs
    simp only [key, Result.andThen_ok, Sem.run_pure]
  · rw [e1]
    exact hk _ _ _ _ (hr.put e2 e3 _) (fun _ _ => rfl) hK
theorem sound_s2b {o : Oper} {d : Nat} {s t e : TypeId} {x : Operand} {K : St → Prop} (ho : o.op = .convert s t x) (hd : plainD E o.dst = some d) (hs : P.underlying s = some .string) (ht : P.underlying t = some (.slice e)) (he : P.underlying e = some (.int .u8)) (hx : plainX E x = true)
    (hp : pv P E (.s2b d e x) st K) : Sound P E o [] st K := by
  intro w0 G0 β a w hr K' Q' hk
  obtain ⟨e1, e2, e3⟩ := plainD_some hd
  obtain ⟨sv, hsv, hmx, hK⟩ := hp
  have hrun := Lib.run_convert_string_bytes (P := P) w s t e sv hs ht he
  have hge := grownCap_ge w sv.size 0 e
  have hcm : grownCap w sv.size 0 e ≤ 9223372036854775807 := by have := grownCap_le_maxLen w sv.size 0 e (by unfold maxLen; omega); unfold maxLen at this; exact this
  have hcs : Lib.bytesCells w e sv = sv.data.map (fun b => .int .u8 b.toNat) ++ Array.replicate (grownCap w sv.size 0 e - sv.size) (.int .u8 0) := rfl
  have hcz : (Lib.bytesCells w e sv).size = grownCap w sv.size 0 e := by
    rw [hcs]; simp
    have : sv.data.size = sv.size := rfl
    omega
  refine wp_value (v := .slice (some ⟨w.heap.size, 0, none⟩) sv.size (grownCap w sv.size 0 e)) (w' := Lib.bytesWorld w e sv) ?_ ?_
  · simp only [execOp, ho, hr.eval hx, hsv, Sem.run_bind, hrun, Result.andThen_ok, Sem.run_pure]
  · rw [e1]
    refine hk _ _ _ _ (RelB.put (st := ⟨st.s, st.l, st.G.put w.heap.size (.cells (sv.data.map (fun b => .int .u8 b.toNat) ++ Array.replicate (grownCap w sv.size 0 e - sv.size) (.int .u8 0)) e (grownCap w sv.size 0 e, grownCap w sv.size 0 e + 1))⟩) (hr.world ?_) e2 e3 _) (fun _ _ => rfl) (hK _ _ hr.none_new hge hcm)
    refine ⟨rfl, rfl, rfl, by rw [Lib.bytesWorld_size]; omega, fun b hb _ => Lib.bytesWorld_at_old w e sv b hb, fun b hb hn => ?_, fun b p hp => ?_⟩
    · rw [GH.put_ne _ _ (by omega)]; exact hn
    · by_cases eb : b = w.heap.size
      · subst eb
        rw [GH.put_same] at hp
        cases hp
        rw [Lib.bytesWorld_at_new, hcz, hcs]
      · rw [GH.put_ne _ _ eb] at hp
        rw [Lib.bytesWorld_at_old w e sv b (hr.view.lt hp)]
        exact hr.view b p hp
/-! ### Calls -/
theorem callable_run {f : FuncId} (h : callable P f = true) (args : Array Value) : (callFunc f args).run P w = .ok (.enter f args) w := by
  unfold callable at h
  cases hf : P.funcs[f]? with
  | none => rw [hf] at h; cases h
  | some fn =>
    rw [hf] at h
    simp only [Bool.and_eq_true, Bool.not_eq_true'] at h
    obtain ⟨h1, h2⟩ := h
    have h3 : fn.body.isNone = false := by cases hb : fn.body <;> simp_all
    simp only [callFunc, Sem.run_bind, run_program, Result.andThen_ok, hf, h1, h3, Bool.false_eq_true, if_false, Sem.run_pure]
theorem RelB.putO (h : RelB E w0 G0 β st a w) {d : Option Nat} (hd : ∀ i, d = some i → lookE E.env i = none ∧ i < E.n) (v : Value) : RelB E w0 G0 β ⟨setO st d v, st.l, st.G⟩ (a.put d v) w := by
  cases d with
  | none => exact h
  | some d => exact h.put (hd d rfl).1 (hd d rfl).2 v
theorem wp_enter {o : Oper} {K' : Act → World → Prop} {Q' : Exit → Act → World → Prop} {f : FuncId} {args : Array Value} (h : (execOp a.eval o).run P w = .ok (.enter f args) w) {R : Value → GH → Prop} (hv : View st.G w) (hc : HC P f args st.G R) (k : ∀ v G' w', Fr st.G w G' w' → R v G' → K' (a.put o.dst v) w') : o.wp P a w K' Q' := by
  unfold Oper.wp
  rw [h]
  refine (hc w hv).mono ?_
  rintro e w' ⟨v, G', rfl, hf, hR⟩
  exact k v G' w' hf hR
theorem sound_call {o : Oper} {d : Option Nat} {f : FuncId} {args : Array Operand} {ts : Array TypeId} {K : St → Prop} (ho : o.op = .call { callee := .value (.func f), args := args, argTypes := ts }) (hd : retD E o.dst = some d) (hx : allPlain E args.toList = true) (hf : callable P f = true)
    (hp : pv P E (.call d f args.toList) st K) : Sound P E o [] st K := by
  intro w0 G0 β a w hr K' Q' hk
  obtain ⟨e1, e2⟩ := retD_some hd
  have ha : args.map a.eval = (args.toList.map (ev st)).toArray := by
    rw [← hr.evals hx, ← Array.toList_inj]; simp
  refine wp_enter (f := f) (args := (args.toList.map (ev st)).toArray) ?_ hr.view hp ?_
  · simp only [execOp, ho, resolve, invoke, Deferred.ofValue, Act.eval, Sem.run_bind, Sem.run_pure, Result.andThen_ok, ha, callable_run hf]
    simp
  · intro v G' w' hfr hK
    rw [e1]
    exact hk _ _ _ _ ((hr.world hfr).putO e2 v) (fun _ _ => rfl) hK
/-- A call of what has no text: the model stands in for it; bytes of a constant string get their mark. -/
def compX (P : Program) (E : Env) (o : Oper) : Option POp := match o.op with
  | .call c => match c.callee with
    | .value (.func f) => (plainD E o.dst).bind fun d => bif allPlain E c.args.toList then some (.callx d f c.args.toList) else none
    | _ => none
  | .convert s t x => match slcT P s with
    | some e => bif Nat.beq s t && (isKind P e == some .u8) && plainX E x then (plainD E o.dst).map fun d => .markb d x else none
    | none => none
  | _ => none
theorem sound_callx {o : Oper} {d : Nat} {f : FuncId} {args : Array Operand} {ts : Array TypeId} {K : St → Prop} (ho : o.op = .call { callee := .value (.func f), args := args, argTypes := ts }) (hd : plainD E o.dst = some d) (hx : allPlain E args.toList = true)
    (hp : pv P E (.callx d f args.toList) st K) : Sound P E o [] st K := by
  intro w0 G0 β a w hr K' Q' hk
  obtain ⟨e1, e2, e3⟩ := plainD_some hd
  have ha : args.map a.eval = (args.toList.map (ev st)).toArray := by
    rw [← hr.evals hx, ← Array.toList_inj]; simp
  obtain ⟨v, hv, hK⟩ := hp
  refine wp_value (v := v) (w' := w) ?_ ?_
  · simp only [execOp, ho, resolve, invoke, Deferred.ofValue, Act.eval, Sem.run_bind, Sem.run_pure, Result.andThen_ok, ha]
    simp [hv]
  · rw [e1]
    exact hk _ _ _ _ (hr.put e2 e3 _) (fun _ _ => rfl) hK
theorem run_convert_mark (w : World) {t e : TypeId} {b q n c : Nat} {cs : Array Value} {e' : TypeId} {fr : Nat × Nat} (ht : P.underlying t = some (.slice e)) (he : P.underlying e = some (.int .u8)) (hb : w.heap[b]? = some (.cells cs e' fr)) :
    (convert t t (.slice (some ⟨b, q, none⟩) n c)).run P w = .ok (.slice (some ⟨b, q, none⟩) n c) (w.freeze ⟨b, cs.size, none⟩ 1) := by
  have hsh : w.shape? b = some (e', cs.size) := by unfold World.shape?; rw [hb]
  simp [convert, run_underlying ht, run_underlying he, markStringish, hsh]
theorem freeze_mark (w : World) {b k : Nat} {cs : Array Value} {e : TypeId} (hb : w.heap[b]? = some (.cells cs e (0, 0))) : (w.freeze ⟨b, k, none⟩ 1).heap[b]? = some (.cells cs e (k, k + 1)) ∧ SameBut b w (w.freeze ⟨b, k, none⟩ 1) := by
  unfold World.freeze
  rw [if_neg (by decide)]
  refine ⟨?_, rfl, rfl, rfl, by simp, fun j hj => ?_⟩
  · simp [Array.getElem?_modify, hb]
  · simp only [Array.getElem?_modify]
    rw [if_neg (by omega)]
theorem sound_markb {o : Oper} {d : Nat} {s e : TypeId} {x : Operand} {K : St → Prop} (ho : o.op = .convert s s x) (hd : plainD E o.dst = some d) (hs : P.underlying s = some (.slice e)) (he : P.underlying e = some (.int .u8)) (hx : plainX E x = true)
    (hp : pv P E (.markb d x) st K) : Sound P E o [] st K := by
  intro w0 G0 β a w hr K' Q' hk
  obtain ⟨e1, e2, e3⟩ := plainD_some hd
  obtain ⟨b, q, n, c, cs, e', hv, hG, hK⟩ := hp
  obtain ⟨h1, h2⟩ := freeze_mark w (k := cs.size) (hr.view b _ hG)
  refine wp_value (v := .slice (some ⟨b, q, none⟩) n c) (w' := w.freeze ⟨b, cs.size, none⟩ 1) ?_ ?_
  · simp only [execOp, ho, hr.eval hx, hv, Sem.run_bind, run_convert_mark w hs he (hr.view b _ hG), Result.andThen_ok, Sem.run_pure]
  · rw [e1]
    rw [hv] at hK
    exact hk _ _ _ _ ((hr.world (Fr.write hr.view hG h1 h2)).put e2 e3 _) (fun _ _ => rfl) hK
theorem kindU8 {t : TypeId} (h : (isKind P t == some .u8) = true) : P.underlying t = some (.int .u8) := by
  unfold isKind at h
  split at h
  · rename_i k hk
    rw [hk]
    cases k <;> first | rfl | (simp at h; done) | (cases h; done)
  · simp at h
theorem compX_sound {o : Oper} {p : POp} {K : St → Prop} (hc : compX P E o = some p) (hp : pv P E p st K) : Sound P E o [] st K := by
  unfold compX at hc
  cases ho : o.op with
  | call c =>
    obtain ⟨callee, args, ts⟩ := c
    simp only [ho] at hc
    cases callee with
    | value x =>
      cases x with
      | func f =>
        simp only [Option.bind_eq_some_iff] at hc
        obtain ⟨d, hd, hc⟩ := hc
        cases hb : allPlain E args.toList with
        | true =>
          simp only [hb, cond_true] at hc
          cases hc
          exact sound_callx ho hd hb hp
        | false => simp only [hb, cond_false] at hc; cases hc
      | _ => cases hc
    | _ => cases hc
  | convert s t x =>
    simp only [ho] at hc
    cases h1 : slcT P s with
    | none => rw [h1] at hc; cases hc
    | some e =>
      rw [h1] at hc
      simp only at hc
      cases hb : (Nat.beq s t && (isKind P e == some .u8) && plainX E x) with
      | false => rw [hb] at hc; cases hc
      | true =>
        rw [hb] at hc
        simp only [cond_true, Option.map_eq_some_iff] at hc
        obtain ⟨d, hd, hc⟩ := hc
        simp only [Bool.and_eq_true] at hb
        cases hc
        obtain rfl : s = t := Nat.eq_of_beq_eq_true hb.1.1
        exact sound_markb ho hd (slcT_some h1) (kindU8 hb.1.2) hb.2 hp
  | _ => simp only [ho] at hc; cases hc
def isX : POp → Bool
  | .callx _ _ _ => true
  | .markb _ _ => true
  | _ => false
theorem compX_form {o : Oper} {p : POp} (hc : compX P E o = some p) : ∃ d, isX p = true ∧ plainD E o.dst = some d := by
  unfold compX at hc
  cases ho : o.op with
  | call c =>
    obtain ⟨callee, args, ts⟩ := c
    simp only [ho] at hc
    cases callee with
    | value x =>
      cases x with
      | func f =>
        simp only [Option.bind_eq_some_iff] at hc
        obtain ⟨d, hd, hc⟩ := hc
        cases hb : allPlain E args.toList with
        | true => simp only [hb, cond_true] at hc; cases hc; exact ⟨_, rfl, hd⟩
        | false => simp only [hb, cond_false] at hc; cases hc
      | _ => cases hc
    | _ => cases hc
  | convert s t x =>
    simp only [ho] at hc
    cases h1 : slcT P s with
    | none => rw [h1] at hc; cases hc
    | some e =>
      rw [h1] at hc
      simp only at hc
      cases hb : (Nat.beq s t && (isKind P e == some .u8) && plainX E x) with
      | false => rw [hb] at hc; cases hc
      | true =>
        rw [hb] at hc
        simp only [cond_true, Option.map_eq_some_iff] at hc
        obtain ⟨d, hd, hc⟩ := hc
        cases hc
        exact ⟨d, rfl, hd⟩
  | _ => simp only [ho] at hc; cases hc
theorem sound_callv {o : Oper} {d : Option Nat} {x : Operand} {args : Array Operand} {ts : Array TypeId} {K : St → Prop} (ho : o.op = .call { callee := .value x, args := args, argTypes := ts }) (hd : retD E o.dst = some d) (hx : allPlain E args.toList = true) (hxx : plainX E x = true)
    (hp : pv P E (.callv d x args.toList) st K) : Sound P E o [] st K := by
  intro w0 G0 β a w hr K' Q' hk
  obtain ⟨e1, e2⟩ := retD_some hd
  have ha : args.map a.eval = (args.toList.map (ev st)).toArray := by
    rw [← hr.evals hx, ← Array.toList_inj]; simp
  obtain ⟨f, first, captured, h1, h2, hp⟩ := hp
  refine wp_enter (f := f) (args := first ++ (args.toList.map (ev st)).toArray ++ captured) ?_ hr.view hp ?_
  · simp only [execOp, ho, resolve, invoke, Deferred.ofValue, hr.eval hxx, h1, Sem.run_bind, Sem.run_pure, Result.andThen_ok, ha, callable_run h2]
  · intro v G' w' hfr hK
    rw [e1]
    exact hk _ _ _ _ ((hr.world hfr).putO e2 v) (fun _ _ => rfl) hK
end
end Go.Proofs.Ytbmhdmkmnhaffaa.V
end
