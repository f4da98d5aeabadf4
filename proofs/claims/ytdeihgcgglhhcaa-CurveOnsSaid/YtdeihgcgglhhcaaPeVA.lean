/- Library V, part A: partial views of memory, contracts of functions, and how they follow from the kit's own. No program here. -/
import Derived.Calls
import Derived.Orders
import Derived.OrdersHeld
import Derived.Tactics
import Derived.RowKit3
import Derived.Below
set_option linter.unusedVariables false
set_option linter.unusedSimpArgs false
namespace Go.Proofs.Ytdeihgcgglhhcaa.V
/-! ### Numbers of a kind -/
theorem wrap_i64 {n : Int} (h0 : -9223372036854775808 ≤ n) (h1 : n ≤ 9223372036854775807) : IntKind.i64.wrap n = n := by
  have e : IntKind.i64.wrap n = if n % 18446744073709551616 ≥ 9223372036854775808 then n % 18446744073709551616 - 18446744073709551616 else n % 18446744073709551616 := by
    simp [IntKind.wrap, IntKind.bits, IntKind.signed]
  rw [e]
  split <;> omega
theorem wrap_u64 (n : Int) : IntKind.u64.wrap n = n % 18446744073709551616 := by simp [IntKind.wrap, IntKind.bits, IntKind.signed]
theorem wrap_u8 (n : Int) : IntKind.u8.wrap n = n % 256 := by simp [IntKind.wrap, IntKind.bits, IntKind.signed]
/-- What is known of memory: some blocks, whole. -/
abbrev GH := Nat → Option Obj
def GH.put (G : GH) (b : Nat) (o : Obj) : GH := fun i => if i = b then some o else G i
def GH.le (G G' : GH) : Prop := ∀ b o, G b = some o → G' b = some o
theorem GH.le_refl (G : GH) : G.le G := fun _ _ h => h
theorem GH.le_trans {G G1 G2 : GH} (h : G.le G1) (k : G1.le G2) : G.le G2 := fun b o e => k b o (h b o e)
theorem GH.put_same (G : GH) (b : Nat) (o : Obj) : (G.put b o) b = some o := by simp [GH.put]
theorem GH.put_ne (G : GH) {b i : Nat} (o : Obj) (h : i ≠ b) : (G.put b o) i = G i := by simp [GH.put, h]
theorem GH.le_put {G : GH} {b : Nat} (o : Obj) (h : G b = none) : G.le (G.put b o) := by
  intro i p hp
  by_cases e : i = b
  · subst e; rw [h] at hp; cases hp
  · rw [GH.put_ne _ _ e]; exact hp
theorem GH.le_put_of {G0 G : GH} {b : Nat} (o : Obj) (h : G0.le G) (hb : G0 b = none) : G0.le (G.put b o) := by
  intro i p hp
  by_cases e : i = b
  · subst e; rw [hb] at hp; cases hp
  · rw [GH.put_ne _ _ e]; exact h i p hp
def View (G : GH) (w : World) : Prop := ∀ b o, G b = some o → w.heap[b]? = some o
theorem View.lt {G : GH} {w : World} (h : View G w) {b : Nat} {o : Obj} (e : G b = some o) : b < w.heap.size := by
  have := h b o e
  exact (Array.getElem?_eq_some_iff.1 this).1
theorem View.fresh {G : GH} {w : World} (h : View G w) {b : Nat} (hb : w.heap.size ≤ b) : G b = none := by
  cases e : G b with
  | none => rfl
  | some o => have := h.lt e; omega
/-- From (G, w) to (G', w'): what G doesn't know is as it was. -/
structure Fr (G : GH) (w : World) (G' : GH) (w' : World) : Prop where
  os : w'.os = w.os
  tape : w'.tape = w.tape
  output : w'.output = w.output
  size : w.heap.size ≤ w'.heap.size
  block : ∀ b, b < w.heap.size → G b = none → w'.heap[b]? = w.heap[b]?
  none : ∀ b, b < w.heap.size → G b = none → G' b = none
  view : View G' w'
theorem Fr.refl {G : GH} {w : World} (h : View G w) : Fr G w G w := ⟨rfl, rfl, rfl, Nat.le_refl _, fun _ _ _ => rfl, fun _ _ h => h, h⟩
theorem Fr.trans {G G1 G2 : GH} {w w1 w2 : World} (h : Fr G w G1 w1) (k : Fr G1 w1 G2 w2) : Fr G w G2 w2 :=
  ⟨k.os.trans h.os, k.tape.trans h.tape, k.output.trans h.output, Nat.le_trans h.size k.size,
   fun b hb hn => (k.block b (Nat.lt_of_lt_of_le hb h.size) (h.none b hb hn)).trans (h.block b hb hn),
   fun b hb hn => k.none b (Nat.lt_of_lt_of_le hb h.size) (h.none b hb hn), k.view⟩
theorem Fr.drew {G : GH} {w : World} (h : View G w) : Fr G w G w.drew := ⟨rfl, rfl, rfl, Nat.le_refl _, fun _ _ _ => rfl, fun _ _ h => h, h⟩
theorem heap_alloc_new (w : World) (o : Obj) : (w.alloc o).heap[w.heap.size]? = some o := by
  show (w.heap.push o)[w.heap.size]? = _
  simp
theorem heap_alloc_old (w : World) (o : Obj) {b : Nat} (h : b < w.heap.size) : (w.alloc o).heap[b]? = w.heap[b]? := by
  show (w.heap.push o)[b]? = _
  rw [Array.getElem?_push, if_neg (by omega)]
theorem Fr.alloc {G : GH} {w : World} (h : View G w) (o : Obj) : Fr G w (G.put w.heap.size o) (w.alloc o) := by
  refine ⟨rfl, rfl, rfl, by simp, fun b hb _ => heap_alloc_old w o hb, fun b hb hn => ?_, fun b p hp => ?_⟩
  · rw [GH.put_ne _ _ (by omega)]; exact hn
  · by_cases e : b = w.heap.size
    · subst e; rw [GH.put_same] at hp; rw [heap_alloc_new]; exact hp
    · rw [GH.put_ne _ _ e] at hp
      rw [heap_alloc_old w o (h.lt hp)]; exact h b p hp
/-- A block that isn't told. -/
theorem Fr.alloc_hid {G : GH} {w : World} (h : View G w) (o : Obj) : Fr G w G (w.alloc o) := by
  refine ⟨rfl, rfl, rfl, by simp, fun b hb _ => heap_alloc_old w o hb, fun b hb hn => hn, fun b p hp => ?_⟩
  rw [heap_alloc_old w o (h.lt hp)]; exact h b p hp
/-- CONTRACT: called at G, the function returns; R of what it returns and of what is known then. -/
def HC (P : Program) (f : FuncId) (args : Array Value) (G : GH) (R : Value → GH → Prop) : Prop :=
  ∀ w, View G w → Calls P f args w fun e w' => ∃ v G', e = .returned v ∧ Fr G w G' w' ∧ R v G'
theorem HC.mono {P : Program} {f : FuncId} {args : Array Value} {G : GH} {R R' : Value → GH → Prop} (h : HC P f args G R) (hr : ∀ v G', R v G' → R' v G') : HC P f args G R' :=
  fun w hw => (h w hw).mono fun _ _ ⟨v, G', e, hf, r⟩ => ⟨v, G', e, hf, hr v G' r⟩
/-- All of a world. -/
def whole (w : World) : GH := fun b => w.heap[b]?
theorem view_whole (w : World) : View (whole w) w := fun _ _ h => h
/-- A contract that leaves all that was known as it was: the row's own word. -/
theorem below_of_HC {P : Program} {f : FuncId} {args : Array Value} {w : World} {v : Value} (h : HC P f args (whole w) fun u G' => u = v ∧ (whole w).le G') :
    Calls P f args w fun e w' => e = .returned v ∧ Go.RowKit.Below w.heap.size w w' := by
  refine (h w (view_whole w)).mono ?_
  rintro e w' ⟨u, G', rfl, hf, rfl, hle⟩
  refine ⟨rfl, hf.os, hf.tape, hf.output, hf.size, fun b hb => ?_⟩
  have e1 : w.heap[b]? = some w.heap[b] := Array.getElem?_eq_getElem hb
  rw [e1]
  exact hf.view b _ (hle b _ e1)
end Go.Proofs.Ytdeihgcgglhhcaa.V
