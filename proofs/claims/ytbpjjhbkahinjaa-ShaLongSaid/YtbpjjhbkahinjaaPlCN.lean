/- Numbers by their digits: plain. -/
import Derived.Test.YtbpjjhbkahinjaaPlVL
set_option linter.unusedSimpArgs false
set_option linter.unusedVariables false
namespace Go.Proofs.Ytbpjjhbkahinjaa.V
/-- The number that digits say, the lowest first. -/
def val (B : Nat) : List Nat → Nat
  | [] => 0
  | x :: xs => x + B * val B xs
abbrev Dl (B : Nat) (xs : List Nat) : Prop := ∀ x ∈ xs, x < B
theorem Dl.getD {B : Nat} {xs : List Nat} (h : Dl B xs) (hB : 0 < B) (i : Nat) : xs.getD i 0 < B := by
  rw [List.getD_eq_getElem?_getD]
  by_cases hi : i < xs.length
  · rw [List.getElem?_eq_getElem hi]; exact h _ (List.getElem_mem hi)
  · rw [List.getElem?_eq_none (by omega)]; exact hB
theorem Dl.take {B : Nat} {xs : List Nat} (h : Dl B xs) (i : Nat) : Dl B (xs.take i) := fun x hx => h x (List.mem_of_mem_take hx)
theorem Dl.drop {B : Nat} {xs : List Nat} (h : Dl B xs) (i : Nat) : Dl B (xs.drop i) := fun x hx => h x (List.mem_of_mem_drop hx)
theorem Dl.app {B : Nat} {xs ys : List Nat} (h : Dl B xs) (k : Dl B ys) : Dl B (xs ++ ys) := fun x hx => (List.mem_append.1 hx).elim (h x) (k x)
theorem Dl.set {B : Nat} {xs : List Nat} (h : Dl B xs) (i : Nat) {v : Nat} (hv : v < B) : Dl B (xs.set i v) := fun x hx => by
  rcases List.mem_or_eq_of_mem_set hx with h1 | h1
  · exact h x h1
  · rw [h1]; exact hv
theorem getD_drop (xs : List Nat) (n j : Nat) : (xs.drop n).getD j 0 = xs.getD (n + j) 0 := by
  rw [List.getD_eq_getElem?_getD, List.getElem?_drop, ← List.getD_eq_getElem?_getD]
theorem getD_take (xs : List Nat) {n j : Nat} (h : j < n) : (xs.take n).getD j 0 = xs.getD j 0 := by
  rw [List.getD_eq_getElem?_getD, List.getElem?_take_of_lt h, ← List.getD_eq_getElem?_getD]
theorem set_getD_ne (xs : List Nat) {i j v : Nat} (h : i ≠ j) : (xs.set i v).getD j 0 = xs.getD j 0 := by
  rw [List.getD_eq_getElem?_getD, List.getElem?_set_ne h, ← List.getD_eq_getElem?_getD]
theorem set_getD_eq (xs : List Nat) {i v : Nat} (h : i < xs.length) : (xs.set i v).getD i 0 = v := by
  rw [List.getD_eq_getElem?_getD, List.getElem?_set_self h]; rfl
theorem Dl.push {B x : Nat} {o : List Nat} (h : Dl B o) (hx : x < B) : Dl B (o ++ [x]) := h.app fun y hy => by simp at hy; omega
end Go.Proofs.Ytbpjjhbkahinjaa.V
