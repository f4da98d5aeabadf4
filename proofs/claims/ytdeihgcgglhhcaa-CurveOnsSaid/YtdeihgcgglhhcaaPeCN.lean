/- Numbers by their digits: plain. -/
import Derived.Test.YtdeihgcgglhhcaaPeVL
set_option linter.unusedSimpArgs false
set_option linter.unusedVariables false
namespace Go.Proofs.Ytdeihgcgglhhcaa.V
/-- The number that digits say, the lowest first. -/
def val (B : Nat) : List Nat → Nat
  | [] => 0
  | x :: xs => x + B * val B xs
abbrev Dl (B : Nat) (xs : List Nat) : Prop := ∀ x ∈ xs, x < B
theorem Dl.getD {B : Nat} {xs : List Nat} (h : Dl B xs) (hB : 0 < B) (i : Nat) : xs.getD i 0 < B := by
  rw [List.getD_eq_getElem?_getD]
  by_cases hi : i < xs.length
  · rw [List.getElem?_eq_getElem hi]; exact h _ (List.getElem_mem hi)
  · rw [List.getElem?_eq_none (by omega)]; exact hB
theorem Dl.take {B : Nat} {xs : List Nat} (h : Dl B xs) (i : Nat) : Dl B (xs.take i) := fun x hx => h x (List.mem_of_mem_take hx)
theorem Dl.drop {B : Nat} {xs : List Nat} (h : Dl B xs) (i : Nat) : Dl B (xs.drop i) := fun x hx => h x (List.mem_of_mem_drop hx)
theorem Dl.app {B : Nat} {xs ys : List Nat} (h : Dl B xs) (k : Dl B ys) : Dl B (xs ++ ys) := fun x hx => (List.mem_append.1 hx).elim (h x) (k x)
theorem Dl.set {B : Nat} {xs : List Nat} (h : Dl B xs) (i : Nat) {v : Nat} (hv : v < B) : Dl B (xs.set i v) := fun x hx => by
  rcases List.mem_or_eq_of_mem_set hx with h1 | h1
  · exact h x h1
  · rw [h1]; exact hv
theorem Dl.rep {B : Nat} (n : Nat) (hB : 0 < B) : Dl B (List.replicate n 0) := fun x hx => by rw [(List.mem_replicate.1 hx).2]; exact hB
theorem val_append (B : Nat) (xs ys : List Nat) : val B (xs ++ ys) = val B xs + B ^ xs.length * val B ys := by
  induction xs with
  | nil => simp [val]
  | cons x xs ih => rw [List.cons_append, val, val, ih, List.length_cons, Nat.mul_add, Nat.pow_succ, Nat.mul_comm _ B, ← Nat.mul_assoc, Nat.add_assoc]
theorem getD_take_succ (xs : List Nat) {i : Nat} (h : i < xs.length) : xs.take (i + 1) = xs.take i ++ [xs.getD i 0] := by
  rw [List.take_succ_eq_append_getElem h, List.getD_eq_getElem?_getD, List.getElem?_eq_getElem h]; rfl
theorem getD_ge (xs : List Nat) {i : Nat} (h : xs.length ≤ i) : xs.getD i 0 = 0 := by
  rw [List.getD_eq_getElem?_getD, List.getElem?_eq_none h]; rfl
theorem val_take_succ (B : Nat) (xs : List Nat) (i : Nat) : val B (xs.take (i + 1)) = val B (xs.take i) + B ^ i * xs.getD i 0 := by
  by_cases h : i < xs.length
  · rw [getD_take_succ xs h, val_append, List.length_take, Nat.min_eq_left (by omega)]; simp [val]
  · rw [List.take_of_length_le (by omega), List.take_of_length_le (by omega), getD_ge xs (by omega)]; simp
theorem val_split (B : Nat) (xs : List Nat) (i : Nat) : val B xs = val B (xs.take i) + B ^ i * val B (xs.drop i) := by
  by_cases h : i ≤ xs.length
  · have := val_append B (xs.take i) (xs.drop i)
    rw [List.take_append_drop, List.length_take, Nat.min_eq_left h] at this; exact this
  · rw [List.take_of_length_le (by omega), List.drop_of_length_le (by omega)]; simp [val]
theorem val_lt {B : Nat} : ∀ {xs : List Nat}, Dl B xs → val B xs < B ^ xs.length
  | [], _ => by simp [val]
  | x :: xs, h => by
    have h1 := val_lt (xs := xs) fun y hy => h y (List.mem_cons_of_mem _ hy)
    have h2 := h x List.mem_cons_self
    have h3 := Nat.mul_le_mul_left B (show val B xs + 1 ≤ B ^ xs.length from h1)
    rw [val, List.length_cons, Nat.pow_succ, Nat.mul_comm _ B]
    rw [Nat.mul_add] at h3; omega
theorem val_zero {B : Nat} : ∀ {xs : List Nat}, (∀ j, xs.getD j 0 = 0) → val B xs = 0
  | [], _ => rfl
  | x :: xs, h => by
    have h0 := h 0
    have h1 := val_zero (B := B) (xs := xs) fun j => by have := h (j + 1); simpa using this
    rw [val, h1]; simpa using h0
theorem val_rep (B n : Nat) : val B (List.replicate n 0) = 0 := by
  refine val_zero fun j => ?_
  rw [List.getD_eq_getElem?_getD, List.getElem?_replicate]; split <;> rfl
theorem getD_drop (xs : List Nat) (n j : Nat) : (xs.drop n).getD j 0 = xs.getD (n + j) 0 := by
  rw [List.getD_eq_getElem?_getD, List.getElem?_drop, ← List.getD_eq_getElem?_getD]
theorem getD_appL (xs ys : List Nat) {i : Nat} (h : i < xs.length) : (xs ++ ys).getD i 0 = xs.getD i 0 := by
  rw [List.getD_eq_getElem?_getD, List.getElem?_append_left h, ← List.getD_eq_getElem?_getD]
theorem getD_appR (xs ys : List Nat) {i : Nat} (h : xs.length ≤ i) : (xs ++ ys).getD i 0 = ys.getD (i - xs.length) 0 := by
  rw [List.getD_eq_getElem?_getD, List.getElem?_append_right h, ← List.getD_eq_getElem?_getD]
theorem getD_take (xs : List Nat) {n j : Nat} (h : j < n) : (xs.take n).getD j 0 = xs.getD j 0 := by
  rw [List.getD_eq_getElem?_getD, List.getElem?_take_of_lt h, ← List.getD_eq_getElem?_getD]
/-- Of rows of one length the first place from above decides. -/
theorem val_less {B : Nat} (hB : 0 < B) {xs ys : List Nat} (hx : Dl B xs) {i : Nat} (he : xs.drop (i + 1) = ys.drop (i + 1)) (hl : xs.getD i 0 < ys.getD i 0) : val B xs < val B ys := by
  rw [val_split B xs (i + 1), val_split B ys (i + 1), he, val_take_succ, val_take_succ]
  have h1 := val_lt (hx.take i)
  have h2 : B ^ (xs.take i).length ≤ B ^ i := Nat.pow_le_pow_right hB (by rw [List.length_take]; omega)
  have h3 : B ^ i * (xs.getD i 0 + 1) ≤ B ^ i * ys.getD i 0 := Nat.mul_le_mul_left _ hl
  rw [Nat.mul_add, Nat.mul_one] at h3
  omega
theorem drop_step {xs ys : List Nat} {n : Nat} (h1 : n < xs.length) (h2 : n < ys.length) (he : xs.drop (n + 1) = ys.drop (n + 1)) (hg : xs.getD n 0 = ys.getD n 0) : xs.drop n = ys.drop n := by
  rw [List.drop_eq_getElem_cons h1, List.drop_eq_getElem_cons h2, he]
  congr 1
  simpa [List.getD_eq_getElem?_getD, List.getElem?_eq_getElem h1, List.getElem?_eq_getElem h2] using hg
theorem set_take (xs : List Nat) (i v : Nat) : (xs.set i v).take i = xs.take i := by
  apply List.ext_getElem?
  intro j
  rw [List.getElem?_take, List.getElem?_take]
  split
  · rw [List.getElem?_set_ne (by omega)]
  · rfl
theorem set_getD_ne (xs : List Nat) {i j v : Nat} (h : i ≠ j) : (xs.set i v).getD j 0 = xs.getD j 0 := by
  rw [List.getD_eq_getElem?_getD, List.getElem?_set_ne h, ← List.getD_eq_getElem?_getD]
theorem set_getD_eq (xs : List Nat) {i v : Nat} (h : i < xs.length) : (xs.set i v).getD i 0 = v := by
  rw [List.getD_eq_getElem?_getD, List.getElem?_set_self h]; rfl
theorem val_set_take (B : Nat) (xs : List Nat) {i : Nat} (h : i < xs.length) (v : Nat) : val B ((xs.set i v).take (i + 1)) = val B (xs.take i) + B ^ i * v := by
  rw [val_take_succ, set_take, set_getD_eq xs h]
theorem ext_getD {xs ys : List Nat} (hl : xs.length = ys.length) (h : ∀ j, j < xs.length → xs.getD j 0 = ys.getD j 0) : xs = ys := by
  apply List.ext_getElem hl
  intro j h1 h2
  have := h j h1
  simpa [List.getD_eq_getElem?_getD, List.getElem?_eq_getElem h1, List.getElem?_eq_getElem h2] using this
theorem add_step {B : Nat} {o a b : List Nat} {i c x y : Nat} (h : val B (o.take i) + B ^ i * c = val B (a.take i) + val B (b.take i)) (hi : i < o.length) (e1 : a.getD i 0 = x) (e2 : b.getD i 0 = y) :
    val B ((o.set i ((x + y + c) % B)).take (i + 1)) + B ^ (i + 1) * ((x + y + c) / B) = val B (a.take (i + 1)) + val B (b.take (i + 1)) := by
  rw [val_set_take B o hi, val_take_succ, val_take_succ, e1, e2, Nat.pow_succ, Nat.mul_assoc]
  have h1 : B ^ i * ((x + y + c) % B) + B ^ i * (B * ((x + y + c) / B)) = B ^ i * x + B ^ i * y + B ^ i * c := by
    rw [← Nat.mul_add, Nat.mod_add_div, Nat.mul_add, Nat.mul_add]
  omega
theorem sub_step {B : Nat} {o a b : List Nat} {i c x y z d : Nat} (h : val B (o.take i) + val B (b.take i) = val B (a.take i) + B ^ i * c) (hi : i < o.length) (e1 : a.getD i 0 = x) (e2 : b.getD i 0 = y) (hz : z + y + c = x + B * d) :
    val B ((o.set i z).take (i + 1)) + val B (b.take (i + 1)) = val B (a.take (i + 1)) + B ^ (i + 1) * d := by
  rw [val_set_take B o hi, val_take_succ, val_take_succ, e1, e2, Nat.pow_succ, Nat.mul_assoc]
  have h1 : B ^ i * z + B ^ i * y + B ^ i * c = B ^ i * x + B ^ i * (B * d) := by
    rw [← Nat.mul_add, ← Nat.mul_add, hz, Nat.mul_add]
  omega
theorem plus_step {B : Nat} {o r a : List Nat} {i c x y z d m : Nat} (h : val B (o.take i) + B ^ i * c = val B (r.take i) + val B (a.take i) * m) (hi : i < o.length) (e1 : r.getD i 0 = x) (e2 : a.getD i 0 = y) (hz : z + B * d = x + y * m + c) :
    val B ((o.set i z).take (i + 1)) + B ^ (i + 1) * d = val B (r.take (i + 1)) + val B (a.take (i + 1)) * m := by
  rw [val_set_take B o hi, val_take_succ, val_take_succ, e1, e2, Nat.pow_succ, Nat.mul_assoc, Nat.add_mul]
  have h1 : B ^ i * z + B ^ i * (B * d) = B ^ i * x + B ^ i * y * m + B ^ i * c := by
    rw [← Nat.mul_add, hz, Nat.mul_add, Nat.mul_add, Nat.mul_assoc]
  omega
theorem val_push (B : Nat) (o : List Nat) (x : Nat) : val B (o ++ [x]) = val B o + B ^ o.length * x := by rw [val_append]; simp [val]
theorem Dl.push {B x : Nat} {o : List Nat} (h : Dl B o) (hx : x < B) : Dl B (o ++ [x]) := h.app fun y hy => by simp at hy; omega
end Go.Proofs.Ytdeihgcgglhhcaa.V
