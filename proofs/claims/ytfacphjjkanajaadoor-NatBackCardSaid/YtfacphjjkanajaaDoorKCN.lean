/- Numbers by their digits: plain. -/
import Derived.Test.YtfacphjjkanajaaDoorKVL
set_option linter.unusedSimpArgs false
set_option linter.unusedVariables false
namespace Go.Proofs.YtfacphjjkanajaaDoor.V
/-- The number that digits say, the lowest first. -/
def val (B : Nat) : List Nat → Nat
  | [] => 0
  | x :: xs => x + B * val B xs
abbrev Dl (B : Nat) (xs : List Nat) : Prop := ∀ x ∈ xs, x < B
theorem Dl.getD {B : Nat} {xs : List Nat} (h : Dl B xs) (hB : 0 < B) (i : Nat) : xs.getD i 0 < B := by
  rw [List.getD_eq_getElem?_getD]
  by_cases hi : i < xs.length
  · rw [List.getElem?_eq_getElem hi]; exact h _ (List.getElem_mem hi)
  · rw [List.getElem?_eq_none (by omega)]; exact hB
theorem Dl.take {B : Nat} {xs : List Nat} (h : Dl B xs) (i : Nat) : Dl B (xs.take i) := fun x hx => h x (List.mem_of_mem_take hx)
theorem Dl.drop {B : Nat} {xs : List Nat} (h : Dl B xs) (i : Nat) : Dl B (xs.drop i) := fun x hx => h x (List.mem_of_mem_drop hx)
theorem Dl.app {B : Nat} {xs ys : List Nat} (h : Dl B xs) (k : Dl B ys) : Dl B (xs ++ ys) := fun x hx => (List.mem_append.1 hx).elim (h x) (k x)
theorem Dl.set {B : Nat} {xs : List Nat} (h : Dl B xs) (i : Nat) {v : Nat} (hv : v < B) : Dl B (xs.set i v) := fun x hx => by
  rcases List.mem_or_eq_of_mem_set hx with h1 | h1
  · exact h x h1
  · rw [h1]; exact hv
theorem val_append (B : Nat) (xs ys : List Nat) : val B (xs ++ ys) = val B xs + B ^ xs.length * val B ys := by
  induction xs with
  | nil => simp [val]
  | cons x xs ih => rw [List.cons_append, val, val, ih, List.length_cons, Nat.mul_add, Nat.pow_succ, Nat.mul_comm _ B, ← Nat.mul_assoc, Nat.add_assoc]
theorem getD_take_succ (xs : List Nat) {i : Nat} (h : i < xs.length) : xs.take (i + 1) = xs.take i ++ [xs.getD i 0] := by
  rw [List.take_succ_eq_append_getElem h, List.getD_eq_getElem?_getD, List.getElem?_eq_getElem h]; rfl
theorem getD_ge (xs : List Nat) {i : Nat} (h : xs.length ≤ i) : xs.getD i 0 = 0 := by
  rw [List.getD_eq_getElem?_getD, List.getElem?_eq_none h]; rfl
theorem val_take_succ (B : Nat) (xs : List Nat) (i : Nat) : val B (xs.take (i + 1)) = val B (xs.take i) + B ^ i * xs.getD i 0 := by
  by_cases h : i < xs.length
  · rw [getD_take_succ xs h, val_append, List.length_take, Nat.min_eq_left (by omega)]; simp [val]
  · rw [List.take_of_length_le (by omega), List.take_of_length_le (by omega), getD_ge xs (by omega)]; simp
theorem val_split (B : Nat) (xs : List Nat) (i : Nat) : val B xs = val B (xs.take i) + B ^ i * val B (xs.drop i) := by
  by_cases h : i ≤ xs.length
  · have := val_append B (xs.take i) (xs.drop i)
    rw [List.take_append_drop, List.length_take, Nat.min_eq_left h] at this; exact this
  · rw [List.take_of_length_le (by omega), List.drop_of_length_le (by omega)]; simp [val]
theorem val_lt {B : Nat} : ∀ {xs : List Nat}, Dl B xs → val B xs < B ^ xs.length
  | [], _ => by simp [val]
  | x :: xs, h => by
    have h1 := val_lt (xs := xs) fun y hy => h y (List.mem_cons_of_mem _ hy)
    have h2 := h x List.mem_cons_self
    have h3 := Nat.mul_le_mul_left B (show val B xs + 1 ≤ B ^ xs.length from h1)
    rw [val, List.length_cons, Nat.pow_succ, Nat.mul_comm _ B]
    rw [Nat.mul_add] at h3; omega
theorem val_zero {B : Nat} : ∀ {xs : List Nat}, (∀ j, xs.getD j 0 = 0) → val B xs = 0
  | [], _ => rfl
  | x :: xs, h => by
    have h0 := h 0
    have h1 := val_zero (B := B) (xs := xs) fun j => by have := h (j + 1); simpa using this
    rw [val, h1]; simpa using h0
theorem val_rep (B n : Nat) : val B (List.replicate n 0) = 0 := by
  refine val_zero fun j => ?_
  rw [List.getD_eq_getElem?_getD, List.getElem?_replicate]; split <;> rfl
/-- A number's digits, the lowest first. -/
def dg (B n : Nat) : List Nat := if h : n = 0 ∨ B < 2 then [] else n % B :: dg B (n / B)
termination_by n
decreasing_by exact Nat.div_lt_self (by omega) (by omega)
theorem dg_zero (B : Nat) : dg B 0 = [] := by rw [dg, dif_pos (.inl rfl)]
theorem dg_pos {B n : Nat} (hB : 2 ≤ B) (h : n ≠ 0) : dg B n = n % B :: dg B (n / B) := by rw [dg, dif_neg (by omega)]
theorem dg_lt {B : Nat} (hB : 2 ≤ B) (n : Nat) : Dl B (dg B n) := by
  induction n using Nat.strongRecOn with
  | ind n ih =>
    by_cases h : n = 0
    · subst h; rw [dg_zero]; intro x hx; cases hx
    · rw [dg_pos hB h]
      intro x hx
      rcases List.mem_cons.1 hx with rfl | hx
      · exact Nat.mod_lt _ (by omega)
      · exact ih _ (Nat.div_lt_self (by omega) (by omega)) x hx
theorem val_dg {B : Nat} (hB : 2 ≤ B) (n : Nat) : val B (dg B n) = n := by
  induction n using Nat.strongRecOn with
  | ind n ih =>
    by_cases h : n = 0
    · subst h; rw [dg_zero]; rfl
    · rw [dg_pos hB h, val, ih _ (Nat.div_lt_self (by omega) (by omega))]
      exact Nat.mod_add_div n B
theorem dg_cons {B x v : Nat} (hB : 2 ≤ B) (hx : x < B) (h : x + B * v ≠ 0) : dg B (x + B * v) = x :: dg B v := by
  rw [dg_pos hB h, Nat.add_mul_mod_self_left, Nat.mod_eq_of_lt hx, Nat.add_mul_div_left _ _ (by omega), Nat.div_eq_of_lt hx, Nat.zero_add]
theorem dg_top {B : Nat} (hB : 2 ≤ B) : ∀ {xs : List Nat}, Dl B xs → (xs = [] ∨ xs.getD (xs.length - 1) 0 ≠ 0) → dg B (val B xs) = xs
  | [], _, _ => by rw [val, dg_zero]
  | [x], h, ht => by
    have hx : x ≠ 0 := by rcases ht with h | h; · cases h
                          · simpa using h
    rw [val, val, dg_cons hB (h x List.mem_cons_self) (by omega), dg_zero]
  | x :: y :: xs, h, ht => by
    have h1 := dg_top hB (xs := y :: xs) (fun z hz => h z (List.mem_cons_of_mem _ hz)) (.inr (by rcases ht with h | h; · cases h
                                                                                                 · simpa using h))
    have hv : val B (y :: xs) ≠ 0 := by
      intro e; rw [e, dg_zero] at h1; cases h1
    have : B * val B (y :: xs) ≠ 0 := Nat.mul_ne_zero (by omega) hv
    rw [val, dg_cons hB (h x List.mem_cons_self) (by omega), h1]
theorem getD_drop (xs : List Nat) (n j : Nat) : (xs.drop n).getD j 0 = xs.getD (n + j) 0 := by
  rw [List.getD_eq_getElem?_getD, List.getElem?_drop, ← List.getD_eq_getElem?_getD]
theorem getD_appL (xs ys : List Nat) {i : Nat} (h : i < xs.length) : (xs ++ ys).getD i 0 = xs.getD i 0 := by
  rw [List.getD_eq_getElem?_getD, List.getElem?_append_left h, ← List.getD_eq_getElem?_getD]
theorem getD_appR (xs ys : List Nat) {i : Nat} (h : xs.length ≤ i) : (xs ++ ys).getD i 0 = ys.getD (i - xs.length) 0 := by
  rw [List.getD_eq_getElem?_getD, List.getElem?_append_right h, ← List.getD_eq_getElem?_getD]
theorem getD_take (xs : List Nat) {n j : Nat} (h : j < n) : (xs.take n).getD j 0 = xs.getD j 0 := by
  rw [List.getD_eq_getElem?_getD, List.getElem?_take_of_lt h, ← List.getD_eq_getElem?_getD]
theorem val_take_zero {B : Nat} {xs : List Nat} {n : Nat} (hz : ∀ j, n ≤ j → xs.getD j 0 = 0) : val B (xs.take n) = val B xs := by
  rw [val_split B xs n, val_zero (xs := xs.drop n) fun j => by rw [getD_drop]; exact hz _ (by omega)]; simp
theorem dg_take {B : Nat} (hB : 2 ≤ B) {xs : List Nat} (h : Dl B xs) {n : Nat} (hn : n ≤ xs.length) (hz : ∀ j, n ≤ j → xs.getD j 0 = 0) (ht : n = 0 ∨ xs.getD (n - 1) 0 ≠ 0) : xs.take n = dg B (val B xs) := by
  rw [← val_take_zero hz]
  refine (dg_top hB (h.take n) ?_).symm
  rcases ht with rfl | ht
  · exact .inl rfl
  · by_cases h0 : n = 0
    · subst h0; exact .inl rfl
    · right
      rw [List.length_take, Nat.min_eq_left hn, getD_take xs (by omega)]; exact ht
theorem dg_len_le {B : Nat} (hB : 2 ≤ B) : ∀ {k n : Nat}, n < B ^ k → (dg B n).length ≤ k
  | 0, n, h => by
    have : n = 0 := by simpa using h
    subst this; rw [dg_zero]; simp
  | k + 1, n, h => by
    by_cases h0 : n = 0
    · subst h0; rw [dg_zero]; simp
    · rw [dg_pos hB h0, List.length_cons]
      have := dg_len_le hB (k := k) (n := n / B) (by rw [Nat.div_lt_iff_lt_mul (by omega)]; rw [Nat.pow_succ] at h; exact h)
      omega
theorem lt_dg {B : Nat} (hB : 2 ≤ B) (n : Nat) : n < B ^ (dg B n).length := by
  have := val_lt (dg_lt hB n)
  rwa [val_dg hB] at this
theorem dg_len_lt {B : Nat} (hB : 2 ≤ B) {m n : Nat} (h : (dg B m).length < (dg B n).length) : m < n := by
  by_cases hk : m < n
  · exact hk
  · have h1 := lt_dg hB m
    have := dg_len_le hB (k := (dg B m).length) (n := n) (by omega)
    omega
theorem dg_inj {B : Nat} (hB : 2 ≤ B) {m n : Nat} (h : dg B m = dg B n) : m = n := by
  rw [← val_dg hB m, h, val_dg hB]
theorem dg_val_len {B : Nat} (hB : 2 ≤ B) {xs : List Nat} (h : Dl B xs) : (dg B (val B xs)).length ≤ xs.length := dg_len_le hB (val_lt h)
theorem dg_ne {B : Nat} (hB : 2 ≤ B) {n : Nat} : dg B n = [] ↔ n = 0 := by
  constructor
  · intro h; by_cases h0 : n = 0
    · exact h0
    · rw [dg_pos hB h0] at h; cases h
  · rintro rfl; exact dg_zero B
/-- Of rows of one length the first place from above decides. -/
theorem val_less {B : Nat} (hB : 0 < B) {xs ys : List Nat} (hx : Dl B xs) {i : Nat} (he : xs.drop (i + 1) = ys.drop (i + 1)) (hl : xs.getD i 0 < ys.getD i 0) : val B xs < val B ys := by
  rw [val_split B xs (i + 1), val_split B ys (i + 1), he, val_take_succ, val_take_succ]
  have h1 := val_lt (hx.take i)
  have h2 : B ^ (xs.take i).length ≤ B ^ i := Nat.pow_le_pow_right hB (by rw [List.length_take]; omega)
  have h3 : B ^ i * (xs.getD i 0 + 1) ≤ B ^ i * ys.getD i 0 := Nat.mul_le_mul_left _ hl
  rw [Nat.mul_add, Nat.mul_one] at h3
  omega
def cmp (m n : Nat) : Int := if m < n then -1 else if n < m then 1 else 0
theorem dg_less {B a b : Nat} (hB : 2 ≤ B) {i : Nat} (he : (dg B a).drop (i + 1) = (dg B b).drop (i + 1)) (hl : (dg B a).getD i 0 < (dg B b).getD i 0) : a < b := by
  have := val_less (B := B) (by omega) (dg_lt hB a) he hl
  rwa [val_dg hB, val_dg hB] at this
theorem drop_step {xs ys : List Nat} {n : Nat} (h1 : n < xs.length) (h2 : n < ys.length) (he : xs.drop (n + 1) = ys.drop (n + 1)) (hg : xs.getD n 0 = ys.getD n 0) : xs.drop n = ys.drop n := by
  rw [List.drop_eq_getElem_cons h1, List.drop_eq_getElem_cons h2, he]
  congr 1
  simpa [List.getD_eq_getElem?_getD, List.getElem?_eq_getElem h1, List.getElem?_eq_getElem h2] using hg
theorem cmp_lt {m n : Nat} (h : m < n) : cmp m n = -1 := if_pos h
theorem cmp_gt {m n : Nat} (h : n < m) : cmp m n = 1 := by unfold cmp; rw [if_neg (by omega), if_pos h]
theorem cmp_eq {m n : Nat} (h : m = n) : cmp m n = 0 := by unfold cmp; rw [if_neg (by omega), if_neg (by omega)]
theorem set_take (xs : List Nat) (i v : Nat) : (xs.set i v).take i = xs.take i := by
  apply List.ext_getElem?
  intro j
  rw [List.getElem?_take, List.getElem?_take]
  split
  · rw [List.getElem?_set_ne (by omega)]
  · rfl
theorem set_getD_ne (xs : List Nat) {i j v : Nat} (h : i ≠ j) : (xs.set i v).getD j 0 = xs.getD j 0 := by
  rw [List.getD_eq_getElem?_getD, List.getElem?_set_ne h, ← List.getD_eq_getElem?_getD]
theorem set_getD_eq (xs : List Nat) {i v : Nat} (h : i < xs.length) : (xs.set i v).getD i 0 = v := by
  rw [List.getD_eq_getElem?_getD, List.getElem?_set_self h]; rfl
theorem val_set_take (B : Nat) (xs : List Nat) {i : Nat} (h : i < xs.length) (v : Nat) : val B ((xs.set i v).take (i + 1)) = val B (xs.take i) + B ^ i * v := by
  rw [val_take_succ, set_take, set_getD_eq xs h]
theorem ext_getD {xs ys : List Nat} (hl : xs.length = ys.length) (h : ∀ j, j < xs.length → xs.getD j 0 = ys.getD j 0) : xs = ys := by
  apply List.ext_getElem hl
  intro j h1 h2
  have := h j h1
  simpa [List.getD_eq_getElem?_getD, List.getElem?_eq_getElem h1, List.getElem?_eq_getElem h2] using this
theorem add_step {B : Nat} {o a b : List Nat} {i c x y : Nat} (h : val B (o.take i) + B ^ i * c = val B (a.take i) + val B (b.take i)) (hi : i < o.length) (e1 : a.getD i 0 = x) (e2 : b.getD i 0 = y) :
    val B ((o.set i ((x + y + c) % B)).take (i + 1)) + B ^ (i + 1) * ((x + y + c) / B) = val B (a.take (i + 1)) + val B (b.take (i + 1)) := by
  rw [val_set_take B o hi, val_take_succ, val_take_succ, e1, e2, Nat.pow_succ, Nat.mul_assoc]
  have h1 : B ^ i * ((x + y + c) % B) + B ^ i * (B * ((x + y + c) / B)) = B ^ i * x + B ^ i * y + B ^ i * c := by
    rw [← Nat.mul_add, Nat.mod_add_div, Nat.mul_add, Nat.mul_add]
  omega
theorem val_push (B : Nat) (o : List Nat) (x : Nat) : val B (o ++ [x]) = val B o + B ^ o.length * x := by rw [val_append]; simp [val]
theorem Dl.push {B x : Nat} {o : List Nat} (h : Dl B o) (hx : x < B) : Dl B (o ++ [x]) := h.app fun y hy => by simp at hy; omega
end Go.Proofs.YtfacphjjkanajaaDoor.V
