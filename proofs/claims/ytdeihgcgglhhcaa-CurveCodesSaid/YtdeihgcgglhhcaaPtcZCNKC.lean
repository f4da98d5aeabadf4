/- Numbers by their digits: plain. -/
import Derived.Test.YtdeihgcgglhhcaaPtcVL
import Derived.Laws.MathBits
import Derived.Test.YtdeihgcgglhhcaaPtcCA
import Derived.Shelf.Spec.BitsCarry
section
set_option linter.unusedSimpArgs false
set_option linter.unusedVariables false
namespace Go.Proofs.Ytdeihgcgglhhcaa.V
/-- The number that digits say, the lowest first. -/
def val (B : Nat) : List Nat → Nat
  | [] => 0
  | x :: xs => x + B * val B xs
abbrev Dl (B : Nat) (xs : List Nat) : Prop := ∀ x ∈ xs, x < B
theorem Dl.getD {B : Nat} {xs : List Nat} (h : Dl B xs) (hB : 0 < B) (i : Nat) : xs.getD i 0 < B := by
  rw [List.getD_eq_getElem?_getD]
  by_cases hi : i < xs.length
  · rw [List.getElem?_eq_getElem hi]; exact h _ (List.getElem_mem hi)
  · rw [List.getElem?_eq_none (by omega)]; exact hB
theorem Dl.take {B : Nat} {xs : List Nat} (h : Dl B xs) (i : Nat) : Dl B (xs.take i) := fun x hx => h x (List.mem_of_mem_take hx)
theorem Dl.drop {B : Nat} {xs : List Nat} (h : Dl B xs) (i : Nat) : Dl B (xs.drop i) := fun x hx => h x (List.mem_of_mem_drop hx)
theorem Dl.app {B : Nat} {xs ys : List Nat} (h : Dl B xs) (k : Dl B ys) : Dl B (xs ++ ys) := fun x hx => (List.mem_append.1 hx).elim (h x) (k x)
theorem Dl.set {B : Nat} {xs : List Nat} (h : Dl B xs) (i : Nat) {v : Nat} (hv : v < B) : Dl B (xs.set i v) := fun x hx => by
  rcases List.mem_or_eq_of_mem_set hx with h1 | h1
  · exact h x h1
  · rw [h1]; exact hv
theorem Dl.rep {B : Nat} (n : Nat) (hB : 0 < B) : Dl B (List.replicate n 0) := fun x hx => by rw [(List.mem_replicate.1 hx).2]; exact hB
theorem val_append (B : Nat) (xs ys : List Nat) : val B (xs ++ ys) = val B xs + B ^ xs.length * val B ys := by
  induction xs with
  | nil => simp [val]
  | cons x xs ih => rw [List.cons_append, val, val, ih, List.length_cons, Nat.mul_add, Nat.pow_succ, Nat.mul_comm _ B, ← Nat.mul_assoc, Nat.add_assoc]
theorem getD_take_succ (xs : List Nat) {i : Nat} (h : i < xs.length) : xs.take (i + 1) = xs.take i ++ [xs.getD i 0] := by
  rw [List.take_succ_eq_append_getElem h, List.getD_eq_getElem?_getD, List.getElem?_eq_getElem h]; rfl
theorem getD_ge (xs : List Nat) {i : Nat} (h : xs.length ≤ i) : xs.getD i 0 = 0 := by
  rw [List.getD_eq_getElem?_getD, List.getElem?_eq_none h]; rfl
theorem val_take_succ (B : Nat) (xs : List Nat) (i : Nat) : val B (xs.take (i + 1)) = val B (xs.take i) + B ^ i * xs.getD i 0 := by
  by_cases h : i < xs.length
  · rw [getD_take_succ xs h, val_append, List.length_take, Nat.min_eq_left (by omega)]; simp [val]
  · rw [List.take_of_length_le (by omega), List.take_of_length_le (by omega), getD_ge xs (by omega)]; simp
theorem val_split (B : Nat) (xs : List Nat) (i : Nat) : val B xs = val B (xs.take i) + B ^ i * val B (xs.drop i) := by
  by_cases h : i ≤ xs.length
  · have := val_append B (xs.take i) (xs.drop i)
    rw [List.take_append_drop, List.length_take, Nat.min_eq_left h] at this; exact this
  · rw [List.take_of_length_le (by omega), List.drop_of_length_le (by omega)]; simp [val]
theorem val_lt {B : Nat} : ∀ {xs : List Nat}, Dl B xs → val B xs < B ^ xs.length
  | [], _ => by simp [val]
  | x :: xs, h => by
    have h1 := val_lt (xs := xs) fun y hy => h y (List.mem_cons_of_mem _ hy)
    have h2 := h x List.mem_cons_self
    have h3 := Nat.mul_le_mul_left B (show val B xs + 1 ≤ B ^ xs.length from h1)
    rw [val, List.length_cons, Nat.pow_succ, Nat.mul_comm _ B]
    rw [Nat.mul_add] at h3; omega
theorem val_zero {B : Nat} : ∀ {xs : List Nat}, (∀ j, xs.getD j 0 = 0) → val B xs = 0
  | [], _ => rfl
  | x :: xs, h => by
    have h0 := h 0
    have h1 := val_zero (B := B) (xs := xs) fun j => by have := h (j + 1); simpa using this
    rw [val, h1]; simpa using h0
theorem val_rep (B n : Nat) : val B (List.replicate n 0) = 0 := by
  refine val_zero fun j => ?_
  rw [List.getD_eq_getElem?_getD, List.getElem?_replicate]; split <;> rfl
theorem getD_drop (xs : List Nat) (n j : Nat) : (xs.drop n).getD j 0 = xs.getD (n + j) 0 := by
  rw [List.getD_eq_getElem?_getD, List.getElem?_drop, ← List.getD_eq_getElem?_getD]
theorem getD_appL (xs ys : List Nat) {i : Nat} (h : i < xs.length) : (xs ++ ys).getD i 0 = xs.getD i 0 := by
  rw [List.getD_eq_getElem?_getD, List.getElem?_append_left h, ← List.getD_eq_getElem?_getD]
theorem getD_appR (xs ys : List Nat) {i : Nat} (h : xs.length ≤ i) : (xs ++ ys).getD i 0 = ys.getD (i - xs.length) 0 := by
  rw [List.getD_eq_getElem?_getD, List.getElem?_append_right h, ← List.getD_eq_getElem?_getD]
theorem getD_take (xs : List Nat) {n j : Nat} (h : j < n) : (xs.take n).getD j 0 = xs.getD j 0 := by
  rw [List.getD_eq_getElem?_getD, List.getElem?_take_of_lt h, ← List.getD_eq_getElem?_getD]
/-- Of rows of one length the first place from above decides. -/
theorem val_less {B : Nat} (hB : 0 < B) {xs ys : List Nat} (hx : Dl B xs) {i : Nat} (he : xs.drop (i + 1) = ys.drop (i + 1)) (hl : xs.getD i 0 < ys.getD i 0) : val B xs < val B ys := by
  rw [val_split B xs (i + 1), val_split B ys (i + 1), he, val_take_succ, val_take_succ]
  have h1 := val_lt (hx.take i)
  have h2 : B ^ (xs.take i).length ≤ B ^ i := Nat.pow_le_pow_right hB (by rw [List.length_take]; omega)
  have h3 : B ^ i * (xs.getD i 0 + 1) ≤ B ^ i * ys.getD i 0 := Nat.mul_le_mul_left _ hl
  rw [Nat.mul_add, Nat.mul_one] at h3
  omega
theorem drop_step {xs ys : List Nat} {n : Nat} (h1 : n < xs.length) (h2 : n < ys.length) (he : xs.drop (n + 1) = ys.drop (n + 1)) (hg : xs.getD n 0 = ys.getD n 0) : xs.drop n = ys.drop n := by
  rw [List.drop_eq_getElem_cons h1, List.drop_eq_getElem_cons h2, he]
  congr 1
  simpa [List.getD_eq_getElem?_getD, List.getElem?_eq_getElem h1, List.getElem?_eq_getElem h2] using hg
theorem set_take (xs : List Nat) (i v : Nat) : (xs.set i v).take i = xs.take i := by
  apply List.ext_getElem?
  intro j
  rw [List.getElem?_take, List.getElem?_take]
  split
  · rw [List.getElem?_set_ne (by omega)]
  · rfl
theorem set_getD_ne (xs : List Nat) {i j v : Nat} (h : i ≠ j) : (xs.set i v).getD j 0 = xs.getD j 0 := by
  rw [List.getD_eq_getElem?_getD, List.getElem?_set_ne h, ← List.getD_eq_getElem?_getD]
theorem set_getD_eq (xs : List Nat) {i v : Nat} (h : i < xs.length) : (xs.set i v).getD i 0 = v := by
  rw [List.getD_eq_getElem?_getD, List.getElem?_set_self h]; rfl
theorem val_set_take (B : Nat) (xs : List Nat) {i : Nat} (h : i < xs.length) (v : Nat) : val B ((xs.set i v).take (i + 1)) = val B (xs.take i) + B ^ i * v := by
  rw [val_take_succ, set_take, set_getD_eq xs h]
theorem ext_getD {xs ys : List Nat} (hl : xs.length = ys.length) (h : ∀ j, j < xs.length → xs.getD j 0 = ys.getD j 0) : xs = ys := by
  apply List.ext_getElem hl
  intro j h1 h2
  have := h j h1
  simpa [List.getD_eq_getElem?_getD, List.getElem?_eq_getElem h1, List.getElem?_eq_getElem h2] using this
theorem add_step {B : Nat} {o a b : List Nat} {i c x y : Nat} (h : val B (o.take i) + B ^ i * c = val B (a.take i) + val B (b.take i)) (hi : i < o.length) (e1 : a.getD i 0 = x) (e2 : b.getD i 0 = y) :
    val B ((o.set i ((x + y + c) % B)).take (i + 1)) + B ^ (i + 1) * ((x + y + c) / B) = val B (a.take (i + 1)) + val B (b.take (i + 1)) := by
  rw [val_set_take B o hi, val_take_succ, val_take_succ, e1, e2, Nat.pow_succ, Nat.mul_assoc]
  have h1 : B ^ i * ((x + y + c) % B) + B ^ i * (B * ((x + y + c) / B)) = B ^ i * x + B ^ i * y + B ^ i * c := by
    rw [← Nat.mul_add, Nat.mod_add_div, Nat.mul_add, Nat.mul_add]
  omega
theorem sub_step {B : Nat} {o a b : List Nat} {i c x y z d : Nat} (h : val B (o.take i) + val B (b.take i) = val B (a.take i) + B ^ i * c) (hi : i < o.length) (e1 : a.getD i 0 = x) (e2 : b.getD i 0 = y) (hz : z + y + c = x + B * d) :
    val B ((o.set i z).take (i + 1)) + val B (b.take (i + 1)) = val B (a.take (i + 1)) + B ^ (i + 1) * d := by
  rw [val_set_take B o hi, val_take_succ, val_take_succ, e1, e2, Nat.pow_succ, Nat.mul_assoc]
  have h1 : B ^ i * z + B ^ i * y + B ^ i * c = B ^ i * x + B ^ i * (B * d) := by
    rw [← Nat.mul_add, ← Nat.mul_add, hz, Nat.mul_add]
  omega
theorem plus_step {B : Nat} {o r a : List Nat} {i c x y z d m : Nat} (h : val B (o.take i) + B ^ i * c = val B (r.take i) + val B (a.take i) * m) (hi : i < o.length) (e1 : r.getD i 0 = x) (e2 : a.getD i 0 = y) (hz : z + B * d = x + y * m + c) :
    val B ((o.set i z).take (i + 1)) + B ^ (i + 1) * d = val B (r.take (i + 1)) + val B (a.take (i + 1)) * m := by
  rw [val_set_take B o hi, val_take_succ, val_take_succ, e1, e2, Nat.pow_succ, Nat.mul_assoc, Nat.add_mul]
  have h1 : B ^ i * z + B ^ i * (B * d) = B ^ i * x + B ^ i * y * m + B ^ i * c := by
    rw [← Nat.mul_add, hz, Nat.mul_add, Nat.mul_add, Nat.mul_assoc]
  omega
theorem val_push (B : Nat) (o : List Nat) (x : Nat) : val B (o ++ [x]) = val B o + B ^ o.length * x := by rw [val_append]; simp [val]
theorem Dl.push {B x : Nat} {o : List Nat} (h : Dl B o) (hx : x < B) : Dl B (o ++ [x]) := h.app fun y hy => by simp at hy; omega
end Go.Proofs.Ytdeihgcgglhhcaa.V
end
section
/- Rows of numbers in memory. -/
set_option linter.unusedSimpArgs false
set_option linter.unusedVariables false
namespace Go.Proofs.Ytdeihgcgglhhcaa.V
open Go.RowKit Go.ChangeShapes Go.WideShapes Go.ChangeAt
abbrev iv (k : IntKind) (x : Nat) : Value := .int k (x : Int)
abbrev Nu (k : IntKind) (G : GH) (u : Value) (xs : List Nat) : Prop := Sl 1 G u (xs.map (iv k))
theorem Nu.len {k : IntKind} {G : GH} {u : Value} {xs : List Nat} (h : Nu k G u xs) : lenS u = xs.length := by
  have := Sl.len h; simp at this; omega
theorem Nu.len_le {k : IntKind} {G : GH} {u : Value} {xs : List Nat} (h : Nu k G u xs) : xs.length ≤ 9223372036854775807 := by
  have := Sl.len_le h; rw [Nu.len h] at this; exact this
theorem nu_get {k : IntKind} (xs : List Nat) {j : Nat} (h : j < xs.length) : (xs.map (iv k))[j]? = some (iv k (xs.getD j 0)) := by
  rw [List.getElem?_map, List.getD_eq_getElem?_getD, List.getElem?_eq_getElem h]; rfl
theorem nu_cells (k : IntKind) (xs : List Nat) : cells1 (xs.map (iv k)) = true := by simp [cells1, Value.oneCell']
section
variable {P : Program} {E : Env} {K : St → Prop} {r : List Stp} {dd : Option Nat} {L : SL} {A : AL} {G : GH}
/-- Copies of cells into what is made. -/
theorem o_copy {d n : Nat} {x y : Operand} {b q len cap : Nat} {v : Value} {es : List Value} {cs : Array Value} {e : TypeId} {fr : Nat × Nat} (hx : evo L x = some (.slice (some ⟨b, q, none⟩) len cap)) (hy : evo L y = some v) (hv : Sl n G v es) (h1 : cells1 es = true) (hl : lenS v ≤ len) (hn : n ≠ 0)
    (hG : G b = some (.cells cs e fr)) (hs : q + lenS v * n ≤ cs.size) (hf : fr.2 ≤ q ∨ q + lenS v * n ≤ fr.1)
    (h : vops P E r K (S (.set d (.int .i64 (lenS v)) L) A (G.put b (.cells (wr cs q es) e fr)))) : vops P E (⟨none, dd, .copy d n x y⟩ :: r) K (S L A G) := by
  obtain ⟨a', cap', f1, f2, f3, f4, f5⟩ := hv.slice
  have hmin : Nat.min (lenS v) len = lenS v := Nat.min_eq_left hl
  rw [f1] at hy
  have hr := hv.rd
  rw [f1] at hr
  refine ⟨_, _, _, _, _, _, es, evo_ev hx, evo_ev hy, ?_, ?_⟩
  · rw [hmin]; exact hr
  · rw [hmin]; exact ⟨rfl, cs, e, fr, hG, ⟨hs, h1, hf⟩, h⟩
theorem put_put (G : GH) (b : Nat) (o o' : Obj) : (G.put b o).put b o' = G.put b o' := by
  funext i; by_cases h : i = b
  · subst h; rw [GH.put_same, GH.put_same]
  · rw [GH.put_ne _ _ h, GH.put_ne _ _ h, GH.put_ne _ _ h]
theorem put_self {G : GH} {b : Nat} {o : Obj} (h : G b = some o) : G.put b o = G := by
  funext i; by_cases hi : i = b
  · subst hi; rw [GH.put_same, h]
  · rw [GH.put_ne _ _ hi]
theorem le_eq {G0 G G' : GH} {b : Nat} {o : Obj} (e : G' = G.put b o) (h : G0.le G) (hb : G0 b = none) : G0.le G' := by rw [e]; exact GH.le_put_of _ h hb
theorem put_eq {G G1 G2 : GH} {b : Nat} {o1 o2 : Obj} (e2 : G2 = G1.put b o2) (e1 : G1 = G.put b o1) : G2 = G.put b o2 := by rw [e2, e1, put_put]
/-- The whole of what is made, or a part of it, as numbers: all its room is in use. -/
structure Win (k : IntKind) (G : GH) (b q : Nat) (cs : Array Value) (e : TypeId) (fr : Nat × Nat) (xs : List Nat) : Prop where
  hG : G b = some (.cells cs e fr)
  hs : q + xs.length ≤ cs.size
  hf : fr.2 ≤ q ∨ q + xs.length ≤ fr.1
  hm : xs.length ≤ 9223372036854775807
  hx : ∀ j, j < xs.length → cs[q + j]? = some (iv k (xs.getD j 0))
/-- Cells changed in a part only. -/
def Upd (cs cs' : Array Value) (q n : Nat) : Prop := cs'.size = cs.size ∧ ∀ i, (i < q ∨ q + n ≤ i) → cs'[i]? = cs[i]?
theorem Upd.refl (cs : Array Value) (q n : Nat) : Upd cs cs q n := ⟨rfl, fun _ _ => rfl⟩
theorem Upd.trans {c1 c2 c3 : Array Value} {q n : Nat} (h : Upd c1 c2 q n) (k : Upd c2 c3 q n) : Upd c1 c3 q n := ⟨k.1.trans h.1, fun i hi => (k.2 i hi).trans (h.2 i hi)⟩
theorem Upd.wr1 (cs : Array Value) {q i n : Nat} (v : Value) (h : i < n) (hs : q + n ≤ cs.size) : Upd cs (wr cs (q + i) [v]) q n := by
  refine ⟨wr_size _ _ _, fun j hj => ?_⟩
  rw [wr_get _ _ _ _ (by simp; omega)]
  simp only [List.length_singleton]
  split
  · rfl
  · rw [if_neg (by omega)]
theorem Upd.wide {cs cs' : Array Value} {q i n m : Nat} (h : Upd cs cs' (q + i) n) (hm : i + n ≤ m) : Upd cs cs' q m := ⟨h.1, fun j hj => h.2 j (by omega)⟩
section
variable {k : IntKind} {G : GH} {b q : Nat} {cs : Array Value} {e : TypeId} {fr : Nat × Nat} {xs : List Nat}
theorem Win.ex (h : Win k G b q cs e fr xs) : (cs.extract q (q + xs.length)).toList = xs.map (iv k) := by
  apply List.ext_getElem?
  intro j
  by_cases hj : j < xs.length
  · rw [extract_get h.hs hj, h.hx j hj, nu_get xs hj]
  · rw [List.getElem?_eq_none (by rw [extract_len h.hs]; omega), List.getElem?_eq_none (by simp; omega)]
theorem Win.ownB (h : Win k G b q cs e fr xs) : OwnB 1 G b (.slice (some ⟨b, q, none⟩) xs.length xs.length) (xs.map (iv k)) [] :=
  ⟨q, _, _, cs, e, fr, rfl, h.hG, Nat.le_refl _, h.hm, by have := h.hs; omega, by have := h.hf; omega, by rw [Nat.mul_one, List.append_nil]; exact h.ex, by simp⟩
theorem Win.own {G0 : GH} (h : Win k G b q cs e fr xs) (hb : G0 b = none) : Own 1 G0 G (.slice (some ⟨b, q, none⟩) xs.length xs.length) (xs.map (iv k)) := .inr ⟨b, [], hb, h.ownB⟩
theorem Win.nu (h : Win k G b q cs e fr xs) : Nu k G (.slice (some ⟨b, q, none⟩) xs.length xs.length) xs := h.ownB.sl
theorem Win.ptr (h : Win k G b q cs e fr xs) {i : Nat} (hi : i < xs.length) : PtR G (.pointer (some ⟨b, q + i, none⟩)) 1 false (iv k (xs.getD i 0)) := ⟨b, q + i, cs, e, fr, rfl, h.hG, h.hx i hi⟩
theorem Win.set (h : Win k G b q cs e fr xs) {i : Nat} (hi : i < xs.length) (v : Nat) : Win k (G.put b (.cells (wr cs (q + i) [iv k v]) e fr)) b q (wr cs (q + i) [iv k v]) e fr (xs.set i v) := by
  refine ⟨GH.put_same _ _ _, by rw [wr_size, List.length_set]; exact h.hs, by rw [List.length_set]; exact h.hf, by rw [List.length_set]; exact h.hm, fun j hj => ?_⟩
  rw [List.length_set] at hj
  have hs := h.hs
  rw [wr_get _ _ _ _ (by simp; omega)]
  simp only [List.length_singleton]
  by_cases hji : j = i
  · subst hji
    rw [if_neg (by omega), if_pos (by omega), set_getD_eq xs hi, Nat.sub_self]; rfl
  · rw [set_getD_ne xs (by omega), ← h.hx j hj]
    split
    · rfl
    · rw [if_neg (by omega)]
theorem Win.keep {G' : GH} (h : Win k G b q cs e fr xs) (hk : G' b = G b) : Win k G' b q cs e fr xs := ⟨by rw [hk]; exact h.hG, h.hs, h.hf, h.hm, h.hx⟩
theorem Win.le {G' : GH} (h : Win k G b q cs e fr xs) (hl : G.le G') : Win k G' b q cs e fr xs := ⟨hl _ _ h.hG, h.hs, h.hf, h.hm, h.hx⟩
theorem Win.nu' {n : Nat} (h : Win k G b q cs e fr xs) (hn : xs.length = n) : Nu k G (.slice (some ⟨b, q, none⟩) n n) xs := by subst hn; exact h.nu
theorem Win.ptr0 (h : Win k G b 0 cs e fr xs) {i : Nat} (hi : i < xs.length) : PtR G (.pointer (some ⟨b, 0 + i, none⟩)) 1 false (iv k (xs.getD i 0)) := h.ptr hi
/-- A part. -/
theorem Win.sub (h : Win k G b q cs e fr xs) (i n : Nat) (hi : i + n ≤ xs.length) : Win k G b (q + i) cs e fr ((xs.drop i).take n) := by
  have hl : ((xs.drop i).take n).length = n := by rw [List.length_take, List.length_drop]; omega
  have hs := h.hs; have hf := h.hf; have hm := h.hm
  refine ⟨h.hG, by omega, by omega, by omega, fun j hj => ?_⟩
  rw [hl] at hj
  rw [Nat.add_assoc, h.hx (i + j) (by omega), getD_take _ hj, getD_drop]
/-- What is made: noughts. -/
theorem Win.make (k : IntKind) (n : Nat) (hm : n ≤ 9223372036854775807) (G : GH) (b : Nat) (e : TypeId) : Win k (G.put b (.cells (Builtin.zeroCells #[iv k 0] n) e)) b 0 (Builtin.zeroCells #[iv k 0] n) e (0, 0) (List.replicate n 0) := by
  have hz : (Builtin.zeroCells #[iv k 0] n).size = n := by rw [zeroCells_size]; simp
  refine ⟨GH.put_same _ _ _, by simp [hz], .inl (by simp), by simpa using hm, fun j hj => ?_⟩
  simp at hj
  have e0 : (List.replicate n 0).getD j 0 = 0 := by rw [List.getD_eq_getElem?_getD, List.getElem?_replicate]; split <;> rfl
  rw [e0]
  rw [Nat.zero_add, Array.getElem?_eq_getElem (by omega)]
  simp [Builtin.zeroCells, Nat.mod_one]
end
end
/-- Two boxes or one, by their blocks. -/
abbrev pt (b : Nat) : Value := .pointer (some ⟨b, 0, none⟩)
/-- Numbers with a mark in the room behind them. -/
def LentN (k : IntKind) (m : Nat) (G0 G : GH) (u : Value) (xs : List Nat) : Prop := ∃ b sp, G0 b = none ∧ OwnB 1 G b u (xs.map (iv k)) (iv k m :: sp)
theorem LentN.le {k : IntKind} {m : Nat} {G0 G G' : GH} {u : Value} {bs : List Nat} (h : LentN k m G0 G u bs) (hl : G.le G') : LentN k m G0 G' u bs :=
  let ⟨b, sp, h0, h⟩ := h; ⟨b, sp, h0, h.le fun o => hl b o⟩
theorem LentN.nu {k : IntKind} {m : Nat} {G0 G : GH} {u : Value} {bs : List Nat} (h : LentN k m G0 G u bs) : Nu k G u bs := let ⟨_, _, _, h⟩ := h; h.sl
section
variable {P : Program} {E : Env} {K : St → Prop} {r : List Stp} {dd : Option Nat} {L : SL} {A : AL} {G : GH}
/-- A store into what is made. -/
theorem o_hstoreW {x z : Operand} {b q i v : Nat} {k : IntKind} {cs : Array Value} {e : TypeId} {fr : Nat × Nat} {xs : List Nat} (hx : evo L x = some (.pointer (some ⟨b, q + i, none⟩))) (hw : Win k G b q cs e fr xs) (hi : i < xs.length) (hz : evo L z = some (iv k v))
    (h : ∀ cs' G', G' = G.put b (.cells cs' e fr) → Upd cs cs' q xs.length → Win k G' b q cs' e fr (xs.set i v) → vops P E r K (S L A G')) : vops P E (⟨none, dd, .hstore 1 x z⟩ :: r) K (S L A G) := by
  have hs := hw.hs; have hf := hw.hf
  exact o_hstore (vs := [iv k v]) hx hw.hG hz rfl ⟨rfl, by omega, rfl, by omega⟩ (h _ _ rfl (Upd.wr1 cs _ hi hw.hs) (hw.set hi v))
theorem o_copyW {d : Nat} {x y : Operand} {b q n : Nat} {v : Value} {k : IntKind} {cs : Array Value} {e : TypeId} {fr : Nat × Nat} {xs ys : List Nat} (hx : evo L x = some (.slice (some ⟨b, q, none⟩) n n)) (hy : evo L y = some v) (hw : Win k G b q cs e fr xs) (hn : n = xs.length) (hv : Nu k G v ys) (hl : ys.length ≤ xs.length)
    (h : ∀ cs' G', G' = G.put b (.cells cs' e fr) → Upd cs cs' q xs.length → Win k G' b q cs' e fr (ys ++ xs.drop ys.length) → vops P E r K (S (.set d (.int .i64 ys.length) L) A G')) : vops P E (⟨none, dd, .copy d 1 x y⟩ :: r) K (S L A G) := by
  have e1 := Nu.len hv
  have hs := hw.hs; have hf := hw.hf; have hm := hw.hm
  have ll : (ys ++ xs.drop ys.length).length = xs.length := by rw [List.length_append, List.length_drop]; omega
  refine o_copy hx hy hv (nu_cells k ys) (by omega) (by decide) hw.hG (by omega) (by omega) ?_
  rw [e1]
  refine h _ _ rfl ⟨wr_size _ _ _, fun j hj => ?_⟩ ⟨GH.put_same _ _ _, by rw [wr_size, ll]; exact hs, by rw [ll]; exact hf, by rw [ll]; exact hm, fun j hj => ?_⟩
  · rw [wr_get _ _ _ _ (by simp; omega)]
    simp only [List.length_map]
    split
    · rfl
    · rw [if_neg (by omega)]
  · rw [ll] at hj
    rw [wr_get _ _ _ _ (by simp; omega)]
    simp only [List.length_map]
    rw [if_neg (by omega)]
    by_cases h1 : j < ys.length
    · rw [if_pos (by omega), show q + j - q = j by omega, nu_get ys h1, getD_appL _ _ h1]
    · rw [if_neg (by omega), hw.hx j hj, getD_appR _ _ (by omega), getD_drop]
      congr 3; omega
end
end Go.Proofs.Ytdeihgcgglhhcaa.V
end
section
/- Words of 64 bits as numbers. -/
set_option linter.unusedSimpArgs false
set_option linter.unusedVariables false
namespace Go.Proofs.Ytdeihgcgglhhcaa.V
open Go.RowKit
theorem wadd (x y : Nat) : pureV (.bin .add) [iv .u64 x, iv .u64 y] = some (iv .u64 ((x + y) % 18446744073709551616)) := by
  rw [x_add, wrap_u64]; simp only [iv]; congr 2; try omega
theorem wsub (x y : Nat) (h : y ≤ 18446744073709551616) : pureV (.bin .sub) [iv .u64 x, iv .u64 y] = some (iv .u64 ((x + 18446744073709551616 - y) % 18446744073709551616)) := by
  rw [x_sub, wrap_u64]; simp only [iv]; congr 2; omega
theorem wmul (x y : Nat) : pureV (.bin .mul) [iv .u64 x, iv .u64 y] = some (iv .u64 ((x * y) % 18446744073709551616)) := by
  rw [x_mul, wrap_u64]; simp only [iv]; congr 2
theorem wquo (x y : Nat) (hx : x < 18446744073709551616) (h : y ≠ 0) : pureV (.bin .quo) [iv .u64 x, iv .u64 y] = some (iv .u64 (x / y)) := by
  have := Nat.div_le_self x y
  rw [x_quo, if_neg (by omega), Int.tdiv_eq_ediv_of_nonneg (by omega), ← Int.natCast_ediv, wrap_u64]; simp only [iv]; generalize x / y = q at *; congr 2; omega
theorem wrem (x y : Nat) (h : y ≠ 0) : pureV (.bin .rem) [iv .u64 x, iv .u64 y] = some (iv .u64 (x % y)) := by
  rw [x_rem, if_neg (by omega), Int.tmod_eq_emod_of_nonneg (by omega), ← Int.natCast_emod]
theorem wshr {k : IntKind} (x n : Nat) (hx : x < 18446744073709551616) : pureV (.bin .shr) [iv .u64 x, .int k (n : Int)] = some (iv .u64 (x / 2 ^ n)) := by
  have e : x / 2 ^ (min n 64) = x / 2 ^ n := by
    by_cases h : n ≤ 64
    · rw [Nat.min_eq_left h]
    · have : 2 ^ 64 ≤ 2 ^ n := Nat.pow_le_pow_right (by decide) (by omega)
      rw [Nat.min_eq_right (by omega), Nat.div_eq_of_lt (by omega), Nat.div_eq_of_lt (by omega)]
  rw [x_shr, if_neg (by omega), Int.fdiv_eq_ediv_of_nonneg _ (Int.le_of_lt (Int.pow_pos (by decide))), Int.toNat_natCast, x_bits64, ← e]
  simp only [iv, Int.natCast_ediv, Int.natCast_pow]; rfl
theorem wshl {k : IntKind} (x n : Nat) : pureV (.bin .shl) [iv .u64 x, .int k (n : Int)] = some (iv .u64 ((x * 2 ^ n) % 18446744073709551616)) := by
  have e : (x * 2 ^ (min n 64)) % 18446744073709551616 = (x * 2 ^ n) % 18446744073709551616 := by
    by_cases h : n ≤ 64
    · rw [Nat.min_eq_left h]
    · rw [Nat.min_eq_right (by omega), show (18446744073709551616 : Nat) = 2 ^ 64 by decide, Nat.mul_mod_left, show n = (n - 64) + 64 by omega, Nat.pow_add, ← Nat.mul_assoc, Nat.mul_mod_left]
  rw [x_shl, if_neg (by omega), Int.toNat_natCast, x_bits64, wrap_u64, ← e]
  have e2 : ((x : Int) * 2 ^ (min n 64)) = ((x * 2 ^ (min n 64) : Nat) : Int) := by rw [Int.natCast_mul, Int.natCast_pow]; rfl
  rw [e2]; simp only [iv]; congr 2
theorem wand (x y : Nat) : pureV (.bin .and) [iv .u64 x, iv .u64 y] = some (iv .u64 ((x &&& y) % 18446744073709551616)) := by
  rw [x_and, wrap_u64]; simp only [iv]; congr 2
  have : (BitVec.ofInt IntKind.u64.bits (x : Int) &&& BitVec.ofInt IntKind.u64.bits (y : Int)).toNat = (x &&& y) % 2 ^ 64 := by
    rw [BitVec.toNat_and, Nat.and_mod_two_pow]
    simp [IntKind.bits]
  rw [this]; omega
theorem wor (x y : Nat) (hx : x < 18446744073709551616) (hy : y < 18446744073709551616) : pureV (.bin .or) [iv .u64 x, iv .u64 y] = some (iv .u64 (x ||| y)) := by
  rw [x_or, wrap_u64]; simp only [iv]; congr 2
  have e : (BitVec.ofInt IntKind.u64.bits (x : Int) ||| BitVec.ofInt IntKind.u64.bits (y : Int)).toNat = x ||| y := by
    rw [BitVec.toNat_or]
    simp [IntKind.bits, Nat.mod_eq_of_lt (show x < 2 ^ 64 from hx), Nat.mod_eq_of_lt (show y < 2 ^ 64 from hy)]
  rw [e]
  have : x ||| y < 2 ^ 64 := Nat.or_lt_two_pow (n := 64) hx hy
  omega
theorem and32 (x : Nat) : (x &&& 4294967295) % 18446744073709551616 = x % 4294967296 := by
  rw [show (4294967295 : Nat) = 2 ^ 32 - 1 by decide, Nat.and_two_pow_sub_one_eq_mod]; omega
section
variable {P : Program} {E : Env} {K : St → Prop} {r : List Stp} {dd : Option Nat} {L : SL} {A : AL} {G : GH}
theorem s_wadd {d : Nat} {xs : List Operand} {x y : Nat} (h : vops P E r K (S (.set d (iv .u64 ((x + y) % 18446744073709551616)) L) A G)) (hx : evs L xs = some [.int .u64 x, .int .u64 y] := by with_unfolding_all rfl) : vops P E (⟨none, dd, .pure d (.bin .add) xs⟩ :: r) K (S L A G) := o_pure hx (wadd x y) h
theorem s_wsub {d : Nat} {xs : List Operand} {x y : Nat} (h : vops P E r K (S (.set d (iv .u64 ((x + 18446744073709551616 - y) % 18446744073709551616)) L) A G)) (hx : evs L xs = some [.int .u64 x, .int .u64 y] := by with_unfolding_all rfl) (hy : y ≤ 18446744073709551616 := by omega) : vops P E (⟨none, dd, .pure d (.bin .sub) xs⟩ :: r) K (S L A G) := o_pure hx (wsub x y hy) h
theorem s_wmul {d : Nat} {xs : List Operand} {x y : Nat} (h : vops P E r K (S (.set d (iv .u64 ((x * y) % 18446744073709551616)) L) A G)) (hx : evs L xs = some [.int .u64 x, .int .u64 y] := by with_unfolding_all rfl) : vops P E (⟨none, dd, .pure d (.bin .mul) xs⟩ :: r) K (S L A G) := o_pure hx (wmul x y) h
theorem s_wshr {d : Nat} {xs : List Operand} {k : IntKind} {x n : Nat} (h : vops P E r K (S (.set d (iv .u64 (x / 2 ^ n)) L) A G)) (hx : evs L xs = some [.int .u64 x, .int k n] := by with_unfolding_all rfl) (h1 : x < 18446744073709551616 := by omega) : vops P E (⟨none, dd, .pure d (.bin .shr) xs⟩ :: r) K (S L A G) := o_pure hx (wshr x n h1) h
theorem s_wand {d : Nat} {xs : List Operand} {x y : Nat} (h : vops P E r K (S (.set d (iv .u64 ((x &&& y) % 18446744073709551616)) L) A G)) (hx : evs L xs = some [.int .u64 x, .int .u64 y] := by with_unfolding_all rfl) : vops P E (⟨none, dd, .pure d (.bin .and) xs⟩ :: r) K (S L A G) := o_pure hx (wand x y) h
theorem s_wor {d : Nat} {xs : List Operand} {x y : Nat} (h : vops P E r K (S (.set d (iv .u64 (x ||| y)) L) A G)) (hx : evs L xs = some [.int .u64 x, .int .u64 y] := by with_unfolding_all rfl) (h1 : x < 18446744073709551616 := by omega) (h2 : y < 18446744073709551616 := by omega) : vops P E (⟨none, dd, .pure d (.bin .or) xs⟩ :: r) K (S L A G) := o_pure hx (wor x y h1 h2) h
end
end Go.Proofs.Ytdeihgcgglhhcaa.V
end
section
/- Words added, taken from one another and multiplied, with what goes on. -/
set_option linter.unusedSimpArgs false
set_option linter.unusedVariables false
-- @nums
-- @extra s_wadd s_wmul s_wand s_wshr
namespace Go.Proofs.Ytdeihgcgglhhcaa.V
open Go.RowKit Go.ChangeShapes Go.WideShapes
section
variable {E : Env} {K : St → Prop} {r : List Stp} {dd : Option Nat} {L : SL} {A : AL} {G : GH}
theorem k_add64 {d : Nat} {xs : List Operand} (x y c : Nat) {x' y' c' : Int} (hx : evs L xs = some [.int .u64 x', .int .u64 y', .int .u64 c']) (ex : x' = x) (ey : y' = y) (ec : c' = c) (hc : c ≤ 1) (h : vops Try.prog E r K (S (.set d (.tuple #[iv .u64 ((x + y + c) % 18446744073709551616), iv .u64 ((x + y + c) / 18446744073709551616)]) L) A G)) : vops Try.prog E (⟨none, dd, .callx d 63 xs⟩ :: r) K (S L A G) := by
  subst ex ey ec
  refine o_callx hx (fun w => ?_) h
  rw [run_callFunc_extern Try.func63 (by kernel_rfl) (by kernel_rfl) (by kernel_rfl) (e := add64Entry) (by kernel_rfl), run_add64 x y c (by omega) (by omega) (by omega) (by omega)]
  simp only [Result.andThen]
  congr 5 <;> omega
theorem k_sub64 {d : Nat} {xs : List Operand} (x y c : Nat) {x' y' c' : Int} (hx : evs L xs = some [.int .u64 x', .int .u64 y', .int .u64 c']) (ex : x' = x) (ey : y' = y) (ec : c' = c) (hc : c ≤ 1) (h : vops Try.prog E r K (S (.set d (.tuple #[iv .u64 ((x + 18446744073709551616 - y - c) % 18446744073709551616), iv .u64 (if x < y + c then 1 else 0)]) L) A G)) : vops Try.prog E (⟨none, dd, .callx d 62 xs⟩ :: r) K (S L A G) := by
  subst ex ey ec
  refine o_callx hx (fun w => ?_) h
  rw [run_callFunc_extern Try.func62 (by kernel_rfl) (by kernel_rfl) (by kernel_rfl) (e := sub64Entry) (by kernel_rfl), run_sub64 x y c hc]
  rfl
theorem k_sub {d : Nat} {xs : List Operand} (x y c : Nat) {x' y' c' : Int} (hx : evs L xs = some [.int .u64 x', .int .u64 y', .int .u64 c']) (ex : x' = x) (ey : y' = y) (ec : c' = c) (hc : c ≤ 1) (h1 : x < 18446744073709551616) (h2 : y < 18446744073709551616) (h : ∀ z w : Nat, z < 18446744073709551616 → w ≤ 1 → z + y + c = x + 18446744073709551616 * w → vops Try.prog E r K (S (.set d (.tuple #[iv .u64 z, iv .u64 w]) L) A G)) : vops Try.prog E (⟨none, dd, .callx d 62 xs⟩ :: r) K (S L A G) :=
  k_sub64 x y c hx ex ey ec hc (h _ _ (Nat.mod_lt _ (by decide)) (by split <;> omega) (by split <;> omega))
end
theorem MulK (x y : Nat) (G : GH) (hx : x < 18446744073709551616) (hy : y < 18446744073709551616) : HC Try.prog 67 #[iv .u64 x, iv .u64 y] G fun v G' => v = .tuple #[iv .u64 (x * y / 18446744073709551616), iv .u64 (x * y % 18446744073709551616)] ∧ G' = G := by
  refine HC.start comp67 rfl ?_; unfold pc67
  (repeat' (first | (with_reducible refine i_ops ?_; first | (refine g_mv ?_; refine s_mv ?_) | refine o_nil ?_ | (refine g_pure ?_; first | refine s_wadd ?_ | refine s_wmul ?_ | refine s_wand ?_ | refine s_wshr ?_)) | (with_reducible refine i_vc ?_; first | refine v_seq ?_ | refine v_ops ?_ | refine v_ret ?_) | (with_reducible refine n_then ?_) | ((with_reducible refine s_ret ?_); try simp only [x_tup0, x_tup1, x_tup2, x_tup3, x_tup4, x_tup5, and_true, true_and])))
  have e : ∀ p q : Nat, p = q → Value.tuple #[iv .u64 p, iv .u64 (x * y % 18446744073709551616)] = Value.tuple #[iv .u64 q, iv .u64 (x * y % 18446744073709551616)] := fun p q h => by rw [h]
  refine e _ _ ?_
  simp only [Nat.reducePow]
  rw [and32, and32, and32]
  have := mul64_arith x y (by omega) (by omega) (by omega) (by omega)
  apply Int.ofNat_inj.1
  simp only [Int.natCast_add, Int.natCast_mul, Int.natCast_ediv, Int.natCast_emod, Int.cast_ofNat_Int]
  exact this
end Go.Proofs.Ytdeihgcgglhhcaa.V
end
section
/- Small numbers (of 64 bits, signed) as natural numbers. -/
set_option linter.unusedSimpArgs false
set_option linter.unusedVariables false
namespace Go.Proofs.Ytdeihgcgglhhcaa.V
open Go.RowKit
theorem nadd (x y : Nat) (h : x + y < 9223372036854775808) : pureV (.bin .add) [iv .i64 x, iv .i64 y] = some (iv .i64 (x + y)) := by
  rw [x_add, wrap_i64 (by omega) (by omega)]; simp only [iv, Int.natCast_add]
theorem nsub (x y : Nat) (h : y ≤ x) (hx : x < 9223372036854775808) : pureV (.bin .sub) [iv .i64 x, iv .i64 y] = some (iv .i64 (x - y)) := by
  rw [x_sub, wrap_i64 (by omega) (by omega)]; simp only [iv]; congr 2; omega
theorem nmul (x y : Nat) (h : x * y < 9223372036854775808) : pureV (.bin .mul) [iv .i64 x, iv .i64 y] = some (iv .i64 (x * y)) := by
  have e : ((x : Int) * (y : Int)) = ((x * y : Nat) : Int) := by rw [Int.natCast_mul]
  rw [x_mul, e, wrap_i64 (by omega) (by omega)]
theorem nquo (x y : Nat) (hx : x < 9223372036854775808) (h : y ≠ 0) : pureV (.bin .quo) [iv .i64 x, iv .i64 y] = some (iv .i64 (x / y)) := by
  have := Nat.div_le_self x y
  rw [x_quo, if_neg (by omega), Int.tdiv_eq_ediv_of_nonneg (by omega), ← Int.natCast_ediv]; generalize x / y = q at *; rw [wrap_i64 (by omega) (by omega)]
theorem nrem (x y : Nat) (h : y ≠ 0) : pureV (.bin .rem) [iv .i64 x, iv .i64 y] = some (iv .i64 (x % y)) := by
  rw [x_rem, if_neg (by omega), Int.tmod_eq_emod_of_nonneg (by omega), ← Int.natCast_emod]
theorem wconv (k : IntKind) (x : Nat) (h : x < 18446744073709551616) : pureV (.convI .u64) [iv k x] = some (iv .u64 x) := by
  rw [x_convI, wrap_u64]; simp only [iv]; congr 2; omega
section
variable {P : Program} {E : Env} {K : St → Prop} {r : List Stp} {dd : Option Nat} {L : SL} {A : AL} {G : GH}
theorem s_nadd {d : Nat} {xs : List Operand} {x y : Nat} (h : vops P E r K (S (.set d (iv .i64 (x + y)) L) A G)) (hx : evs L xs = some [.int .i64 x, .int .i64 y] := by with_unfolding_all rfl) (h1 : x + y < 9223372036854775808 := by omega) : vops P E (⟨none, dd, .pure d (.bin .add) xs⟩ :: r) K (S L A G) := o_pure hx (nadd x y h1) h
theorem s_nsub {d : Nat} {xs : List Operand} {x y : Nat} (h : vops P E r K (S (.set d (iv .i64 (x - y)) L) A G)) (hx : evs L xs = some [.int .i64 x, .int .i64 y] := by with_unfolding_all rfl) (h1 : y ≤ x := by omega) (h2 : x < 9223372036854775808 := by omega) : vops P E (⟨none, dd, .pure d (.bin .sub) xs⟩ :: r) K (S L A G) := o_pure hx (nsub x y h1 h2) h
theorem s_wconv {d : Nat} {xs : List Operand} {k : IntKind} {x : Nat} (h : vops P E r K (S (.set d (iv .u64 x) L) A G)) (hx : evs L xs = some [.int k x] := by with_unfolding_all rfl) (h1 : x < 18446744073709551616 := by omega) : vops P E (⟨none, dd, .pure d (.convI .u64) xs⟩ :: r) K (S L A G) := o_pure hx (wconv k x h1) h
end
open Go.ChangeShapes Go.WideShapes Go.ChangeAt
end Go.Proofs.Ytdeihgcgglhhcaa.V
end
section
/- Steps with a constant as second operand (printed by gencm.py). -/
set_option linter.unusedSimpArgs false
set_option linter.unusedVariables false
namespace Go.Proofs.Ytdeihgcgglhhcaa.V
open Go.RowKit
theorem evs2c {L : SL} {a : Operand} {v c : Value} (h : evo L a = some v) : evs L [a, .const c] = some [v, c] := by
  show (match evo L a with | none => none | some v => match some [c] with | none => none | some vs => some (v :: vs)) = _
  rw [h]
section
variable {P : Program} {E : Env} {K : St → Prop} {r : List Stp} {dd : Option Nat} {L : SL} {A : AL} {G : GH}
theorem s_wsubc {d : Nat} {a : Operand} {x n : Nat} (h : vops P E r K (S (.set d (iv .u64 ((x + 18446744073709551616 - (OfNat.ofNat n : Nat)) % 18446744073709551616)) L) A G)) (hx : evo L a = some (.int .u64 x) := by with_unfolding_all rfl) (h1 : (OfNat.ofNat n : Nat) ≤ 18446744073709551616 := by omega) : vops P E (⟨none, dd, .pure d (.bin .sub) [a, .const (.int .u64 (OfNat.ofNat n))]⟩ :: r) K (S L A G) := o_pure (vs := [iv .u64 x, iv .u64 n]) (evs2c hx) (wsub x n h1) h
theorem s_wmulc {d : Nat} {a : Operand} {x n : Nat} (h : vops P E r K (S (.set d (iv .u64 ((x * (OfNat.ofNat n : Nat)) % 18446744073709551616)) L) A G)) (hx : evo L a = some (.int .u64 x) := by with_unfolding_all rfl)  : vops P E (⟨none, dd, .pure d (.bin .mul) [a, .const (.int .u64 (OfNat.ofNat n))]⟩ :: r) K (S L A G) := o_pure (vs := [iv .u64 x, iv .u64 n]) (evs2c hx) (wmul x n) h
theorem s_wquoc {d : Nat} {a : Operand} {x n : Nat} (h : vops P E r K (S (.set d (iv .u64 (x / (OfNat.ofNat n : Nat))) L) A G)) (hx : evo L a = some (.int .u64 x) := by with_unfolding_all rfl) (h1 : x < 18446744073709551616 := by omega) (h2 : (OfNat.ofNat n : Nat) ≠ 0 := by omega) : vops P E (⟨none, dd, .pure d (.bin .quo) [a, .const (.int .u64 (OfNat.ofNat n))]⟩ :: r) K (S L A G) := o_pure (vs := [iv .u64 x, iv .u64 n]) (evs2c hx) (wquo x n h1 h2) h
theorem s_wremc {d : Nat} {a : Operand} {x n : Nat} (h : vops P E r K (S (.set d (iv .u64 (x % (OfNat.ofNat n : Nat))) L) A G)) (hx : evo L a = some (.int .u64 x) := by with_unfolding_all rfl) (h2 : (OfNat.ofNat n : Nat) ≠ 0 := by omega) : vops P E (⟨none, dd, .pure d (.bin .rem) [a, .const (.int .u64 (OfNat.ofNat n))]⟩ :: r) K (S L A G) := o_pure (vs := [iv .u64 x, iv .u64 n]) (evs2c hx) (wrem x n h2) h
theorem s_wandc {d : Nat} {a : Operand} {x n : Nat} (h : vops P E r K (S (.set d (iv .u64 ((x &&& (OfNat.ofNat n : Nat)) % 18446744073709551616)) L) A G)) (hx : evo L a = some (.int .u64 x) := by with_unfolding_all rfl)  : vops P E (⟨none, dd, .pure d (.bin .and) [a, .const (.int .u64 (OfNat.ofNat n))]⟩ :: r) K (S L A G) := o_pure (vs := [iv .u64 x, iv .u64 n]) (evs2c hx) (wand x n) h
theorem s_naddc {d : Nat} {a : Operand} {x n : Nat} (h : vops P E r K (S (.set d (iv .i64 (x + (OfNat.ofNat n : Nat))) L) A G)) (hx : evo L a = some (.int .i64 x) := by with_unfolding_all rfl) (h1 : x + (OfNat.ofNat n : Nat) < 9223372036854775808 := by omega) : vops P E (⟨none, dd, .pure d (.bin .add) [a, .const (.int .i64 (OfNat.ofNat n))]⟩ :: r) K (S L A G) := o_pure (vs := [iv .i64 x, iv .i64 n]) (evs2c hx) (nadd x n h1) h
theorem s_nsubc {d : Nat} {a : Operand} {x n : Nat} (h : vops P E r K (S (.set d (iv .i64 (x - (OfNat.ofNat n : Nat))) L) A G)) (hx : evo L a = some (.int .i64 x) := by with_unfolding_all rfl) (h1 : (OfNat.ofNat n : Nat) ≤ x := by omega) (h2 : x < 9223372036854775808 := by omega) : vops P E (⟨none, dd, .pure d (.bin .sub) [a, .const (.int .i64 (OfNat.ofNat n))]⟩ :: r) K (S L A G) := o_pure (vs := [iv .i64 x, iv .i64 n]) (evs2c hx) (nsub x n h1 h2) h
theorem s_nmulc {d : Nat} {a : Operand} {x n : Nat} (h : vops P E r K (S (.set d (iv .i64 (x * (OfNat.ofNat n : Nat))) L) A G)) (hx : evo L a = some (.int .i64 x) := by with_unfolding_all rfl) (h1 : x * (OfNat.ofNat n : Nat) < 9223372036854775808 := by omega) : vops P E (⟨none, dd, .pure d (.bin .mul) [a, .const (.int .i64 (OfNat.ofNat n))]⟩ :: r) K (S L A G) := o_pure (vs := [iv .i64 x, iv .i64 n]) (evs2c hx) (nmul x n h1) h
theorem s_nquoc {d : Nat} {a : Operand} {x n : Nat} (h : vops P E r K (S (.set d (iv .i64 (x / (OfNat.ofNat n : Nat))) L) A G)) (hx : evo L a = some (.int .i64 x) := by with_unfolding_all rfl) (h1 : x < 9223372036854775808 := by omega) (h2 : (OfNat.ofNat n : Nat) ≠ 0 := by omega) : vops P E (⟨none, dd, .pure d (.bin .quo) [a, .const (.int .i64 (OfNat.ofNat n))]⟩ :: r) K (S L A G) := o_pure (vs := [iv .i64 x, iv .i64 n]) (evs2c hx) (nquo x n h1 h2) h
theorem s_nremc {d : Nat} {a : Operand} {x n : Nat} (h : vops P E r K (S (.set d (iv .i64 (x % (OfNat.ofNat n : Nat))) L) A G)) (hx : evo L a = some (.int .i64 x) := by with_unfolding_all rfl) (h2 : (OfNat.ofNat n : Nat) ≠ 0 := by omega) : vops P E (⟨none, dd, .pure d (.bin .rem) [a, .const (.int .i64 (OfNat.ofNat n))]⟩ :: r) K (S L A G) := o_pure (vs := [iv .i64 x, iv .i64 n]) (evs2c hx) (nrem x n h2) h
theorem s_wshlc {d : Nat} {k : IntKind} {a : Operand} {x n : Nat} (h : vops P E r K (S (.set d (iv .u64 ((x * 2 ^ (OfNat.ofNat n : Nat)) % 18446744073709551616)) L) A G)) (hx : evo L a = some (.int .u64 x) := by with_unfolding_all rfl)  : vops P E (⟨none, dd, .pure d (.bin .shl) [a, .const (.int k (OfNat.ofNat n))]⟩ :: r) K (S L A G) := o_pure (vs := [iv .u64 x, .int k (n : Int)]) (evs2c hx) (wshl x n) h
end
end Go.Proofs.Ytdeihgcgglhhcaa.V
end
section
/- Reckoning modulo an odd number: plain. -/
set_option linter.unusedSimpArgs false
set_option linter.unusedVariables false
namespace Go.Proofs.Ytdeihgcgglhhcaa.V
/-- A low limb is made nought. -/
theorem redc_dvd {B s low M : Nat} (h : (low * M + 1) % B = 0) : (s + ((s % B) * low % B) * M) % B = 0 := by
  have e1 : ((s % B) * low % B) * M % B = s * (low * M) % B := by
    rw [Nat.mul_mod, Nat.mod_mod, ← Nat.mul_mod, Nat.mul_assoc, Nat.mul_mod, Nat.mod_mod, ← Nat.mul_mod]
  rw [Nat.add_mod, e1, ← Nat.add_mod, show s + s * (low * M) = s * (low * M + 1) by rw [Nat.mul_add, Nat.mul_one, Nat.add_comm], Nat.mul_mod, h, Nat.mul_zero, Nat.zero_mod]
/-- One more step of a product. -/
theorem mont_inv {B M a bi k row row' y u i : Nat} (h : row * B ^ i = a * bi + k * M) (hr : row' * B = row + a * y + u * M) : row' * B ^ (i + 1) = a * (bi + B ^ i * y) + (k + u * B ^ i) * M := by
  rw [Nat.pow_succ, ← Nat.mul_assoc, Nat.mul_right_comm, hr, Nat.add_mul, Nat.add_mul, h, Nat.mul_add, Nat.add_mul]
  have e1 : a * y * B ^ i = a * (B ^ i * y) := by rw [Nat.mul_assoc, Nat.mul_comm y]
  have e2 : u * M * B ^ i = u * B ^ i * M := by rw [Nat.mul_right_comm]
  rw [e1, e2]; omega
theorem mont_lt {B M a row row' y u : Nat} (hB : 0 < B) (h : row < a + M) (hy : y < B) (hu : u < B) (hr : row' * B = row + a * y + u * M) : row' < a + M := by
  have h1 : a * y ≤ a * (B - 1) := Nat.mul_le_mul_left _ (by omega)
  have h2 : u * M ≤ (B - 1) * M := Nat.mul_le_mul_right _ (by omega)
  have h3 : row' * B < (a + M) * B := by
    obtain ⟨c, rfl⟩ : ∃ c, B = c + 1 := ⟨B - 1, by omega⟩
    rw [Nat.add_sub_cancel] at h1 h2
    rw [hr, Nat.mul_add, Nat.mul_one, Nat.add_mul, Nat.mul_comm c M] at *
    have e : M * c = c * M := Nat.mul_comm _ _
    omega
  exact Nat.lt_of_mul_lt_mul_right h3
end Go.Proofs.Ytdeihgcgglhhcaa.V
end
section
/- Numbers of a fixed length by their digits, as values. -/
set_option linter.unusedSimpArgs false
set_option linter.unusedVariables false
namespace Go.Proofs.Ytdeihgcgglhhcaa.V
open Go.RowKit
/-- The k lowest digits of a number, the lowest first. -/
def fd (B : Nat) : Nat → Nat → List Nat
  | 0, _ => []
  | k + 1, n => n % B :: fd B k (n / B)
theorem fd_len (B : Nat) : ∀ k n, (fd B k n).length = k
  | 0, _ => rfl
  | k + 1, n => by simp [fd, fd_len B k]
theorem fd_dl {B : Nat} (hB : 0 < B) : ∀ k n, Dl B (fd B k n)
  | 0, _ => fun x hx => by cases hx
  | k + 1, n => fun x hx => by
    rcases List.mem_cons.1 hx with rfl | hx
    · exact Nat.mod_lt _ hB
    · exact fd_dl hB k _ x hx
theorem val_fd (B : Nat) : ∀ k n, val B (fd B k n) = n % B ^ k
  | 0, n => by simp [fd, val, Nat.mod_one]
  | k + 1, n => by rw [fd, val, val_fd B k, Nat.pow_succ', Nat.mod_mul]
theorem fd_val {B : Nat} : ∀ {xs : List Nat}, Dl B xs → fd B xs.length (val B xs) = xs
  | [], _ => rfl
  | x :: xs, h => by
    have hx := h x List.mem_cons_self
    rw [List.length_cons, fd, val, Nat.add_mul_mod_self_left, Nat.mod_eq_of_lt hx, Nat.add_mul_div_left _ _ (by omega), Nat.div_eq_of_lt hx, Nat.zero_add, fd_val fun y hy => h y (List.mem_cons_of_mem _ hy)]
theorem fd_of {B k n : Nat} {xs : List Nat} (h : Dl B xs) (hl : xs.length = k) (hv : val B xs = n) : xs = fd B k n := by
  rw [← hl, ← hv, fd_val h]
theorem fd_getD (B : Nat) : ∀ {k i : Nat} (n : Nat), i < k → (fd B k n).getD i 0 = n / B ^ i % B
  | 0, _, _, h => by omega
  | k + 1, 0, n, _ => by simp [fd]
  | k + 1, i + 1, n, h => by
    rw [fd, List.getD_cons_succ, fd_getD B (n / B) (by omega), Nat.div_div_eq_div_mul, Nat.pow_succ']
theorem fd_lt {B : Nat} (hB : 0 < B) (k n i : Nat) : (fd B k n).getD i 0 < B := (fd_dl hB k n).getD hB i
/-- Numbers of 64 bits as cells; a number of four words, of eight words of 32 bits. -/
abbrev na (xs : List Nat) : Array Value := (xs.map (iv .u64)).toArray
abbrev nv (n : Nat) : Value := .agg (na (fd 18446744073709551616 4 n))
abbrev fw (n : Nat) : Value := .agg (na (fd 4294967296 8 n))
section
variable {P : Program} {E : Env} {K : St → Prop} {r : List Stp} {dd : Option Nat} {L : SL} {A : AL} {G : GH}
theorem s_nsubL {d : Nat} {b : Operand} {y n : Nat} (h : vops P E r K (S (.set d (iv .i64 ((OfNat.ofNat n : Nat) - y)) L) A G)) (hx : evo L b = some (.int .i64 y) := by with_unfolding_all rfl) (h1 : y ≤ (OfNat.ofNat n : Nat) := by omega) (h2 : (OfNat.ofNat n : Nat) < 9223372036854775808 := by omega) : vops P E (⟨none, dd, .pure d (.bin .sub) [.const (.int .i64 (OfNat.ofNat n)), b]⟩ :: r) K (S L A G) := by
  refine o_pure (vs := [iv .i64 n, iv .i64 y]) ?_ (nsub n y h1 h2) h
  simp only [evs, hx]
  rfl
theorem evsL {L : SL} {b : Operand} {v c : Value} (h : evo L b = some v) : evs L [.const c, b] = some [c, v] := by
  simp only [evs, h]
  rfl
theorem s_waddL {d : Nat} {b : Operand} {y n : Nat} (h : vops P E r K (S (.set d (iv .u64 (((OfNat.ofNat n : Nat) + y) % 18446744073709551616)) L) A G)) (hx : evo L b = some (.int .u64 y) := by with_unfolding_all rfl) : vops P E (⟨none, dd, .pure d (.bin .add) [.const (.int .u64 (OfNat.ofNat n)), b]⟩ :: r) K (S L A G) := o_pure (evsL (c := iv .u64 n) hx) (wadd n y) h
theorem s_wsubL {d : Nat} {b : Operand} {y n : Nat} (h : vops P E r K (S (.set d (iv .u64 (((OfNat.ofNat n : Nat) + 18446744073709551616 - y) % 18446744073709551616)) L) A G)) (hx : evo L b = some (.int .u64 y) := by with_unfolding_all rfl) (hy : y ≤ 18446744073709551616 := by omega) : vops P E (⟨none, dd, .pure d (.bin .sub) [.const (.int .u64 (OfNat.ofNat n)), b]⟩ :: r) K (S L A G) := o_pure (evsL (c := iv .u64 n) hx) (wsub n y hy) h
theorem s_lloadV {d k s0 i : Nat} {ws : List Nat} (h : vops P E r K (S (.set d (iv .u64 (ws.getD i 0)) L) A G)) (hp : L.get s0 = some (iv .u64 i) := by with_unfolding_all rfl) (hc : A.get k = some (na ws) := by with_unfolding_all rfl) (hl : i < ws.length := by first | omega | (simp only [List.length_set]; omega)) : vops P E (⟨none, dd, .lload d k s0 1 false⟩ :: r) K (S L A G) :=
  o_lload hp hc (by rw [x_take1, List.getElem?_toArray, Int.toNat_natCast, nu_get ws hl]) h
theorem s_lstoreV {k s0 i : Nat} {x : Operand} {v : Nat} {ws : List Nat} (h : vops P E r K (S L (.set k (na (ws.set i v)) A) G)) (hp : L.get s0 = some (iv .u64 i) := by with_unfolding_all rfl) (hc : A.get k = some (na ws) := by with_unfolding_all rfl) (hx : evo L x = some (.int .u64 v) := by with_unfolding_all rfl) (hl : i < ws.length := by first | omega | (simp only [List.length_set]; omega)) : vops P E (⟨none, dd, .lstore k s0 1 x⟩ :: r) K (S L A G) := by
  refine o_lstore (vs := [iv .u64 v]) hp hc hx rfl ⟨rfl, ?_, rfl⟩ ?_ h
  · simp; omega
  · simp only [wr, na]
    rw [List.map_set]
    simp
theorem s_lloadVc {d k s0 n : Nat} {ws : List Nat} (h : vops P E r K (S (.set d (iv .u64 (ws.getD (OfNat.ofNat n : Nat) 0)) L) A G)) (hp : L.get s0 = some (.int .u64 (OfNat.ofNat n)) := by with_unfolding_all rfl) (hc : A.get k = some (na ws) := by with_unfolding_all rfl) (hl : (OfNat.ofNat n : Nat) < ws.length := by first | omega | (simp only [List.length_set]; omega)) : vops P E (⟨none, dd, .lload d k s0 1 false⟩ :: r) K (S L A G) := s_lloadV (i := (OfNat.ofNat n : Nat)) h hp hc hl
theorem s_lstoreVc {k s0 n : Nat} {x : Operand} {v : Nat} {ws : List Nat} (h : vops P E r K (S L (.set k (na (ws.set (OfNat.ofNat n : Nat) v)) A) G)) (hp : L.get s0 = some (.int .u64 (OfNat.ofNat n)) := by with_unfolding_all rfl) (hc : A.get k = some (na ws) := by with_unfolding_all rfl) (hx : evo L x = some (.int .u64 v) := by with_unfolding_all rfl) (hl : (OfNat.ofNat n : Nat) < ws.length := by first | omega | (simp only [List.length_set]; omega)) : vops P E (⟨none, dd, .lstore k s0 1 x⟩ :: r) K (S L A G) := s_lstoreV (i := (OfNat.ofNat n : Nat)) h hp hc hx hl
theorem s_lloadW {d k s0 n : Nat} {ws : List Nat} (h : vops P E r K (S (.set d (.agg (na ws)) L) A G)) (hp : L.get s0 = some (.int .u64 0) := by with_unfolding_all rfl) (hc : A.get k = some (na ws) ∧ ws.length = n := by (refine ⟨by with_unfolding_all rfl, ?_⟩; first | assumption | exact fd_len _ _ _ | with_unfolding_all rfl)) : vops P E (⟨none, dd, .lload d k s0 n true⟩ :: r) K (S L A G) :=
  o_lload hp hc.1 (by rw [← hc.2]; have := x_takeA (cs := na ws) (n := ws.length) (by simp); exact this) h
theorem s_lstoreW {k s0 n : Nat} {x : Operand} {ws vs : List Nat} (h : vops P E r K (S L (.set k (na vs) A) G)) (hp : L.get s0 = some (.int .u64 0) := by with_unfolding_all rfl) (hc : A.get k = some (na ws) ∧ ws.length = n := by (refine ⟨by with_unfolding_all rfl, ?_⟩; first | assumption | exact fd_len _ _ _ | with_unfolding_all rfl)) (hx : evo L x = some (.agg (na vs)) ∧ vs.length = n := by (refine ⟨by with_unfolding_all rfl, ?_⟩; first | assumption | exact fd_len _ _ _ | with_unfolding_all rfl)) : vops P E (⟨none, dd, .lstore k s0 n x⟩ :: r) K (S L A G) := by
  refine o_lstoreA (y := .agg (na vs)) hp hc.1 hx.1 rfl (by simpa using hx.2) (by simpa using hc.2.symm) (nu_cells _ _) h
theorem s_lboxW {d k : Nat} {x : Operand} {ws : List Nat} {ts : List Nat} (h : vops P E r K (S (.set d (.int .u64 0) (.kill ts L)) (.set k (na ws) A) G)) (hx : evo L x = some (.agg (na ws)) := by with_unfolding_all rfl) (ho : onceE E.env = true := by with_unfolding_all rfl) (hk : slotsOf E.env k = some ts := by with_unfolding_all rfl) : vops P E (⟨none, dd, .lbox d k x⟩ :: r) K (S L A G) := o_lbox ho hk hx rfl h
end
theorem na_ext {xs : List Nat} {n : Nat} (h : xs.length = n) : (na xs).extract 0 n = na xs := by
  subst h; have : xs.length = (na xs).size := by simp
  rw [this, Array.extract_size]
theorem fd_ex {B k : Nat} {o : List Nat} (hd : Dl B o) (hl : o.length = k) : ∃ m, m < B ^ k ∧ o = fd B k m := ⟨val B o, by rw [← hl]; exact val_lt hd, fd_of hd hl rfl⟩
theorem agg_eq {B k m n : Nat} (h : m = n) : Value.agg ((na (fd B k m)).extract 0 k) = .agg (na (fd B k n)) := by rw [h, na_ext (fd_len _ _ _)]
/-- Equal rows of numbers. -/
def shN : Nat → Nat → Sh
  | _, 0 => .nil
  | i, n + 1 => .one i 1 false .leafI (shN (i + 1) n)
theorem eqSh_na (xs ys : List Nat) : ∀ n i, i + n = xs.length → xs.length = ys.length → eqSh (shN i n) (.agg (na xs)) (.agg (na ys)) = some (decide (xs.drop i = ys.drop i))
  | 0, i, h, hl => by
    rw [List.drop_of_length_le (by omega), List.drop_of_length_le (by omega)]; rfl
  | n + 1, i, h, hl => by
    have ih := eqSh_na xs ys n (i + 1) (by omega) hl
    have h1 : i < xs.length := by omega
    have h2 : i < ys.length := by omega
    show (match takeV false (na xs) i 1, takeV false (na ys) i 1 with
      | some u, some v => match eqSh .leafI u v, eqSh (shN (i + 1) n) (.agg (na xs)) (.agg (na ys)) with
        | some a, some b => some (a && b)
        | _, _ => none
      | _, _ => none) = _
    rw [x_take1, x_take1, List.getElem?_toArray, List.getElem?_toArray, nu_get xs h1, nu_get ys h2]
    simp only [ih, eqSh, kindEq, List.getD_eq_getElem?_getD, List.getElem?_eq_getElem h1, List.getElem?_eq_getElem h2, Option.getD_some, List.drop_eq_getElem_cons h1, List.drop_eq_getElem_cons h2, List.cons.injEq]
    show some (((xs[i] : Int) == (ys[i] : Int)) && decide (List.drop (i + 1) xs = List.drop (i + 1) ys)) = _
    congr 1
    rw [Bool.eq_iff_iff, Bool.and_eq_true, beq_iff_eq, decide_eq_true_eq, decide_eq_true_eq, Int.ofNat_inj]
theorem fd_inj {B k m n : Nat} (hm : m < B ^ k) (hn : n < B ^ k) (h : fd B k m = fd B k n) : m = n := by
  have e1 := val_fd B k m
  have e2 := val_fd B k n
  rw [h, e2, Nat.mod_eq_of_lt hm, Nat.mod_eq_of_lt hn] at e1
  exact e1.symm
theorem eq_fd (B k m n : Nat) (hm : m < B ^ k) (hn : n < B ^ k) : pureV (.eqA false (shN 0 k)) [.agg (na (fd B k m)), .agg (na (fd B k n))] = some (.bool (decide (m = n))) := by
  rw [x_eqA, eqSh_na _ _ k 0 (by rw [fd_len]; omega) (by rw [fd_len, fd_len])]
  simp only [List.drop_zero, Option.map_some]
  congr 2
  simp only [Bool.false_eq_true, if_false, decide_eq_decide]
  exact ⟨fd_inj hm hn, fun h => by rw [h]⟩
section
variable {P : Program} {E : Env} {K : St → Prop} {r : List Stp} {dd : Option Nat} {L : SL} {A : AL} {G : GH}
theorem s_eqN {d B k m n : Nat} {sh : Sh} {xs : List Operand} (h : vops P E r K (S (.set d (.bool (decide (m = n))) L) A G)) (hx : evs L xs = some [.agg (na (fd B k m)), .agg (na (fd B k n))] := by with_unfolding_all rfl) (hs : sh = shN 0 k := by with_unfolding_all rfl) (hm : m < B ^ k := by assumption) (hn : n < B ^ k := by assumption) : vops P E (⟨none, dd, .pure d (.eqA false sh) xs⟩ :: r) K (S L A G) := by
  subst hs
  exact o_pure hx (eq_fd B k m n hm hn) h
end
end Go.Proofs.Ytdeihgcgglhhcaa.V
end
section
/- The field of the curve: what its numbers' sums and differences come to. -/
set_option linter.unusedSimpArgs false
set_option linter.unusedVariables false
-- @nums
-- @extra s_naddc s_nadd
-- @pre g_lload s_lloadV s_lloadW
-- @pre g_lstore s_lstoreV s_lstoreW
-- @pre g_lbox s_lboxW
namespace Go.Proofs.Ytdeihgcgglhhcaa.V
open Go.RowKit Go.ChangeShapes Go.WideShapes
/-- The modulus; 2 to the power 256, squared; b. -/
def p256 : Nat := 115792089210356248762697446949407573530086143415290314195533631308867097853951
def sq256 : Nat := 134799733323198995502561713907086292154532538166959272814710328655875
def co256 : Nat := 41058363725152142129326129780047268409114441015993725554835256314039467401291
theorem b644 : (18446744073709551616 : Nat) ^ 4 = 115792089237316195423570985008687907853269984665640564039457584007913129639936 := by decide
theorem modulusK (G : GH) : HC Try.prog 50 #[] G fun v G' => v = nv p256 ∧ G' = G := by
  refine HC.start comp50 rfl ?_; unfold pc50
  (repeat' (first | (with_reducible refine i_ops ?_; first | refine o_nil ?_ | (refine g_build ?_; refine s_build ?_) | (refine g_lstore ?_; refine s_lstoreA ?_) | (refine g_lalloc ?_; refine s_lalloc ?_)) | (with_reducible refine i_vc ?_; first | refine v_seq ?_ | refine v_ops ?_ | refine v_ret ?_) | (with_reducible refine n_then ?_) | ((with_reducible refine s_ret ?_); try simp only [x_tup0, x_tup1, x_tup2, x_tup3, x_tup4, x_tup5, and_true, true_and])))
  with_unfolding_all rfl
theorem squareK (G : GH) : HC Try.prog 52 #[] G fun v G' => v = nv sq256 ∧ G' = G := by
  refine HC.start comp52 rfl ?_; unfold pc52
  (repeat' (first | (with_reducible refine i_ops ?_; first | refine o_nil ?_ | (refine g_build ?_; refine s_build ?_) | (refine g_lstore ?_; refine s_lstoreA ?_) | (refine g_lalloc ?_; refine s_lalloc ?_)) | (with_reducible refine i_vc ?_; first | refine v_seq ?_ | refine v_ops ?_ | refine v_ret ?_) | (with_reducible refine n_then ?_) | ((with_reducible refine s_ret ?_); try simp only [x_tup0, x_tup1, x_tup2, x_tup3, x_tup4, x_tup5, and_true, true_and])))
  with_unfolding_all rfl
theorem val4 {o : List Nat} (hl : o.length = 4) : o.take 4 = o := List.take_of_length_le (by omega)
theorem fd4 (n : Nat) : (fd 18446744073709551616 4 n).take 4 = fd 18446744073709551616 4 n := val4 (fd_len _ _ _)
theorem val_fd4 {n : Nat} (h : n < 115792089237316195423570985008687907853269984665640564039457584007913129639936) : val 18446744073709551616 (fd 18446744073709551616 4 n) = n := by
  rw [val_fd, b644, Nat.mod_eq_of_lt h]
theorem val4_lt {o : List Nat} (hd : Dl 18446744073709551616 o) (hl : o.length = 4) : val 18446744073709551616 o < 115792089237316195423570985008687907853269984665640564039457584007913129639936 := by
  have := val_lt hd
  rw [hl, b644] at this; exact this
/-- A number, with a bit more, less the modulus if it isn't below it. -/
theorem subK (n c : Nat) (G : GH) (hn : n < 115792089237316195423570985008687907853269984665640564039457584007913129639936) (hc : c ≤ 1) (h : n + c * 115792089237316195423570985008687907853269984665640564039457584007913129639936 < 2 * p256) :
    HC Try.prog 66 #[nv n, iv .u64 c] G fun v G' => v = nv ((n + c * 115792089237316195423570985008687907853269984665640564039457584007913129639936) % p256) ∧ G' = G := by
  have l1 := fd_len 18446744073709551616 4 n
  have l2 := fd_len 18446744073709551616 4 p256
  refine HC.start comp66 rfl ?_; unfold pc66
  (repeat' (first | (with_reducible refine i_ops ?_; first | (refine g_mv ?_; refine s_mv ?_) | refine o_nil ?_ | (refine g_lstore ?_; refine s_lstoreA ?_) | (refine g_lalloc ?_; refine s_lalloc ?_) | (refine g_lbox ?_; refine s_lboxW ?_) | refine o_callp qrf (by exact modulusK _) ?_) | (with_reducible refine i_vc ?_; first | refine v_seq ?_ | refine v_ops ?_ | refine v_block ?_) | (with_reducible refine n_then ?_)))
  refine v_loopX (α := Nat × Nat × List Nat) (fun x => x.1 ≤ 4 ∧ x.2.1 ≤ 1 ∧ x.2.2.length = 4 ∧ Dl 18446744073709551616 x.2.2 ∧ val 18446744073709551616 (x.2.2.take x.1) + val 18446744073709551616 ((fd 18446744073709551616 4 p256).take x.1) = val 18446744073709551616 ((fd 18446744073709551616 4 n).take x.1) + 18446744073709551616 ^ x.1 * x.2.1)
    (fun x => [(1, iv .u64 c), (2, .int .u64 0), (4, .int .u64 0), (5, .int .u64 0), (6, .int .u64 0), (7, iv .u64 x.2.1), (10, iv .i64 x.1)]) (fun x => [(2, na (fd 18446744073709551616 4 n)), (4, na [0, 0, 0, 0]), (5, na (fd 18446744073709551616 4 p256)), (6, na x.2.2)]) (fun _ => G) (fun x => 4 - x.1) (0, 0, [0, 0, 0, 0])
    ⟨Nat.zero_le _, Nat.zero_le _, rfl, Dl.rep 4 (by decide), by simp [val]⟩ qhs qhl rfl ?_
  rintro ⟨i, w, o⟩ s ll ⟨k1, k2, k3, k4, k5⟩
  dsimp only at k1 k2 k3 k4 k5
  dsimp only [SL.sets, AL.sets]
  have g1 := fd_lt (B := 18446744073709551616) (by decide) 4 n i
  have g2 := fd_lt (B := 18446744073709551616) (by decide) 4 p256 i
  (repeat' (first | (with_reducible refine i_ops ?_; first | (refine g_mv ?_; refine s_mv ?_) | refine o_nil ?_ | (refine g_some ?_; first | refine s_g_t ?_ | refine s_g_f ?_) | (refine g_pick ?_; first | refine s_pick_t ?_ | refine s_pick_f ?_) | (refine g_pure ?_; refine s_pure ?_) | (refine g_lload ?_; first | refine s_lloadV ?_ | refine s_lloadW ?_) | (refine g_lstore ?_; refine s_lstoreW ?_) | (refine g_lindex ?_; refine s_lindex ?_)) | (with_reducible refine i_vc ?_; first | refine v_seq ?_ | refine v_ops ?_ | (refine g_cond ?_; first | refine s_cond_t ?_ | refine s_cond_f ?_) | refine v_block ?_ | refine v_skip ?_ | refine v_exit ?_ | refine v_ret ?_ | refine v_draw0 ?_) | (with_reducible refine i_plan ?_; first | refine s_pre ?_ | refine s_alt ?_) | (with_reducible first | refine n_then ?_ | refine r_then ?_ | refine e_then ?_ | refine e_block_eq qrf ?_) | ((with_reducible first | refine s_g_c ?_ ?_ | refine s_cond_c ?_ ?_) <;> intro hb <;> rw [hb] <;> (try simp only [decide_eq_true_eq, decide_eq_false_iff_not, beq_iff_eq, bne_iff_ne, beq_eq_false_iff_ne, bne_eq_false_iff_eq, ne_eq, Int.not_lt, Int.not_le, gt_iff_lt, ge_iff_le, Bool.not_eq_true', Bool.not_eq_false'] at hb)) | ((with_reducible refine s_ret ?_); try simp only [x_tup0, x_tup1, x_tup2, x_tup3, x_tup4, x_tup5, and_true, true_and])))
  · refine k_sub ((fd 18446744073709551616 4 n).getD i 0) ((fd 18446744073709551616 4 p256).getD i 0) w qrf rfl rfl rfl k2 g1 g2 ?_
    intro z w2 q1 q2 q3
    (repeat' (first | (with_reducible refine i_ops ?_; first | (refine g_mv ?_; refine s_mv ?_) | refine o_nil ?_ | (refine g_pure ?_; first | refine s_naddc ?_ | refine s_pure ?_) | (refine g_lstore ?_; refine s_lstoreV ?_) | (refine g_lindex ?_; refine s_lindex ?_)) | (with_reducible refine i_vc ?_; refine v_ops ?_) | (with_reducible refine i_plan ?_; first | refine p_done ?_ | refine s_pre ?_ | refine s_alt ?_) | (with_reducible first | refine n_then ?_ | refine n_block ?_ | (refine g_stand ?_; first | refine s_stand ?_ | refine s_standL ?_))))
    exact ⟨4 - (i + 1), by omega, (i + 1, w2, o.set i z), rfl, ⟨by dsimp only; omega, q2, by simpa using k3, k4.set i q1, sub_step k5 (by omega) rfl rfl q3⟩, qhs, qhl, rfl⟩
  all_goals
    have hi : i = 4 := by omega
    subst hi
    have hp : p256 = 115792089210356248762697446949407573530086143415290314195533631308867097853951 := rfl
    obtain ⟨m, hv, rfl⟩ := fd_ex k4 k3
    rw [b644] at hv
    rw [fd4, fd4, fd4, val_fd4 hv, val_fd4 hn, val_fd4 (by rw [hp]; omega), b644] at k5
    have hm : (n + c * 115792089237316195423570985008687907853269984665640564039457584007913129639936) % p256 = if n + c * 115792089237316195423570985008687907853269984665640564039457584007913129639936 < p256 then n + c * 115792089237316195423570985008687907853269984665640564039457584007913129639936 else n + c * 115792089237316195423570985008687907853269984665640564039457584007913129639936 - p256 := by
      split
      · exact Nat.mod_eq_of_lt (by assumption)
      · rw [Nat.mod_eq_sub_mod (by omega), Nat.mod_eq_of_lt (by omega)]
  · refine agg_eq ?_
    rw [hm, if_pos (by omega)]; omega
  · ((with_reducible first | refine s_ret ?_ | refine s_normal ?_); try simp only [x_tup0, x_tup1, x_tup2, x_tup3, x_tup4, x_tup5, and_true, true_and])
    refine agg_eq ?_
    rw [hm, if_neg (by omega)]; omega
  · ((with_reducible first | refine s_ret ?_ | refine s_normal ?_); try simp only [x_tup0, x_tup1, x_tup2, x_tup3, x_tup4, x_tup5, and_true, true_and])
    refine agg_eq ?_
    rw [hm]; split <;> omega
theorem plusK (a b : Nat) (G : GH) (ha : a < p256) (hb : b < p256) : HC Try.prog 55 #[nv a, nv b] G fun v G' => v = nv ((a + b) % p256) ∧ G' = G := by
  have l1 := fd_len 18446744073709551616 4 a
  have l2 := fd_len 18446744073709551616 4 b
  have hp : p256 = 115792089210356248762697446949407573530086143415290314195533631308867097853951 := rfl
  refine HC.start comp55 rfl ?_; unfold pc55
  (repeat' (first | (with_reducible refine i_ops ?_; first | (refine g_mv ?_; refine s_mv ?_) | refine o_nil ?_ | (refine g_lalloc ?_; refine s_lalloc ?_) | (refine g_lbox ?_; refine s_lboxW ?_)) | (with_reducible refine i_vc ?_; first | refine v_seq ?_ | refine v_ops ?_ | refine v_block ?_) | (with_reducible refine n_then ?_)))
  refine v_loopX (α := Nat × Nat × List Nat) (fun x => x.1 ≤ 4 ∧ x.2.1 ≤ 1 ∧ x.2.2.length = 4 ∧ Dl 18446744073709551616 x.2.2 ∧ val 18446744073709551616 (x.2.2.take x.1) + 18446744073709551616 ^ x.1 * x.2.1 = val 18446744073709551616 ((fd 18446744073709551616 4 a).take x.1) + val 18446744073709551616 ((fd 18446744073709551616 4 b).take x.1))
    (fun x => [(2, .int .u64 0), (3, .int .u64 0), (4, .int .u64 0), (5, .int .u64 0), (6, iv .u64 x.2.1), (8, iv .i64 x.1)]) (fun x => [(2, na (fd 18446744073709551616 4 a)), (3, na (fd 18446744073709551616 4 b)), (4, na [0, 0, 0, 0]), (5, na x.2.2)]) (fun _ => G) (fun x => 4 - x.1) (0, 0, [0, 0, 0, 0])
    ⟨Nat.zero_le _, Nat.zero_le _, rfl, Dl.rep 4 (by decide), by simp [val]⟩ qhs qhl rfl ?_
  rintro ⟨i, w, o⟩ s ll ⟨k1, k2, k3, k4, k5⟩
  dsimp only at k1 k2 k3 k4 k5
  dsimp only [SL.sets, AL.sets]
  have g1 := fd_lt (B := 18446744073709551616) (by decide) 4 a i
  have g2 := fd_lt (B := 18446744073709551616) (by decide) 4 b i
  (repeat' (first | (with_reducible refine i_ops ?_; first | (refine g_mv ?_; refine s_mv ?_) | refine o_nil ?_ | (refine g_pure ?_; refine s_pure ?_) | (refine g_lload ?_; first | refine s_lloadV ?_ | refine s_lloadW ?_) | (refine g_lindex ?_; refine s_lindex ?_)) | (with_reducible refine i_vc ?_; first | refine v_seq ?_ | refine v_ops ?_ | (refine g_cond ?_; first | refine s_cond_t ?_ | refine s_cond_f ?_) | refine v_block ?_ | refine v_skip ?_ | refine v_exit ?_ | refine v_draw0 ?_) | (with_reducible refine i_plan ?_; first | refine s_pre ?_ | refine s_alt ?_) | (with_reducible first | refine n_then ?_ | refine e_then ?_ | refine e_block_eq qrf ?_) | ((with_reducible refine s_cond_c ?_ ?_) <;> intro hb <;> rw [hb] <;> (try simp only [decide_eq_true_eq, decide_eq_false_iff_not, beq_iff_eq, bne_iff_ne, beq_eq_false_iff_ne, bne_eq_false_iff_eq, ne_eq, Int.not_lt, Int.not_le, gt_iff_lt, ge_iff_le, Bool.not_eq_true', Bool.not_eq_false'] at hb))))
  · refine k_add64 ((fd 18446744073709551616 4 a).getD i 0) ((fd 18446744073709551616 4 b).getD i 0) w qrf rfl rfl rfl k2 ?_
    (repeat' (first | (with_reducible refine i_ops ?_; first | (refine g_mv ?_; refine s_mv ?_) | refine o_nil ?_ | (refine g_pure ?_; first | refine s_naddc ?_ | refine s_pure ?_) | (refine g_lstore ?_; refine s_lstoreV ?_) | (refine g_lindex ?_; refine s_lindex ?_)) | (with_reducible refine i_vc ?_; refine v_ops ?_) | (with_reducible refine i_plan ?_; first | refine p_done ?_ | refine s_pre ?_ | refine s_alt ?_) | (with_reducible first | refine n_then ?_ | refine n_block ?_ | (refine g_stand ?_; first | refine s_stand ?_ | refine s_standL ?_))))
    exact ⟨4 - (i + 1), by omega, (i + 1, _, o.set i _), rfl, ⟨by dsimp only; omega, by dsimp only; omega, by simpa using k3, k4.set i (Nat.mod_lt _ (by decide)), add_step k5 (by omega) rfl rfl⟩, qhs, qhl, rfl⟩
  have hi : i = 4 := by omega
  subst hi
  obtain ⟨m, hv, rfl⟩ := fd_ex k4 k3
  rw [b644] at hv
  rw [fd4, fd4, fd4, val_fd4 hv, val_fd4 (by omega), val_fd4 (by omega), b644] at k5
  have c1 := subK m w G hv k2 (by omega)
  (repeat' (first | (with_reducible refine i_ops ?_; first | refine o_nil ?_ | (refine g_lstore ?_; refine s_lstoreW ?_) | refine o_callp qrf (by exact c1) ?_) | (with_reducible refine i_vc ?_; refine v_ret ?_) | (with_reducible refine n_then ?_) | ((with_reducible refine s_ret ?_); try simp only [x_tup0, x_tup1, x_tup2, x_tup3, x_tup4, x_tup5, and_true, true_and])))
  refine agg_eq ?_
  congr 1
  omega
theorem minusK (a b : Nat) (G : GH) (ha : a < p256) (hb : b < p256) : HC Try.prog 48 #[nv a, nv b] G fun v G' => v = nv ((a + (p256 - b)) % p256) ∧ G' = G := by
  have l1 := fd_len 18446744073709551616 4 a
  have l2 := fd_len 18446744073709551616 4 b
  have l3 := fd_len 18446744073709551616 4 p256
  have hp : p256 = 115792089210356248762697446949407573530086143415290314195533631308867097853951 := rfl
  refine HC.start comp48 rfl ?_; unfold pc48
  (repeat' (first | (with_reducible refine i_ops ?_; first | (refine g_mv ?_; refine s_mv ?_) | refine o_nil ?_ | (refine g_lalloc ?_; refine s_lalloc ?_) | (refine g_lbox ?_; refine s_lboxW ?_)) | (with_reducible refine i_vc ?_; first | refine v_seq ?_ | refine v_ops ?_ | refine v_block ?_) | (with_reducible refine n_then ?_)))
  refine v_loopX (α := Nat × Nat × List Nat) (fun x => x.1 ≤ 4 ∧ x.2.1 ≤ 1 ∧ x.2.2.length = 4 ∧ Dl 18446744073709551616 x.2.2 ∧ val 18446744073709551616 (x.2.2.take x.1) + val 18446744073709551616 ((fd 18446744073709551616 4 b).take x.1) = val 18446744073709551616 ((fd 18446744073709551616 4 a).take x.1) + 18446744073709551616 ^ x.1 * x.2.1)
    (fun x => [(2, .int .u64 0), (3, .int .u64 0), (4, .int .u64 0), (5, .int .u64 0), (6, iv .u64 x.2.1), (11, iv .i64 x.1)]) (fun x => [(2, na (fd 18446744073709551616 4 a)), (3, na (fd 18446744073709551616 4 b)), (4, na [0, 0, 0, 0]), (5, na x.2.2)]) (fun _ => G) (fun x => 4 - x.1) (0, 0, [0, 0, 0, 0])
    ⟨Nat.zero_le _, Nat.zero_le _, rfl, Dl.rep 4 (by decide), by simp [val]⟩ qhs qhl rfl ?_
  rintro ⟨i, w, o⟩ s ll ⟨k1, k2, k3, k4, k5⟩
  dsimp only at k1 k2 k3 k4 k5
  dsimp only [SL.sets, AL.sets]
  have g1 := fd_lt (B := 18446744073709551616) (by decide) 4 a i
  have g2 := fd_lt (B := 18446744073709551616) (by decide) 4 b i
  (repeat' (first | (with_reducible refine i_ops ?_; first | (refine g_mv ?_; refine s_mv ?_) | refine o_nil ?_ | (refine g_pure ?_; refine s_pure ?_) | (refine g_lload ?_; first | refine s_lloadV ?_ | refine s_lloadW ?_) | (refine g_lstore ?_; first | refine s_lstoreW ?_ | refine s_lstoreA ?_) | (refine g_lindex ?_; refine s_lindex ?_) | (refine g_lalloc ?_; refine s_lalloc ?_) | refine o_callp qrf (by exact modulusK _) ?_) | (with_reducible refine i_vc ?_; first | refine v_seq ?_ | refine v_ops ?_ | (refine g_cond ?_; first | refine s_cond_t ?_ | refine s_cond_f ?_) | refine v_block ?_ | refine v_skip ?_ | refine v_exit ?_ | refine v_ret ?_ | refine v_draw0 ?_) | (with_reducible refine i_plan ?_; first | refine s_pre ?_ | refine s_alt ?_) | (with_reducible first | refine n_then ?_ | refine r_then ?_ | refine e_then ?_ | refine e_block_eq qrf ?_) | ((with_reducible refine s_cond_c ?_ ?_) <;> intro hb <;> rw [hb] <;> (try simp only [decide_eq_true_eq, decide_eq_false_iff_not, beq_iff_eq, bne_iff_ne, beq_eq_false_iff_ne, bne_eq_false_iff_eq, ne_eq, Int.not_lt, Int.not_le, gt_iff_lt, ge_iff_le, Bool.not_eq_true', Bool.not_eq_false'] at hb))))
  · refine k_sub ((fd 18446744073709551616 4 a).getD i 0) ((fd 18446744073709551616 4 b).getD i 0) w qrf rfl rfl rfl k2 g1 g2 ?_
    intro z w2 q1 q2 q3
    (repeat' (first | (with_reducible refine i_ops ?_; first | (refine g_mv ?_; refine s_mv ?_) | refine o_nil ?_ | (refine g_pure ?_; first | refine s_naddc ?_ | refine s_pure ?_) | (refine g_lstore ?_; refine s_lstoreV ?_) | (refine g_lindex ?_; refine s_lindex ?_)) | (with_reducible refine i_vc ?_; refine v_ops ?_) | (with_reducible refine i_plan ?_; first | refine p_done ?_ | refine s_pre ?_ | refine s_alt ?_) | (with_reducible first | refine n_then ?_ | refine n_block ?_ | (refine g_stand ?_; first | refine s_stand ?_ | refine s_standL ?_))))
    exact ⟨4 - (i + 1), by omega, (i + 1, w2, o.set i z), rfl, ⟨by dsimp only; omega, q2, by simpa using k3, k4.set i q1, sub_step k5 (by omega) rfl rfl q3⟩, qhs, qhl, rfl⟩
  all_goals
    have hi : i = 4 := by omega
    subst hi
    obtain ⟨m, hv, rfl⟩ := fd_ex k4 k3
    rw [b644] at hv
    rw [fd4, fd4, fd4, val_fd4 hv, val_fd4 (by omega), val_fd4 (by omega), b644] at k5
  · ((with_reducible first | refine s_ret ?_ | refine s_normal ?_); try simp only [x_tup0, x_tup1, x_tup2, x_tup3, x_tup4, x_tup5, and_true, true_and])
    refine agg_eq ?_
    rw [Nat.mod_eq_sub_mod (by omega), Nat.mod_eq_of_lt (by omega)]; omega
  refine v_loopX (α := Nat × Nat × List Nat) (fun x => x.1 ≤ 4 ∧ x.2.1 ≤ 1 ∧ x.2.2.length = 4 ∧ Dl 18446744073709551616 x.2.2 ∧ (∀ j, x.1 ≤ j → x.2.2.getD j 0 = (fd 18446744073709551616 4 m).getD j 0) ∧ val 18446744073709551616 (x.2.2.take x.1) + 18446744073709551616 ^ x.1 * x.2.1 = val 18446744073709551616 ((fd 18446744073709551616 4 m).take x.1) + val 18446744073709551616 ((fd 18446744073709551616 4 p256).take x.1))
    (fun x => [(4, .int .u64 0), (5, .int .u64 0), (8, .int .u64 0), (9, iv .u64 x.2.1), (32, iv .i64 x.1)]) (fun x => [(4, na [0, 0, 0, 0]), (5, na x.2.2), (8, na (fd 18446744073709551616 4 p256))]) (fun _ => G) (fun x => 4 - x.1) (0, 0, fd 18446744073709551616 4 m)
    ⟨Nat.zero_le _, Nat.zero_le _, k3, k4, fun _ _ => rfl, by simp [val]⟩ qhs qhl rfl ?_
  rintro ⟨i, c, q⟩ s ll ⟨m1, m2, m3, m4, m6, m5⟩
  dsimp only at m1 m2 m3 m4 m5 m6
  dsimp only [SL.sets, AL.sets]
  have g3 := fd_lt (B := 18446744073709551616) (by decide) 4 p256 i
  have g4 := m4.getD (by decide) i
  (repeat' (first | (with_reducible refine i_ops ?_; first | (refine g_mv ?_; refine s_mv ?_) | refine o_nil ?_ | (refine g_pure ?_; refine s_pure ?_) | (refine g_lload ?_; first | refine s_lloadV ?_ | refine s_lloadW ?_) | (refine g_lstore ?_; refine s_lstoreW ?_) | (refine g_lindex ?_; refine s_lindex ?_)) | (with_reducible refine i_vc ?_; first | refine v_seq ?_ | refine v_ops ?_ | (refine g_cond ?_; first | refine s_cond_t ?_ | refine s_cond_f ?_) | refine v_block ?_ | refine v_skip ?_ | refine v_exit ?_ | refine v_ret ?_ | refine v_draw0 ?_) | (with_reducible refine i_plan ?_; first | refine s_pre ?_ | refine s_alt ?_) | (with_reducible first | refine n_then ?_ | refine e_then ?_ | refine e_block_eq qrf ?_ | (refine g_stand ?_; refine s_stand ?_)) | ((with_reducible refine s_cond_c ?_ ?_) <;> intro hb <;> rw [hb] <;> (try simp only [decide_eq_true_eq, decide_eq_false_iff_not, beq_iff_eq, bne_iff_ne, beq_eq_false_iff_ne, bne_eq_false_iff_eq, ne_eq, Int.not_lt, Int.not_le, gt_iff_lt, ge_iff_le, Bool.not_eq_true', Bool.not_eq_false'] at hb))))
  · refine k_add64 (q.getD i 0) ((fd 18446744073709551616 4 p256).getD i 0) c qrf rfl rfl rfl m2 ?_
    (repeat' (first | (with_reducible refine i_ops ?_; first | (refine g_mv ?_; refine s_mv ?_) | refine o_nil ?_ | (refine g_pure ?_; first | refine s_naddc ?_ | refine s_pure ?_) | (refine g_lstore ?_; refine s_lstoreV ?_) | (refine g_lindex ?_; refine s_lindex ?_)) | (with_reducible refine i_vc ?_; refine v_ops ?_) | (with_reducible refine i_plan ?_; first | refine p_done ?_ | refine s_pre ?_ | refine s_alt ?_) | (with_reducible first | refine n_then ?_ | refine n_block ?_ | (refine g_stand ?_; first | refine s_stand ?_ | refine s_standL ?_))))
    refine ⟨4 - (i + 1), by omega, (i + 1, _, q.set i _), rfl, ⟨by dsimp only; omega, by dsimp only; omega, by simpa using m3, m4.set i (Nat.mod_lt _ (by decide)), fun j hj => ?_, add_step m5 (by omega) (m6 i (Nat.le_refl _)).symm rfl⟩, qhs, qhl, rfl⟩
    dsimp only at hj ⊢
    rw [set_getD_ne q (by omega)]; exact m6 j (by omega)
  have hi : i = 4 := by omega
  subst hi
  obtain ⟨n, hn, rfl⟩ := fd_ex m4 m3
  rw [b644] at hn
  rw [fd4, fd4, fd4, val_fd4 hn, val_fd4 hv, val_fd4 (by omega), b644] at m5
  ((with_reducible first | refine s_ret ?_ | refine s_normal ?_); try simp only [x_tup0, x_tup1, x_tup2, x_tup3, x_tup4, x_tup5, and_true, true_and])
  refine agg_eq ?_
  rw [Nat.mod_eq_of_lt (by omega)]; omega
end Go.Proofs.Ytdeihgcgglhhcaa.V
end
section
/- Pointers: nil or not, fields. -/
set_option linter.unusedSimpArgs false
set_option linter.unusedVariables false
namespace Go.Proofs.Ytdeihgcgglhhcaa.V
open Go.RowKit
section
variable {P : Program} {E : Env} {K : St → Prop} {r : List Stp} {dd : Option Nat} {L : SL} {A : AL} {G : GH}
theorem s_nilck {d : Nat} {x : Operand} {a : Addr} (h : vops P E r K (S (.set d (.pointer (some a)) L) A G)) (hx : evo L x = some (.pointer (some a)) := by with_unfolding_all rfl) : vops P E (⟨none, dd, .pure d .nilck [x]⟩ :: r) K (S L A G) := o_pure (vs := [.pointer (some a)]) (by simp only [evs, hx]) rfl h
theorem s_fptr0 {d o b : Nat} {x : Operand} (h : vops P E r K (S (.set d (.pointer (some ⟨b, o, none⟩)) L) A G)) (hx : evo L x = some (.pointer (some ⟨b, 0, none⟩)) := by with_unfolding_all rfl) : vops P E (⟨none, dd, .pure d (.fptr o) [x]⟩ :: r) K (S L A G) :=
  o_pure (vs := [.pointer (some ⟨b, 0, none⟩)]) (by simp only [evs, hx]) (by simp only [pureV, Nat.zero_add]) h
end
end Go.Proofs.Ytdeihgcgglhhcaa.V
end
section
/- Regions that draw, of which the reads see less than there is. -/
set_option linter.unusedSimpArgs false
set_option linter.unusedVariables false
namespace Go.Proofs.Ytdeihgcgglhhcaa.V
open Go.RowKit
section
variable {P : Program} {E : Env} {K : St → Prop} {L : SL} {A : AL} {G Gs : GH} {Ls : List Nat}
theorem v_drawG {Q : Exit → St → Prop} {pl : Plan} (Gs : GH) (hG : Gs.le G) (h : vplan P E Gs Ls (Q .normal) pl (S L A G)) : vc P E (.draw Ls pl) Q (S L A G) := ⟨Gs, hG, h⟩
end
end Go.Proofs.Ytdeihgcgglhhcaa.V
end
section
/- A number times a word onto a row; products. -/
set_option linter.unusedSimpArgs false
set_option linter.unusedVariables false
-- @nums
-- @extra s_iptrA s_iptrAc s_slcA0 s_slcA1 s_naddc s_nadd s_wadd s_nilck
-- @pre g_lload s_lloadV s_lloadW
-- @pre g_lstore s_lstoreV s_lstoreW
-- @pre g_lbox s_lboxW
namespace Go.Proofs.Ytdeihgcgglhhcaa.V
open Go.RowKit Go.ChangeShapes Go.WideShapes
section
variable {P : Program} {E : Env} {K : St → Prop} {r : List Stp} {dd : Option Nat} {L : SL} {A : AL} {G : GH}
theorem s_iptrA {d b len i : Nat} {x y : Operand} {k : IntKind} (h : vops P E r K (S (.set d (.pointer (some ⟨b, 0 + i, none⟩)) L) A G)) (hx : evo L x = some (.pointer (some ⟨b, 0, none⟩)) := by with_unfolding_all rfl) (hy : evo L y = some (.int k i) := by with_unfolding_all rfl) (hi : i < len := by omega) : vops P E (⟨none, dd, .pure d (.iptrA len 1) [x, y]⟩ :: r) K (S L A G) := by
  refine o_pure (vs := [.pointer (some ⟨b, 0, none⟩), .int k i]) (by simp only [evs, hx, hy]) ?_ h
  simp only [pureV]
  rw [if_pos ⟨by omega, by omega⟩]
  simp
theorem s_iptrAc {d b len n : Nat} {x : Operand} {k : IntKind} (h : vops P E r K (S (.set d (.pointer (some ⟨b, 0 + (OfNat.ofNat n : Nat), none⟩)) L) A G)) (hx : evo L x = some (.pointer (some ⟨b, 0, none⟩)) := by with_unfolding_all rfl) (hi : (OfNat.ofNat n : Nat) < len := by omega) : vops P E (⟨none, dd, .pure d (.iptrA len 1) [x, .const (.int k (OfNat.ofNat n))]⟩ :: r) K (S L A G) :=
  s_iptrA (i := (OfNat.ofNat n : Nat)) h hx rfl hi
theorem s_slcA0 {d b len : Nat} {x : Operand} (h : vops P E r K (S (.set d (.slice (some ⟨b, 0, none⟩) len len) L) A G)) (hx : evo L x = some (.pointer (some ⟨b, 0, none⟩)) := by with_unfolding_all rfl) : vops P E (⟨none, dd, .pure d (.slcA len 1 false false false) [x]⟩ :: r) K (S L A G) := by
  refine o_pure (vs := [.pointer (some ⟨b, 0, none⟩)]) (by simp only [evs, hx]) ?_ h
  simp [pureV, bnds, cutV, addO, Addr.add]
theorem s_slcA1 {d b len i : Nat} {x y : Operand} {k : IntKind} (h : vops P E r K (S (.set d (.slice (some ⟨b, 0 + i, none⟩) (len - i : Nat) (len - i : Nat)) L) A G)) (hx : evo L x = some (.pointer (some ⟨b, 0, none⟩)) := by with_unfolding_all rfl) (hy : evo L y = some (.int k i) := by with_unfolding_all rfl) (hi : i < len := by omega) : vops P E (⟨none, dd, .pure d (.slcA len 1 true false false) [x, y]⟩ :: r) K (S L A G) := by
  refine o_pure (vs := [.pointer (some ⟨b, 0, none⟩), .int k i]) (by simp only [evs, hx, hy]) ?_ h
  simp only [pureV, bnds, cutV, addO, Option.bind_some, Option.getD_none, Option.getD_some]
  rw [if_pos ⟨by omega, by omega, by omega⟩]
  simp only [Option.map_some, Int.toNat_natCast, Nat.mul_one]
  rw [if_neg (by omega)]; simp [Addr.add]; omega
end
theorem muladdK {x m c : Nat} (hx : x < 18446744073709551616) (hm : m < 18446744073709551616) (r : Nat) (hr : r < 18446744073709551616) (hc : c < 18446744073709551616) : r + x * m + c < 18446744073709551616 * 18446744073709551616 := by
  have h1 : x * m ≤ 18446744073709551615 * 18446744073709551615 := Nat.mul_le_mul (by omega) (by omega)
  omega
theorem plusOne {x m r c : Nat} (hx : x < 18446744073709551616) (hm : m < 18446744073709551616) (hr : r < 18446744073709551616) (hc : c < 18446744073709551616) :
    ((x * m / 18446744073709551616 + (x * m % 18446744073709551616 + c + 0) / 18446744073709551616) % 18446744073709551616 + (r + (x * m % 18446744073709551616 + c + 0) % 18446744073709551616 + 0) / 18446744073709551616) % 18446744073709551616 = (r + x * m + c) / 18446744073709551616 ∧ (r + (x * m % 18446744073709551616 + c + 0) % 18446744073709551616 + 0) % 18446744073709551616 = (r + x * m + c) % 18446744073709551616 := by
  have h1 := muladdK hx hm r hr hc
  generalize x * m = p at *
  omega
theorem b645 : (18446744073709551616 : Nat) ^ 5 = 2135987035920910082395021706169552114602704522356652769947041607822219725780640550022962086936576 := by decide
theorem b646 : (18446744073709551616 : Nat) ^ 6 = 39402006196394479212279040100143613805079739270465446667948293404245721771497210611414266254884915640806627990306816 := by decide
theorem val6 {o : List Nat} (hl : o.length = 6) : val 18446744073709551616 o = val 18446744073709551616 (o.take 4) + 18446744073709551616 ^ 4 * o.getD 4 0 + 18446744073709551616 ^ 5 * o.getD 5 0 := by
  have e : o.take 6 = o := List.take_of_length_le (by omega)
  conv => lhs; rw [← e]
  rw [val_take_succ 18446744073709551616 o 5, val_take_succ 18446744073709551616 o 4]
theorem addK (b a y : Nat) (cs : Array Value) (e : TypeId) (row : List Nat) (G0 G : GH) (h0 : G0.le G) (hb0 : G0 b = none) (hw : Win .u64 G b 0 cs e (0, 0) row) (hl : row.length = 6) (hd : Dl 18446744073709551616 row) (ha : a < 115792089237316195423570985008687907853269984665640564039457584007913129639936) (hy : y < 18446744073709551616) (hf : val 18446744073709551616 row + a * y < 18446744073709551616 ^ 6) :
    HC Try.prog 65 #[.pointer (some ⟨b, 0, none⟩), nv a, iv .u64 y] G fun w G' => ∃ cs' row', G' = G.put b (.cells cs' e) ∧ Win .u64 G' b 0 cs' e (0, 0) row' ∧ row'.length = 6 ∧ Dl 18446744073709551616 row' ∧ val 18446744073709551616 row' = val 18446744073709551616 row + a * y := by
  have l1 := fd_len 18446744073709551616 4 a
  refine HC.start comp65 rfl ?_; unfold pc65
  (repeat' (first | (with_reducible refine i_ops ?_; first | (refine g_mv ?_; refine s_mv ?_) | refine o_nil ?_ | (refine g_lbox ?_; refine s_lboxW ?_)) | (with_reducible refine i_vc ?_; first | refine v_seq ?_ | refine v_ops ?_ | refine v_block ?_) | (with_reducible refine n_then ?_)))
  refine v_loopX (α := Nat × Nat × List Nat × Array Value × GH) (fun x => x.1 ≤ 4 ∧ x.2.1 < 18446744073709551616 ∧ x.2.2.1.length = 6 ∧ Dl 18446744073709551616 x.2.2.1 ∧ (∀ j, x.1 ≤ j → x.2.2.1.getD j 0 = row.getD j 0) ∧ val 18446744073709551616 (x.2.2.1.take x.1) + 18446744073709551616 ^ x.1 * x.2.1 = val 18446744073709551616 (row.take x.1) + val 18446744073709551616 ((fd 18446744073709551616 4 a).take x.1) * y ∧ Win .u64 x.2.2.2.2 b 0 x.2.2.2.1 e (0, 0) x.2.2.1 ∧ x.2.2.2.2 = G.put b (.cells x.2.2.2.1 e))
    (fun x => [(0, .pointer (some ⟨b, 0, none⟩)), (2, iv .u64 y), (4, .int .u64 0), (6, iv .u64 x.2.1), (12, iv .i64 x.1)]) (fun _ => [(4, na (fd 18446744073709551616 4 a))]) (fun x => x.2.2.2.2) (fun x => 4 - x.1) (0, 0, row, cs, G)
    ⟨Nat.zero_le _, (show (0 : Nat) < 18446744073709551616 by decide), hl, hd, fun j _ => rfl, by simp [val], hw, (put_self hw.hG).symm⟩ qhs qhl rfl ?_
  rintro ⟨i, c, o, cs2, H⟩ s ll ⟨k1, k2, k3, k4, k5, k6, k7, k8⟩
  dsimp only at k1 k2 k3 k4 k5 k6 k7 k8
  dsimp only [SL.sets, AL.sets]
  have hg := k4.getD (by decide) i
  have hg2 := fd_lt (B := 18446744073709551616) (by decide) 4 a i
  have hGH : G0.le H := le_eq k8 h0 hb0
  (repeat' (first | (with_reducible refine i_ops ?_; first | (refine g_mv ?_; refine s_mv ?_) | refine o_nil ?_ | (refine g_pure ?_; first | refine s_iptrAc ?_ | refine s_nilck ?_ | refine s_pure ?_) | (refine g_lload ?_; refine s_lloadV ?_) | (refine g_lindex ?_; refine s_lindex ?_) | refine o_callp qrf (by exact MulK _ _ _ hg2 hy) ?_) | (with_reducible refine i_vc ?_; first | refine v_seq ?_ | refine v_ops ?_ | (refine g_cond ?_; first | refine s_cond_t ?_ | refine s_cond_f ?_) | refine v_block ?_ | refine v_skip ?_ | refine v_exit ?_ | refine v_drawG G0 qle ?_) | (with_reducible refine i_plan ?_; first | refine s_preN ?_ | refine s_alt ?_) | (with_reducible first | refine n_then ?_ | refine e_then ?_ | refine e_block_eq qrf ?_) | ((with_reducible refine s_cond_c ?_ ?_) <;> intro hb <;> rw [hb] <;> (try simp only [decide_eq_true_eq, decide_eq_false_iff_not, beq_iff_eq, bne_iff_ne, beq_eq_false_iff_ne, bne_eq_false_iff_eq, ne_eq, Int.not_lt, Int.not_le, gt_iff_lt, ge_iff_le, Bool.not_eq_true', Bool.not_eq_false'] at hb))))
  · refine k_add64 ((fd 18446744073709551616 4 a).getD i 0 * y % 18446744073709551616) c 0 qrf rfl rfl rfl (by omega) ?_
    have P3 := k7.ptr0 (i := i) (by omega)
    (repeat' (first | (with_reducible refine i_ops ?_; first | (refine g_mv ?_; refine s_mv ?_) | refine o_nil ?_ | (refine g_pure ?_; first | refine s_iptrA ?_ | refine s_wadd ?_ | refine s_nilck ?_ | refine s_pure ?_) | (refine g_hload ?_; refine s_hloadP ?_)) | (with_reducible refine i_vc ?_; first | refine v_seq ?_ | refine v_ops ?_ | refine v_drawG G0 qle ?_) | (with_reducible refine i_plan ?_; first | refine s_preN ?_ | refine s_alt ?_) | (with_reducible first | refine n_then ?_ | (refine g_stand ?_; refine s_stand ?_))))
    refine k_add64 (o.getD i 0) (((fd 18446744073709551616 4 a).getD i 0 * y % 18446744073709551616 + c + 0) % 18446744073709551616) 0 qrf rfl rfl rfl (by omega) ?_
    obtain ⟨f1, f2⟩ := plusOne hg2 hy hg k2
    have hst := plus_step (m := y) (z := (o.getD i 0 + (fd 18446744073709551616 4 a).getD i 0 * y + c) % 18446744073709551616) (d := (o.getD i 0 + (fd 18446744073709551616 4 a).getD i 0 * y + c) / 18446744073709551616) k6 (by omega) (k5 i (Nat.le_refl _)).symm rfl (Nat.mod_add_div _ _)
    have hz := Nat.mod_lt (o.getD i 0 + (fd 18446744073709551616 4 a).getD i 0 * y + c) (show 18446744073709551616 > 0 by decide)
    have hdv : (o.getD i 0 + (fd 18446744073709551616 4 a).getD i 0 * y + c) / 18446744073709551616 < 18446744073709551616 := Nat.div_lt_of_lt_mul (muladdK hg2 hy _ hg k2)
    rw [f2]
    (repeat' (first | (with_reducible refine i_ops ?_; first | (refine g_mv ?_; refine s_mv ?_) | refine o_nil ?_ | (refine g_pure ?_; first | refine s_iptrA ?_ | refine s_pure ?_)) | (with_reducible refine i_plan ?_; first | refine s_preN ?_ | refine s_alt ?_) | (with_reducible (refine g_stand ?_; refine s_stand ?_))))
    refine o_hstoreW (k := .u64) qrf k7 (by omega) qrf ?_
    intro cs5 H5 e5 _ w5
    have hle5 : G0.le H5 := le_eq (put_eq e5 k8) h0 hb0
    (repeat' (first | (with_reducible refine i_ops ?_; first | (refine g_mv ?_; refine s_mv ?_) | refine o_nil ?_ | (refine g_pure ?_; first | refine s_naddc ?_ | refine s_wadd ?_)) | (with_reducible refine i_vc ?_; refine v_ops ?_) | (with_reducible refine i_plan ?_; first | refine p_done ?_ | refine s_preN ?_) | (with_reducible first | refine n_then ?_ | refine n_block ?_ | (refine g_stand ?_; refine s_stand ?_))))
    refine ⟨4 - (i + 1), by omega, (i + 1, _, o.set i _, cs5, H5), rfl, ⟨by dsimp only; omega, hdv, by simpa using k3, k4.set i hz, fun j hj => ?_, hst, w5, put_eq e5 k8⟩, ?_, qhl, rfl⟩
    · dsimp only at hj ⊢
      rw [set_getD_ne o (by omega)]; exact k5 j (by omega)
    · dsimp only
      rw [← f1]
      exact qhs
  · have hi : i = 4 := by omega
    subst hi
    have P3 := k7.ptr0 (i := 4) (by omega)
    have P4 := k7.ptr0 (i := 5) (by omega)
    have e4 := k5 4 (by omega)
    have e5 := k5 5 (by omega)
    have d4 := k4.getD (by decide) 5
    rw [fd4, val_fd4 ha, b644] at k6
    have hrow := val6 hl
    rw [hrow, b644, b645, b646] at hf
    (repeat' (first | (with_reducible refine i_ops ?_; first | refine o_nil ?_ | (refine g_hload ?_; refine s_hloadP ?_)) | (with_reducible refine i_plan ?_; refine s_alt ?_) | (with_reducible (refine g_stand ?_; refine s_stand ?_))))
    refine k_add64 (o.getD 4 0) c 0 qrf rfl rfl rfl (by omega) ?_
    (repeat' (first | (with_reducible refine i_ops ?_; first | (refine g_mv ?_; refine s_mv ?_) | refine o_nil ?_ | (refine g_pure ?_; first | refine s_iptrAc ?_ | refine s_pure ?_)) | (with_reducible refine i_plan ?_; first | refine s_preN ?_ | refine s_alt ?_) | (with_reducible (refine g_stand ?_; refine s_stand ?_))))
    refine o_hstoreW (k := .u64) qrf k7 (by omega) qrf ?_
    intro cs5 H5 e5' _ w5
    have hle5 : G0.le H5 := le_eq (put_eq e5' k8) h0 hb0
    have P5 := w5.ptr0 (i := 5) (by simp; omega)
    rw [set_getD_ne o (by decide)] at P5
    (repeat' (first | (with_reducible refine i_ops ?_; first | (refine g_mv ?_; refine s_mv ?_) | refine o_nil ?_ | (refine g_pure ?_; first | refine s_iptrAc ?_ | refine s_wadd ?_ | refine s_nilck ?_) | (refine g_hload ?_; refine s_hloadP ?_)) | (with_reducible refine i_vc ?_; refine v_drawG G0 qle ?_) | (with_reducible refine i_plan ?_; first | refine p_done ?_ | refine s_preN ?_ | refine s_alt ?_) | (with_reducible first | refine n_then ?_ | (refine g_stand ?_; refine s_stand ?_))))
    refine o_hstoreW (k := .u64) qrf w5 (by simp; omega) qrf ?_
    intro cs6 H6 e6 _ w6
    have hle6 : G0.le H6 := le_eq (put_eq e6 (put_eq e5' k8)) h0 hb0
    (repeat' (first | (with_reducible refine i_ops ?_; refine o_nil ?_) | (with_reducible refine i_plan ?_; refine p_done ?_) | (with_reducible (refine g_stand ?_; refine s_stand ?_)) | ((with_reducible refine s_normal ?_); try simp only [x_tup0, x_tup1, x_tup2, x_tup3, x_tup4, x_tup5, and_true, true_and])))
    refine ⟨cs6, _, put_eq e6 (put_eq e5' k8), w6, by simpa using k3, (k4.set 4 (Nat.mod_lt _ (by decide))).set 5 (Nat.mod_lt _ (by decide)), ?_⟩
    rw [val6 (by simpa using k3), b644, b645, List.take_set_of_le (by omega), List.take_set_of_le (by omega), set_getD_ne _ (by decide), set_getD_eq _ (by omega), set_getD_eq _ (by simp; omega), hrow, b644, b645]
    generalize a * y = p at *
    omega
end Go.Proofs.Ytdeihgcgglhhcaa.V
end
