/- Numbers as 32 bytes, the highest first. -/
import Derived.Test.YtdeihgcgglhhcaaPeKF
set_option linter.unusedSimpArgs false
set_option linter.unusedVariables false
namespace Go.Proofs.Ytdeihgcgglhhcaa.V
open Go.RowKit
/-- The number that bytes say, the highest first. -/
def be (l : List UInt8) : Nat := l.foldl (fun n b => n * 256 + b.toNat) 0
theorem be_from (l : List UInt8) : ∀ n, l.foldl (fun n b => n * 256 + b.toNat) n = n * 256 ^ l.length + be l := by
  induction l with
  | nil => intro n; simp [be]
  | cons b l ih =>
    intro n
    have h0 : be (b :: l) = b.toNat * 256 ^ l.length + be l := by
      show List.foldl _ (0 * 256 + b.toNat) l = _
      rw [ih, Nat.zero_mul, Nat.zero_add]
    rw [List.foldl_cons, ih, h0, List.length_cons, Nat.pow_succ, Nat.add_mul, Nat.mul_assoc, Nat.mul_comm 256, Nat.add_assoc]
theorem be_app (a b : List UInt8) : be (a ++ b) = be a * 256 ^ b.length + be b := by
  rw [be, List.foldl_append, be_from b]; rfl
theorem be_push (a : List UInt8) (x : UInt8) : be (a ++ [x]) = be a * 256 + x.toNat := by
  rw [be_app]; simp [be]
theorem be_cons (x : UInt8) (l : List UInt8) : be (x :: l) = x.toNat * 256 ^ l.length + be l := by
  have := be_app [x] l
  simpa [be] using this
theorem be_lt : ∀ l : List UInt8, be l < 256 ^ l.length
  | [] => by simp [be]
  | x :: l => by
    have h1 := be_lt l
    have h2 := x.toNat_lt
    have h3 := Nat.mul_le_mul_right (256 ^ l.length) (show x.toNat ≤ 255 by omega)
    rw [be_cons, List.length_cons, Nat.pow_succ, Nat.mul_comm _ 256]
    generalize 256 ^ l.length = t at *
    omega
/-- A number's n lowest bytes, the highest first. -/
def beN (n m : Nat) : List UInt8 := (List.range n).map fun i => UInt8.ofNat (m / 256 ^ (n - 1 - i))
theorem beN_len (n m : Nat) : (beN n m).length = n := by simp [beN]
theorem beN_cons (n m : Nat) : beN (n + 1) m = UInt8.ofNat (m / 256 ^ n) :: beN n m := by
  unfold beN
  rw [List.range_succ_eq_map, List.map_cons, List.map_map]
  congr 1
  apply List.map_congr_left
  intro i hi
  have := List.mem_range.1 hi
  show UInt8.ofNat (m / 256 ^ (n + 1 - 1 - (i + 1))) = _
  rw [show n + 1 - 1 - (i + 1) = n - 1 - i by omega]
theorem beN_be : ∀ {l : List UInt8} {n : Nat} (k : Nat), l.length = n → beN n (be l + 256 ^ n * k) = l
  | [], n, k, h => by subst h; rfl
  | x :: l, n, k, h => by
    subst h
    have h1 := be_lt l
    have h2 := x.toNat_lt
    rw [List.length_cons, beN_cons, be_cons, Nat.pow_succ]
    have e : x.toNat * 256 ^ l.length + be l + 256 ^ l.length * 256 * k = be l + 256 ^ l.length * (x.toNat + 256 * k) := by
      rw [Nat.mul_add, Nat.mul_assoc, Nat.mul_comm x.toNat]; omega
    rw [e, beN_be _ rfl, Nat.add_mul_div_left _ _ (Nat.pow_pos (by decide)), Nat.div_eq_of_lt h1, Nat.zero_add]
    congr 1
    apply UInt8.toNat_inj.1
    rw [UInt8.toNat_ofNat']; omega
theorem beN_be' {l : List UInt8} {n : Nat} (h : l.length = n) : beN n (be l) = l := by simpa using beN_be 0 h
/-- A part of m bytes. -/
def chk (m j : Nat) (l : List UInt8) : List UInt8 := (l.drop (m * j)).take m
theorem chk_take (m j n : Nat) (l : List UInt8) : chk m j (l.take n) = (l.drop (m * j)).take (min m (n - m * j)) := by
  unfold chk
  rw [List.drop_take, List.take_take]
theorem chk_same {m j i : Nat} {l : List UInt8} (h1 : m * j ≤ i) (h2 : i < m * (j + 1)) (h : i < l.length) : chk m j (l.take (i + 1)) = chk m j (l.take i) ++ [l.getD i 0] := by
  rw [Nat.mul_add, Nat.mul_one] at h2
  rw [chk_take, chk_take, Nat.min_eq_right (by omega), Nat.min_eq_right (by omega), show i + 1 - m * j = (i - m * j) + 1 by omega, List.take_succ_eq_append_getElem (by rw [List.length_drop]; omega), List.getElem_drop, List.getD_eq_getElem?_getD, List.getElem?_eq_getElem h]
  simp only [show m * j + (i - m * j) = i by omega, Option.getD_some]
theorem chk_other {m j i : Nat} {l : List UInt8} (h : i < m * j ∨ m * (j + 1) ≤ i) : chk m j (l.take (i + 1)) = chk m j (l.take i) := by
  rw [Nat.mul_add, Nat.mul_one] at h
  rw [chk_take, chk_take]
  congr 1
  omega
theorem chk_len' {m j i : Nat} {l : List UInt8} (h2 : i < m * (j + 1)) : (chk m j (l.take i)).length < m ∨ m = 0 := by
  rw [Nat.mul_add, Nat.mul_one] at h2
  rw [chk_take, List.length_take, List.length_drop]; omega
theorem val_chk {m : Nat} (hm : 0 < m) : ∀ {n : Nat} {a : List Nat} {l : List UInt8}, a.length = n → l.length = m * n → (∀ j, j < n → a.getD (n - 1 - j) 0 = be (chk m j l)) → val (256 ^ m) a = be l
  | 0, a, l, ha, hl, _ => by
    have h1 := List.eq_nil_of_length_eq_zero ha
    have h2 : l = [] := List.eq_nil_of_length_eq_zero (by simpa using hl)
    subst h1 h2; rfl
  | n + 1, x :: a, l, ha, hl, h => by
    have h0 := h n (by omega)
    rw [show n + 1 - 1 - n = 0 by omega, List.getD_cons_zero] at h0
    rw [Nat.mul_add, Nat.mul_one] at hl
    have ih := val_chk hm (a := a) (l := l.take (m * n)) (by simpa using ha) (by rw [List.length_take]; omega) fun j hj => by
      have := h j (by omega)
      rw [show n + 1 - 1 - j = (n - 1 - j) + 1 by omega, List.getD_cons_succ] at this
      rw [this, chk_take]
      have h3 : m * (j + 1) ≤ m * n := Nat.mul_le_mul_left _ (by omega)
      rw [Nat.mul_add, Nat.mul_one] at h3
      rw [Nat.min_eq_left (by omega)]; rfl
    have e : chk m n l = l.drop (m * n) := by
      unfold chk
      rw [List.take_of_length_le (by rw [List.length_drop]; omega)]
    rw [val, ih, h0, e]
    conv => rhs; rw [← List.take_append_drop (m * n) l, be_app]
    rw [List.length_drop, show l.length - m * n = m by omega, Nat.mul_comm (256 ^ m), Nat.add_comm]
/-- Bytes as cells. -/
abbrev bca (l : List UInt8) : Array Value := (l.map bv).toArray
abbrev dK (l : List UInt8) : Value := .agg (bca l)
theorem bca_get {l : List UInt8} {i : Nat} (h : i < l.length) : (bca l)[i]? = some (bv (l.getD i 0)) := by
  rw [List.getElem?_toArray, List.getElem?_map, List.getD_eq_getElem?_getD, List.getElem?_eq_getElem h]; rfl
theorem bca_ext {l : List UInt8} {n : Nat} (h : l.length = n) : Value.agg ((bca l).extract 0 n) = dK l := by
  have : n = (bca l).size := by simpa using h.symm
  rw [this, Array.extract_size]
/-- A row of n bytes, filled from the front. -/
def filN (n : Nat) (L : List UInt8) : List UInt8 := L ++ List.replicate (n - L.length) 0
theorem filN_len {n : Nat} {L : List UInt8} (h : L.length ≤ n) : (filN n L).length = n := by simp [filN]; omega
theorem filN_set {n : Nat} {L : List UInt8} (h : L.length < n) (v : UInt8) : (filN n L).set L.length v = filN n (L ++ [v]) := by
  unfold filN
  rw [List.set_append_right _ _ (Nat.le_refl _), Nat.sub_self, show n - L.length = (n - (L ++ [v]).length) + 1 by simp; omega, List.replicate_succ, List.set_cons_zero, List.append_assoc]; rfl
theorem filN_all {n : Nat} {L : List UInt8} (h : L.length = n) : filN n L = L := by unfold filN; rw [h]; simp
section
variable {P : Program} {E : Env} {K : St → Prop} {r : List Stp} {dd : Option Nat} {L : SL} {A : AL} {G : GH}
theorem s_lloadK {d k s0 i : Nat} {ws : List UInt8} (h : vops P E r K (S (.set d (bv (ws.getD i 0)) L) A G)) (hp : L.get s0 = some (iv .u64 i) := by with_unfolding_all rfl) (hc : A.get k = some (bca ws) := by with_unfolding_all rfl) (hl : i < ws.length := by omega) : vops P E (⟨none, dd, .lload d k s0 1 false⟩ :: r) K (S L A G) :=
  o_lload hp hc (by rw [x_take1, Int.toNat_natCast, bca_get hl]) h
theorem s_lstoreK {k s0 i : Nat} {x : Operand} {v : UInt8} {ws : List UInt8} (h : vops P E r K (S L (.set k (bca (ws.set i v)) A) G)) (hp : L.get s0 = some (iv .u64 i) := by with_unfolding_all rfl) (hc : A.get k = some (bca ws) := by with_unfolding_all rfl) (hx : evo L x = some (bv v) := by with_unfolding_all rfl) (hl : i < ws.length := by omega) : vops P E (⟨none, dd, .lstore k s0 1 x⟩ :: r) K (S L A G) := by
  refine o_lstore (vs := [bv v]) hp hc hx rfl ⟨rfl, ?_, rfl⟩ ?_ h
  · simp; omega
  · simp only [wr, bca]
    rw [List.map_set]
    simp
theorem s_lloadD {d k s0 n : Nat} {ws : List UInt8} (h : vops P E r K (S (.set d (dK ws) L) A G)) (hp : L.get s0 = some (.int .u64 0) := by with_unfolding_all rfl) (hc : A.get k = some (bca ws) ∧ ws.length = n := by (refine ⟨by with_unfolding_all rfl, ?_⟩; first | assumption | exact beN_len _ _ | with_unfolding_all rfl)) : vops P E (⟨none, dd, .lload d k s0 n true⟩ :: r) K (S L A G) :=
  o_lload hp hc.1 (by rw [← hc.2]; have := x_takeA (cs := bca ws) (n := ws.length) (by simp); exact this) h
theorem bca_cells (l : List UInt8) : cells1 (l.map bv) = true := by simp [cells1, bv, Value.oneCell']
theorem s_lstoreD {k s0 n : Nat} {x : Operand} {ws vs : List UInt8} (h : vops P E r K (S L (.set k (bca vs) A) G)) (hp : L.get s0 = some (.int .u64 0) := by with_unfolding_all rfl) (hc : A.get k = some (bca ws) ∧ ws.length = n := by (refine ⟨by with_unfolding_all rfl, ?_⟩; first | assumption | exact beN_len _ _ | with_unfolding_all rfl)) (hx : evo L x = some (dK vs) ∧ vs.length = n := by (refine ⟨by with_unfolding_all rfl, ?_⟩; first | assumption | exact beN_len _ _ | with_unfolding_all rfl)) : vops P E (⟨none, dd, .lstore k s0 n x⟩ :: r) K (S L A G) := by
  refine o_lstoreA (y := dK vs) hp hc.1 hx.1 rfl (by simpa using hx.2) (by simpa using hc.2.symm) (bca_cells _) h
theorem s_lboxD {d k : Nat} {x : Operand} {ws : List UInt8} {ts : List Nat} (h : vops P E r K (S (.set d (.int .u64 0) (.kill ts L)) (.set k (bca ws) A) G)) (hx : evo L x = some (dK ws) := by with_unfolding_all rfl) (ho : onceE E.env = true := by with_unfolding_all rfl) (hk : slotsOf E.env k = some ts := by with_unfolding_all rfl) : vops P E (⟨none, dd, .lbox d k x⟩ :: r) K (S L A G) := o_lbox ho hk hx rfl h
/-- A word's lowest byte. -/
theorem s_tou8 {d : Nat} {xs : List Operand} {x : Nat} (h : vops P E r K (S (.set d (bv (UInt8.ofNat x)) L) A G)) (hx : evs L xs = some [.int .u64 x] := by with_unfolding_all rfl) : vops P E (⟨none, dd, .pure d (.convI .u8) xs⟩ :: r) K (S L A G) := by
  refine o_pure hx ?_ h
  rw [x_convI]
  rw [wrap_u8]
  simp only [bv, UInt8.toNat_ofNat']
  congr 2
end
end Go.Proofs.Ytdeihgcgglhhcaa.V
