/- Numbers of a fixed length by their digits, as values. -/
import Derived.Test.YtdeihgcgglhhcaaPeCX
import Derived.Test.YtdeihgcgglhhcaaPeQA
set_option linter.unusedSimpArgs false
set_option linter.unusedVariables false
namespace Go.Proofs.Ytdeihgcgglhhcaa.V
open Go.RowKit
/-- The k lowest digits of a number, the lowest first. -/
def fd (B : Nat) : Nat → Nat → List Nat
  | 0, _ => []
  | k + 1, n => n % B :: fd B k (n / B)
theorem fd_len (B : Nat) : ∀ k n, (fd B k n).length = k
  | 0, _ => rfl
  | k + 1, n => by simp [fd, fd_len B k]
theorem fd_dl {B : Nat} (hB : 0 < B) : ∀ k n, Dl B (fd B k n)
  | 0, _ => fun x hx => by cases hx
  | k + 1, n => fun x hx => by
    rcases List.mem_cons.1 hx with rfl | hx
    · exact Nat.mod_lt _ hB
    · exact fd_dl hB k _ x hx
theorem val_fd (B : Nat) : ∀ k n, val B (fd B k n) = n % B ^ k
  | 0, n => by simp [fd, val, Nat.mod_one]
  | k + 1, n => by rw [fd, val, val_fd B k, Nat.pow_succ', Nat.mod_mul]
theorem fd_val {B : Nat} : ∀ {xs : List Nat}, Dl B xs → fd B xs.length (val B xs) = xs
  | [], _ => rfl
  | x :: xs, h => by
    have hx := h x List.mem_cons_self
    rw [List.length_cons, fd, val, Nat.add_mul_mod_self_left, Nat.mod_eq_of_lt hx, Nat.add_mul_div_left _ _ (by omega), Nat.div_eq_of_lt hx, Nat.zero_add, fd_val fun y hy => h y (List.mem_cons_of_mem _ hy)]
theorem fd_of {B k n : Nat} {xs : List Nat} (h : Dl B xs) (hl : xs.length = k) (hv : val B xs = n) : xs = fd B k n := by
  rw [← hl, ← hv, fd_val h]
theorem fd_getD (B : Nat) : ∀ {k i : Nat} (n : Nat), i < k → (fd B k n).getD i 0 = n / B ^ i % B
  | 0, _, _, h => by omega
  | k + 1, 0, n, _ => by simp [fd]
  | k + 1, i + 1, n, h => by
    rw [fd, List.getD_cons_succ, fd_getD B (n / B) (by omega), Nat.div_div_eq_div_mul, Nat.pow_succ']
theorem fd_lt {B : Nat} (hB : 0 < B) (k n i : Nat) : (fd B k n).getD i 0 < B := (fd_dl hB k n).getD hB i
/-- Numbers of 64 bits as cells; a number of four words, of eight words of 32 bits. -/
abbrev na (xs : List Nat) : Array Value := (xs.map (iv .u64)).toArray
abbrev nv (n : Nat) : Value := .agg (na (fd 18446744073709551616 4 n))
abbrev fw (n : Nat) : Value := .agg (na (fd 4294967296 8 n))
section
variable {P : Program} {E : Env} {K : St → Prop} {r : List Stp} {dd : Option Nat} {L : SL} {A : AL} {G : GH}
theorem s_nsubL {d : Nat} {b : Operand} {y n : Nat} (h : vops P E r K (S (.set d (iv .i64 ((OfNat.ofNat n : Nat) - y)) L) A G)) (hx : evo L b = some (.int .i64 y) := by with_unfolding_all rfl) (h1 : y ≤ (OfNat.ofNat n : Nat) := by omega) (h2 : (OfNat.ofNat n : Nat) < 9223372036854775808 := by omega) : vops P E (⟨none, dd, .pure d (.bin .sub) [.const (.int .i64 (OfNat.ofNat n)), b]⟩ :: r) K (S L A G) := by
  refine o_pure (vs := [iv .i64 n, iv .i64 y]) ?_ (nsub n y h1 h2) h
  simp only [evs, hx]
  rfl
theorem evsL {L : SL} {b : Operand} {v c : Value} (h : evo L b = some v) : evs L [.const c, b] = some [c, v] := by
  simp only [evs, h]
  rfl
theorem s_waddL {d : Nat} {b : Operand} {y n : Nat} (h : vops P E r K (S (.set d (iv .u64 (((OfNat.ofNat n : Nat) + y) % 18446744073709551616)) L) A G)) (hx : evo L b = some (.int .u64 y) := by with_unfolding_all rfl) : vops P E (⟨none, dd, .pure d (.bin .add) [.const (.int .u64 (OfNat.ofNat n)), b]⟩ :: r) K (S L A G) := o_pure (evsL (c := iv .u64 n) hx) (wadd n y) h
theorem s_wsubL {d : Nat} {b : Operand} {y n : Nat} (h : vops P E r K (S (.set d (iv .u64 (((OfNat.ofNat n : Nat) + 18446744073709551616 - y) % 18446744073709551616)) L) A G)) (hx : evo L b = some (.int .u64 y) := by with_unfolding_all rfl) (hy : y ≤ 18446744073709551616 := by omega) : vops P E (⟨none, dd, .pure d (.bin .sub) [.const (.int .u64 (OfNat.ofNat n)), b]⟩ :: r) K (S L A G) := o_pure (evsL (c := iv .u64 n) hx) (wsub n y hy) h
theorem s_lloadV {d k s0 i : Nat} {ws : List Nat} (h : vops P E r K (S (.set d (iv .u64 (ws.getD i 0)) L) A G)) (hp : L.get s0 = some (iv .u64 i) := by with_unfolding_all rfl) (hc : A.get k = some (na ws) := by with_unfolding_all rfl) (hl : i < ws.length := by first | omega | (simp only [List.length_set]; omega)) : vops P E (⟨none, dd, .lload d k s0 1 false⟩ :: r) K (S L A G) :=
  o_lload hp hc (by rw [x_take1, List.getElem?_toArray, Int.toNat_natCast, nu_get ws hl]) h
theorem s_lstoreV {k s0 i : Nat} {x : Operand} {v : Nat} {ws : List Nat} (h : vops P E r K (S L (.set k (na (ws.set i v)) A) G)) (hp : L.get s0 = some (iv .u64 i) := by with_unfolding_all rfl) (hc : A.get k = some (na ws) := by with_unfolding_all rfl) (hx : evo L x = some (.int .u64 v) := by with_unfolding_all rfl) (hl : i < ws.length := by first | omega | (simp only [List.length_set]; omega)) : vops P E (⟨none, dd, .lstore k s0 1 x⟩ :: r) K (S L A G) := by
  refine o_lstore (vs := [iv .u64 v]) hp hc hx rfl ⟨rfl, ?_, rfl⟩ ?_ h
  · simp; omega
  · simp only [wr, na]
    rw [List.map_set]
    simp
theorem s_lloadVc {d k s0 n : Nat} {ws : List Nat} (h : vops P E r K (S (.set d (iv .u64 (ws.getD (OfNat.ofNat n : Nat) 0)) L) A G)) (hp : L.get s0 = some (.int .u64 (OfNat.ofNat n)) := by with_unfolding_all rfl) (hc : A.get k = some (na ws) := by with_unfolding_all rfl) (hl : (OfNat.ofNat n : Nat) < ws.length := by first | omega | (simp only [List.length_set]; omega)) : vops P E (⟨none, dd, .lload d k s0 1 false⟩ :: r) K (S L A G) := s_lloadV (i := (OfNat.ofNat n : Nat)) h hp hc hl
theorem s_lstoreVc {k s0 n : Nat} {x : Operand} {v : Nat} {ws : List Nat} (h : vops P E r K (S L (.set k (na (ws.set (OfNat.ofNat n : Nat) v)) A) G)) (hp : L.get s0 = some (.int .u64 (OfNat.ofNat n)) := by with_unfolding_all rfl) (hc : A.get k = some (na ws) := by with_unfolding_all rfl) (hx : evo L x = some (.int .u64 v) := by with_unfolding_all rfl) (hl : (OfNat.ofNat n : Nat) < ws.length := by first | omega | (simp only [List.length_set]; omega)) : vops P E (⟨none, dd, .lstore k s0 1 x⟩ :: r) K (S L A G) := s_lstoreV (i := (OfNat.ofNat n : Nat)) h hp hc hx hl
theorem s_lloadW {d k s0 n : Nat} {ws : List Nat} (h : vops P E r K (S (.set d (.agg (na ws)) L) A G)) (hp : L.get s0 = some (.int .u64 0) := by with_unfolding_all rfl) (hc : A.get k = some (na ws) ∧ ws.length = n := by (refine ⟨by with_unfolding_all rfl, ?_⟩; first | assumption | exact fd_len _ _ _ | with_unfolding_all rfl)) : vops P E (⟨none, dd, .lload d k s0 n true⟩ :: r) K (S L A G) :=
  o_lload hp hc.1 (by rw [← hc.2]; have := x_takeA (cs := na ws) (n := ws.length) (by simp); exact this) h
theorem s_lstoreW {k s0 n : Nat} {x : Operand} {ws vs : List Nat} (h : vops P E r K (S L (.set k (na vs) A) G)) (hp : L.get s0 = some (.int .u64 0) := by with_unfolding_all rfl) (hc : A.get k = some (na ws) ∧ ws.length = n := by (refine ⟨by with_unfolding_all rfl, ?_⟩; first | assumption | exact fd_len _ _ _ | with_unfolding_all rfl)) (hx : evo L x = some (.agg (na vs)) ∧ vs.length = n := by (refine ⟨by with_unfolding_all rfl, ?_⟩; first | assumption | exact fd_len _ _ _ | with_unfolding_all rfl)) : vops P E (⟨none, dd, .lstore k s0 n x⟩ :: r) K (S L A G) := by
  refine o_lstoreA (y := .agg (na vs)) hp hc.1 hx.1 rfl (by simpa using hx.2) (by simpa using hc.2.symm) (nu_cells _ _) h
theorem s_lboxW {d k : Nat} {x : Operand} {ws : List Nat} {ts : List Nat} (h : vops P E r K (S (.set d (.int .u64 0) (.kill ts L)) (.set k (na ws) A) G)) (hx : evo L x = some (.agg (na ws)) := by with_unfolding_all rfl) (ho : onceE E.env = true := by with_unfolding_all rfl) (hk : slotsOf E.env k = some ts := by with_unfolding_all rfl) : vops P E (⟨none, dd, .lbox d k x⟩ :: r) K (S L A G) := o_lbox ho hk hx rfl h
end
theorem na_ext {xs : List Nat} {n : Nat} (h : xs.length = n) : (na xs).extract 0 n = na xs := by
  subst h; have : xs.length = (na xs).size := by simp
  rw [this, Array.extract_size]
theorem fd_ex {B k : Nat} {o : List Nat} (hd : Dl B o) (hl : o.length = k) : ∃ m, m < B ^ k ∧ o = fd B k m := ⟨val B o, by rw [← hl]; exact val_lt hd, fd_of hd hl rfl⟩
theorem agg_eq {B k m n : Nat} (h : m = n) : Value.agg ((na (fd B k m)).extract 0 k) = .agg (na (fd B k n)) := by rw [h, na_ext (fd_len _ _ _)]
/-- Equal rows of numbers. -/
def shN : Nat → Nat → Sh
  | _, 0 => .nil
  | i, n + 1 => .one i 1 false .leafI (shN (i + 1) n)
theorem eqSh_na (xs ys : List Nat) : ∀ n i, i + n = xs.length → xs.length = ys.length → eqSh (shN i n) (.agg (na xs)) (.agg (na ys)) = some (decide (xs.drop i = ys.drop i))
  | 0, i, h, hl => by
    rw [List.drop_of_length_le (by omega), List.drop_of_length_le (by omega)]; rfl
  | n + 1, i, h, hl => by
    have ih := eqSh_na xs ys n (i + 1) (by omega) hl
    have h1 : i < xs.length := by omega
    have h2 : i < ys.length := by omega
    show (match takeV false (na xs) i 1, takeV false (na ys) i 1 with
      | some u, some v => match eqSh .leafI u v, eqSh (shN (i + 1) n) (.agg (na xs)) (.agg (na ys)) with
        | some a, some b => some (a && b)
        | _, _ => none
      | _, _ => none) = _
    rw [x_take1, x_take1, List.getElem?_toArray, List.getElem?_toArray, nu_get xs h1, nu_get ys h2]
    simp only [ih, eqSh, kindEq, List.getD_eq_getElem?_getD, List.getElem?_eq_getElem h1, List.getElem?_eq_getElem h2, Option.getD_some, List.drop_eq_getElem_cons h1, List.drop_eq_getElem_cons h2, List.cons.injEq]
    show some (((xs[i] : Int) == (ys[i] : Int)) && decide (List.drop (i + 1) xs = List.drop (i + 1) ys)) = _
    congr 1
    rw [Bool.eq_iff_iff, Bool.and_eq_true, beq_iff_eq, decide_eq_true_eq, decide_eq_true_eq, Int.ofNat_inj]
theorem fd_inj {B k m n : Nat} (hm : m < B ^ k) (hn : n < B ^ k) (h : fd B k m = fd B k n) : m = n := by
  have e1 := val_fd B k m
  have e2 := val_fd B k n
  rw [h, e2, Nat.mod_eq_of_lt hm, Nat.mod_eq_of_lt hn] at e1
  exact e1.symm
theorem eq_fd (B k m n : Nat) (hm : m < B ^ k) (hn : n < B ^ k) : pureV (.eqA false (shN 0 k)) [.agg (na (fd B k m)), .agg (na (fd B k n))] = some (.bool (decide (m = n))) := by
  rw [x_eqA, eqSh_na _ _ k 0 (by rw [fd_len]; omega) (by rw [fd_len, fd_len])]
  simp only [List.drop_zero, Option.map_some]
  congr 2
  simp only [Bool.false_eq_true, if_false, decide_eq_decide]
  exact ⟨fd_inj hm hn, fun h => by rw [h]⟩
section
variable {P : Program} {E : Env} {K : St → Prop} {r : List Stp} {dd : Option Nat} {L : SL} {A : AL} {G : GH}
theorem s_eqN {d B k m n : Nat} {sh : Sh} {xs : List Operand} (h : vops P E r K (S (.set d (.bool (decide (m = n))) L) A G)) (hx : evs L xs = some [.agg (na (fd B k m)), .agg (na (fd B k n))] := by with_unfolding_all rfl) (hs : sh = shN 0 k := by with_unfolding_all rfl) (hm : m < B ^ k := by assumption) (hn : n < B ^ k := by assumption) : vops P E (⟨none, dd, .pure d (.eqA false sh) xs⟩ :: r) K (S L A G) := by
  subst hs
  exact o_pure hx (eq_fd B k m n hm hn) h
end
end Go.Proofs.Ytdeihgcgglhhcaa.V
