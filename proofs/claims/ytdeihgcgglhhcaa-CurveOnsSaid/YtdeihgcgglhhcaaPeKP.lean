/- Points and places: built, compared. -/
import Derived.Test.YtdeihgcgglhhcaaPeKN
set_option linter.unusedSimpArgs false
set_option linter.unusedVariables false
set_option maxRecDepth 20000
-- @nums
namespace Go.Proofs.Ytdeihgcgglhhcaa.V
open Go.RowKit Go.ChangeShapes Go.WideShapes
theorem fold_wr : ∀ (vs : List Value) (o k : Nat) (cs : Array Value), (vs.zipIdx k).foldl (fun cs (x : Value × Nat) => cs.setIfInBounds (o + x.2) x.1) cs = wr cs (o + k) vs
  | [], o, k, cs => rfl
  | v :: vs, o, k, cs => by
    rw [List.zipIdx_cons, List.foldl_cons, fold_wr vs o (k + 1)]; rfl
theorem fold_wrA (vs : List Value) (o : Nat) (cs : Array Value) : vs.toArray.zipIdx.foldl (fun cs (x : Value × Nat) => cs.setIfInBounds (o + x.2) x.1) cs = wr cs o vs := by
  have := fold_wr vs o 0 cs
  rw [Nat.add_zero] at this
  rw [← this, ← Array.foldl_toList, Array.toList_zipIdx]
theorem wrV : ∀ (ws l : List Value) (q : Nat), q + ws.length ≤ l.length → wr l.toArray q ws = (l.take q ++ (ws ++ l.drop (q + ws.length))).toArray
  | [], l, q, h => by simp [wr]
  | w :: ws, l, q, h => by
    have h' : q + (ws.length + 1) ≤ l.length := h
    show wr (l.toArray.setIfInBounds q w) (q + 1) ws = _
    rw [List.setIfInBounds_toArray, wrV ws (l.set q w) (q + 1) (by simp; omega)]
    have e1 : (l.set q w).take (q + 1) = l.take q ++ [w] := by
      rw [List.take_succ_eq_append_getElem (by simp; omega), List.take_set_of_le (Nat.le_refl _)]
      simp
    have e2 : (l.set q w).drop (q + 1 + ws.length) = l.drop (q + (ws.length + 1)) := by
      rw [List.drop_set_of_lt (by omega), show q + 1 + ws.length = q + (ws.length + 1) by omega]
    rw [e1, e2, List.append_assoc]; rfl
theorem fill_step {o n : Nat} {ps : List (Nat × Nat)} {v : Value} {vs l ws : List Value} (hv : v.cells = ws.toArray) (hn : ws.length = n) (hl : o + n ≤ l.length) : fillV ((o, n) :: ps) (v :: vs) l.toArray = fillV ps vs (l.take o ++ (ws ++ l.drop (o + n))).toArray := by
  subst hn
  show (if v.cells.size ≠ ws.length ∨ o + v.cells.size > l.toArray.size then none else fillV ps vs (v.cells.zipIdx.foldl (fun cs (x : Value × Nat) => cs.setIfInBounds (o + x.2) x.1) l.toArray)) = _
  rw [hv, if_neg (by simp; omega), fold_wrA, wrV ws l o hl]
def z0 : List UInt8 := List.replicate 32 0
theorem z0_len : z0.length = 32 := rfl
def zp : List Value := List.replicate 64 (bv 0) ++ [.bool false]
theorem build3 {x y : List UInt8} {i : Bool} (hx : x.length = 32) (hy : y.length = 32) : pureV (.build zp.toArray [(0, 32), (32, 32), (64, 1)]) [dK x, dK y, .bool i] = some (pnt x y i) := by
  show (fillV _ _ zp.toArray).map Value.agg = _
  rw [fill_step (ws := x.map bv) rfl (by simp [hx]) (by simp [zp]), fill_step (ws := y.map bv) rfl (by simp [hy]) (by simp [zp, hx]), fill_step (n := 1) (ws := [.bool i]) rfl rfl (by simp [zp, hx, hy])]
  show some (Value.agg _) = some (Value.agg (pcells x y i))
  have e1 : List.take 64 (List.map bv x) = List.map bv x := List.take_of_length_le (by simp [hx])
  have e2 : List.drop 65 (List.map bv x) = [] := List.drop_of_length_le (by simp [hx])
  have e3 : List.drop 33 (List.map bv y) = [] := List.drop_of_length_le (by simp [hy])
  simp [pcells, zp, hx, hy, List.take_append, List.drop_append, e1, e2, e3]
theorem build2 {x y : List UInt8} (hx : x.length = 32) (hy : y.length = 32) : pureV (.build zp.toArray [(0, 32), (32, 32)]) [dK x, dK y] = some (pnt x y false) := by
  show (fillV _ _ zp.toArray).map Value.agg = _
  rw [fill_step (ws := x.map bv) rfl (by simp [hx]) (by simp [zp]), fill_step (ws := y.map bv) rfl (by simp [hy]) (by simp [zp, hx])]
  show some (Value.agg _) = some (Value.agg (pcells x y false))
  simp [pcells, zp, hx, hy, List.take_append, List.drop_append]
theorem build1 {i : Bool} : pureV (.build zp.toArray [(64, 1)]) [.bool i] = some (pnt z0 z0 i) := rfl
theorem build0 : pureV (.build zp.toArray []) [] = some (pnt z0 z0 false) := rfl
/-- Equal rows of bytes. -/
theorem eqSh_bca (xs ys : List UInt8) : ∀ n i, i + n = xs.length → xs.length = ys.length → eqSh (shN i n) (dK xs) (dK ys) = some (decide (xs.drop i = ys.drop i))
  | 0, i, h, hl => by
    rw [List.drop_of_length_le (by omega), List.drop_of_length_le (by omega)]; rfl
  | n + 1, i, h, hl => by
    have ih := eqSh_bca xs ys n (i + 1) (by omega) hl
    have h1 : i < xs.length := by omega
    have h2 : i < ys.length := by omega
    show (match takeV false (bca xs) i 1, takeV false (bca ys) i 1 with
      | some u, some v => match eqSh .leafI u v, eqSh (shN (i + 1) n) (dK xs) (dK ys) with
        | some a, some b => some (a && b)
        | _, _ => none
      | _, _ => none) = _
    rw [x_take1, x_take1, bca_get h1, bca_get h2]
    simp only [ih, bv, eqSh, kindEq, List.getD_eq_getElem?_getD, List.getElem?_eq_getElem h1, List.getElem?_eq_getElem h2, Option.getD_some, List.drop_eq_getElem_cons h1, List.drop_eq_getElem_cons h2, List.cons.injEq]
    show some ((((xs[i]).toNat : Int) == ((ys[i]).toNat : Int)) && decide (List.drop (i + 1) xs = List.drop (i + 1) ys)) = _
    congr 1
    rw [Bool.eq_iff_iff, Bool.and_eq_true, beq_iff_eq, decide_eq_true_eq, decide_eq_true_eq, Int.ofNat_inj, UInt8.toNat_inj]
def shP : Sh := .one 0 32 true (shN 0 32) (.one 32 32 true (shN 0 32) (.one 64 1 false .leafB .nil))
theorem eqSh_p {x y x' y' : List UInt8} {i i' : Bool} (hx : x.length = 32) (hy : y.length = 32) (hx' : x'.length = 32) (hy' : y'.length = 32) : eqSh shP (pnt x y i) (pnt x' y' i') = some (decide (x = x' ∧ y = y' ∧ i = i')) := by
  have e1 := eqSh_bca x x' 32 0 (by omega) (by omega)
  have e2 := eqSh_bca y y' 32 0 (by omega) (by omega)
  simp only [List.drop_zero] at e1 e2
  show (match takeV true (pcells x y i) 0 32, takeV true (pcells x' y' i') 0 32 with
    | some u, some v => match eqSh (shN 0 32) u v, (match takeV true (pcells x y i) 32 32, takeV true (pcells x' y' i') 32 32 with
        | some u, some v => match eqSh (shN 0 32) u v, (match takeV false (pcells x y i) 64 1, takeV false (pcells x' y' i') 64 1 with
            | some u, some v => match eqSh .leafB u v, some true with
              | some a, some b => some (a && b)
              | _, _ => none
            | _, _ => none) with
          | some a, some b => some (a && b)
          | _, _ => none
        | _, _ => none) with
      | some a, some b => some (a && b)
      | _, _ => none
    | _, _ => none) = _
  rw [take_x hx, take_x hx', take_y hx hy, take_y hx' hy', take_i hx hy, take_i hx' hy']
  simp only [e1, e2]
  show some (decide (x = x') && (decide (y = y') && ((i == i') && true))) = _
  congr 1
  rw [Bool.eq_iff_iff]
  simp
section
variable {P : Program} {E : Env} {K : St → Prop} {r : List Stp} {dd : Option Nat} {L : SL} {A : AL} {G : GH}
theorem s_bp3 {d : Nat} {z : Array Value} {xs : List Operand} {x y : List UInt8} {i : Bool} (h : vops P E r K (S (.set d (pnt x y i) L) A G)) (hx : evs L xs = some [dK x, dK y, .bool i] := by with_unfolding_all rfl) (hz : z = zp.toArray := by with_unfolding_all rfl) (hl : x.length = 32 ∧ y.length = 32 := by constructor <;> assumption) : vops P E (⟨none, dd, .pure d (.build z [(0, 32), (32, 32), (64, 1)]) xs⟩ :: r) K (S L A G) := by
  subst hz; exact o_pure hx (build3 hl.1 hl.2) h
theorem s_bp2 {d : Nat} {z : Array Value} {xs : List Operand} {x y : List UInt8} (h : vops P E r K (S (.set d (pnt x y false) L) A G)) (hx : evs L xs = some [dK x, dK y] := by with_unfolding_all rfl) (hz : z = zp.toArray := by with_unfolding_all rfl) (hl : x.length = 32 ∧ y.length = 32 := by constructor <;> first | assumption | exact beN_len _ _) : vops P E (⟨none, dd, .pure d (.build z [(0, 32), (32, 32)]) xs⟩ :: r) K (S L A G) := by
  subst hz; exact o_pure hx (build2 hl.1 hl.2) h
theorem s_bp1 {d : Nat} {z : Array Value} {xs : List Operand} {i : Bool} (h : vops P E r K (S (.set d (pnt z0 z0 i) L) A G)) (hx : evs L xs = some [.bool i] := by with_unfolding_all rfl) (hz : z = zp.toArray := by with_unfolding_all rfl) : vops P E (⟨none, dd, .pure d (.build z [(64, 1)]) xs⟩ :: r) K (S L A G) := by
  subst hz; exact o_pure hx build1 h
theorem s_bp0 {d : Nat} {z : Array Value} (h : vops P E r K (S (.set d (pnt z0 z0 false) L) A G)) (hz : z = zp.toArray := by with_unfolding_all rfl) : vops P E (⟨none, dd, .pure d (.build z []) []⟩ :: r) K (S L A G) := by
  subst hz; exact o_pure (vs := []) rfl build0 h
theorem s_eqP {d : Nat} {sh : Sh} {xs : List Operand} {x y x' y' : List UInt8} {i i' : Bool} (h : vops P E r K (S (.set d (.bool (decide (x = x' ∧ y = y' ∧ i = i'))) L) A G)) (hx : evs L xs = some [pnt x y i, pnt x' y' i'] := by with_unfolding_all rfl) (hs : sh = shP := by with_unfolding_all rfl) (hl : (x.length = 32 ∧ y.length = 32) ∧ x'.length = 32 ∧ y'.length = 32 := by (refine ⟨⟨?_, ?_⟩, ?_, ?_⟩ <;> first | assumption | exact z0_len | exact beN_len _ _)) : vops P E (⟨none, dd, .pure d (.eqA false sh) xs⟩ :: r) K (S L A G) := by
  subst hs
  exact o_pure hx (by rw [x_eqA, eqSh_p hl.1.1 hl.1.2 hl.2.1 hl.2.2]; rfl) h
theorem s_eqD {d : Nat} {sh : Sh} {xs : List Operand} {x y : List UInt8} (h : vops P E r K (S (.set d (.bool (decide (x = y))) L) A G)) (hx : evs L xs = some [dK x, dK y] := by with_unfolding_all rfl) (hs : sh = shN 0 32 := by with_unfolding_all rfl) (hl : x.length = 32 ∧ y.length = 32 := by constructor <;> first | assumption | exact z0_len | exact beN_len _ _) : vops P E (⟨none, dd, .pure d (.eqA false sh) xs⟩ :: r) K (S L A G) := by
  subst hs
  refine o_pure hx ?_ h
  have := eqSh_bca x y 32 0 (by omega) (by omega)
  rw [x_eqA, this]; rfl
theorem s_eqF {d : Nat} {sh : Sh} {xs : List Operand} {x y : Fp} {u v : Value} (h : vops P E r K (S (.set d (.bool (decide (x = y))) L) A G)) (hx : evs L xs = some [u, v] ∧ u = fv x ∧ v = fv y := by (refine ⟨by with_unfolding_all rfl, ?_, ?_⟩ <;> with_reducible rfl)) (hs : sh = shN 0 4 := by with_unfolding_all rfl) : vops P E (⟨none, dd, .pure d (.eqA false sh) xs⟩ :: r) K (S L A G) := by
  subst hs
  obtain ⟨hx, rfl, rfl⟩ := hx
  have := eq_fd 18446744073709551616 4 (mo x) (mo y) (mo_ltT x) (mo_ltT y)
  have e : decide (mo x = mo y) = decide (x = y) := by rw [decide_eq_decide]; exact ⟨mo_inj, fun h => by rw [h]⟩
  rw [e] at this
  exact o_pure hx this h
theorem s_eqM {d : Nat} {sh : Sh} {xs : List Operand} {x y : Fp} {u v : Value} (h : vops P E r K (S (.set d (.bool (decide (x = y))) L) A G)) (hx : evs L xs = some [u, v] ∧ u = fm x ∧ v = fm y := by (refine ⟨by with_unfolding_all rfl, ?_, ?_⟩ <;> with_reducible rfl)) (hs : sh = shN 0 8 := by with_unfolding_all rfl) : vops P E (⟨none, dd, .pure d (.eqA false sh) xs⟩ :: r) K (S L A G) := by
  subst hs
  obtain ⟨hx, rfl, rfl⟩ := hx
  have := eq_fd 4294967296 8 (mo x) (mo y) (mo_ltT x) (mo_ltT y)
  have e : decide (mo x = mo y) = decide (x = y) := by rw [decide_eq_decide]; exact ⟨mo_inj, fun h => by rw [h]⟩
  rw [e] at this
  exact o_pure hx this h
end
theorem k_trim {K : St → Prop} {L : SL} {A : AL} {G : GH} (kv : List (Nat × Value)) (la : List (Nat × Array Value)) (hs : hasS L.fn kv) (hl : hasL A.fn la) (h : ∀ s l, K (S (SL.sets s kv) (AL.sets l la) G)) : K (S L A G) := by
  rw [show S L A G = S (SL.sets L.fn kv) (AL.sets A.fn la) G from st_eq (st := S L A G) hs hl]
  exact h L.fn A.fn
end Go.Proofs.Ytdeihgcgglhhcaa.V
