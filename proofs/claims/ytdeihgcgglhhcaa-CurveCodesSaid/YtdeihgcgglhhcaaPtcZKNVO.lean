/- Points as they come in and go out. -/
import Derived.Test.YtdeihgcgglhhcaaPtcZKDKM
import Derived.Test.YtdeihgcgglhhcaaPtcVL
section
set_option linter.unusedSimpArgs false
set_option linter.unusedVariables false
set_option maxRecDepth 20000
-- @nums
namespace Go.Proofs.Ytdeihgcgglhhcaa.V
open Go.RowKit Go.ChangeShapes Go.WideShapes
/-- A point: two rows of 32 bytes, and whether it is the far one. -/
def pcells (x y : List UInt8) (i : Bool) : Array Value := (x.map bv ++ (y.map bv ++ [Value.bool i])).toArray
def pnt (x y : List UInt8) (i : Bool) : Value := .agg (pcells x y i)
theorem pcells_size {x y : List UInt8} {i : Bool} (hx : x.length = 32) (hy : y.length = 32) : (pcells x y i).size = 65 := by simp [pcells, hx, hy]
theorem take_x {x y : List UInt8} {i : Bool} (hx : x.length = 32) : takeV true (pcells x y i) 0 32 = some (dK x) := by
  have h2 : 0 + 32 ≤ (pcells x y i).size := by simp [pcells, hx]
  show (if 0 + 32 ≤ (pcells x y i).size then some (Value.agg ((pcells x y i).extract 0 (0 + 32))) else none) = _
  rw [if_pos h2]
  congr 2
  simp only [pcells, List.extract_toArray, List.extract_eq_take_drop]
  congr 1
  simp [hx]
theorem take_y {x y : List UInt8} {i : Bool} (hx : x.length = 32) (hy : y.length = 32) : takeV true (pcells x y i) 32 32 = some (dK y) := by
  have h2 : 32 + 32 ≤ (pcells x y i).size := by simp [pcells, hx, hy]
  show (if 32 + 32 ≤ (pcells x y i).size then some (Value.agg ((pcells x y i).extract 32 (32 + 32))) else none) = _
  rw [if_pos h2]
  congr 2
  simp only [pcells, List.extract_toArray, List.extract_eq_take_drop]
  congr 1
  have e : (List.map bv x).length = 32 := by simp [hx]
  rw [List.drop_append_of_le_length (by omega), List.drop_of_length_le (by omega), List.nil_append]
  simp [hy]
theorem take_i {x y : List UInt8} {i : Bool} (hx : x.length = 32) (hy : y.length = 32) : takeV false (pcells x y i) 64 1 = some (.bool i) := by
  rw [x_take1]
  simp [pcells, hx, hy]
theorem take_p {x y : List UInt8} {i : Bool} (hx : x.length = 32) (hy : y.length = 32) : takeV true (pcells x y i) 0 65 = some (pnt x y i) := by
  exact x_takeA (cs := pcells x y i) (pcells_size hx hy)
theorem pcells_one (x y : List UInt8) (i : Bool) : cells1 (x.map bv ++ (y.map bv ++ [Value.bool i])) = true := by
  simp [cells1, bv, Value.oneCell']
section
variable {P : Program} {E : Env} {K : St → Prop} {r : List Stp} {dd : Option Nat} {L : SL} {A : AL} {G : GH} {x y : List UInt8} {i : Bool}
theorem s_lloadPX {d k s0 : Nat} (h : vops P E r K (S (.set d (dK x) L) A G)) (hp : L.get s0 = some (.int .u64 0) := by with_unfolding_all rfl) (hc : A.get k = some (pcells x y i) := by with_unfolding_all rfl) (hx : x.length = 32 := by assumption) : vops P E (⟨none, dd, .lload d k s0 32 true⟩ :: r) K (S L A G) := o_lload hp hc (take_x hx) h
theorem s_lloadPY {d k s0 : Nat} (h : vops P E r K (S (.set d (dK y) L) A G)) (hp : L.get s0 = some (.int .u64 32) := by with_unfolding_all rfl) (hc : A.get k = some (pcells x y i) := by with_unfolding_all rfl) (hx : x.length = 32 ∧ y.length = 32 := by constructor <;> assumption) : vops P E (⟨none, dd, .lload d k s0 32 true⟩ :: r) K (S L A G) := o_lload hp hc (take_y hx.1 hx.2) h
theorem s_lloadPI {d k s0 : Nat} (h : vops P E r K (S (.set d (.bool i) L) A G)) (hp : L.get s0 = some (.int .u64 64) := by with_unfolding_all rfl) (hc : A.get k = some (pcells x y i) := by with_unfolding_all rfl) (hx : x.length = 32 ∧ y.length = 32 := by constructor <;> assumption) : vops P E (⟨none, dd, .lload d k s0 1 false⟩ :: r) K (S L A G) := o_lload hp hc (take_i hx.1 hx.2) h
theorem s_lloadPP {d k s0 : Nat} (h : vops P E r K (S (.set d (pnt x y i) L) A G)) (hp : L.get s0 = some (.int .u64 0) := by with_unfolding_all rfl) (hc : A.get k = some (pcells x y i) := by with_unfolding_all rfl) (hx : x.length = 32 ∧ y.length = 32 := by constructor <;> assumption) : vops P E (⟨none, dd, .lload d k s0 65 true⟩ :: r) K (S L A G) := o_lload hp hc (take_p hx.1 hx.2) h
theorem s_lboxP {d k : Nat} {o : Operand} {ts : List Nat} (h : vops P E r K (S (.set d (.int .u64 0) (.kill ts L)) (.set k (pcells x y i) A) G)) (hx : evo L o = some (pnt x y i) := by with_unfolding_all rfl) (ho : onceE E.env = true := by with_unfolding_all rfl) (hk : slotsOf E.env k = some ts := by with_unfolding_all rfl) : vops P E (⟨none, dd, .lbox d k o⟩ :: r) K (S L A G) := o_lbox ho hk hx rfl h
theorem s_lstoreP {k s0 : Nat} {o : Operand} {cs : Array Value} (h : vops P E r K (S L (.set k (pcells x y i) A) G)) (hp : L.get s0 = some (.int .u64 0) := by with_unfolding_all rfl) (hx : evo L o = some (pnt x y i) := by with_unfolding_all rfl) (hc : A.get k = some cs ∧ cs.size = 65 := by (refine ⟨by with_unfolding_all rfl, ?_⟩; first | with_unfolding_all rfl | exact pcells_size (by assumption) (by assumption))) (hl : x.length = 32 ∧ y.length = 32 := by constructor <;> assumption) : vops P E (⟨none, dd, .lstore k s0 65 o⟩ :: r) K (S L A G) := by
  refine o_lstoreA (y := pnt x y i) hp hc.1 hx rfl (by simp [hl.1, hl.2]) hc.2.symm (pcells_one _ _ _) h
end
theorem p_ext {x y : List UInt8} {i : Bool} (hx : x.length = 32) (hy : y.length = 32) : Value.agg ((pcells x y i).extract 0 65) = pnt x y i := by
  have := pcells_size (i := i) hx hy
  rw [← this, Array.extract_size]; rfl
section
variable {L : SL} {A : AL} {G : GH} {x y : List UInt8} {i : Bool} {R : Value → GH → Prop}
theorem rvo_p {a k : Nat} (ha : L.get a = some (.int .u64 0)) (hk : A.get k = some (pcells x y i)) (hx : x.length = 32) (hy : y.length = 32) : rvo L A (.loc a k 65) = some (pnt x y i) := by
  have h1 : Nat.ble 65 (pcells x y i).size = true := by rw [pcells_size hx hy]; rfl
  simp only [rvo, ha, hk, h1, p_ext hx hy]
theorem s_retP1 {a k : Nat} {e : Exit} (h : R (pnt x y i) G) (he : e = .ret ∨ e = .normal := by first | exact .inl rfl | exact .inr rfl) (ha : L.get a = some (.int .u64 0) := by with_unfolding_all rfl) (hk : A.get k = some (pcells x y i) := by with_unfolding_all rfl) (hl : x.length = 32 ∧ y.length = 32 := by constructor <;> first | assumption | with_unfolding_all rfl) : endQ [.loc a k 65] R e (S L A G) := by
  rcases he with rfl | rfl
  · exact q_ret (vs := [pnt x y i]) (by simp only [rvos, rvo_p ha hk hl.1 hl.2]) h
  · exact q_normal (vs := [pnt x y i]) (by simp only [rvos, rvo_p ha hk hl.1 hl.2]) h
theorem s_retP2 {a k t : Nat} {v : Value} {e : Exit} (h : R (.tuple #[pnt x y i, v]) G) (he : e = .ret ∨ e = .normal := by first | exact .inl rfl | exact .inr rfl) (ha : L.get a = some (.int .u64 0) := by with_unfolding_all rfl) (hk : A.get k = some (pcells x y i) := by with_unfolding_all rfl) (ht : L.get t = some v := by with_unfolding_all rfl) (hl : x.length = 32 ∧ y.length = 32 := by constructor <;> first | assumption | with_unfolding_all rfl) : endQ [.loc a k 65, .slot t] R e (S L A G) := by
  have hr : rvos L A [.loc a k 65, .slot t] = some [pnt x y i, v] := by
    have e1 := rvo_p (L := L) (A := A) ha hk hl.1 hl.2
    have e2 : rvo L A (.slot t) = some v := ht
    simp only [rvos, e1, e2]
  rcases he with rfl | rfl
  · exact q_ret (vs := [pnt x y i, v]) hr h
  · exact q_normal (vs := [pnt x y i, v]) hr h
end
end Go.Proofs.Ytdeihgcgglhhcaa.V
end
section
/- Points and places: built, compared. -/
set_option linter.unusedSimpArgs false
set_option linter.unusedVariables false
set_option maxRecDepth 20000
-- @nums
namespace Go.Proofs.Ytdeihgcgglhhcaa.V
open Go.RowKit Go.ChangeShapes Go.WideShapes
theorem fold_wr : ∀ (vs : List Value) (o k : Nat) (cs : Array Value), (vs.zipIdx k).foldl (fun cs (x : Value × Nat) => cs.setIfInBounds (o + x.2) x.1) cs = wr cs (o + k) vs
  | [], o, k, cs => rfl
  | v :: vs, o, k, cs => by
    rw [List.zipIdx_cons, List.foldl_cons, fold_wr vs o (k + 1)]; rfl
theorem fold_wrA (vs : List Value) (o : Nat) (cs : Array Value) : vs.toArray.zipIdx.foldl (fun cs (x : Value × Nat) => cs.setIfInBounds (o + x.2) x.1) cs = wr cs o vs := by
  have := fold_wr vs o 0 cs
  rw [Nat.add_zero] at this
  rw [← this, ← Array.foldl_toList, Array.toList_zipIdx]
theorem wrV : ∀ (ws l : List Value) (q : Nat), q + ws.length ≤ l.length → wr l.toArray q ws = (l.take q ++ (ws ++ l.drop (q + ws.length))).toArray
  | [], l, q, h => by simp [wr]
  | w :: ws, l, q, h => by
    have h' : q + (ws.length + 1) ≤ l.length := h
    show wr (l.toArray.setIfInBounds q w) (q + 1) ws = _
    rw [List.setIfInBounds_toArray, wrV ws (l.set q w) (q + 1) (by simp; omega)]
    have e1 : (l.set q w).take (q + 1) = l.take q ++ [w] := by
      rw [List.take_succ_eq_append_getElem (by simp; omega), List.take_set_of_le (Nat.le_refl _)]
      simp
    have e2 : (l.set q w).drop (q + 1 + ws.length) = l.drop (q + (ws.length + 1)) := by
      rw [List.drop_set_of_lt (by omega), show q + 1 + ws.length = q + (ws.length + 1) by omega]
    rw [e1, e2, List.append_assoc]; rfl
theorem fill_step {o n : Nat} {ps : List (Nat × Nat)} {v : Value} {vs l ws : List Value} (hv : v.cells = ws.toArray) (hn : ws.length = n) (hl : o + n ≤ l.length) : fillV ((o, n) :: ps) (v :: vs) l.toArray = fillV ps vs (l.take o ++ (ws ++ l.drop (o + n))).toArray := by
  subst hn
  show (if v.cells.size ≠ ws.length ∨ o + v.cells.size > l.toArray.size then none else fillV ps vs (v.cells.zipIdx.foldl (fun cs (x : Value × Nat) => cs.setIfInBounds (o + x.2) x.1) l.toArray)) = _
  rw [hv, if_neg (by simp; omega), fold_wrA, wrV ws l o hl]
def z0 : List UInt8 := List.replicate 32 0
theorem z0_len : z0.length = 32 := rfl
def zp : List Value := List.replicate 64 (bv 0) ++ [.bool false]
theorem build3 {x y : List UInt8} {i : Bool} (hx : x.length = 32) (hy : y.length = 32) : pureV (.build zp.toArray [(0, 32), (32, 32), (64, 1)]) [dK x, dK y, .bool i] = some (pnt x y i) := by
  show (fillV _ _ zp.toArray).map Value.agg = _
  rw [fill_step (ws := x.map bv) rfl (by simp [hx]) (by simp [zp]), fill_step (ws := y.map bv) rfl (by simp [hy]) (by simp [zp, hx]), fill_step (n := 1) (ws := [.bool i]) rfl rfl (by simp [zp, hx, hy])]
  show some (Value.agg _) = some (Value.agg (pcells x y i))
  have e1 : List.take 64 (List.map bv x) = List.map bv x := List.take_of_length_le (by simp [hx])
  have e2 : List.drop 65 (List.map bv x) = [] := List.drop_of_length_le (by simp [hx])
  have e3 : List.drop 33 (List.map bv y) = [] := List.drop_of_length_le (by simp [hy])
  simp [pcells, zp, hx, hy, List.take_append, List.drop_append, e1, e2, e3]
theorem build2 {x y : List UInt8} (hx : x.length = 32) (hy : y.length = 32) : pureV (.build zp.toArray [(0, 32), (32, 32)]) [dK x, dK y] = some (pnt x y false) := by
  show (fillV _ _ zp.toArray).map Value.agg = _
  rw [fill_step (ws := x.map bv) rfl (by simp [hx]) (by simp [zp]), fill_step (ws := y.map bv) rfl (by simp [hy]) (by simp [zp, hx])]
  show some (Value.agg _) = some (Value.agg (pcells x y false))
  simp [pcells, zp, hx, hy, List.take_append, List.drop_append]
theorem build1 {i : Bool} : pureV (.build zp.toArray [(64, 1)]) [.bool i] = some (pnt z0 z0 i) := rfl
theorem build0 : pureV (.build zp.toArray []) [] = some (pnt z0 z0 false) := rfl
/-- Equal rows of bytes. -/
theorem eqSh_bca (xs ys : List UInt8) : ∀ n i, i + n = xs.length → xs.length = ys.length → eqSh (shN i n) (dK xs) (dK ys) = some (decide (xs.drop i = ys.drop i))
  | 0, i, h, hl => by
    rw [List.drop_of_length_le (by omega), List.drop_of_length_le (by omega)]; rfl
  | n + 1, i, h, hl => by
    have ih := eqSh_bca xs ys n (i + 1) (by omega) hl
    have h1 : i < xs.length := by omega
    have h2 : i < ys.length := by omega
    show (match takeV false (bca xs) i 1, takeV false (bca ys) i 1 with
      | some u, some v => match eqSh .leafI u v, eqSh (shN (i + 1) n) (dK xs) (dK ys) with
        | some a, some b => some (a && b)
        | _, _ => none
      | _, _ => none) = _
    rw [x_take1, x_take1, bca_get h1, bca_get h2]
    simp only [ih, bv, eqSh, kindEq, List.getD_eq_getElem?_getD, List.getElem?_eq_getElem h1, List.getElem?_eq_getElem h2, Option.getD_some, List.drop_eq_getElem_cons h1, List.drop_eq_getElem_cons h2, List.cons.injEq]
    show some ((((xs[i]).toNat : Int) == ((ys[i]).toNat : Int)) && decide (List.drop (i + 1) xs = List.drop (i + 1) ys)) = _
    congr 1
    rw [Bool.eq_iff_iff, Bool.and_eq_true, beq_iff_eq, decide_eq_true_eq, decide_eq_true_eq, Int.ofNat_inj, UInt8.toNat_inj]
def shP : Sh := .one 0 32 true (shN 0 32) (.one 32 32 true (shN 0 32) (.one 64 1 false .leafB .nil))
theorem eqSh_p {x y x' y' : List UInt8} {i i' : Bool} (hx : x.length = 32) (hy : y.length = 32) (hx' : x'.length = 32) (hy' : y'.length = 32) : eqSh shP (pnt x y i) (pnt x' y' i') = some (decide (x = x' ∧ y = y' ∧ i = i')) := by
  have e1 := eqSh_bca x x' 32 0 (by omega) (by omega)
  have e2 := eqSh_bca y y' 32 0 (by omega) (by omega)
  simp only [List.drop_zero] at e1 e2
  show (match takeV true (pcells x y i) 0 32, takeV true (pcells x' y' i') 0 32 with
    | some u, some v => match eqSh (shN 0 32) u v, (match takeV true (pcells x y i) 32 32, takeV true (pcells x' y' i') 32 32 with
        | some u, some v => match eqSh (shN 0 32) u v, (match takeV false (pcells x y i) 64 1, takeV false (pcells x' y' i') 64 1 with
            | some u, some v => match eqSh .leafB u v, some true with
              | some a, some b => some (a && b)
              | _, _ => none
            | _, _ => none) with
          | some a, some b => some (a && b)
          | _, _ => none
        | _, _ => none) with
      | some a, some b => some (a && b)
      | _, _ => none
    | _, _ => none) = _
  rw [take_x hx, take_x hx', take_y hx hy, take_y hx' hy', take_i hx hy, take_i hx' hy']
  simp only [e1, e2]
  show some (decide (x = x') && (decide (y = y') && ((i == i') && true))) = _
  congr 1
  rw [Bool.eq_iff_iff]
  simp
section
variable {P : Program} {E : Env} {K : St → Prop} {r : List Stp} {dd : Option Nat} {L : SL} {A : AL} {G : GH}
theorem s_bp3 {d : Nat} {z : Array Value} {xs : List Operand} {x y : List UInt8} {i : Bool} (h : vops P E r K (S (.set d (pnt x y i) L) A G)) (hx : evs L xs = some [dK x, dK y, .bool i] := by with_unfolding_all rfl) (hz : z = zp.toArray := by with_unfolding_all rfl) (hl : x.length = 32 ∧ y.length = 32 := by constructor <;> assumption) : vops P E (⟨none, dd, .pure d (.build z [(0, 32), (32, 32), (64, 1)]) xs⟩ :: r) K (S L A G) := by
  subst hz; exact o_pure hx (build3 hl.1 hl.2) h
theorem s_bp2 {d : Nat} {z : Array Value} {xs : List Operand} {x y : List UInt8} (h : vops P E r K (S (.set d (pnt x y false) L) A G)) (hx : evs L xs = some [dK x, dK y] := by with_unfolding_all rfl) (hz : z = zp.toArray := by with_unfolding_all rfl) (hl : x.length = 32 ∧ y.length = 32 := by constructor <;> first | assumption | exact beN_len _ _) : vops P E (⟨none, dd, .pure d (.build z [(0, 32), (32, 32)]) xs⟩ :: r) K (S L A G) := by
  subst hz; exact o_pure hx (build2 hl.1 hl.2) h
theorem s_bp1 {d : Nat} {z : Array Value} {xs : List Operand} {i : Bool} (h : vops P E r K (S (.set d (pnt z0 z0 i) L) A G)) (hx : evs L xs = some [.bool i] := by with_unfolding_all rfl) (hz : z = zp.toArray := by with_unfolding_all rfl) : vops P E (⟨none, dd, .pure d (.build z [(64, 1)]) xs⟩ :: r) K (S L A G) := by
  subst hz; exact o_pure hx build1 h
theorem s_bp0 {d : Nat} {z : Array Value} (h : vops P E r K (S (.set d (pnt z0 z0 false) L) A G)) (hz : z = zp.toArray := by with_unfolding_all rfl) : vops P E (⟨none, dd, .pure d (.build z []) []⟩ :: r) K (S L A G) := by
  subst hz; exact o_pure (vs := []) rfl build0 h
theorem s_eqP {d : Nat} {sh : Sh} {xs : List Operand} {x y x' y' : List UInt8} {i i' : Bool} (h : vops P E r K (S (.set d (.bool (decide (x = x' ∧ y = y' ∧ i = i'))) L) A G)) (hx : evs L xs = some [pnt x y i, pnt x' y' i'] := by with_unfolding_all rfl) (hs : sh = shP := by with_unfolding_all rfl) (hl : (x.length = 32 ∧ y.length = 32) ∧ x'.length = 32 ∧ y'.length = 32 := by (refine ⟨⟨?_, ?_⟩, ?_, ?_⟩ <;> first | assumption | exact z0_len | exact beN_len _ _)) : vops P E (⟨none, dd, .pure d (.eqA false sh) xs⟩ :: r) K (S L A G) := by
  subst hs
  exact o_pure hx (by rw [x_eqA, eqSh_p hl.1.1 hl.1.2 hl.2.1 hl.2.2]; rfl) h
theorem s_eqD {d : Nat} {sh : Sh} {xs : List Operand} {x y : List UInt8} (h : vops P E r K (S (.set d (.bool (decide (x = y))) L) A G)) (hx : evs L xs = some [dK x, dK y] := by with_unfolding_all rfl) (hs : sh = shN 0 32 := by with_unfolding_all rfl) (hl : x.length = 32 ∧ y.length = 32 := by constructor <;> first | assumption | exact z0_len | exact beN_len _ _) : vops P E (⟨none, dd, .pure d (.eqA false sh) xs⟩ :: r) K (S L A G) := by
  subst hs
  refine o_pure hx ?_ h
  have := eqSh_bca x y 32 0 (by omega) (by omega)
  rw [x_eqA, this]; rfl
theorem s_eqF {d : Nat} {sh : Sh} {xs : List Operand} {x y : Fp} {u v : Value} (h : vops P E r K (S (.set d (.bool (decide (x = y))) L) A G)) (hx : evs L xs = some [u, v] ∧ u = fv x ∧ v = fv y := by (refine ⟨by with_unfolding_all rfl, ?_, ?_⟩ <;> with_reducible rfl)) (hs : sh = shN 0 4 := by with_unfolding_all rfl) : vops P E (⟨none, dd, .pure d (.eqA false sh) xs⟩ :: r) K (S L A G) := by
  subst hs
  obtain ⟨hx, rfl, rfl⟩ := hx
  have := eq_fd 18446744073709551616 4 (mo x) (mo y) (mo_ltT x) (mo_ltT y)
  have e : decide (mo x = mo y) = decide (x = y) := by rw [decide_eq_decide]; exact ⟨mo_inj, fun h => by rw [h]⟩
  rw [e] at this
  exact o_pure hx this h
theorem s_eqM {d : Nat} {sh : Sh} {xs : List Operand} {x y : Fp} {u v : Value} (h : vops P E r K (S (.set d (.bool (decide (x = y))) L) A G)) (hx : evs L xs = some [u, v] ∧ u = fm x ∧ v = fm y := by (refine ⟨by with_unfolding_all rfl, ?_, ?_⟩ <;> with_reducible rfl)) (hs : sh = shN 0 8 := by with_unfolding_all rfl) : vops P E (⟨none, dd, .pure d (.eqA false sh) xs⟩ :: r) K (S L A G) := by
  subst hs
  obtain ⟨hx, rfl, rfl⟩ := hx
  have := eq_fd 4294967296 8 (mo x) (mo y) (mo_ltT x) (mo_ltT y)
  have e : decide (mo x = mo y) = decide (x = y) := by rw [decide_eq_decide]; exact ⟨mo_inj, fun h => by rw [h]⟩
  rw [e] at this
  exact o_pure hx this h
end
theorem k_trim {K : St → Prop} {L : SL} {A : AL} {G : GH} (kv : List (Nat × Value)) (la : List (Nat × Array Value)) (hs : hasS L.fn kv) (hl : hasL A.fn la) (h : ∀ s l, K (S (SL.sets s kv) (AL.sets l la) G)) : K (S L A G) := by
  rw [show S L A G = S (SL.sets L.fn kv) (AL.sets A.fn la) G from st_eq (st := S L A G) hs hl]
  exact h L.fn A.fn
end Go.Proofs.Ytdeihgcgglhhcaa.V
end
section
/- Is a point one of the curve: the program's at, the document's On. -/
set_option linter.unusedSimpArgs false
set_option linter.unusedVariables false
set_option maxRecDepth 20000
-- @nums
-- @extra s_eqP s_eqF s_eqM s_eqD s_nilck s_fptr0
-- @pre g_lload s_lloadL s_lloadF s_lloadM s_lloadPI s_lloadPX s_lloadPY s_lloadPP
-- @pre g_lstore s_lstoreL s_lstoreF s_lstoreM s_lstoreP
-- @pre g_lbox s_lboxF s_lboxP
-- @pre g_build s_bl3 s_bl1 s_bl0 s_bp3 s_bp2 s_bp1 s_bp0
namespace Go.Proofs.Ytdeihgcgglhhcaa.V
open Go.RowKit Go.ChangeShapes Go.WideShapes
/-- Do two numbers lie on the curve? -/
def onC (X Y : Fp) : Bool := decide (Y * Y = X * X * X - (X + X + X) + of co256)
def onP (x y : List UInt8) (i : Bool) : Bool := if i then decide (x = z0 ∧ y = z0) else decide (be x < p256) && (decide (be y < p256) && onC (of (be x)) (of (be y)))
theorem len4 (X : Fp) : ((fd 18446744073709551616 4 (mo X)).map (iv .u64)).length = 4 := by simp [fd_len]
/-- A place: three numbers. -/
def lcells (X Y Z : Fp) : Array Value := ((fd 18446744073709551616 4 (mo X)).map (iv .u64) ++ ((fd 18446744073709551616 4 (mo Y)).map (iv .u64) ++ (fd 18446744073709551616 4 (mo Z)).map (iv .u64))).toArray
def plc (X Y Z : Fp) : Value := .agg (lcells X Y Z)
theorem pure_build' (z : Array Value) (ps : List (Nat × Nat)) (vs : List Value) : pureV (.build z ps) vs = (fillV ps vs z).map .agg := rfl
def zl : List Value := List.replicate 12 (iv .u64 0)
theorem build_l3 {a b c : List Value} {u v w : Value} (hu : u.cells = a.toArray) (hv : v.cells = b.toArray) (hw : w.cells = c.toArray) (ha : a.length = 4) (hb : b.length = 4) (hc : c.length = 4) : pureV (.build zl.toArray [(0, 4), (4, 4), (8, 4)]) [u, v, w] = some (.agg (a ++ (b ++ c)).toArray) := by
  rw [pure_build', fill_step hu ha (by simp [zl]), fill_step hv hb (by simp [zl, ha]), fill_step hw hc (by simp [zl, ha, hb])]
  have e1 : List.take 8 a = a := List.take_of_length_le (by omega)
  have e2 : List.drop 12 a = [] := List.drop_of_length_le (by omega)
  have e3 : List.drop 8 b = [] := List.drop_of_length_le (by omega)
  show some (Value.agg _) = _
  simp [zl, List.take_append, List.drop_append, ha, hb, hc, e1, e2, e3]
theorem build_l1 {b : List Value} {v : Value} (hv : v.cells = b.toArray) (hb : b.length = 4) : pureV (.build zl.toArray [(4, 4)]) [v] = some (.agg ([iv .u64 0, iv .u64 0, iv .u64 0, iv .u64 0] ++ (b ++ [iv .u64 0, iv .u64 0, iv .u64 0, iv .u64 0])).toArray) := by
  rw [pure_build', fill_step hv hb (by simp [zl])]
  rfl
theorem fd_mo0 : (fd 18446744073709551616 4 (mo 0)).map (iv .u64) = [iv .u64 0, iv .u64 0, iv .u64 0, iv .u64 0] := rfl
theorem buildL3 (X Y Z : Fp) : pureV (.build zl.toArray [(0, 4), (4, 4), (8, 4)]) [fv X, fv Y, fv Z] = some (plc X Y Z) := build_l3 rfl rfl rfl (len4 X) (len4 Y) (len4 Z)
theorem buildL1 (Y : Fp) : pureV (.build zl.toArray [(4, 4)]) [fv Y] = some (plc 0 Y 0) := by
  have := build_l1 (v := fv Y) (b := (fd 18446744073709551616 4 (mo Y)).map (iv .u64)) rfl (len4 Y)
  rw [this]
  unfold plc lcells
  rw [fd_mo0]
theorem buildL0 : pureV (.build zl.toArray []) [] = some (plc 0 0 0) := by
  unfold plc lcells
  rw [fd_mo0]; rfl
theorem lc_size (X Y Z : Fp) : (lcells X Y Z).size = 12 := by simp [lcells, fd_len]
section
variable {P : Program} {E : Env} {K : St → Prop} {r : List Stp} {dd : Option Nat} {L : SL} {A : AL} {G : GH}
theorem s_bl3 {d : Nat} {z : Array Value} {xs : List Operand} {X Y Z : Fp} {u v w : Value} (h : vops P E r K (S (.set d (plc X Y Z) L) A G)) (hx : evs L xs = some [u, v, w] ∧ u = fv X ∧ v = fv Y ∧ w = fv Z := by (refine ⟨by with_unfolding_all rfl, ?_, ?_, ?_⟩ <;> with_reducible rfl)) (hz : z = zl.toArray := by with_unfolding_all rfl) : vops P E (⟨none, dd, .pure d (.build z [(0, 4), (4, 4), (8, 4)]) xs⟩ :: r) K (S L A G) := by
  subst hz
  obtain ⟨hx, rfl, rfl, rfl⟩ := hx
  exact o_pure hx (buildL3 X Y Z) h
theorem s_bl1 {d : Nat} {z : Array Value} {xs : List Operand} {Y : Fp} {u : Value} (h : vops P E r K (S (.set d (plc 0 Y 0) L) A G)) (hx : evs L xs = some [u] ∧ u = fv Y := by (refine ⟨by with_unfolding_all rfl, ?_⟩; with_reducible rfl)) (hz : z = zl.toArray := by with_unfolding_all rfl) : vops P E (⟨none, dd, .pure d (.build z [(4, 4)]) xs⟩ :: r) K (S L A G) := by
  subst hz
  obtain ⟨hx, rfl⟩ := hx
  exact o_pure hx (buildL1 Y) h
theorem s_bl0 {d : Nat} {z : Array Value} (h : vops P E r K (S (.set d (plc 0 0 0) L) A G)) (hz : z = zl.toArray := by with_unfolding_all rfl) : vops P E (⟨none, dd, .pure d (.build z []) []⟩ :: r) K (S L A G) := by
  subst hz
  exact o_pure (vs := []) rfl buildL0 h
theorem s_lstoreL {k s0 : Nat} {o : Operand} {X Y Z : Fp} {v : Value} {cs : Array Value} (h : vops P E r K (S L (.set k (lcells X Y Z) A) G)) (hp : L.get s0 = some (.int .u64 0) := by with_unfolding_all rfl) (hx : evo L o = some v ∧ v = plc X Y Z := by (refine ⟨by with_unfolding_all rfl, ?_⟩; with_reducible rfl)) (hc : A.get k = some cs ∧ cs.size = 12 := by (refine ⟨by with_unfolding_all rfl, ?_⟩; first | exact lc_size _ _ _ | with_unfolding_all rfl)) : vops P E (⟨none, dd, .lstore k s0 12 o⟩ :: r) K (S L A G) := by
  refine o_lstoreA (y := plc X Y Z) hp hc.1 (by rw [hx.1, hx.2]) rfl (by simp [fd_len]) hc.2.symm ?_ h
  simp [cells1, Value.oneCell']
theorem s_lloadL {d k s0 : Nat} {X Y Z : Fp} {cs : Array Value} (h : vops P E r K (S (.set d (plc X Y Z) L) A G)) (hp : L.get s0 = some (.int .u64 0) := by with_unfolding_all rfl) (hc : A.get k = some cs ∧ cs = lcells X Y Z := by (refine ⟨by with_unfolding_all rfl, ?_⟩; with_reducible rfl)) : vops P E (⟨none, dd, .lload d k s0 12 true⟩ :: r) K (S L A G) :=
  o_lload hp hc.1 (by rw [hc.2]; exact x_takeA (cs := lcells X Y Z) (lc_size X Y Z)) h
end
theorem l_ext (X Y Z : Fp) : Value.agg ((lcells X Y Z).extract 0 12) = plc X Y Z := by
  have h := lc_size X Y Z
  have := Array.extract_size (xs := lcells X Y Z)
  rw [h] at this
  rw [this]; rfl
/-- Where a point lies, or that it is none of the curve. -/
def atV (x y : List UInt8) (i : Bool) : Value := if i then .tuple #[plc 0 1 0, .bool (decide (x = z0 ∧ y = z0))] else if be x < p256 ∧ be y < p256 then .tuple #[plc (of (be x)) (of (be y)) 1, .bool (onC (of (be x)) (of (be y)))] else .tuple #[plc 0 0 0, .bool false]
theorem farF (G : GH) : HC Try.prog 33 #[] G fun v G' => v = plc 0 1 0 ∧ G.le G' := by
  refine HC.start comp33 rfl ?_; unfold pc33
  (repeat' (first | (with_reducible refine i_ops ?_; first | refine o_nil ?_ | (refine g_build ?_; first | refine s_bl1 ?_ | refine s_buildP ?_) | (refine g_lstore ?_; refine s_lstoreL ?_) | (refine g_lalloc ?_; refine s_lalloc ?_) | refine o_callp qrf (by exact squareK _) ?_ | (refine o_callg qrf (by exact timesSq1 _) ?_; intro G' hle)) | (with_reducible refine i_vc ?_; first | refine v_seq ?_ | refine v_ops ?_ | refine v_ret ?_) | (with_reducible refine n_then ?_) | ((with_reducible refine s_ret ?_); try simp only [x_tup0, x_tup1, x_tup2, x_tup3, x_tup4, x_tup5, and_true, true_and])))
  rw [l_ext]
  exact ⟨rfl, by assumption⟩
theorem atF (x y : List UInt8) (i : Bool) (G : GH) (hx : x.length = 32) (hy : y.length = 32) : HC Try.prog 34 #[pnt x y i] G fun v G' => v = atV x y i ∧ G.le G' := by
  refine HC.start comp34 rfl ?_; unfold pc34
  (repeat' (first | (with_reducible refine i_ops ?_; first | (refine g_mv ?_; refine s_mv ?_) | refine o_nil ?_ | (refine g_some ?_; first | refine s_g_t ?_ | refine s_g_f' ?_) | (refine g_pick ?_; first | refine s_pick_t ?_ | refine s_pick_f ?_) | (refine g_build ?_; first | refine s_bl3 ?_ | refine s_bl0 ?_ | refine s_bp1 ?_ | refine s_buildP ?_) | (refine g_pure ?_; first | refine s_eqP ?_ | refine s_eqF ?_ | refine s_pure ?_) | (refine g_lfield ?_; refine s_lfield ?_) | (refine g_lload ?_; first | refine s_lloadF ?_ | refine s_lloadPI ?_ | refine s_lloadPX ?_ | refine s_lloadPY ?_ | refine s_lloadPP ?_) | (refine g_lstore ?_; first | refine s_lstoreL ?_ | refine s_lstoreF ?_) | (refine g_lalloc ?_; refine s_lalloc ?_) | (refine g_lbox ?_; refine s_lboxP ?_) | refine o_callp qrf (by first | exact threeF _ _ | exact minusF _ _ _ | exact plusF _ _ _) ?_ | (refine o_callg qrf (by first | exact readF _ _ hx | exact readF _ _ hy | exact timesF _ _ _ | exact coefficientF _) ?_; intro G' hle)) | (with_reducible refine i_vc ?_; first | refine v_seq ?_ | refine v_ops ?_ | (refine g_cond ?_; first | refine s_cond_t ?_ | refine s_cond_f ?_) | refine v_skip ?_ | refine v_ret ?_ | refine v_draw0 ?_) | (with_reducible refine i_plan ?_; first | refine p_done ?_ | refine s_pre ?_ | refine s_preN ?_ | refine p_callp qrf (by first | exact threeF _ _ | exact minusF _ _ _ | exact plusF _ _ _ | exact squareK _) qle ?_ p_no | (refine p_callg qrf (by first | exact farF _ | exact timesF _ _ _ | exact coefficientF _ | exact timesSq1 _) qle ?_ p_no; intro G' hle) | refine s_alt ?_ | refine p_alt ?_ ?_) | (with_reducible first | refine n_then ?_ | refine r_then ?_ | (refine g_stand ?_; first | refine s_stand ?_ | refine s_standL ?_)) | ((with_reducible first | refine s_g_c ?_ ?_ | refine s_cond_c ?_ ?_) <;> intro hb <;> rw [hb] <;> (try simp only [decide_eq_true_eq, decide_eq_false_iff_not, beq_iff_eq, bne_iff_ne, beq_eq_false_iff_ne, bne_eq_false_iff_eq, ne_eq, Int.not_lt, Int.not_le, gt_iff_lt, ge_iff_le, Bool.not_eq_true', Bool.not_eq_false'] at hb)) | ((with_reducible refine s_ret ?_); try simp only [x_tup0, x_tup1, x_tup2, x_tup3, x_tup4, x_tup5, and_true, true_and])))
  all_goals rw [l_ext]
  all_goals refine ⟨?_, qle⟩
  · rw [atV, if_pos rfl]
  · rw [atV, if_neg (by decide), if_neg (by omega)]
  · rw [atV, if_neg (by decide), if_neg (by omega)]
  all_goals rw [atV, if_neg (by decide), if_pos ⟨by assumption, by assumption⟩]; rfl
end Go.Proofs.Ytdeihgcgglhhcaa.V
end
section
/- On the curve or not: both answers. -/
set_option linter.unusedSimpArgs false
set_option linter.unusedVariables false
set_option maxRecDepth 20000
-- @nums
-- @extra s_eqP s_eqF s_eqM s_eqD s_nilck s_fptr0
-- @pre g_lload s_lloadL s_lloadF s_lloadM s_lloadPI s_lloadPX s_lloadPY s_lloadPP s_lloadV s_lloadVc s_lloadW
-- @pre g_lstore s_lstoreL s_lstoreF s_lstoreM s_lstoreP s_lstoreV s_lstoreVc s_lstoreW
-- @pre g_lbox s_lboxF s_lboxP s_lboxW
-- @pre g_build s_bl3 s_bl1 s_bl0 s_bp3 s_bp2 s_bp1 s_bp0
namespace Go.Proofs.Ytdeihgcgglhhcaa.V
open Go.RowKit Go.ChangeShapes Go.WideShapes
theorem ext1_at (x y : List UInt8) (i : Bool) : pureV (.ext 1) [atV x y i] = some (.bool (onP x y i)) := by
  unfold atV onP
  cases i with
  | true => rfl
  | false =>
    simp only [Bool.false_eq_true, if_false]
    by_cases h1 : be x < p256
    · by_cases h2 : be y < p256
      · rw [if_pos ⟨h1, h2⟩, decide_eq_true h1, decide_eq_true h2]; rfl
      · rw [if_neg (by omega), decide_eq_false h2]; simp; rfl
    · rw [if_neg (by omega), decide_eq_false h1]; rfl
/-- The place that at tells. -/
def at3 (x y : List UInt8) (i : Bool) : Fp × Fp × Fp := if i then (0, 1, 0) else if be x < p256 ∧ be y < p256 then (of (be x), of (be y), 1) else (0, 0, 0)
theorem atV_eq (x y : List UInt8) (i : Bool) : atV x y i = .tuple #[plc (at3 x y i).1 (at3 x y i).2.1 (at3 x y i).2.2, .bool (onP x y i)] := by
  have h := ext1_at x y i
  unfold atV at3 at *
  cases i with
  | true => rfl
  | false =>
    simp only [Bool.false_eq_true, if_false] at *
    split
    · rename_i h1
      rw [if_pos h1] at h
      have : Value.bool (onC (of (be x)) (of (be y))) = .bool (onP x y false) := Option.some.inj h
      rw [← this]
    · rename_i h1
      rw [if_neg h1] at h
      have : Value.bool false = .bool (onP x y false) := Option.some.inj h
      rw [← this]
theorem onF (x y : List UInt8) (i : Bool) (G : GH) (hx : x.length = 32) (hy : y.length = 32) : HC Try.prog 21 #[pnt x y i] G fun v G' => v = .bool (onP x y i) ∧ G.le G' := by
  have c1 := fun G => atF x y i G hx hy
  simp only [atV_eq] at c1
  refine HC.start comp21 rfl ?_; unfold pc21
  (repeat' (first | (with_reducible refine i_ops ?_; first | (refine g_mv ?_; refine s_mv ?_) | refine o_nil ?_ | (refine g_pure ?_; refine s_pure ?_) | (refine g_lload ?_; refine s_lloadPP ?_) | (refine g_lstore ?_; refine s_lstoreL ?_) | (refine g_lalloc ?_; refine s_lalloc ?_) | (refine g_lbox ?_; refine s_lboxP ?_) | (refine o_callg qrf (by exact c1 _) ?_; intro G' hle)) | (with_reducible refine i_vc ?_; first | refine v_seq ?_ | refine v_ops ?_ | refine v_ret ?_) | (with_reducible refine n_then ?_) | ((with_reducible refine s_ret ?_); try simp only [x_tup0, x_tup1, x_tup2, x_tup3, x_tup4, x_tup5, and_true, true_and])))
  assumption
end Go.Proofs.Ytdeihgcgglhhcaa.V
end
section
/- The document's constants, and the program's. -/
set_option linter.unusedSimpArgs false
set_option linter.unusedVariables false
set_option maxRecDepth 20000
-- @nums
-- @retp
-- @extra s_eqP s_eqD s_idxA4 s_naddc s_nadd s_nsub s_nsubL s_nmulL s_wshr s_tou8
-- @pre g_lload s_lloadPI s_lloadPX s_lloadPY s_lloadPP s_lloadK s_lloadD s_lloadV s_lloadVc s_lloadW
-- @pre g_lstore s_lstoreP s_lstoreK s_lstoreD s_lstoreV s_lstoreVc s_lstoreW
-- @pre g_lbox s_lboxP s_lboxD s_lboxW
-- @pre g_build s_bp3 s_bp2 s_bp1 s_bp0
namespace Go.Proofs.Ytdeihgcgglhhcaa.V
open Go.RowKit Go.ChangeShapes Go.WideShapes
def gx256 : Nat := 48439561293906451759052585252797914202762949526041747995844080717082404635286
def gy256 : Nat := 36134250956749795798585127919587881956611106672985015071877198253568414405109
section
variable {P : Program} {E : Env} {K : St → Prop} {r : List Stp} {dd : Option Nat} {L : SL} {A : AL} {G : GH}
theorem s_idxA4 {d len i : Nat} {x y : Operand} {k : IntKind} {ws : List Nat} (h : vops P E r K (S (.set d (iv .u64 (ws.getD i 0)) L) A G)) (hx : evo L x = some (.agg (na ws)) := by with_unfolding_all rfl) (hy : evo L y = some (.int k i) := by with_unfolding_all rfl) (hi : i < len := by omega) (hl : i < ws.length := by omega) : vops P E (⟨none, dd, .pure d (.idxA false len 1) [x, y]⟩ :: r) K (S L A G) := by
  refine o_pure (vs := [.agg (na ws), .int k i]) (by simp only [evs, hx, hy]) ?_ h
  show (if 0 ≤ (i : Int) ∧ (i : Int) < len then takeV false (na ws) (Int.toNat i * 1) 1 else none) = _
  rw [if_pos ⟨by omega, by omega⟩, x_take1, Int.toNat_natCast, Nat.mul_one, List.getElem?_toArray, nu_get ws hl]
theorem s_nmulL {d : Nat} {b : Operand} {y n : Nat} (h : vops P E r K (S (.set d (iv .i64 ((OfNat.ofNat n : Nat) * y)) L) A G)) (hx : evo L b = some (.int .i64 y) := by with_unfolding_all rfl) (h1 : (OfNat.ofNat n : Nat) * y < 9223372036854775808 := by omega) : vops P E (⟨none, dd, .pure d (.bin .mul) [.const (.int .i64 (OfNat.ofNat n)), b]⟩ :: r) K (S L A G) := o_pure (evsL (c := iv .i64 n) hx) (nmul n y h1) h
end
theorem orderF (G : GH) : HC Try.prog 26 #[] G fun v G' => v = dK (beN 32 n256) ∧ G' = G := by
  refine HC.start comp26 rfl ?_; unfold pc26
  (repeat' (first | (with_reducible refine i_ops ?_; first | refine o_nil ?_ | (refine g_build ?_; refine s_build ?_) | (refine g_lstore ?_; refine s_lstoreA ?_) | (refine g_lalloc ?_; refine s_lalloc ?_)) | (with_reducible refine i_vc ?_; first | refine v_seq ?_ | refine v_ops ?_ | refine v_ret ?_) | (with_reducible refine n_then ?_) | ((with_reducible refine s_ret ?_); try simp only [x_tup0, x_tup1, x_tup2, x_tup3, x_tup4, x_tup5, and_true, true_and])))
  kernel_rfl
theorem baseF (G : GH) : HC Try.prog 20 #[] G fun v G' => v = pnt (beN 32 gx256) (beN 32 gy256) false ∧ G' = G := by
  refine HC.start comp20 rfl ?_; unfold pc20
  (repeat' (first | (with_reducible refine i_ops ?_; first | refine o_nil ?_ | (refine g_build ?_; refine s_build ?_) | (refine g_lalloc ?_; refine s_lalloc ?_)) | (with_reducible refine i_vc ?_; first | refine v_seq ?_ | refine v_ops ?_) | (with_reducible refine n_then ?_)))
  refine s_bp2 (x := beN 32 gx256) (y := beN 32 gy256) ?_ (by kernel_rfl)
  have l1 := beN_len 32 gx256
  have l2 := beN_len 32 gy256
  (repeat' (first | (with_reducible refine i_ops ?_; first | refine o_nil ?_ | (refine g_lstore ?_; refine s_lstoreP ?_)) | (with_reducible refine i_vc ?_; refine v_ret ?_) | (with_reducible refine n_then ?_) | ((with_reducible refine s_retP1 ?_); try simp only [x_tup0, x_tup1, x_tup2, x_tup3, x_tup4, x_tup5, and_true, true_and])))
end Go.Proofs.Ytdeihgcgglhhcaa.V
end
section
/- Points read. -/
set_option linter.unusedSimpArgs false
set_option linter.unusedVariables false
set_option maxRecDepth 20000
-- @retp
-- @s2a
-- @extra s_eqP s_eqD s_naddc s_nadd s_naddL
-- @pre g_lload s_lloadPI s_lloadPX s_lloadPY s_lloadPP
-- @pre g_lstore s_lstoreP s_lstorePX s_lstorePY
-- @pre g_lbox s_lboxP
-- @pre g_build s_bp3 s_bp2 s_bp1 s_bp0
namespace Go.Proofs.Ytdeihgcgglhhcaa.V
open Go.RowKit Go.ChangeShapes Go.WideShapes
theorem By.arr {G : GH} {u : Value} {bs : List UInt8} {n : Nat} (h : By G u bs) (hn : n ≠ 0) (hl : n ≤ bs.length) : ∃ p, pureV (.s2a n) [u] = some p ∧ PtR G p n true (dK (bs.take n)) := by
  obtain ⟨a, cap, e, h1, h2, h3, h4⟩ := Sl.slice h
  have hlen : lenS u = bs.length := by simpa using h3.symm
  rw [hlen] at e h1 h4
  obtain ⟨b, q, rfl⟩ := h4 (by omega)
  have hr := h.rd
  rw [e] at hr
  rcases rd_some hr with ⟨h5, _⟩ | ⟨_, cs, t, fr, hG, hs, hx⟩
  · omega
  refine ⟨.pointer (some ⟨b, q, none⟩), ?_, b, q, cs, t, fr, rfl, hG, ?_⟩
  · rw [e]
    show (if n ≤ bs.length then some (Value.pointer (some ⟨b, q, none⟩)) else none) = _
    rw [if_pos hl]
  · show (if q + n ≤ cs.size then some (Value.agg (cs.extract q (q + n))) else none) = _
    rw [if_pos (by omega)]
    congr 2
    apply Array.ext'
    show _ = (bs.take n).map bv
    rw [List.map_take, hx]
    simp only [Array.toList_extract, List.extract_eq_take_drop, Nat.mul_one, List.take_take]
    congr 1
    omega
section
variable {P : Program} {E : Env} {K : St → Prop} {r : List Stp} {dd : Option Nat} {L : SL} {A : AL} {G : GH}
theorem g_s2a {d n : Nat} {x : Operand} (h : vops P E (⟨none, dd, .pure d (.s2a n) [x]⟩ :: r) K (S L A G)) : vops P E (⟨none, dd, .pure d (.s2a n) [x]⟩ :: r) K (S L A G) := h
theorem s_s2aB {d n : Nat} {x : Operand} {u : Value} {bs : List UInt8} (h : ∀ p, PtR G p n true (dK (bs.take n)) → vops P E r K (S (.set d p L) A G)) (hx : evo L x = some u := by with_unfolding_all rfl) (hb : By G u bs := by assumption) (hn : n ≠ 0 := by decide) (hl : n ≤ bs.length := by first | omega | (simp only [List.length_take, List.length_drop]; omega)) : vops P E (⟨none, dd, .pure d (.s2a n) [x]⟩ :: r) K (S L A G) := by
  obtain ⟨p, h1, h2⟩ := hb.arr hn hl
  exact o_pure (vs := [u]) (by simp only [evs, hx]) h1 (h p h2)
theorem s_naddL {d : Nat} {b : Operand} {y n : Nat} (h : vops P E r K (S (.set d (iv .i64 ((OfNat.ofNat n : Nat) + y)) L) A G)) (hx : evo L b = some (.int .i64 y) := by with_unfolding_all rfl) (h1 : (OfNat.ofNat n : Nat) + y < 9223372036854775808 := by omega) : vops P E (⟨none, dd, .pure d (.bin .add) [.const (.int .i64 (OfNat.ofNat n)), b]⟩ :: r) K (S L A G) := o_pure (evsL (c := iv .i64 n) hx) (nadd n y h1) h
theorem pcells_x {x y : List UInt8} {f : Bool} {i : Nat} (h : i < x.length) (v : UInt8) : wr (pcells x y f) i [bv v] = pcells (x.set i v) y f := by
  show (pcells x y f).setIfInBounds i (bv v) = _
  unfold pcells
  rw [List.setIfInBounds_toArray, List.set_append_left _ _ (by simpa using h), List.map_set]
theorem pcells_y {x y : List UInt8} {f : Bool} {i : Nat} (hx : x.length = 32) (h : i < y.length) (v : UInt8) : wr (pcells x y f) (32 + i) [bv v] = pcells x (y.set i v) f := by
  show (pcells x y f).setIfInBounds (32 + i) (bv v) = _
  unfold pcells
  rw [List.setIfInBounds_toArray, List.set_append_right _ _ (by simp [hx]), List.length_map, hx, show 32 + i - 32 = i by omega, List.set_append_left _ _ (by simpa using h), List.map_set]
theorem s_lstorePX {k s0 i : Nat} {o : Operand} {v : UInt8} {x y : List UInt8} {f : Bool} (h : vops P E r K (S L (.set k (pcells (x.set i v) y f) A) G)) (hp : L.get s0 = some (iv .u64 i) := by with_unfolding_all rfl) (hc : A.get k = some (pcells x y f) := by with_unfolding_all rfl) (hx : evo L o = some (bv v) := by with_unfolding_all rfl) (hl : x.length = 32 ∧ y.length = 32 := by constructor <;> assumption) (hi : i < 32 := by omega) : vops P E (⟨none, dd, .lstore k s0 1 o⟩ :: r) K (S L A G) := by
  refine o_lstore (vs := [bv v]) hp hc hx rfl ⟨rfl, ?_, rfl⟩ ?_ h
  · rw [pcells_size hl.1 hl.2, Int.toNat_natCast]; omega
  · rw [Int.toNat_natCast, pcells_x (by omega)]
theorem s_lstorePY {k s0 i : Nat} {o : Operand} {v : UInt8} {x y : List UInt8} {f : Bool} (h : vops P E r K (S L (.set k (pcells x (y.set i v) f) A) G)) (hp : L.get s0 = some (.int .u64 (32 + (i : Int))) := by with_unfolding_all rfl) (hc : A.get k = some (pcells x y f) := by with_unfolding_all rfl) (hx : evo L o = some (bv v) := by with_unfolding_all rfl) (hl : x.length = 32 ∧ y.length = 32 := by (constructor <;> first | assumption | (simp only [List.length_set]; assumption))) (hi : i < 32 := by omega) : vops P E (⟨none, dd, .lstore k s0 1 o⟩ :: r) K (S L A G) := by
  have e : Int.toNat (32 + (i : Int)) = 32 + i := by omega
  refine o_lstore (vs := [bv v]) hp hc hx rfl ⟨rfl, ?_, rfl⟩ ?_ h
  · rw [pcells_size hl.1 hl.2, e]; omega
  · rw [e, pcells_y hl.1 (by omega)]
end
/-- Bytes, read as a point. -/
def decV (bs : List UInt8) : Value := if bs.length = 65 ∧ bs.getD 0 0 = 4 then (if onP ((bs.drop 1).take 32) ((bs.drop 33).take 32) false then .tuple #[pnt ((bs.drop 1).take 32) ((bs.drop 33).take 32) false, .int .i64 0] else .tuple #[pnt z0 z0 false, .int .i64 100]) else .tuple #[pnt z0 z0 false, .int .i64 20]
theorem four_eq {b : UInt8} (h : (b.toNat : Int) = 4) : b = 4 := UInt8.toNat_inj.1 (show b.toNat = 4 by omega)
theorem four_ne {b : UInt8} (h : ¬(b.toNat : Int) = 4) : b ≠ 4 := fun e => h (by rw [e]; rfl)
theorem decodeF (u : Value) (bs : List UInt8) (G : GH) (hB : By G u bs) : HC Try.prog 9 #[u] G fun v G' => v = decV bs ∧ G.le G' := by
  refine HC.start comp9 rfl ?_; unfold pc9
  (repeat' (first | (with_reducible refine i_ops ?_; first | (refine g_s2a ?_; refine s_s2aB ?_; intro p hp) | (refine g_mv ?_; refine s_mv ?_) | refine o_nil ?_ | (refine g_some ?_; first | refine s_g_t ?_ | refine s_g_f' ?_) | (refine g_pick ?_; first | refine s_pick_t ?_ | refine s_pick_f ?_) | (refine g_len ?_; refine s_lenB ?_) | (refine g_idx ?_; (refine s_idxB ?_; intro p hp)) | (refine g_slc ?_; ((first | refine s_slcB ?_ | refine s_slcB01 ?_ | refine s_slcB10 ?_); intro us hus hbs)) | (refine g_build ?_; refine s_bp0 ?_) | (refine g_pure ?_; refine s_pure ?_) | (refine g_lstore ?_; refine s_lstoreA ?_) | (refine g_lalloc ?_; refine s_lalloc ?_) | (refine g_hload ?_; refine s_hloadP ?_)) | (with_reducible refine i_vc ?_; first | refine v_seq ?_ | refine v_ops ?_ | (refine g_cond ?_; first | refine s_cond_t ?_ | refine s_cond_f ?_) | refine v_skip ?_ | refine v_ret ?_ | refine v_draw0 ?_) | (with_reducible refine i_plan ?_; refine s_pre ?_) | (with_reducible first | refine n_then ?_ | refine r_then ?_) | ((with_reducible first | refine s_g_c ?_ ?_ | refine s_cond_c ?_ ?_) <;> intro hb <;> rw [hb] <;> (try simp only [decide_eq_true_eq, decide_eq_false_iff_not, beq_iff_eq, bne_iff_ne, beq_eq_false_iff_ne, bne_eq_false_iff_eq, ne_eq, Int.not_lt, Int.not_le, gt_iff_lt, ge_iff_le, Bool.not_eq_true', Bool.not_eq_false'] at hb)) | ((with_reducible refine s_retP2 ?_); try simp only [x_tup0, x_tup1, x_tup2, x_tup3, x_tup4, x_tup5, and_true, true_and])))
  · exact ⟨by rw [decV, if_neg (by omega)], GH.le_refl _⟩
  · exact ⟨by rw [decV, if_neg (fun h => four_ne hb h.2)], GH.le_refl _⟩
  · have h4 : ((bs.getD 0 0).toNat : Int) = 4 := by assumption
    have e1 : List.take 32 (List.take (Int.toNat 33 - Int.toNat 1) (List.drop (Int.toNat 1) bs)) = (bs.drop 1).take 32 := by
      rw [List.take_take]; rfl
    have e2 : List.take 32 (List.drop (Int.toNat 33) bs) = (bs.drop 33).take 32 := rfl
    rw [e1, e2]
    have lx : ((bs.drop 1).take 32).length = 32 := by rw [List.length_take, List.length_drop]; omega
    have ly : ((bs.drop 33).take 32).length = 32 := by rw [List.length_take, List.length_drop]; omega
    have hd : decV bs = if onP ((bs.drop 1).take 32) ((bs.drop 33).take 32) false then .tuple #[pnt ((bs.drop 1).take 32) ((bs.drop 33).take 32) false, .int .i64 0] else .tuple #[pnt z0 z0 false, .int .i64 100] := by
      rw [decV, if_pos ⟨by omega, four_eq h4⟩]
    rw [hd]
    generalize (bs.drop 1).take 32 = X at *
    generalize (bs.drop 33).take 32 = Y at *
    refine s_bp2 ?_
    (repeat' (first | (with_reducible refine i_ops ?_; first | (refine g_mv ?_; refine s_mv ?_) | refine o_nil ?_ | (refine g_build ?_; refine s_bp0 ?_) | (refine g_pure ?_; refine s_pure ?_) | (refine g_lload ?_; refine s_lloadPP ?_) | (refine g_lstore ?_; first | refine s_lstoreP ?_ | refine s_lstoreA ?_) | (refine g_lalloc ?_; refine s_lalloc ?_) | (refine o_callg qrf (by exact onF X Y false _ lx ly) ?_; intro G' hle)) | (with_reducible refine i_vc ?_; first | refine v_seq ?_ | refine v_ops ?_ | (refine g_cond ?_; first | refine s_cond_t ?_ | refine s_cond_f ?_) | refine v_skip ?_ | refine v_ret ?_) | (with_reducible refine i_plan ?_; first | refine p_done ?_ | refine s_alt ?_) | (with_reducible first | refine n_then ?_ | refine r_then ?_ | (refine g_stand ?_; refine s_standL ?_)) | ((with_reducible refine s_cond_c ?_ ?_) <;> intro hb <;> rw [hb] <;> (try simp only [decide_eq_true_eq, decide_eq_false_iff_not, beq_iff_eq, bne_iff_ne, beq_eq_false_iff_ne, bne_eq_false_iff_eq, ne_eq, Int.not_lt, Int.not_le, gt_iff_lt, ge_iff_le, Bool.not_eq_true', Bool.not_eq_false'] at hb)) | ((with_reducible refine s_retP2 ?_); try simp only [x_tup0, x_tup1, x_tup2, x_tup3, x_tup4, x_tup5, and_true, true_and])))
    · rw [if_neg (by rw [hb]; decide)]
      exact ⟨rfl, by assumption⟩
    · rw [if_pos hb]
      exact ⟨rfl, by assumption⟩
end Go.Proofs.Ytdeihgcgglhhcaa.V
end
section
/- Calls of function values. -/
set_option linter.unusedSimpArgs false
set_option linter.unusedVariables false
namespace Go.Proofs.Ytdeihgcgglhhcaa.V
open Go.RowKit
section
variable {P : Program} {E : Env} {K : St → Prop} {r : List Stp} {dd : Option Nat} {L : SL} {A : AL} {G : GH}
theorem o_callv {d : Nat} {f : FuncId} {x : Operand} {xs : List Operand} {vs : List Value} {first captured args : Array Value} {R : Value → GH → Prop} (hf : evo L x = some (.func (.func f) first captured)) (hx : evs L xs = some vs) (hp : callable P f = true) (ha : first ++ vs.toArray ++ captured = args) (hc : HC P f args G R) (h : ∀ v G', R v G' → vops P E r K (S (.set d v L) A G')) : vops P E (⟨none, dd, .callv (some d) x xs⟩ :: r) K (S L A G) := by
  subst ha
  refine ⟨f, first, captured, evo_ev hf, hp, ?_⟩
  rw [evs_ev hx]
  exact hc.mono fun v G' hr => h v G' hr
end
end Go.Proofs.Ytdeihgcgglhhcaa.V
end
section
/- A place as a point; points across. -/
set_option linter.unusedSimpArgs false
set_option linter.unusedVariables false
set_option maxRecDepth 20000
-- @retp
-- @extra s_eqP s_eqF s_eqM s_eqD s_naddc s_nadd s_naddL s_nilck s_fptr0
-- @pre g_lload s_lloadL s_lloadLX s_lloadLY s_lloadLZ s_lloadF s_lloadM s_lloadPI s_lloadPX s_lloadPY s_lloadPP
-- @pre g_lstore s_lstoreL s_lstoreLY s_lstoreF s_lstoreM s_lstoreP s_lstorePYw
-- @pre g_lbox s_lboxL s_lboxF s_lboxP
-- @pre g_build s_bf0 s_bl3 s_bl1 s_bl0 s_bp3 s_bp2 s_bp1 s_bp0
namespace Go.Proofs.Ytdeihgcgglhhcaa.V
open Go.RowKit Go.ChangeShapes Go.WideShapes
theorem take_l {a b c : List Value} (ha : a.length = 4) (hb : b.length = 4) (hc : c.length = 4) : takeV true (a ++ (b ++ c)).toArray 0 4 = some (.agg a.toArray) ∧ takeV true (a ++ (b ++ c)).toArray 4 4 = some (.agg b.toArray) ∧ takeV true (a ++ (b ++ c)).toArray 8 4 = some (.agg c.toArray) := by
  have hs : (a ++ (b ++ c)).toArray.size = 12 := by simp [ha, hb, hc]
  have e1 : List.take 4 a = a := List.take_of_length_le (by omega)
  have e2 : List.take 4 b = b := List.take_of_length_le (by omega)
  have e3 : List.take 4 c = c := List.take_of_length_le (by omega)
  have e4 : List.drop 8 a = [] := List.drop_of_length_le (by omega)
  have e5 : List.drop 4 a = [] := List.drop_of_length_le (by omega)
  refine ⟨?_, ?_, ?_⟩
  · show (if 0 + 4 ≤ (a ++ (b ++ c)).toArray.size then some (Value.agg ((a ++ (b ++ c)).toArray.extract 0 (0 + 4))) else none) = _
    rw [if_pos (by omega)]
    simp [List.extract_eq_take_drop, List.take_append, ha, e1]
  · show (if 4 + 4 ≤ (a ++ (b ++ c)).toArray.size then some (Value.agg ((a ++ (b ++ c)).toArray.extract 4 (4 + 4))) else none) = _
    rw [if_pos (by omega)]
    simp [List.extract_eq_take_drop, List.take_append, List.drop_append, ha, hb, e2, e5]
  · show (if 8 + 4 ≤ (a ++ (b ++ c)).toArray.size then some (Value.agg ((a ++ (b ++ c)).toArray.extract 8 (8 + 4))) else none) = _
    rw [if_pos (by omega)]
    simp [List.extract_eq_take_drop, List.take_append, List.drop_append, ha, hb, e3, e4]
theorem wr_ly {a b c b' : List Value} (ha : a.length = 4) (hb : b.length = 4) (hb' : b'.length = 4) (hc : c.length = 4) : wr (a ++ (b ++ c)).toArray 4 b' = (a ++ (b' ++ c)).toArray := by
  rw [wrV _ _ _ (by simp [ha, hb, hb', hc])]
  have e1 : List.take 4 a = a := List.take_of_length_le (by omega)
  have e2 : List.drop 8 a = [] := List.drop_of_length_le (by omega)
  simp [List.take_append, List.drop_append, ha, hb, hb', e1, e2]
section
variable {P : Program} {E : Env} {K : St → Prop} {r : List Stp} {dd : Option Nat} {L : SL} {A : AL} {G : GH} {X Y Z : Fp}
theorem s_lloadLX {d k s0 : Nat} {cs : Array Value} (h : vops P E r K (S (.set d (fv X) L) A G)) (hp : L.get s0 = some (.int .u64 0) := by with_unfolding_all rfl) (hc : A.get k = some cs ∧ cs = lcells X Y Z := by (refine ⟨by with_unfolding_all rfl, ?_⟩; with_reducible rfl)) : vops P E (⟨none, dd, .lload d k s0 4 true⟩ :: r) K (S L A G) :=
  o_lload hp hc.1 (by rw [hc.2]; exact (take_l (len4 X) (len4 Y) (len4 Z)).1) h
theorem s_lloadLY {d k s0 : Nat} {cs : Array Value} (h : vops P E r K (S (.set d (fv Y) L) A G)) (hp : L.get s0 = some (.int .u64 4) := by with_unfolding_all rfl) (hc : A.get k = some cs ∧ cs = lcells X Y Z := by (refine ⟨by with_unfolding_all rfl, ?_⟩; with_reducible rfl)) : vops P E (⟨none, dd, .lload d k s0 4 true⟩ :: r) K (S L A G) :=
  o_lload hp hc.1 (by rw [hc.2]; exact (take_l (len4 X) (len4 Y) (len4 Z)).2.1) h
theorem s_lloadLZ {d k s0 : Nat} {cs : Array Value} (h : vops P E r K (S (.set d (fv Z) L) A G)) (hp : L.get s0 = some (.int .u64 8) := by with_unfolding_all rfl) (hc : A.get k = some cs ∧ cs = lcells X Y Z := by (refine ⟨by with_unfolding_all rfl, ?_⟩; with_reducible rfl)) : vops P E (⟨none, dd, .lload d k s0 4 true⟩ :: r) K (S L A G) :=
  o_lload hp hc.1 (by rw [hc.2]; exact (take_l (len4 X) (len4 Y) (len4 Z)).2.2) h
theorem s_lboxL {d k : Nat} {o : Operand} {v : Value} {ts : List Nat} (h : vops P E r K (S (.set d (.int .u64 0) (.kill ts L)) (.set k (lcells X Y Z) A) G)) (hx : evo L o = some v ∧ v = plc X Y Z := by (refine ⟨by with_unfolding_all rfl, ?_⟩; with_reducible rfl)) (ho : onceE E.env = true := by with_unfolding_all rfl) (hk : slotsOf E.env k = some ts := by with_unfolding_all rfl) : vops P E (⟨none, dd, .lbox d k o⟩ :: r) K (S L A G) := o_lbox ho hk hx.1 (by rw [hx.2]; rfl) h
theorem s_lstoreLY {k s0 : Nat} {o : Operand} {Y' : Fp} {v : Value} {cs : Array Value} (h : vops P E r K (S L (.set k (lcells X Y' Z) A) G)) (hp : L.get s0 = some (.int .u64 4) := by with_unfolding_all rfl) (hx : evo L o = some v ∧ v = fv Y' := by (refine ⟨by with_unfolding_all rfl, ?_⟩; with_reducible rfl)) (hc : A.get k = some cs ∧ cs = lcells X Y Z := by (refine ⟨by with_unfolding_all rfl, ?_⟩; with_reducible rfl)) : vops P E (⟨none, dd, .lstore k s0 4 o⟩ :: r) K (S L A G) := by
  obtain ⟨hc, rfl⟩ := hc
  obtain ⟨hx, rfl⟩ := hx
  refine o_lstore (vs := (fd 18446744073709551616 4 (mo Y')).map (iv .u64)) hp hc hx rfl ⟨len4 Y', ?_, nu_cells _ _⟩ (wr_ly (len4 X) (len4 Y) (len4 Y') (len4 Z)) h
  rw [lc_size]; decide
theorem s_bf0 {d : Nat} {z : Array Value} (h : vops P E r K (S (.set d (fv 0) L) A G)) (hz : z = #[.int .u64 0, .int .u64 0, .int .u64 0, .int .u64 0] := by with_unfolding_all rfl) : vops P E (⟨none, dd, .pure d (.build z []) []⟩ :: r) K (S L A G) := by
  subst hz
  exact o_pure (vs := []) rfl rfl h
/-- The second row of a point is written. -/
theorem s_lstorePYw {k s0 : Nat} {o : Operand} {x y y' : List UInt8} {f : Bool} (h : vops P E r K (S L (.set k (pcells x y' f) A) G)) (hp : L.get s0 = some (.int .u64 32) := by with_unfolding_all rfl) (hx : evo L o = some (dK y') := by with_unfolding_all rfl) (hc : A.get k = some (pcells x y f) := by with_unfolding_all rfl) (hl : (x.length = 32 ∧ y.length = 32) ∧ y'.length = 32 := by (refine ⟨⟨?_, ?_⟩, ?_⟩ <;> first | assumption | exact beN_len _ _)) : vops P E (⟨none, dd, .lstore k s0 32 o⟩ :: r) K (S L A G) := by
  refine o_lstore (vs := y'.map bv) hp hc hx rfl ⟨by simp [hl.2], ?_, bca_cells _⟩ ?_ h
  · rw [pcells_size hl.1.1 hl.1.2]; decide
  · show wr (pcells x y f) 32 (y'.map bv) = _
    unfold pcells
    rw [wrV _ _ _ (by simp [hl.1.1, hl.1.2, hl.2])]
    have e1 : List.take 32 (x.map bv) = x.map bv := List.take_of_length_le (by simp [hl.1.1])
    have e2 : List.drop 64 (x.map bv) = [] := List.drop_of_length_le (by simp [hl.1.1])
    have e3 : List.drop 32 (y.map bv) = [] := List.drop_of_length_le (by simp [hl.1.2])
    simp [List.take_append, List.drop_append, hl.1.1, hl.1.2, hl.2, e1, e2, e3]
end
theorem app1 (a b : Value) : #[a] ++ [b].toArray ++ #[] = #[a, b] := rfl
/-- A place as a point. -/
def px (X Z : Fp) : List UInt8 := if Z = 0 then z0 else beN 32 (finv Z * X).val
theorem pointF (X Y Z : Fp) (G : GH) : HC Try.prog 36 #[plc X Y Z] G fun v G' => v = pnt (px X Z) (px Y Z) (decide (Z = 0)) ∧ G.le G' := by
  refine HC.start comp36 rfl ?_; unfold pc36
  (repeat' (first | (with_reducible refine i_ops ?_; first | refine o_nil ?_ | (refine g_build ?_; first | refine s_bf0 ?_ | refine s_bp1 ?_) | (refine g_pure ?_; refine s_eqF ?_) | (refine g_lfield ?_; refine s_lfield ?_) | (refine g_lload ?_; refine s_lloadLZ ?_) | (refine g_lstore ?_; refine s_lstoreA ?_) | (refine g_lalloc ?_; refine s_lalloc ?_) | (refine g_lbox ?_; refine s_lboxL ?_) | (refine o_callg qrf (by exact invertF _ _) ?_; intro G' hle)) | (with_reducible refine i_vc ?_; first | refine v_seq ?_ | refine v_ops ?_ | (refine g_cond ?_; first | refine s_cond_t ?_ | refine s_cond_f ?_) | refine v_skip ?_ | refine v_ret ?_) | (with_reducible first | refine n_then ?_ | refine r_then ?_) | ((with_reducible refine s_cond_c ?_ ?_) <;> intro hb <;> rw [hb] <;> (try simp only [decide_eq_true_eq, decide_eq_false_iff_not, beq_iff_eq, bne_iff_ne, beq_eq_false_iff_ne, bne_eq_false_iff_eq, ne_eq, Int.not_lt, Int.not_le, gt_iff_lt, ge_iff_le, Bool.not_eq_true', Bool.not_eq_false'] at hb)) | ((with_reducible refine s_retP1 ?_); try simp only [x_tup0, x_tup1, x_tup2, x_tup3, x_tup4, x_tup5, and_true, true_and])))
  · refine ⟨?_, GH.le_refl _⟩
    unfold px
    rw [if_pos hb, if_pos hb]
  · have l1 := beN_len 32 (finv Z * X).val
    have l2 := beN_len 32 (finv Z * Y).val
    refine o_pure (vs := [fv (finv Z)]) (v := .func (.func 51) #[fv (finv Z)] #[]) qrf rfl ?_
    (repeat' (first | (with_reducible refine i_ops ?_; first | (refine g_mv ?_; refine s_mv ?_) | refine o_nil ?_ | (refine g_lfield ?_; refine s_lfield ?_) | (refine g_lload ?_; first | refine s_lloadLX ?_ | refine s_lloadLY ?_)) | (with_reducible refine i_vc ?_; first | refine v_seq ?_ | refine v_draw0 ?_) | (with_reducible refine i_plan ?_; first | refine s_pre ?_ | refine s_alt ?_) | (with_reducible refine n_then ?_)))
    refine o_callv qrf qrf (by kernel_rfl) (app1 _ _) (timesF (finv Z) X _) ?_
    rintro _ G2 ⟨rfl, hle2⟩
    (repeat' (first | (with_reducible refine i_ops ?_; refine o_nil ?_) | (with_reducible refine i_plan ?_; first | (refine p_callg qrf (by exact bytesF _ _) qle ?_ p_no; intro G' hle) | refine s_alt ?_) | (with_reducible (refine g_stand ?_; refine s_stand ?_))))
    refine o_callv qrf qrf (by kernel_rfl) (app1 _ _) (timesF (finv Z) Y _) ?_
    rintro _ G3 ⟨rfl, hle3⟩
    (repeat' (first | (with_reducible refine i_ops ?_; first | refine o_nil ?_ | (refine g_build ?_; refine s_bp2 ?_) | (refine g_lstore ?_; refine s_lstoreP ?_)) | (with_reducible refine i_vc ?_; refine v_ret ?_) | (with_reducible refine i_plan ?_; first | refine p_done ?_ | refine s_preN ?_ | (refine p_callg qrf (by exact bytesF _ _) qle ?_ p_no; intro G' hle) | refine s_alt ?_) | (with_reducible first | refine n_then ?_ | (refine g_stand ?_; first | refine s_stand ?_ | refine s_standL ?_)) | ((with_reducible refine s_retP1 ?_); try simp only [x_tup0, x_tup1, x_tup2, x_tup3, x_tup4, x_tup5, and_true, true_and])))
    refine ⟨?_, qle⟩
    unfold px
    rw [if_neg hb, if_neg hb]
theorem one_ne : ¬(1 : Fp) = 0 := by decide
theorem on_lt {x y : List UInt8} (h : onP x y false = true) : be x < p256 ∧ be y < p256 := by
  simp only [onP, Bool.false_eq_true, if_false, Bool.and_eq_true, decide_eq_true_eq] at h
  exact ⟨h.1, h.2.1⟩
theorem on_far {x y : List UInt8} (h : onP x y true = true) : x = z0 ∧ y = z0 := by
  simpa [onP] using h
end Go.Proofs.Ytdeihgcgglhhcaa.V
end
section
/- Library V, part O: the compiled code of regions with many orders, step by step. No program here. -/
set_option linter.unusedVariables false
set_option linter.unusedSimpArgs false
namespace Go.Proofs.Ytdeihgcgglhhcaa.V
def cL : Code → Code | .seq a _ => a | c => c
def cR : Code → Code | .seq _ b => b | c => c
def bodyOf (f : Func) : Code := match f.body with | some c => c | none => .skip
def cId : Code → Nat | .region i _ _ => i | _ => 0
def cOps : Code → Array Oper | .region _ o _ => o | _ => #[]
section
variable {P : Program} {E : Env} {ops : Array Oper} {Ls : List Nat}
def altF (P : Program) (E : Env) (ops : Array Oper) (Ls : List Nat) (n : Nat) (listed : Array Bool) (i : Nat) : Option (Stp × Plan) :=
  (stepAt P E ops i).bind fun s => bif disj Ls (newD E s.d) then (mkPlan P E ops Ls n (listed.setIfInBounds i true)).map fun rest => (s, rest) else none
theorem mk_take {n i : Nat} {listed listed' : Array Bool} {s : Stp} {rest : Plan} (h2 : (Region.ready .any ops listed).find? (canTake P E ops Ls listed) = some i) (h3 : stepAt P E ops i = some s) (hl : listed.setIfInBounds i true = listed') (h4 : mkPlan P E ops Ls n listed' = some rest) : mkPlan P E ops Ls (n + 1) listed = some (.take i s rest) := by
  subst hl
  unfold mkPlan
  cases h1 : Region.ready .any ops listed with
  | nil => rw [h1] at h2; cases h2
  | cons r rs =>
    rw [h1] at h2
    simp only [h2, h3, h4, Option.bind_some, Option.map_some]
theorem mk_alts {n r : Nat} {rs : List Nat} {listed : Array Bool} {pl : Plan} (h1 : Region.ready .any ops listed = r :: rs) (h2 : (r :: rs).find? (canTake P E ops Ls listed) = none) (h3 : alts (altF P E ops Ls n listed) (r :: rs) = some pl) : mkPlan P E ops Ls (n + 1) listed = some pl := by
  unfold mkPlan
  simp only [h1, h2]
  exact h3
theorem mk_done {n : Nat} {listed : Array Bool} (h1 : Region.ready .any ops listed = []) : mkPlan P E ops Ls n listed = some .done := by
  cases n <;> (unfold mkPlan; simp only [h1])
theorem alts_nil {f : Nat → Option (Stp × Plan)} : alts f [] = some .no := rfl
theorem alts_cons {n i : Nat} {is : List Nat} {listed listed' : Array Bool} {s : Stp} {rest more : Plan} (h1 : stepAt P E ops i = some s) (h2 : disj Ls (newD E s.d) = true) (hl : listed.setIfInBounds i true = listed') (h3 : mkPlan P E ops Ls n listed' = some rest) (h4 : alts (altF P E ops Ls n listed) is = some more) : alts (altF P E ops Ls n listed) (i :: is) = some (.alt i s rest more) := by
  subst hl
  have e : altF P E ops Ls n listed i = some (s, rest) := by
    unfold altF
    simp only [h1, h2, h3, Option.bind_some, Option.map_some, cond_true]
  simp only [alts, e, h4, Option.bind_some, Option.map_some]
theorem comp_draw {pl : Plan} {c : Code} (hc : c = .region (cId c) (cOps c) true) (hm : (P.follows .mixedOrders && (Region.noSelect (cOps c) && (cOps c).toList.all noDefer)) = true) (hf : (lookE E.env (2000000 + cId c)).isSome = false) (hL : ((readsL E (cOps c)).filter fun k => !(writesL E (cOps c)).contains k) = Ls) (hp : mkPlan P E (cOps c) Ls (cOps c).size (Array.replicate (cOps c).size false) = some pl) : compC P E c = some (.draw Ls pl) := by
  rw [hc]
  subst hL
  unfold compC
  rw [hm, hf]
  simp only [cond_true, cond_false]
  rw [hp]; rfl
theorem comp_seq {c : Code} {x y : PC} (hc : c = .seq (cL c) (cR c)) (h1 : compC P E (cL c) = some x) (h2 : compC P E (cR c) = some y) : compC P E c = some (.seq x y) := by
  rw [hc]
  unfold compC
  rw [h1, h2]; rfl
end
end Go.Proofs.Ytdeihgcgglhhcaa.V
end
