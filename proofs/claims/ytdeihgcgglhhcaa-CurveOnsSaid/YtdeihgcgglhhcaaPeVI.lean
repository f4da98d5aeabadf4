/- Library V, part I: slices and bytes as values. No program here. -/
import Derived.Test.YtdeihgcgglhhcaaPeVH
import Derived.Laws.Strings
set_option linter.unusedVariables false
set_option linter.unusedSimpArgs false
namespace Go.Proofs.Ytdeihgcgglhhcaa.V
/-! ### Bytes -/
abbrev bv (b : UInt8) : Value := .int .u8 b.toNat
def strB (bs : List UInt8) : ByteArray := ⟨bs.toArray⟩
theorem strB_toList (bs : List UInt8) : (strB bs).toList = bs := by
  rw [ByteArray.toList_eq]; rfl
theorem strB_size (bs : List UInt8) : (strB bs).size = bs.length := rfl
theorem strB_append (a b : List UInt8) : strB a ++ strB b = strB (a ++ b) := by
  apply ByteArray.ext; simp [strB]
theorem wrap8 (n : Int) : IntKind.u8.wrap n = ((UInt8.ofInt n).toNat : Int) := by
  rw [wrap_u8]
  simp only [UInt8.ofInt, UInt8.toNat_ofNat']
  omega
theorem x_bits8 : IntKind.u8.bits = 8 := rfl
theorem x_bits32 : IntKind.u32.bits = 32 := rfl
theorem x_bits64 : IntKind.u64.bits = 64 := rfl
theorem x_bitsi : IntKind.i64.bits = 64 := rfl
theorem lt8 (b : UInt8) : (b.toNat : Int) < 256 := by have := b.toNat_lt; omega
theorem x_seqlB (a b : List UInt8) : pureV (.bin .eql) [.string (strB a), .string (strB b)] = some (.bool (a == b)) := by
  rw [show pureV (.bin .eql) [.string (strB a), .string (strB b)] = some (.bool ((strB a).toList == (strB b).toList)) from rfl, strB_toList, strB_toList]
theorem x_sneqB (a b : List UInt8) : pureV (.bin .neq) [.string (strB a), .string (strB b)] = some (.bool (!(a == b))) := by
  rw [show pureV (.bin .neq) [.string (strB a), .string (strB b)] = some (.bool (!((strB a).toList == (strB b).toList))) from rfl, strB_toList, strB_toList]
theorem x_slssB (a b : List UInt8) : pureV (.bin .lss) [.string (strB a), .string (strB b)] = some (.bool (Op.bytesLess a b)) := by
  rw [show pureV (.bin .lss) [.string (strB a), .string (strB b)] = some (.bool (Op.bytesLess (strB a).toList (strB b).toList)) from rfl, strB_toList, strB_toList]
theorem x_lenSB (a : List UInt8) : pureV .lenS [.string (strB a)] = some (.int .i64 a.length) := rfl
/-! ### Slices -/
def okS : Value → Prop
  | .slice _ len cap => len ≤ cap ∧ cap ≤ 9223372036854775807
  | _ => False
def lenS : Value → Nat
  | .slice _ len _ => len
  | _ => 0
def capS : Value → Nat
  | .slice _ _ cap => cap
  | _ => 0
def blkS : Value → Option Nat
  | .slice (some a) _ _ => some a.block
  | _ => none
/-- A slice and its cells, n an element. -/
structure Sl (n : Nat) (G : GH) (u : Value) (xs : List Value) : Prop where
  rd : V.rd G n u = some xs
  ok : okS u
abbrev By (G : GH) (u : Value) (bs : List UInt8) : Prop := Sl 1 G u (bs.map bv)
theorem rd_some {G : GH} {n b q len cap : Nat} {xs : List Value} (h : rd G n (.slice (some ⟨b, q, none⟩) len cap) = some xs) :
    (len * n = 0 ∧ xs = []) ∨ (len * n ≠ 0 ∧ ∃ cs e fr, G b = some (.cells cs e fr) ∧ q + len * n ≤ cs.size ∧ xs = (cs.extract q (q + len * n)).toList) := by
  simp only [rd] at h
  split at h
  · rename_i h0; cases h; exact .inl ⟨h0, rfl⟩
  · rename_i h0
    right
    refine ⟨h0, ?_⟩
    split at h
    · rename_i cs e fr hG
      obtain ⟨h1, h⟩ := Option.ite_none_right_eq_some.1 h
      cases h
      exact ⟨cs, e, fr, hG, h1, rfl⟩
    · cases h
theorem rd_of {G : GH} {n b q len cap : Nat} {cs : Array Value} {e : TypeId} {fr : Nat × Nat} (hG : G b = some (.cells cs e fr)) (hs : q + len * n ≤ cs.size) : rd G n (.slice (some ⟨b, q, none⟩) len cap) = some (cs.extract q (q + len * n)).toList := by
  simp only [rd]
  split
  · rename_i h0; rw [h0]; simp
  · rw [hG]; simp only [if_pos hs]
theorem extract_len {cs : Array Value} {q m : Nat} (h : q + m ≤ cs.size) : (cs.extract q (q + m)).toList.length = m := by
  simp; omega
theorem Sl.slice {n : Nat} {G : GH} {u : Value} {xs : List Value} (h : Sl n G u xs) : ∃ a cap, u = .slice a (lenS u) cap ∧ lenS u ≤ cap ∧ cap ≤ 9223372036854775807 ∧ xs.length = lenS u * n ∧ (lenS u ≠ 0 → ∃ b q, a = some ⟨b, q, none⟩) := by
  obtain ⟨hr, ho⟩ := h
  cases u with
  | slice a len cap =>
    refine ⟨a, cap, rfl, ho.1, ho.2, ?_⟩
    show xs.length = len * n ∧ (len ≠ 0 → _)
    cases a with
    | none =>
      cases len with
      | zero => cases hr; exact ⟨by simp, fun h => absurd rfl h⟩
      | succ k => cases hr
    | some x =>
      obtain ⟨b, q, sp⟩ := x
      cases sp with
      | some _ =>
        cases len with
        | zero => cases hr; exact ⟨by simp, fun h => absurd rfl h⟩
        | succ k => cases hr
      | none =>
        have h1 : xs.length = len * n := by
          rcases rd_some hr with ⟨h0, rfl⟩ | ⟨h0, cs, e, fr, hG, hs, rfl⟩
          · simp [h0]
          · exact extract_len hs
        exact ⟨h1, fun _ => ⟨b, q, rfl⟩⟩
  | _ => exact ho.elim
theorem Sl.len {n : Nat} {G : GH} {u : Value} {xs : List Value} (h : Sl n G u xs) : xs.length = lenS u * n := by
  obtain ⟨a, cap, h1, h2, h3, h4, h5⟩ := h.slice; exact h4
theorem Sl.len_le {n : Nat} {G : GH} {u : Value} {xs : List Value} (h : Sl n G u xs) : lenS u ≤ 9223372036854775807 := by
  obtain ⟨a, cap, h1, h2, h3, h4, h5⟩ := h.slice; omega
theorem By.len {G : GH} {u : Value} {bs : List UInt8} (h : By G u bs) : lenS u = bs.length := by
  have := Sl.len h; simp at this; omega
theorem By.len_le {G : GH} {u : Value} {bs : List UInt8} (h : By G u bs) : bs.length ≤ 9223372036854775807 := by
  have := Sl.len_le h; rw [By.len h] at this; exact this
theorem Sl.le {n : Nat} {G G' : GH} {u : Value} {xs : List Value} (h : Sl n G u xs) (hl : G.le G') : Sl n G' u xs := ⟨rd_le hl h.rd, h.ok⟩
theorem Sl.keep {n : Nat} {G G' : GH} {u : Value} {xs : List Value} (h : Sl n G u xs) (hk : ∀ b, blkS u = some b → ∀ o, G b = some o → G' b = some o) : Sl n G' u xs := by
  obtain ⟨hr, ho⟩ := h
  refine ⟨?_, ho⟩
  cases u with
  | slice a len cap =>
    cases a with
    | none =>
      cases len with
      | zero => exact hr
      | succ k => cases hr
    | some x =>
      obtain ⟨b, q, sp⟩ := x
      cases sp with
      | some _ =>
        cases len with
        | zero => exact hr
        | succ k => cases hr
      | none =>
        rcases rd_some hr with ⟨h0, rfl⟩ | ⟨h0, cs, e, fr, hG, hs, rfl⟩
        · simp only [V.rd, h0, if_true]
        · exact rd_of (hk b rfl _ hG) hs
  | _ => exact ho.elim
theorem Sl.nil (n : Nat) (G : GH) : Sl n G (.slice none 0 0) [] := ⟨rfl, by simp [okS]⟩
theorem Sl.lenL {n : Nat} {G : GH} {u : Value} {xs : List Value} (h : Sl n G u xs) : pureV .lenL [u] = some (.int .i64 (lenS u)) := by
  obtain ⟨a, cap, h1, _⟩ := h.slice; rw [h1]; rfl
theorem By.lenL {G : GH} {u : Value} {bs : List UInt8} (h : By G u bs) : pureV .lenL [u] = some (.int .i64 bs.length) := by
  rw [Sl.lenL h, By.len h]
/-- A part of a slice. -/
theorem Sl.cut {n : Nat} {G : GH} {u : Value} {xs : List Value} (h : Sl n G u xs) {l j : Nat} (h1 : l ≤ j) (h2 : j ≤ lenS u) :
    ∃ a, u = .slice a (lenS u) (capS u) ∧ Sl n G (.slice (addO a l (capS u) n) (j - l) (capS u - l)) ((xs.drop (l * n)).take ((j - l) * n)) := by
  obtain ⟨a, cap, e1, e2, e3, e4, e5⟩ := h.slice
  have ec : capS u = cap := by rw [e1]; rfl
  rw [ec]
  refine ⟨a, e1, ?_, by show j - l ≤ cap - l ∧ cap - l ≤ _; omega⟩
  by_cases h0 : (j - l) * n = 0
  · rw [h0, List.take_zero]
    by_cases hj : j - l = 0
    · rw [hj]
      cases addO a l cap n with
      | none => rfl
      | some x => obtain ⟨b, q, sp⟩ := x; cases sp <;> simp [V.rd]
    · have hn : n = 0 := by
        rcases Nat.mul_eq_zero.1 h0 with h | h
        · exact absurd h hj
        · exact h
      subst hn
      obtain ⟨b, q, rfl⟩ := e5 (by omega)
      simp only [addO]
      split <;> simp [V.rd, Addr.add]
  · have hjl : j - l ≠ 0 := fun e => h0 (by rw [e]; simp)
    obtain ⟨b, q, rfl⟩ := e5 (by omega)
    have hcl : ¬ cap = l := by omega
    have hadd : addO (some (⟨b, q, none⟩ : Addr)) l cap n = some ⟨b, q + l * n, none⟩ := by
      simp only [addO, if_neg hcl, Option.map_some, Addr.add]
      split
      · rename_i hz; rw [hz]; rfl
      · rfl
    rw [hadd]
    have hr := h.rd
    rw [e1] at hr
    have hjn : j * n ≤ lenS u * n := Nat.mul_le_mul_right n h2
    have hjl2 : l * n + (j - l) * n = j * n := by rw [← Nat.add_mul]; congr 1; omega
    rcases rd_some hr with ⟨hz, _⟩ | ⟨hz, cs, e, fr, hG, hs, rfl⟩
    · omega
    · rw [rd_of hG (by omega)]
      congr 1
      apply List.ext_getElem?
      intro i
      simp only [Array.toList_extract, List.extract_eq_take_drop, List.getElem?_take, List.getElem?_drop]
      by_cases hi : i < (j - l) * n
      · rw [if_pos (by omega), if_pos hi, if_pos (by omega)]; congr 1; omega
      · rw [if_neg (by omega), if_neg hi]
theorem blk_addO (a : Option Addr) (l m n x y x' y' : Nat) : blkS (.slice (addO a l m n) x y) = blkS (.slice a x' y') := by
  unfold addO
  by_cases h : m = l
  · rw [if_pos h]; cases a <;> rfl
  · rw [if_neg h]
    cases a with
    | none => rfl
    | some x =>
      simp only [Option.map_some, blkS, Addr.add]
      split <;> rfl
theorem Sl.slc11 {n : Nat} {G : GH} {u : Value} {xs : List Value} (h : Sl n G u xs) {k k' : IntKind} {i j : Int} (h0 : 0 ≤ i) (h1 : i ≤ j) (h2 : j ≤ lenS u) : ∃ u', pureV (.slc n true true false) [u, .int k i, .int k' j] = some u' ∧ Sl n G u' ((xs.drop (i.toNat * n)).take ((j.toNat - i.toNat) * n)) ∧ blkS u' = blkS u := by
  obtain ⟨a, e1, e2⟩ := h.cut (l := i.toNat) (j := j.toNat) (by omega) (by omega)
  obtain ⟨_, _, _, e3, _⟩ := h.slice
  have hc : lenS u ≤ capS u := by rw [e1]; have := h.ok; rw [e1] at this; exact this.1
  refine ⟨_, ?_, e2, ?_⟩
  · rw [e1]
    simp only [pureV, bnds, Option.bind_some, cutV, Option.getD_some]
    rw [if_pos ⟨h0, h1, by omega⟩]; rfl
  · rw [blk_addO a _ _ _ _ _ (lenS u) (capS u)]
    exact (congrArg blkS e1).symm
theorem Sl.slc01 {n : Nat} {G : GH} {u : Value} {xs : List Value} (h : Sl n G u xs) {k' : IntKind} {j : Int} (h1 : 0 ≤ j) (h2 : j ≤ lenS u) : ∃ u', pureV (.slc n false true false) [u, .int k' j] = some u' ∧ Sl n G u' (xs.take (j.toNat * n)) ∧ blkS u' = blkS u := by
  obtain ⟨u', e1, e2, e3⟩ := h.slc11 (k := .i64) (k' := k') (i := 0) (j := j) (Int.le_refl _) h1 h2
  refine ⟨u', ?_, by simpa using e2, e3⟩
  rw [← e1]
  obtain ⟨a, cap, f1, _⟩ := h.slice
  rw [f1]; rfl
theorem Sl.slc10 {n : Nat} {G : GH} {u : Value} {xs : List Value} (h : Sl n G u xs) {k : IntKind} {i : Int} (h0 : 0 ≤ i) (h1 : i ≤ lenS u) : ∃ u', pureV (.slc n true false false) [u, .int k i] = some u' ∧ Sl n G u' (xs.drop (i.toNat * n)) ∧ blkS u' = blkS u := by
  obtain ⟨u', e1, e2, e3⟩ := h.slc11 (k := k) (k' := .i64) (i := i) (j := lenS u) h0 h1 (Int.le_refl _)
  refine ⟨u', ?_, ?_, e3⟩
  · rw [← e1]
    obtain ⟨a, cap, f1, _⟩ := h.slice
    rw [f1]; rfl
  · rw [List.take_of_length_le] at e2
    · exact e2
    · rw [List.length_drop, h.len, Int.toNat_natCast, Nat.sub_mul]; omega
/-- What a pointer reads. -/
def PtR (G : GH) (p : Value) (n : Nat) (g : Bool) (v : Value) : Prop := ∃ b q cs e fr, p = .pointer (some ⟨b, q, none⟩) ∧ G b = some (.cells cs e fr) ∧ takeV g cs q n = some v
theorem extract_get {cs : Array Value} {q m j : Nat} (h : q + m ≤ cs.size) (hj : j < m) : (cs.extract q (q + m)).toList[j]? = cs[q + j]? := by
  simp only [Array.toList_extract, List.extract_eq_take_drop, List.getElem?_take, List.getElem?_drop]
  rw [if_pos (by omega)]; simp
theorem Sl.idx {G : GH} {u : Value} {xs : List Value} (h : Sl 1 G u xs) {k : IntKind} {j : Int} (h0 : 0 ≤ j) (h1 : j < xs.length) : ∃ p, pureV (.iptrS 1) [u, .int k j] = some p ∧ ∀ v, xs[j.toNat]? = some v → PtR G p 1 false v := by
  obtain ⟨hr, ho⟩ := h
  have hl := Sl.len ⟨hr, ho⟩
  cases u with
  | slice a len cap =>
    simp only [lenS, Nat.mul_one] at hl
    cases a with
    | none =>
      cases len with
      | zero => cases hr; simp at h1; omega
      | succ k => cases hr
    | some x =>
      obtain ⟨b, q, sp⟩ := x
      cases sp with
      | some _ =>
        cases len with
        | zero => cases hr; simp at h1; omega
        | succ k => cases hr
      | none =>
        refine ⟨.pointer (some ⟨b, q + j.toNat * 1, none⟩), ?_, fun v hv => ?_⟩
        · simp only [pureV]; rw [if_pos ⟨h0, by omega⟩]
        · rcases rd_some hr with ⟨h2, rfl⟩ | ⟨h2, cs, e, fr, hG, hs, rfl⟩
          · simp at h1; omega
          · refine ⟨b, q + j.toNat * 1, cs, e, fr, rfl, hG, ?_⟩
            rw [extract_get hs (by omega)] at hv
            show cs[q + j.toNat * 1]? = _
            rw [Nat.mul_one]; exact hv
  | _ => exact ho.elim
theorem By.idx {G : GH} {u : Value} {bs : List UInt8} (h : By G u bs) {k : IntKind} {j : Int} (h0 : 0 ≤ j) (h1 : j < bs.length) : ∃ p, pureV (.iptrS 1) [u, .int k j] = some p ∧ PtR G p 1 false (bv (bs.getD j.toNat 0)) := by
  obtain ⟨p, h2, h3⟩ := Sl.idx h (k := k) h0 (by simpa using h1)
  refine ⟨p, h2, h3 _ ?_⟩
  rw [List.getElem?_map, List.getElem?_eq_getElem (by omega)]
  simp [List.getD_eq_getElem?_getD, List.getElem?_eq_getElem (show j.toNat < bs.length by omega)]
/-- Elements of more cells: whole. -/
theorem Sl.idxA {n : Nat} {G : GH} {u : Value} {xs : List Value} (h : Sl n G u xs) {k : IntKind} {j : Int} (h0 : 0 ≤ j) (h1 : j < lenS u) (hn : n ≠ 0) : ∃ b q cs e fr, pureV (.iptrS n) [u, .int k j] = some (.pointer (some ⟨b, q, none⟩)) ∧ G b = some (.cells cs e fr) ∧ q + n ≤ cs.size ∧ (cs.extract q (q + n)).toList = (xs.drop (j.toNat * n)).take n := by
  obtain ⟨hr, ho⟩ := h
  cases u with
  | slice a len cap =>
    simp only [lenS] at h1
    cases a with
    | none =>
      cases len with
      | zero => omega
      | succ k => cases hr
    | some x =>
      obtain ⟨b, q, sp⟩ := x
      cases sp with
      | some _ =>
        cases len with
        | zero => omega
        | succ k => cases hr
      | none =>
        have hjn : j.toNat * n + n ≤ len * n := by
          have : (j.toNat + 1) * n ≤ len * n := Nat.mul_le_mul_right n (by omega)
          rw [Nat.add_mul] at this; omega
        rcases rd_some hr with ⟨h2, rfl⟩ | ⟨h2, cs, e, fr, hG, hs, rfl⟩
        · omega
        · refine ⟨b, q + j.toNat * n, cs, e, fr, ?_, hG, by omega, ?_⟩
          · simp only [pureV]; rw [if_pos ⟨h0, by omega⟩]
          · apply List.ext_getElem?
            intro i
            simp only [Array.toList_extract, List.extract_eq_take_drop, List.getElem?_take, List.getElem?_drop]
            by_cases hi : i < n
            · rw [if_pos (by omega), if_pos hi, if_pos (by omega)]; congr 1; omega
            · rw [if_neg (by omega), if_neg hi]
  | _ => exact ho.elim
theorem GH.trans_put {G0 G : GH} {b : Nat} {o : Obj} (h : G0.le G) (hb : G b = none) : G0.le (G.put b o) := GH.le_trans h (GH.le_put o hb)
/-! ### Slices that are one's own -/
/-- A slice over block b, with what lies in its room behind. -/
def OwnB (n : Nat) (G : GH) (b : Nat) (u : Value) (xs sp : List Value) : Prop :=
  ∃ q len cap cs e fr, u = .slice (some ⟨b, q, none⟩) len cap ∧ G b = some (.cells cs e fr) ∧ len ≤ cap ∧ cap ≤ 9223372036854775807 ∧ q + cap * n ≤ cs.size ∧ (fr.2 ≤ q ∨ q + cap * n ≤ fr.1) ∧ (cs.extract q (q + cap * n)).toList = xs ++ sp ∧ xs.length = len * n
/-- What G0 doesn't know of. -/
def Own (n : Nat) (G0 G : GH) (u : Value) (xs : List Value) : Prop := (u = .slice none 0 0 ∧ xs = []) ∨ ∃ b sp, G0 b = none ∧ OwnB n G b u xs sp
theorem OwnB.sl {n b : Nat} {G : GH} {u : Value} {xs sp : List Value} (h : OwnB n G b u xs sp) : Sl n G u xs := by
  obtain ⟨q, len, cap, cs, e, fr, rfl, hG, h1, h2, h3, h4, h5, h6⟩ := h
  have hm : len * n ≤ cap * n := Nat.mul_le_mul_right n h1
  refine ⟨?_, h1, h2⟩
  rw [rd_of hG (by omega)]
  congr 1
  have : (cs.extract q (q + len * n)).toList = ((cs.extract q (q + cap * n)).toList).take (len * n) := by
    simp only [Array.toList_extract, List.extract_eq_take_drop, List.take_take]
    congr 1; omega
  rw [this, h5, ← h6]; simp
theorem Own.sl {n : Nat} {G0 G : GH} {u : Value} {xs : List Value} (h : Own n G0 G u xs) : Sl n G u xs := by
  rcases h with ⟨rfl, rfl⟩ | ⟨b, sp, _, h⟩
  · exact Sl.nil n G
  · exact h.sl
theorem OwnB.le {n b : Nat} {G G' : GH} {u : Value} {xs sp : List Value} (h : OwnB n G b u xs sp) (hk : ∀ o, G b = some o → G' b = some o) : OwnB n G' b u xs sp := by
  obtain ⟨q, len, cap, cs, e, fr, rfl, hG, h1⟩ := h
  exact ⟨q, len, cap, cs, e, fr, rfl, hk _ hG, h1⟩
theorem Own.le {n : Nat} {G0 G G' : GH} {u : Value} {xs : List Value} (h : Own n G0 G u xs) (hl : G.le G') : Own n G0 G' u xs := by
  rcases h with h | ⟨b, sp, h0, h⟩
  · exact .inl h
  · exact .inr ⟨b, sp, h0, h.le fun o => hl b o⟩
theorem OwnB.blk {n b : Nat} {G : GH} {u : Value} {xs sp : List Value} (h : OwnB n G b u xs sp) : blkS u = some b := by
  obtain ⟨q, len, cap, cs, e, fr, rfl, _⟩ := h; rfl
theorem Own.keep {n : Nat} {G0 G G' : GH} {u : Value} {xs : List Value} (h : Own n G0 G u xs) (hk : ∀ b, blkS u = some b → ∀ o, G b = some o → G' b = some o) : Own n G0 G' u xs := by
  rcases h with h | ⟨b, sp, h0, h⟩
  · exact .inl h
  · exact .inr ⟨b, sp, h0, h.le (hk b h.blk)⟩
theorem Own.base {n : Nat} {G0 G1 G : GH} {u : Value} {xs : List Value} (h : Own n G1 G u xs) (hl : G0.le G1) : Own n G0 G u xs := by
  rcases h with h | ⟨b, sp, h0, h⟩
  · exact .inl h
  · refine .inr ⟨b, sp, ?_, h⟩
    cases e : G0 b with
    | none => rfl
    | some o => rw [hl b o e] at h0; cases h0
/-- An own slice's block isn't G0's. -/
theorem Own.blk_ne {n : Nat} {G0 G : GH} {u : Value} {xs : List Value} (h : Own n G0 G u xs) {b : Nat} {o : Obj} (hb : G0 b = some o) : blkS u ≠ some b := by
  rcases h with ⟨rfl, rfl⟩ | ⟨b', sp, h0, h⟩
  · intro h; cases h
  · rw [h.blk]; intro e; cases e; rw [hb] at h0; cases h0
theorem wr_get : ∀ (vs : List Value) (cs : Array Value) (o i : Nat), o + vs.length ≤ cs.size → (wr cs o vs)[i]? = if i < o then cs[i]? else if i < o + vs.length then vs[i - o]? else cs[i]?
  | [], cs, o, i, h => by simp [wr]; intros; omega
  | v :: vs, cs, o, i, h => by
    simp only [List.length_cons] at h ⊢
    rw [wr, wr_get vs _ _ _ (by simp; omega)]
    simp only [Array.getElem?_setIfInBounds]
    by_cases h1 : i < o
    · rw [if_pos (by omega), if_pos h1, if_neg (by omega)]
    · by_cases h2 : i = o
      · subst h2
        have hi : i < cs.size := by omega
        simp [hi]
      · rw [if_neg (by omega), if_neg h1]
        by_cases h3 : i < o + 1 + vs.length
        · rw [if_pos h3, if_pos (by omega), show i - o = (i - (o + 1)) + 1 by omega]; simp
        · rw [if_neg h3, if_neg (by omega), if_neg (by omega)]
theorem wr_extract {cs : Array Value} {q m o : Nat} {vs : List Value} (h : q + m ≤ cs.size) (ho : o + vs.length ≤ m) :
    ((wr cs (q + o) vs).extract q (q + m)).toList = ((cs.extract q (q + m)).toList).take o ++ vs ++ ((cs.extract q (q + m)).toList).drop (o + vs.length) := by
  apply List.ext_getElem?
  intro i
  have hsz : (wr cs (q + o) vs).size = cs.size := wr_size _ _ _
  have e1 : ((cs.extract q (q + m)).toList).length = m := extract_len h
  by_cases hi : i < m
  · rw [extract_get (by omega) hi, wr_get _ _ _ _ (by omega)]
    by_cases h1 : i < o
    · rw [if_pos (by omega), List.append_assoc, List.getElem?_append_left (by rw [List.length_take]; omega), List.getElem?_take, if_pos h1, extract_get h hi]
    · rw [if_neg (by omega), List.append_assoc, List.getElem?_append_right (by rw [List.length_take]; omega), List.length_take, Nat.min_eq_left (by omega)]
      by_cases h2 : i < o + vs.length
      · rw [if_pos (by omega), List.getElem?_append_left (by omega)]; congr 1; omega
      · rw [if_neg (by omega), List.getElem?_append_right (by omega), List.getElem?_drop, extract_get h (by omega)]; congr 1; omega
  · rw [List.getElem?_eq_none (by rw [extract_len (by omega)]; omega), List.getElem?_eq_none]
    simp only [List.length_append, List.length_take, List.length_drop, e1]; omega
/-- Cells of an own slice are written. -/
theorem OwnB.write {n b : Nat} {G : GH} {u : Value} {xs sp : List Value} (h : OwnB n G b u xs sp) : ∃ q len cap cs e fr, u = .slice (some ⟨b, q, none⟩) len cap ∧ G b = some (.cells cs e fr) ∧ q + cap * n ≤ cs.size ∧ (fr.2 ≤ q ∨ q + cap * n ≤ fr.1) ∧ xs.length = len * n ∧ (xs ++ sp).length = cap * n ∧ len ≤ cap ∧ cap ≤ 9223372036854775807 ∧
    ∀ o vs, o + vs.length ≤ cap * n → ∀ len' xs' sp', len' ≤ cap → xs'.length = len' * n → xs' ++ sp' = (xs ++ sp).take o ++ vs ++ (xs ++ sp).drop (o + vs.length) → OwnB n (G.put b (.cells (wr cs (q + o) vs) e fr)) b (.slice (some ⟨b, q, none⟩) len' cap) xs' sp' := by
  obtain ⟨q, len, cap, cs, e, fr, rfl, hG, h1, h2, h3, h4, h5, h6⟩ := h
  refine ⟨q, len, cap, cs, e, fr, rfl, hG, h3, h4, h6, by rw [← h5]; exact extract_len h3, h1, h2, ?_⟩
  intro o vs ho len' xs' sp' hl hx he
  refine ⟨q, len', cap, wr cs (q + o) vs, e, fr, rfl, GH.put_same _ _ _, hl, h2, by rw [wr_size]; exact h3, h4, ?_, hx⟩
  rw [wr_extract h3 ho, h5, he]
theorem zeroCells_size (z : Array Value) (n : Nat) : (Builtin.zeroCells z n).size = n * z.size := by simp [Builtin.zeroCells]
/-- A new block. -/
theorem OwnB.fresh {n b len cap : Nat} {G : GH} {e : TypeId} {xs sp : List Value} (h1 : xs.length = len * n) (h2 : (xs ++ sp).length = cap * n) (h3 : len ≤ cap) (h4 : cap ≤ 9223372036854775807) {cs : Array Value} (hc : cs.toList = xs ++ sp) : OwnB n (G.put b (.cells cs e)) b (.slice (some ⟨b, 0, none⟩) len cap) xs sp := by
  have hs : cs.size = cap * n := by rw [← h2, ← hc]; simp
  refine ⟨0, len, cap, cs, e, (0, 0), rfl, GH.put_same _ _ _, h3, h4, by omega, .inl (by simp), ?_, h1⟩
  rw [← hc, Nat.zero_add, ← hs]; simp
section
variable {P : Program} {E : Env} {K : St → Prop} {r : List Stp} {dd : Option Nat} {L : SL} {A : AL} {G : GH}
theorem o_hloadP {d n : Nat} {g : Bool} {x : Operand} {p v : Value} (hx : evo L x = some p) (hp : PtR G p n g v) (h : vops P E r K (S (.set d v L) A G)) : vops P E (⟨none, dd, .hload d n g x⟩ :: r) K (S L A G) := by
  obtain ⟨b, q, cs, e, fr, rfl, hG, ht⟩ := hp
  exact o_hload hx hG ht h
theorem o_b2sB {d : Nat} {x : Operand} {u : Value} {bs : List UInt8} (hx : evo L x = some u) (hb : By G u bs) (h : vops P E r K (S (.set d (.string (strB bs)) L) A G)) : vops P E (⟨none, dd, .b2s d x⟩ :: r) K (S L A G) := by
  have e : strOfNums (bs.map fun b => (b.toNat : Int)) = strB bs := by
    simp only [strOfNums, strB, List.map_map]
    congr 2
    rw [List.map_congr_left (g := id)]
    · simp
    · intro b _; simp
  refine o_b2s (xs := bs.map fun b => (b.toNat : Int)) hx ?_ ?_
  · rw [hb.rd, List.map_map]; rfl
  · rw [e]; exact h
theorem o_lenB {d : Nat} {x : Operand} {u : Value} {bs : List UInt8} (hx : evo L x = some u) (hb : By G u bs) (h : vops P E r K (S (.set d (.int .i64 bs.length) L) A G)) : vops P E (⟨none, dd, .pure d .lenL [x]⟩ :: r) K (S L A G) :=
  o_pure (vs := [u]) (by simp only [evs, hx]) (By.lenL hb) h
theorem o_lenS {d n : Nat} {x : Operand} {u : Value} {xs : List Value} (hx : evo L x = some u) (hb : Sl n G u xs) (h : vops P E r K (S (.set d (.int .i64 (lenS u)) L) A G)) : vops P E (⟨none, dd, .pure d .lenL [x]⟩ :: r) K (S L A G) :=
  o_pure (vs := [u]) (by simp only [evs, hx]) (Sl.lenL hb) h
theorem o_idxB {d : Nat} {x y : Operand} {u : Value} {k : IntKind} {j : Int} {bs : List UInt8} (hx : evo L x = some u) (hb : By G u bs) (hy : evo L y = some (.int k j)) (h0 : 0 ≤ j) (h1 : j < bs.length) (h : ∀ p, PtR G p 1 false (bv (bs.getD j.toNat 0)) → vops P E r K (S (.set d p L) A G)) : vops P E (⟨none, dd, .pure d (.iptrS 1) [x, y]⟩ :: r) K (S L A G) := by
  obtain ⟨p, hp, hr⟩ := By.idx hb (k := k) h0 h1
  exact o_pure (vs := [u, .int k j]) (by simp only [evs, hx, hy]) hp (h p hr)
theorem o_slcB {d : Nat} {x y z : Operand} {u : Value} {k k' : IntKind} {i j : Int} {bs : List UInt8} (hx : evo L x = some u) (hb : By G u bs) (hy : evo L y = some (.int k i)) (hz : evo L z = some (.int k' j)) (h0 : 0 ≤ i) (h1 : i ≤ j) (h2 : j ≤ bs.length) (h : ∀ u', By G u' ((bs.drop i.toNat).take (j.toNat - i.toNat)) → blkS u' = blkS u → vops P E r K (S (.set d u' L) A G)) : vops P E (⟨none, dd, .pure d (.slc 1 true true false) [x, y, z]⟩ :: r) K (S L A G) := by
  obtain ⟨u', e1, e2, e3⟩ := Sl.slc11 hb (k := k) (k' := k') h0 h1 (by rw [By.len hb]; exact h2)
  refine o_pure (vs := [u, .int k i, .int k' j]) (by simp only [evs, hx, hy, hz]) e1 (h u' ?_ e3)
  unfold By
  simpa only [List.map_take, List.map_drop, Nat.mul_one] using e2
theorem o_slcB01 {d : Nat} {x z : Operand} {u : Value} {k' : IntKind} {j : Int} {bs : List UInt8} (hx : evo L x = some u) (hb : By G u bs) (hz : evo L z = some (.int k' j)) (h1 : 0 ≤ j) (h2 : j ≤ bs.length) (h : ∀ u', By G u' (bs.take j.toNat) → blkS u' = blkS u → vops P E r K (S (.set d u' L) A G)) : vops P E (⟨none, dd, .pure d (.slc 1 false true false) [x, z]⟩ :: r) K (S L A G) := by
  obtain ⟨u', e1, e2, e3⟩ := Sl.slc01 hb (k' := k') h1 (by rw [By.len hb]; exact h2)
  refine o_pure (vs := [u, .int k' j]) (by simp only [evs, hx, hz]) e1 (h u' ?_ e3)
  unfold By
  simpa only [List.map_take, List.map_drop, Nat.mul_one] using e2
theorem o_slcB10 {d : Nat} {x y : Operand} {u : Value} {k : IntKind} {i : Int} {bs : List UInt8} (hx : evo L x = some u) (hb : By G u bs) (hy : evo L y = some (.int k i)) (h0 : 0 ≤ i) (h1 : i ≤ bs.length) (h : ∀ u', By G u' (bs.drop i.toNat) → blkS u' = blkS u → vops P E r K (S (.set d u' L) A G)) : vops P E (⟨none, dd, .pure d (.slc 1 true false false) [x, y]⟩ :: r) K (S L A G) := by
  obtain ⟨u', e1, e2, e3⟩ := Sl.slc10 hb (k := k) h0 (by rw [By.len hb]; exact h1)
  refine o_pure (vs := [u, .int k i]) (by simp only [evs, hx, hy]) e1 (h u' ?_ e3)
  unfold By
  simpa only [List.map_take, List.map_drop, Nat.mul_one] using e2
theorem o_saddB {d : Nat} {x y : Operand} {a b : List UInt8} (hx : evo L x = some (.string (strB a))) (hy : evo L y = some (.string (strB b))) (hl : a.length + b.length ≤ 9223372036854775807) (h : vops P E r K (S (.set d (.string (strB (a ++ b))) L) A G)) : vops P E (⟨none, dd, .pure d (.bin .add) [x, y]⟩ :: r) K (S L A G) := by
  refine o_pure (vs := [.string (strB a), .string (strB b)]) (by simp only [evs, hx, hy]) ?_ h
  show (if (((strB a).size + (strB b).size : Nat) : Int) > IntKind.i64.max then none else some (Value.string (strB a ++ strB b))) = _
  have hm : IntKind.i64.max = 9223372036854775807 := by decide
  rw [if_neg (by rw [strB_size, strB_size, hm]; omega), strB_append]
theorem o_idxS {d : Nat} {x y : Operand} {u v : Value} {k : IntKind} {j : Int} {xs : List Value} (hx : evo L x = some u) (hb : Sl 1 G u xs) (hy : evo L y = some (.int k j)) (h0 : 0 ≤ j) (hv : xs[j.toNat]? = some v) (h : ∀ p, PtR G p 1 false v → vops P E r K (S (.set d p L) A G)) : vops P E (⟨none, dd, .pure d (.iptrS 1) [x, y]⟩ :: r) K (S L A G) := by
  have hl := (List.getElem?_eq_some_iff.1 hv).1
  obtain ⟨p, hp, hr⟩ := Sl.idx hb (k := k) h0 (by omega)
  exact o_pure (vs := [u, .int k j]) (by simp only [evs, hx, hy]) hp (h p (hr v hv))
/-- A slice that is built. -/
theorem o_bsliceO {d : Nat} {e : TypeId} {len : Nat} {cells : Array Value} {parts : List (Nat × Nat)} {xs : List Operand} {vs : List Value} (hx : evs L xs = some vs) (hn : vs.length = len) (h1 : cells1 vs = true) (hz : cells.size = len) (hp : parts = (List.range' 0 len).map fun i => (i, 1)) (hl : Nat.ble len 9223372036854775807 = true)
    (h : ∀ u G', G.le G' → Own 1 G G' u vs → lenS u = len → vops P E r K (S (.set d u L) A G')) : vops P E (⟨none, dd, .bslice d e len cells parts xs⟩ :: r) K (S L A G) := by
  subst hn
  refine o_bslice (cs := vs.toArray) hx ?_ fun b hb => h _ _ (GH.le_put _ hb) (.inr ⟨b, [], hb, OwnB.fresh (by simp) (by simp) (Nat.le_refl _) (Nat.le_of_ble_eq_true hl) (by simp)⟩) rfl
  rw [hp, fill_all vs 0 cells h1 (by omega)]; simp
/-- The same, of bytes. -/
theorem o_bsliceB {d : Nat} {e : TypeId} {len : Nat} {cells : Array Value} {parts : List (Nat × Nat)} {xs : List Operand} {vs : List Value} (bs : List UInt8) (hx : evs L xs = some vs) (hv : vs = bs.map bv) (hn : bs.length = len) (hz : cells.size = len) (hp : parts = (List.range' 0 len).map fun i => (i, 1)) (hl : Nat.ble len 9223372036854775807 = true)
    (h : ∀ u G', G.le G' → Own 1 G G' u (bs.map bv) → lenS u = len → vops P E r K (S (.set d u L) A G')) : vops P E (⟨none, dd, .bslice d e len cells parts xs⟩ :: r) K (S L A G) := by
  subst hv
  refine o_bsliceO hx (by simpa using hn) ?_ hz hp hl h
  simp [cells1, Value.oneCell']
/-- An append to what is one's own. -/
theorem o_appendO {n bytes d : Nat} {e : TypeId} {zero : Array Value} {x y : Operand} {u v : Value} {xs es : List Value} {G0 : GH} (hx : evo L x = some u) (hy : evo L y = some v) (hu : Own n G0 G u xs) (hv : Sl n G v es) (h1 : cells1 es = true) (hz : zero.size = n) (hG : G0.le G)
    (hs : fitB ((lenS u + lenS v) * bytes) bytes ∧ lenS u + lenS v ≤ 9223372036854775807)
    (h : ∀ u' G', G0.le G' → Own n G0 G' u' (xs ++ es) → lenS u' = lenS u + lenS v → (∀ b, blkS u ≠ some b → ∀ o, G b = some o → G' b = some o) → (blkS u' = blkS u ∨ ∃ b, blkS u' = some b ∧ G b = none) → vops P E r K (S (.set d u' L) A G')) :
    vops P E (⟨none, dd, .append d e n bytes zero x y⟩ :: r) K (S L A G) := by
  obtain ⟨a, cap, e1, e2, e3, e4, e5⟩ := hu.sl.slice
  obtain ⟨a', cap', f1, f2, f3, f4, f5⟩ := hv.slice
  rw [e1] at hx; rw [f1] at hy
  refine o_append (es := es) hx hy (by rw [← f1]; exact hv.rd) hs (fun hc => ?_) (fun hc => ?_)
  · rcases hu with ⟨hu1, hu2⟩ | ⟨b, sp, h0, hb⟩
    · rw [hu1] at e1
      cases e1
      have z : lenS v = 0 := by rw [hu1] at hc; simp [lenS] at hc; exact hc
      have : es = [] := List.eq_nil_of_length_eq_zero (by rw [f4, z]; simp)
      refine ⟨this, ?_⟩
      subst hu1
      have := h (.slice none 0 0) G hG (.inl ⟨rfl, by rw [hu2, this]; rfl⟩) (by rw [z]; rfl) (fun b _ o ho => ho) (.inl rfl)
      have z0 : lenS (Value.slice none 0 0) = 0 := rfl
      rw [z, z0]; exact this
    · obtain ⟨q, len, cap, cs, e', fr, hu1, hG1, h3, h4, h5, h6, h7, h8, hw⟩ := hb.write
      have hu1' := hu1
      rw [e1] at hu1
      obtain ⟨rfl, e7, rfl⟩ := Value.slice.inj hu1
      have hm : (lenS u + lenS v) * n ≤ cap * n := Nat.mul_le_mul_right n hc
      rw [Nat.add_mul] at hm
      refine ⟨rfl, cs, e', fr, hG1, ⟨by rw [Nat.add_mul]; omega, h1, ?_⟩, ?_⟩
      · rw [Nat.add_mul]
        rcases h4 with h4 | h4
        · left; omega
        · right; omega
      · have hxl : (xs ++ sp).length = cap * n := h6
        have hsp : es.length ≤ sp.length := by rw [List.length_append] at hxl; omega
        refine h _ _ (GH.le_put_of _ hG h0) (.inr ⟨b, sp.drop es.length, h0, hw (lenS u * n) es (by omega) (lenS u + lenS v) (xs ++ es) (sp.drop es.length) hc (by rw [List.length_append, Nat.add_mul]; omega) ?_⟩) rfl ?_ (.inl (by rw [e1]; rfl))
        · rw [← e4, List.take_left, ← List.drop_drop, List.drop_left]
        · intro j hj o ho
          have : j ≠ b := fun e => hj (by rw [hb.blk, e])
          rw [GH.put_ne _ _ this]; exact ho
  · refine ⟨xs, by rw [← e1]; exact hu.sl.rd, fun b c hb hlc hc2 => ?_⟩
    have hfresh : G0 b = none := by
      cases e0 : G0 b with
      | none => rfl
      | some o => rw [hG b o e0] at hb; cases hb
    have hzs : (Builtin.zeroCells zero (c - (lenS u + lenS v))).size = (c - (lenS u + lenS v)) * n := by rw [zeroCells_size, hz]
    refine h _ _ (GH.trans_put hG hb) (.inr ⟨b, (Builtin.zeroCells zero (c - (lenS u + lenS v))).toList, hfresh, ?_⟩) rfl ?_ (.inr ⟨b, rfl, hb⟩)
    · refine OwnB.fresh (by rw [List.length_append, Nat.add_mul]; omega) ?_ hlc hc2 (by simp)
      simp only [List.length_append, Array.length_toList, hzs, Nat.sub_mul, Nat.add_mul]
      have : (lenS u + lenS v) * n ≤ c * n := Nat.mul_le_mul_right n hlc
      rw [Nat.add_mul] at this; omega
    · intro j _ o ho
      have : j ≠ b := fun e => by subst e; rw [hb] at ho; cases ho
      rw [GH.put_ne _ _ this]; exact ho
theorem cells1_bytes (bs : List UInt8) : cells1 (bs.map bv) = true := by simp [cells1, Value.oneCell']
end
end Go.Proofs.Ytdeihgcgglhhcaa.V
