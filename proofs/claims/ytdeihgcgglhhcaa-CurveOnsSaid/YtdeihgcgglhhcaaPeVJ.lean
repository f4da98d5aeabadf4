/- Library V, part J: what the readings of a row's arguments say. No program here. -/
import Derived.Test.YtdeihgcgglhhcaaPeVI
import Derived.WalkKit
import Derived.ProofKit
import Derived.OpenShut
import Derived.SizedLaws
set_option linter.unusedVariables false
set_option linter.unusedSimpArgs false
namespace Go.Proofs.Ytdeihgcgglhhcaa.V
open Go.ChangeShapes Go.WideShapes Go.ChangeAt Go.RowKit
section
variable {H : Type} {enc : TypeId × Value → H} {P : Program} {w : World}
/-- Cells of a type that read as d. -/
def Td (enc : TypeId × Value → H) (P : Program) (w : World) (t : TypeId) (cs : List Value) (d : DataW H) : Prop := ∃ fuel ps, DataW.trod enc P w 0 (fun _ => true) true fuel t cs = some (d, ps)
theorem Td.of {t : TypeId} {v : Value} {d : DataW H} {ps : List MemPlace} (h : DataW.Trod enc P w 0 (fun _ => true) true t v d ps) : Td enc P w t v.cells.toList d := by
  obtain ⟨fuel, h⟩ := h; exact ⟨fuel, ps, h⟩
variable {t e : TypeId} {cs : List Value} {d : DataW H}
theorem Td.int {k : IntKind} (ht : P.underlying t = some (.int k)) (h : Td enc P w t cs d) : ∃ n, cs = [.int k n] ∧ d = .lit (.int k n) ∧ (Lit.int k n).wf = true := by
  obtain ⟨fuel, ps, h⟩ := h
  cases fuel with
  | zero => cases h
  | succ fuel =>
    unfold DataW.trod at h
    simp only [ht] at h
    split at h <;> (try (exfalso; simp_all only [Option.some.injEq, reduceCtorEq]; done))
    · rename_i heq
      cases heq
      obtain ⟨⟨rfl, hw⟩, h⟩ := Option.ite_none_right_eq_some.1 h
      cases h
      exact ⟨_, rfl, rfl, hw⟩
    all_goals simp_all
theorem Td.bool (ht : P.underlying t = some .bool) (h : Td enc P w t cs d) : ∃ b, cs = [.bool b] ∧ d = .lit (.bool b) := by
  obtain ⟨fuel, ps, h⟩ := h
  cases fuel with
  | zero => cases h
  | succ fuel =>
    unfold DataW.trod at h
    simp only [ht] at h
    split at h <;> (try (exfalso; simp_all only [Option.some.injEq, reduceCtorEq]; done))
    · cases h; exact ⟨_, rfl, rfl⟩
    all_goals simp_all
theorem mapM_some {α β : Type} {f : α → Option β} : ∀ {l : List α} {r : List β}, l.mapM f = some r → r.length = l.length ∧ ∀ (i : Nat) (x : α), l[i]? = some x → ∃ y, r[i]? = some y ∧ f x = some y
  | [], r, h => by simp at h; subst h; simp
  | a :: l, r, h => by
    rw [List.mapM_cons] at h
    cases h1 : f a with
    | none => rw [h1] at h; cases h
    | some b =>
      rw [h1] at h
      cases h2 : l.mapM f with
      | none => rw [h2] at h; cases h
      | some r' =>
        rw [h2] at h; cases h
        obtain ⟨h3, h4⟩ := mapM_some h2
        refine ⟨by simp [h3], fun i x hx => ?_⟩
        cases i with
        | zero => simp at hx; subst hx; exact ⟨b, rfl, h1⟩
        | succ i => simpa using h4 i x (by simpa using hx)
theorem mapM_range {β : Type} {f : Nat → Option β} {n : Nat} {r : List β} (h : (List.range n).mapM f = some r) : r.length = n ∧ ∀ i, i < n → ∃ y, r[i]? = some y ∧ f i = some y := by
  obtain ⟨h1, h2⟩ := mapM_some h
  refine ⟨by simpa using h1, fun i hi => h2 i i (by simp [hi])⟩
/-- Cells in a row are in the block. -/
theorem cells_some {a : Addr} {n : Nat} {r : List Value} (h : w.cells? 0 a n = some r) : r.length = n ∧ (n ≠ 0 → a.spot = none ∧ ∃ cs e fr, w.heap[a.block]? = some (.cells cs e fr) ∧ a.off + n ≤ cs.size ∧ r = (cs.extract a.off (a.off + n)).toList) := by
  simp only [World.cells?, Nat.zero_le, if_true] at h
  obtain ⟨h1, h2⟩ := mapM_range h
  refine ⟨h1, fun hn => ?_⟩
  have key : ∀ i, i < n → ∃ y cs e fr, r[i]? = some y ∧ w.heap[a.block]? = some (.cells cs e fr) ∧ a.spot.isSome = (if i = 0 then a.spot.isSome else a.spot.isSome) ∧ cs[a.off + i]? = some y ∧ (i = 0 → a.spot = none) := by
    intro i hi
    obtain ⟨y, hy, hc⟩ := h2 i hi
    simp only [World.cell?] at hc
    have hb : (a.add i).block = a.block := by simp only [Addr.add]; split <;> rfl
    have ho : (a.add i).off = a.off + i := by
      simp only [Addr.add]; split
      · rename_i h0; subst h0; rfl
      · rfl
    rw [hb, ho] at hc
    split at hc
    · rename_i cs e fr hcs
      refine ⟨y, cs, e, fr, hy, hcs, by simp, ?_, ?_⟩
      · split at hc
        · cases hc
        · exact hc
      · intro h0; subst h0
        split at hc
        · cases hc
        · rename_i hs
          simp only [Addr.add, if_true] at hs
          cases hsp : a.spot with
          | none => rfl
          | some _ => rw [hsp] at hs; simp at hs
    · cases hc
  obtain ⟨_, cs, e, fr, _, hcs, _, _, hsp⟩ := key 0 (by omega)
  refine ⟨hsp rfl, cs, e, fr, hcs, ?_, ?_⟩
  · obtain ⟨y, cs', e', fr', _, hcs', _, hl, _⟩ := key (n - 1) (by omega)
    rw [hcs] at hcs'; cases hcs'
    have := (Array.getElem?_eq_some_iff.1 hl).1
    omega
  · apply List.ext_getElem?
    intro i
    by_cases hi : i < n
    · obtain ⟨y, cs', e', fr', hy, hcs', _, hl, _⟩ := key i hi
      rw [hcs] at hcs'; cases hcs'
      have hsz : a.off + n ≤ cs.size := by
        obtain ⟨y2, cs2, e2, fr2, _, hcs2, _, hl2, _⟩ := key (n - 1) (by omega)
        rw [hcs] at hcs2; cases hcs2
        have := (Array.getElem?_eq_some_iff.1 hl2).1
        omega
      rw [extract_get hsz hi, hy, hl]
    · rw [List.getElem?_eq_none (by omega)]
      rw [List.getElem?_eq_none]
      simp; omega
theorem maxLen_le : maxLen ≤ 9223372036854775807 := by decide
/-- A slice: nil, or cells that read. -/
theorem Td.slice (ht : P.underlying t = some (.slice e)) (hn : P.cellsOf e ≠ 0) (h : Td enc P w t cs d) :
    (cs = [.slice none 0 0] ∧ d = .nil) ∨ ∃ a len cap elems spare flat, cs = [.slice (some a) len cap] ∧ d = .slice elems spare ∧ elems.length = len ∧ spare.length = cap - len ∧ len ≤ cap ∧ cap ≤ 9223372036854775807 ∧ Sl (P.cellsOf e) (whole w) (.slice (some a) len cap) flat ∧ ∀ i, i < len → ∃ di, elems[i]? = some di ∧ Td enc P w e ((flat.drop (i * P.cellsOf e)).take (P.cellsOf e)) di := by
  obtain ⟨fuel, ps, h⟩ := h
  cases fuel with
  | zero => cases h
  | succ fuel =>
    unfold DataW.trod at h
    simp only [ht] at h
    split at h <;> (try (exfalso; simp_all only [Option.some.injEq, reduceCtorEq]; done))
    · cases h; exact .inl ⟨rfl, rfl⟩
    · rename_i e' a len cap heq
      cases heq
      obtain ⟨⟨_, hlc, hcm⟩, h⟩ := Option.ite_none_right_eq_some.1 h
      simp only [if_true, Option.bind_eq_some_iff, Option.map_eq_some_iff] at h
      obtain ⟨elems, he, rest, hr, h⟩ := h
      cases h
      obtain ⟨e1, e2⟩ := mapM_range he
      obtain ⟨r1, r2⟩ := mapM_range hr
      have hcm' : cap ≤ 9223372036854775807 := Nat.le_trans hcm maxLen_le
      have hadd : ∀ i, (a.add (i * P.cellsOf e)).block = a.block ∧ (a.add (i * P.cellsOf e)).off = a.off + i * P.cellsOf e ∧ (i = 0 → (a.add (i * P.cellsOf e)).spot = a.spot) := by
        intro i
        simp only [Addr.add]
        split
        · rename_i h0; rw [h0]; exact ⟨rfl, rfl, fun _ => rfl⟩
        · rename_i h0; exact ⟨rfl, rfl, fun h1 => by subst h1; simp at h0⟩
      refine .inr ⟨a, len, cap, _, _, (if len = 0 then [] else match w.heap[a.block]? with | some (.cells cs _ _) => (cs.extract a.off (a.off + len * P.cellsOf e)).toList | _ => []), rfl, rfl, by simpa using e1, by simpa using r1, hlc, hcm', ?_, ?_⟩
      · refine ⟨?_, hlc, hcm'⟩
        obtain ⟨b, q, sp⟩ := a
        by_cases h0 : len = 0
        · subst h0
          simp only [if_true]
          cases sp with
          | none => simp [V.rd]
          | some _ => rfl
        · obtain ⟨y, _, hy⟩ := e2 0 (by omega)
          obtain ⟨z, hz1, hz2⟩ := Option.bind_eq_some_iff.1 hy
          obtain ⟨c1, c2⟩ := cells_some hz1
          obtain ⟨c3, cs, e0, fr, c4, c5, c6⟩ := c2 hn
          rw [(hadd 0).2.2 rfl] at c3
          obtain rfl : sp = none := c3
          rw [(hadd 0).1] at c4
          rw [if_neg h0]
          dsimp only at c4 ⊢
          rw [c4]
          refine rd_of c4 ?_
          obtain ⟨y', _, hy'⟩ := e2 (len - 1) (by omega)
          obtain ⟨z', hz1', hz2'⟩ := Option.bind_eq_some_iff.1 hy'
          obtain ⟨d1, d2⟩ := cells_some hz1'
          obtain ⟨d3, cs', e0', fr', d4, d5, d6⟩ := d2 hn
          rw [(hadd (len - 1)).1] at d4
          rw [(hadd (len - 1)).2.1] at d5
          dsimp only at d4 d5
          rw [c4] at d4; cases d4
          have : (len - 1) * P.cellsOf e + P.cellsOf e = len * P.cellsOf e := by
            rw [← Nat.succ_mul]; congr 1; exact Nat.succ_pred h0
          exact this ▸ (Nat.add_assoc q _ _ ▸ d5)
      · intro i hi
        obtain ⟨y, hy1, hy⟩ := e2 i hi
        obtain ⟨z, hz1, hz2⟩ := Option.bind_eq_some_iff.1 hy
        obtain ⟨c1, c2⟩ := cells_some hz1
        obtain ⟨c3, cs, e0, fr, c4, c5, c6⟩ := c2 hn
        rw [(hadd i).1] at c4
        rw [(hadd i).2.1] at c5 c6
        refine ⟨y.1, by rw [List.getElem?_map, hy1]; rfl, fuel, y.2, ?_⟩
        rw [if_neg (by omega), c4]
        dsimp only
        have hin : i * P.cellsOf e + P.cellsOf e ≤ len * P.cellsOf e := by
          rw [← Nat.succ_mul]; exact Nat.mul_le_mul_right _ hi
        have : ((cs.extract a.off (a.off + len * P.cellsOf e)).toList.drop (i * P.cellsOf e)).take (P.cellsOf e) = z := by
          rw [c6]
          apply List.ext_getElem?
          intro j
          simp only [Array.toList_extract, List.extract_eq_take_drop, List.getElem?_take, List.getElem?_drop]
          by_cases hj : j < P.cellsOf e
          · rw [if_pos hj, if_pos (by omega), if_pos (by omega)]; congr 1; omega
          · rw [if_neg hj, if_neg (by omega)]
        rw [this]; exact hz2
    all_goals simp_all
theorem Td.struct {fs : Array Field} (ht : P.underlying t = some (.struct fs)) (h : Td enc P w t cs d) : cs.length = P.cellsOf t ∧ ∃ ds, d = .agg ds ∧ ds.length = fs.size ∧ ∀ (i : Nat) (f : Field), fs.toList[i]? = some f → ∃ di, ds[i]? = some di ∧ Td enc P w f.type ((cs.drop f.offset).take (P.cellsOf f.type)) di := by
  obtain ⟨fuel, ps, h⟩ := h
  cases fuel with
  | zero => cases h
  | succ fuel =>
    unfold DataW.trod at h
    simp only [ht] at h
    obtain ⟨h1, h⟩ := Option.ite_none_right_eq_some.1 h
    simp only [Option.map_eq_some_iff] at h
    obtain ⟨xs, hx, h⟩ := h
    cases h
    obtain ⟨e1, e2⟩ := mapM_some hx
    refine ⟨h1, _, rfl, by simpa using e1, fun i f hf => ?_⟩
    obtain ⟨y, hy, hd⟩ := e2 i f hf
    exact ⟨y.1, by rw [List.getElem?_map, hy]; rfl, fuel, y.2, hd⟩
theorem Td.array {n : Nat} (ht : P.underlying t = some (.array n e)) (h : Td enc P w t cs d) : cs.length = P.cellsOf t ∧ ∃ ds, d = .agg ds ∧ ds.length = n ∧ ∀ i, i < n → ∃ di, ds[i]? = some di ∧ Td enc P w e ((cs.drop (i * P.cellsOf e)).take (P.cellsOf e)) di := by
  obtain ⟨fuel, ps, h⟩ := h
  cases fuel with
  | zero => cases h
  | succ fuel =>
    unfold DataW.trod at h
    simp only [ht] at h
    obtain ⟨h1, h⟩ := Option.ite_none_right_eq_some.1 h
    simp only [Option.map_eq_some_iff] at h
    obtain ⟨xs, hx, h⟩ := h
    cases h
    obtain ⟨e1, e2⟩ := mapM_range hx
    refine ⟨h1, _, rfl, by simpa using e1, fun i hi => ?_⟩
    obtain ⟨y, hy, hd⟩ := e2 i hi
    exact ⟨y.1, by rw [List.getElem?_map, hy]; rfl, fuel, y.2, hd⟩
theorem wf_u8 {n : Int} (h : (Lit.int .u8 n).wf = true) : ∃ b : UInt8, n = (b.toNat : Int) := by
  have h2 : 0 ≤ n ∧ n ≤ 255 := by simpa [Lit.wf, IntKind.has, IntKind.min, IntKind.max, IntKind.signed, IntKind.bits] using h
  refine ⟨UInt8.ofNat n.toNat, ?_⟩
  rw [UInt8.toNat_ofNat']
  omega
theorem bytes_of : ∀ (xs : List Value), (∀ i, i < xs.length → ∃ b : UInt8, xs[i]? = some (bv b)) → ∃ bs : List UInt8, xs = bs.map bv
  | [], _ => ⟨[], rfl⟩
  | x :: xs, h => by
    obtain ⟨b, hb⟩ := h 0 (by simp)
    obtain ⟨bs, hbs⟩ := bytes_of xs fun i hi => by
      obtain ⟨b, hb⟩ := h (i + 1) (by simpa using hi)
      exact ⟨b, by simpa using hb⟩
    simp at hb
    exact ⟨b :: bs, by rw [hb, hbs]; rfl⟩
/-- Bytes. -/
theorem Td.bytes (ht : P.underlying t = some (.slice e)) (he : P.underlying e = some (.int .u8)) (hn : P.cellsOf e = 1) (h : Td enc P w t cs d) : ∃ u bs, cs = [u] ∧ By (whole w) u bs ∧ ((d = .nil ∧ bs = []) ∨ ∃ elems spare, d = .slice elems spare ∧ elems.length = bs.length) := by
  rcases Td.slice ht (by rw [hn]; decide) h with ⟨rfl, rfl⟩ | ⟨a, len, cap, elems, spare, flat, rfl, rfl, h1, h2, h3, h4, h5, h6⟩
  · exact ⟨_, [], rfl, Sl.nil 1 _, .inl ⟨rfl, rfl⟩⟩
  · rw [hn] at h5 h6
    have hl : flat.length = len := by simpa [lenS] using h5.len
    obtain ⟨bs, hb⟩ := bytes_of flat fun i hi => by
      obtain ⟨di, _, hd⟩ := h6 i (by omega)
      obtain ⟨n, hc, _, hw⟩ := Td.int he hd
      obtain ⟨b, rfl⟩ := wf_u8 hw
      refine ⟨b, ?_⟩
      rw [Nat.mul_one] at hc
      have := congrArg (fun l => l[0]?) hc
      simpa [List.getElem?_take, List.getElem?_drop] using this
    subst hb
    exact ⟨_, bs, rfl, h5, .inr ⟨elems, spare, rfl, by rw [h1, ← hl]; simp⟩⟩
/-! ### Arguments -/
variable {r : Reach} {base : Nat} {v : Value} {ps : List MemPlace}
theorem top_struct {fs : Array Field} (ht : P.underlying t = some (.struct fs)) (hv : Value.okWide P w r base t v) (h : DataW.Trod enc P w 0 (fun _ => true) true t v d ps) : ∃ cs, v = .agg cs ∧ cs.size = P.cellsOf t ∧ ∃ ds, d = .agg ds ∧ ds.length = fs.size ∧ ∀ (i : Nat) (f : Field), fs.toList[i]? = some f → ∃ di, ds[i]? = some di ∧ Td enc P w f.type ((cs.toList.drop f.offset).take (P.cellsOf f.type)) di := by
  obtain ⟨cs, rfl, h1⟩ := okWide_struct ht hv
  obtain ⟨h2, h3⟩ := Td.struct ht (Td.of h)
  exact ⟨cs, rfl, h1, h3⟩
end
end Go.Proofs.Ytdeihgcgglhhcaa.V
