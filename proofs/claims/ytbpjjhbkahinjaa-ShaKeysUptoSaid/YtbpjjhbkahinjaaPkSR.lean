/- Pieces that come in, of bulk; ShaSums. -/
import Derived.Test.YtbpjjhbkahinjaaPkSQ
import Derived.Test.YtbpjjhbkahinjaaPkSE
import Derived.Test.YtbpjjhbkahinjaaPkVL
import Derived.Test.YtbpjjhbkahinjaaRows
set_option linter.unusedSimpArgs false
set_option linter.unusedVariables false
-- @extra s_eqDt s_eqDf
namespace Go.Proofs.Ytbpjjhbkahinjaa.V
open Go.RowKit Go.ChangeShapes Go.WideShapes Go.ChangeAt
theorem bulk_pos {H : Type} (d : DataW H) : 1 ≤ Rows.uptoBulk d := by
  cases d with
  | lit l => cases l <;> simp [Rows.uptoBulk]
  | _ => simp [Rows.uptoBulk]
theorem bulk_len {H : Type} : ∀ l : List (DataW H), l.length ≤ Rows.uptoBulkAll l
  | [] => by simp
  | d :: r => by
    have a := bulk_pos d
    have b := bulk_len r
    simp only [Rows.uptoBulkAll, List.length_cons]; omega
theorem bulk_mem {H : Type} : ∀ {l : List (DataW H)} {d : DataW H}, d ∈ l → Rows.uptoBulk d ≤ Rows.uptoBulkAll l
  | x :: l, d, h => by
    simp only [Rows.uptoBulkAll]
    rcases List.mem_cons.1 h with rfl | h
    · omega
    · have := bulk_mem h; omega
theorem bulk_slice1 {H : Type} (elems spare : List (DataW H)) : elems.length ≤ Rows.uptoBulk (DataW.slice elems spare) := by
  have b := bulk_len elems
  simp only [Rows.uptoBulk]; omega
theorem bulk_take {H : Type} : ∀ {l : List (DataW H)} {i : Nat} {d : DataW H}, l[i]? = some d → Rows.uptoBulkAll (l.take (i + 1)) = Rows.uptoBulkAll (l.take i) + Rows.uptoBulk d
  | x :: l, 0, d, h => by
    simp only [List.getElem?_cons_zero, Option.some.injEq] at h
    subst h
    simp [Rows.uptoBulkAll]
  | x :: l, i + 1, d, h => by
    simp only [List.getElem?_cons_succ] at h
    rw [List.take_succ_cons, List.take_succ_cons]
    simp only [Rows.uptoBulkAll]
    rw [bulk_take h]; omega
theorem bulk_le {H : Type} : ∀ (l : List (DataW H)) (i : Nat), Rows.uptoBulkAll (l.take i) ≤ Rows.uptoBulkAll l
  | [], i => by simp
  | x :: l, 0 => by simp [Rows.uptoBulkAll]
  | x :: l, i + 1 => by
    have := bulk_le l i
    rw [List.take_succ_cons]
    simp only [Rows.uptoBulkAll]; omega
theorem top_bytesU {H : Type} {enc : TypeId × Value → H} {P : Program} {w : World} {r : Reach} {base : Nat} {v : Value} {ps : List MemPlace} {t e : TypeId} {d : DataW H} {ds : List (DataW H)} (ht : P.underlying t = some (.slice e)) (he : P.underlying e = some (.int .u8)) (hn : P.cellsOf e = 1)
    (hv : Value.okWide P w r base t v) (h : DataW.Trod enc P w 0 (fun _ => true) true t v d ps) (hd : d ∈ ds) (hk : Rows.uptoBulkAll ds ≤ 1048576) : ∃ bs, By (whole w) v bs ∧ bs.length ≤ 1048576 := by
  obtain ⟨bs, hb, ⟨_, rfl⟩ | ⟨elems, spare, rfl, hl⟩⟩ := top_bytes ht he hn hv h
  · exact ⟨[], hb, by simp⟩
  · have := bulk_mem hd
    have := bulk_slice1 elems spare
    exact ⟨bs, hb, by omega⟩
theorem top_partsU {H : Type} {enc : TypeId × Value → H} {P : Program} {w : World} {r : Reach} {base : Nat} {v : Value} {pm : List MemPlace} {t e b : TypeId} {d : DataW H} {ds : List (DataW H)} (ht : P.underlying t = some (.slice e)) (he : P.underlying e = some (.slice b)) (hb : P.underlying b = some (.int .u8))
    (hn : P.cellsOf e = 1) (hn2 : P.cellsOf b = 1)
    (hv : Value.okWide P w r base t v) (h : DataW.Trod enc P w 0 (fun _ => true) true t v d pm) (hd : d ∈ ds) (hk : Rows.uptoBulkAll ds ≤ 1048576) :
    ∃ us ps, Parts (whole w) v us ps ∧ ps.length ≤ 1048576 ∧ ps.flatten.length ≤ 1048576 := by
  have hbm := bulk_mem hd
  rcases top_slice ht (by rw [hn]; decide) hv h with ⟨rfl, rfl⟩ | ⟨elems, spare, flat, rfl, h1, h2, h3⟩
  · exact ⟨[], [], ⟨Sl.nil 1 _, rfl, fun i hi => by simp at hi⟩, by simp, by simp⟩
  · rw [hn] at h2 h3
    have hlen := h2.len
    rw [Nat.mul_one] at hlen
    have hex : ∀ i, i < lenS v → ∃ u bs di, flat[i]? = some u ∧ By (whole w) u bs ∧ elems[i]? = some di ∧ bs.length ≤ Rows.uptoBulk di := by
      intro i hi
      obtain ⟨di, e1, e2⟩ := h3 i hi
      obtain ⟨u, bs, e3, e4, e5⟩ := Td.bytes he hb hn2 e2
      have e6 : flat[i]? = some u := by
        have := congrArg (fun l => l[0]?) e3
        simpa [List.getElem?_take, List.getElem?_drop] using this
      refine ⟨u, bs, di, e6, e4, e1, ?_⟩
      rcases e5 with ⟨_, rfl⟩ | ⟨el, sp, rfl, e7⟩
      · simp
      · have := bulk_slice1 el sp
        omega
    have hf : ∃ f : Nat → Value × List UInt8, ∀ i, i < lenS v → flat[i]? = some (f i).1 ∧ By (whole w) (f i).1 (f i).2 ∧ ∃ di, elems[i]? = some di ∧ (f i).2.length ≤ Rows.uptoBulk di := by
      refine ⟨fun i => if hi : i < lenS v then ((hex i hi).choose, (hex i hi).choose_spec.choose) else (.bool false, []), fun i hi => ?_⟩
      simp only [hi, dif_pos]
      obtain ⟨di, k⟩ := (hex i hi).choose_spec.choose_spec
      exact ⟨k.1, k.2.1, di, k.2.2⟩
    obtain ⟨f, hf⟩ := hf
    have hsum : ∀ n, n ≤ lenS v → ((List.range n).map fun i => (f i).2).flatten.length ≤ Rows.uptoBulkAll (elems.take n) := by
      intro n
      induction n with
      | zero => intro _; simp
      | succ n ih =>
        intro hn
        obtain ⟨_, _, di, k1, k2⟩ := hf n (by omega)
        have := ih (by omega)
        rw [map_range_succ, List.flatten_append, List.length_append, bulk_take k1]
        simp only [List.flatten_cons, List.flatten_nil, List.append_nil]; omega
    have s1 := hsum _ (Nat.le_refl _)
    have s2 := bulk_le elems (lenS v)
    have s3 := bulk_len elems
    have s4 : Rows.uptoBulkAll elems ≤ Rows.uptoBulk (DataW.slice elems spare) := by simp only [Rows.uptoBulk]; omega
    refine ⟨flat, (List.range (lenS v)).map fun i => (f i).2, ⟨h2, by simp [hlen], fun i hi => ?_⟩, ?_, by omega⟩
    · simp at hi
      obtain ⟨k1, k2, k3⟩ := hf i hi
      exact ⟨_, k1, by simpa using k2⟩
    · simp only [List.length_map, List.length_range]
      omega
theorem piece_le {ps : List (List UInt8)} {i : Nat} (h : i < ps.length) : ps[i].length ≤ ps.flatten.length := by
  have := flat_take h
  have b := flat_len ps (i + 1)
  rw [this, List.length_append] at b
  omega
end Go.Proofs.Ytbpjjhbkahinjaa.V
