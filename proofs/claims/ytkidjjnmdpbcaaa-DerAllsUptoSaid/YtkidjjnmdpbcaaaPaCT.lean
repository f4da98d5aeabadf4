/- Bulk: what comes in is not too much. -/
import Derived.Test.YtkidjjnmdpbcaaaPaVL
import Derived.Test.YtkidjjnmdpbcaaaRows
set_option linter.unusedSimpArgs false
set_option linter.unusedVariables false
namespace Go.Proofs.Ytkidjjnmdpbcaaa.V
open Go.RowKit Go.ChangeShapes Go.WideShapes Go.ChangeAt
theorem bulk_pos {H : Type} (d : DataW H) : 1 ≤ Rows.uptoBulk d := by
  cases d with
  | lit l => cases l <;> simp [Rows.uptoBulk]
  | _ => simp [Rows.uptoBulk]
theorem bulk_len {H : Type} : ∀ l : List (DataW H), l.length ≤ Rows.uptoBulkAll l
  | [] => by simp
  | d :: r => by
    have a := bulk_pos d
    have b := bulk_len r
    simp only [Rows.uptoBulkAll, List.length_cons]; omega
theorem bulk_mem {H : Type} : ∀ {l : List (DataW H)} {d : DataW H}, d ∈ l → Rows.uptoBulk d ≤ Rows.uptoBulkAll l
  | x :: l, d, h => by
    simp only [Rows.uptoBulkAll]
    rcases List.mem_cons.1 h with rfl | h
    · omega
    · have := bulk_mem h; omega
theorem bulk_slice1 {H : Type} (elems spare : List (DataW H)) : elems.length ≤ Rows.uptoBulk (DataW.slice elems spare) := by
  have b := bulk_len elems
  simp only [Rows.uptoBulk]; omega
theorem top_bytesU {H : Type} {enc : TypeId × Value → H} {P : Program} {w : World} {r : Reach} {base : Nat} {v : Value} {ps : List MemPlace} {t e : TypeId} {d : DataW H} {ds : List (DataW H)} (ht : P.underlying t = some (.slice e)) (he : P.underlying e = some (.int .u8)) (hn : P.cellsOf e = 1)
    (hv : Value.okWide P w r base t v) (h : DataW.Trod enc P w 0 (fun _ => true) true t v d ps) (hd : d ∈ ds) (hk : Rows.uptoBulkAll ds ≤ 1048576) : ∃ bs, By (whole w) v bs ∧ bs.length ≤ 1048576 := by
  obtain ⟨bs, hb, ⟨_, rfl⟩ | ⟨elems, spare, rfl, hl⟩⟩ := top_bytes ht he hn hv h
  · exact ⟨[], hb, by simp⟩
  · have := bulk_mem hd
    have := bulk_slice1 elems spare
    exact ⟨bs, hb, by omega⟩
end Go.Proofs.Ytkidjjnmdpbcaaa.V
