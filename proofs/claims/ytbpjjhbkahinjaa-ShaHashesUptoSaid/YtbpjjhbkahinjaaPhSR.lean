/- Pieces that come in, of bulk; ShaSums. -/
import Derived.Test.YtbpjjhbkahinjaaPhSQ
import Derived.Test.YtbpjjhbkahinjaaPhSE
import Derived.Test.YtbpjjhbkahinjaaPhVL
import Derived.Test.YtbpjjhbkahinjaaRows
set_option linter.unusedSimpArgs false
set_option linter.unusedVariables false
-- @extra s_eqDt s_eqDf
namespace Go.Proofs.Ytbpjjhbkahinjaa.V
open Go.RowKit Go.ChangeShapes Go.WideShapes Go.ChangeAt
theorem bulk_pos {H : Type} (d : DataW H) : 1 ≤ Rows.uptoBulk d := by
  cases d with
  | lit l => cases l <;> simp [Rows.uptoBulk]
  | _ => simp [Rows.uptoBulk]
theorem bulk_len {H : Type} : ∀ l : List (DataW H), l.length ≤ Rows.uptoBulkAll l
  | [] => by simp
  | d :: r => by
    have a := bulk_pos d
    have b := bulk_len r
    simp only [Rows.uptoBulkAll, List.length_cons]; omega
theorem bulk_mem {H : Type} : ∀ {l : List (DataW H)} {d : DataW H}, d ∈ l → Rows.uptoBulk d ≤ Rows.uptoBulkAll l
  | x :: l, d, h => by
    simp only [Rows.uptoBulkAll]
    rcases List.mem_cons.1 h with rfl | h
    · omega
    · have := bulk_mem h; omega
theorem bulk_slice1 {H : Type} (elems spare : List (DataW H)) : elems.length ≤ Rows.uptoBulk (DataW.slice elems spare) := by
  have b := bulk_len elems
  simp only [Rows.uptoBulk]; omega
theorem piece_le {ps : List (List UInt8)} {i : Nat} (h : i < ps.length) : ps[i].length ≤ ps.flatten.length := by
  have := flat_take h
  have b := flat_len ps (i + 1)
  rw [this, List.length_append] at b
  omega
end Go.Proofs.Ytbpjjhbkahinjaa.V
