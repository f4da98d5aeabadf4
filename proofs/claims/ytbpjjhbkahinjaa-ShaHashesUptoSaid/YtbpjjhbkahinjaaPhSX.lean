/- What is asked of three hashes, as it comes in. -/
import Derived.Test.YtbpjjhbkahinjaaPhSW
set_option linter.unusedSimpArgs false
set_option linter.unusedVariables false
namespace Go.Proofs.Ytbpjjhbkahinjaa.V
open Go.RowKit Go.ChangeShapes Go.WideShapes Go.ChangeAt
theorem bulk_agg {H : Type} {ds : List (DataW H)} : Rows.uptoBulkAll ds ≤ Rows.uptoBulk (DataW.agg ds) := by
  simp only [Rows.uptoBulk]; omega
theorem td_act {H : Type} {enc : TypeId × Value → H} {W : World} {cs : List Value} {d : DataW H} (h : Td enc Try.prog W 29 cs d) :
    ∃ (k o t : Int) (w : Value) (bs : List UInt8), cs = [.int .i64 k, .int .i64 o, .int .i64 t, w] ∧ By (whole W) w bs ∧ bs.length ≤ Rows.uptoBulk d := by
  obtain ⟨h1, dd, rfl, h2, h3⟩ := Td.struct Try.underlying29 h
  have hc : Try.prog.cellsOf 29 = 4 := by kernel_rfl
  have hc3 : Try.prog.cellsOf 3 = 1 := by kernel_rfl
  have hc25 : Try.prog.cellsOf 25 = 1 := by kernel_rfl
  rw [hc] at h1
  obtain ⟨a, b, c, w, rfl⟩ : ∃ a b c w, cs = [a, b, c, w] := by
    match cs, h1 with
    | [a, b, c, w], _ => exact ⟨a, b, c, w, rfl⟩
  obtain ⟨d0, _, e0⟩ := h3 0 _ rfl
  obtain ⟨d1, _, e1⟩ := h3 1 _ rfl
  obtain ⟨d2, _, e2⟩ := h3 2 _ rfl
  obtain ⟨d3, g3, e3⟩ := h3 3 _ rfl
  simp only [hc3, hc25] at e0 e1 e2 e3
  obtain ⟨n0, hn0, _, _⟩ := Td.int Try.underlying3 e0
  obtain ⟨n1, hn1, _, _⟩ := Td.int Try.underlying3 e1
  obtain ⟨n2, hn2, _, _⟩ := Td.int Try.underlying3 e2
  obtain ⟨u, bs, hu, hb, hd⟩ := Td.bytes Try.underlying25 Try.underlying5 (by kernel_rfl) e3
  have i0 : a = .int .i64 n0 := by simpa using hn0
  have i1 : b = .int .i64 n1 := by simpa using hn1
  have i2 : c = .int .i64 n2 := by simpa using hn2
  have i3 : w = u := by simpa using hu
  subst i0 i1 i2 i3
  refine ⟨n0, n1, n2, _, bs, rfl, hb, ?_⟩
  have s1 := bulk_mem (List.mem_of_getElem? g3)
  have s2 : Rows.uptoBulkAll dd ≤ Rows.uptoBulk (DataW.agg dd) := bulk_agg
  rcases hd with ⟨_, rfl⟩ | ⟨el, sp, rfl, e7⟩
  · simp
  · have := bulk_slice1 el sp
    omega
theorem top_script {H : Type} {enc : TypeId × Value → H} {w : World} {r : Reach} {base : Nat} {v : Value} {pm : List MemPlace} {d : DataW H} {ds : List (DataW H)}
    (hv : Value.okWide Try.prog w r base 22 v) (h : DataW.Trod enc Try.prog w 0 (fun _ => true) true 22 v d pm) (hd : d ∈ ds) (hk : Rows.uptoBulkAll ds ≤ 1048576) : ∃ n, Script (whole w) v n := by
  have hc : Try.prog.cellsOf 29 = 4 := by kernel_rfl
  have hbm := bulk_mem hd
  rcases top_slice Try.underlying22 (by rw [hc]; decide) hv h with ⟨rfl, rfl⟩ | ⟨elems, spare, flat, rfl, h1, h2, h3⟩
  · exact ⟨0, [], Sl.nil 4 _, rfl, fun i hi => absurd hi (Nat.not_lt_zero _)⟩
  · rw [hc] at h2 h3
    refine ⟨lenS v, flat, h2, rfl, fun i hi => ?_⟩
    obtain ⟨di, e1, e2⟩ := h3 i hi
    obtain ⟨k, o, t, u, bs, e3, e4, e5⟩ := td_act e2
    refine ⟨k, o, t, u, bs, e3, e4, ?_⟩
    have s1 := bulk_mem (List.mem_of_getElem? e1)
    have s2 : Rows.uptoBulkAll elems ≤ Rows.uptoBulk (DataW.slice elems spare) := by simp only [Rows.uptoBulk]; omega
    omega
theorem shaHashes_walk {H : Type} {enc : TypeId × Value → H} {W : World} {base : Nat} {v0 : Value} {d0 : DataW H} {p0 : List MemPlace}
    (hv0 : Value.okWide Try.prog W .any base 22 v0) (h0 : DataW.Trod enc Try.prog W 0 (fun _ => true) true 22 v0 d0 p0)
    (hsz : (DataW.weightsEach Try.prog [22] [d0]).all (· ≤ reachBytes) = true) (hk : Rows.uptoBulkAll [d0] ≤ 1048576) :
    HC Try.prog 3 #[v0] (whole W) fun v G' => v = .bool true ∧ (whole W).le G' := by
  obtain ⟨n, hn⟩ := top_script hv0 h0 (by simp) hk
  exact hashesP v0 n _ hn
end Go.Proofs.Ytbpjjhbkahinjaa.V
