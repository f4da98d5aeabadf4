/- Points that come in. -/
import Derived.Test.YtdeihgcgglhhcaaPeKX
set_option linter.unusedSimpArgs false
set_option linter.unusedVariables false
set_option maxRecDepth 100000
namespace Go.Proofs.Ytdeihgcgglhhcaa.V
open Go.RowKit Go.ChangeShapes Go.WideShapes
section
variable {H : Type} {enc : TypeId × Value → H} {P : Program} {w : World} {t e : TypeId} {cs : List Value} {d : DataW H} {n : Nat}
/-- A row of n bytes. -/
theorem Td.arr (ht : P.underlying t = some (.array n e)) (he : P.underlying e = some (.int .u8)) (hn : P.cellsOf e = 1) (hl : P.cellsOf t = n) (h : Td enc P w t cs d) : ∃ l : List UInt8, l.length = n ∧ cs = l.map bv := by
  obtain ⟨h1, ds, rfl, h2, h3⟩ := Td.array ht h
  rw [hl] at h1
  rw [hn] at h3
  obtain ⟨bs, hb⟩ := bytes_of cs fun i hi => by
    obtain ⟨di, _, hd⟩ := h3 i (by omega)
    obtain ⟨m, hc, _, hw⟩ := Td.int he hd
    obtain ⟨b, rfl⟩ := wf_u8 hw
    refine ⟨b, ?_⟩
    rw [Nat.mul_one] at hc
    have := congrArg (fun l => l[0]?) hc
    simpa [List.getElem?_take, List.getElem?_drop] using this
  exact ⟨bs, by rw [← h1, hb]; simp, hb⟩
end
/-- A point, as an argument. -/
theorem top_point {H : Type} {enc : TypeId × Value → H} {W : World} {r : Reach} {base : Nat} {v : Value} {d : DataW H} {ps : List MemPlace} (hv : Value.okWide Try.prog W r base 26 v) (h : DataW.Trod enc Try.prog W 0 (fun _ => true) true 26 v d ps) : ∃ x y i, x.length = 32 ∧ y.length = 32 ∧ v = pnt x y i := by
  obtain ⟨cs, rfl, h1, ds, rfl, h2, h3⟩ := top_struct Try.underlying26 hv h
  have hc : Try.prog.cellsOf 26 = 65 := by kernel_rfl
  have hc24 : Try.prog.cellsOf 24 = 32 := by kernel_rfl
  have hc5 : Try.prog.cellsOf 5 = 1 := by kernel_rfl
  have hc4 : Try.prog.cellsOf 4 = 1 := by kernel_rfl
  rw [hc] at h1
  obtain ⟨d0, _, t0⟩ := h3 0 _ rfl
  obtain ⟨d1, _, t1⟩ := h3 1 _ rfl
  obtain ⟨d2, _, t2⟩ := h3 2 _ rfl
  dsimp only at t0 t1 t2
  rw [hc24] at t0 t1
  rw [hc4] at t2
  obtain ⟨x, lx, ex⟩ := Td.arr Try.underlying24 Try.underlying5 hc5 hc24 t0
  obtain ⟨y, ly, ey⟩ := Td.arr Try.underlying24 Try.underlying5 hc5 hc24 t1
  obtain ⟨i, ei, _⟩ := Td.bool Try.underlying4 t2
  refine ⟨x, y, i, lx, ly, ?_⟩
  show Value.agg cs = Value.agg (x.map bv ++ (y.map bv ++ [Value.bool i])).toArray
  congr 1
  apply Array.ext'
  show cs.toList = _
  rw [← ex, ← ey, ← ei]
  have hs : cs.toList.length = 65 := by simpa using h1
  rw [List.drop_zero]
  have e2 : List.take 1 (List.drop 64 cs.toList) = List.drop 64 cs.toList := List.take_of_length_le (by simp [hs])
  have e1 : List.drop 64 cs.toList = List.drop 32 (List.drop 32 cs.toList) := by rw [List.drop_drop]
  rw [e2, e1, List.take_append_drop, List.take_append_drop]
theorem curveOns_walk {H : Type} {enc : TypeId × Value → H} {W : World} {base : Nat} {v0 : Value} {d0 : DataW H} {p0 : List MemPlace}
    (hv0 : Value.okWide Try.prog W .any base 26 v0) (h0 : DataW.Trod enc Try.prog W 0 (fun _ => true) true 26 v0 d0 p0)
    (hsz : (DataW.weightsEach Try.prog [26] [d0]).all (· ≤ reachBytes) = true) :
    HC Try.prog 7 #[v0] (whole W) fun v G' => v = .bool true ∧ (whole W).le G' := by
  obtain ⟨x, y, i, lx, ly, rfl⟩ := top_point hv0 h0
  exact lawOns x y i _ lx ly
end Go.Proofs.Ytdeihgcgglhhcaa.V
