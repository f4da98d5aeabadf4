/- DerBack: what comes in. -/
import Derived.Test.YtkidjjnmdpbcaaaPbZ
import Derived.Test.YtkidjjnmdpbcaaaPbCE
set_option linter.unusedSimpArgs false
set_option linter.unusedVariables false
namespace Go.Proofs.Ytkidjjnmdpbcaaa.V
open Go.RowKit Go.ChangeShapes Go.WideShapes Go.ChangeAt
theorem td_elem {H : Type} {enc : TypeId × Value → H} {W : World} {cs : List Value} {d : DataW H} (h : Td enc Try.prog W 37 cs d) :
    ∃ (k : Int) (w : Value) (bs : List UInt8), cs = [.int .i64 k, w] ∧ By (whole W) w bs := by
  obtain ⟨h1, dd, rfl, h2, h3⟩ := Td.struct Try.underlying37 h
  have hc : Try.prog.cellsOf 37 = 2 := by kernel_rfl
  have hc3 : Try.prog.cellsOf 3 = 1 := by kernel_rfl
  have hc25 : Try.prog.cellsOf 25 = 1 := by kernel_rfl
  rw [hc] at h1
  obtain ⟨a, b, rfl⟩ : ∃ a b, cs = [a, b] := by
    match cs, h1 with
    | [a, b], _ => exact ⟨a, b, rfl⟩
  obtain ⟨d0, _, e0⟩ := h3 0 _ rfl
  obtain ⟨d1, g1, e1⟩ := h3 1 _ rfl
  simp only [hc3, hc25] at e0 e1
  obtain ⟨n, hn, _, hwf⟩ := Td.int Try.underlying3 e0
  obtain ⟨u, bs, hu, hb, _⟩ := Td.bytes Try.underlying25 Try.underlying5 (by kernel_rfl) e1
  have i0 : a = .int .i64 n := by simpa using hn
  have i1 : b = u := by simpa using hu
  subst i0 i1
  exact ⟨n, _, bs, rfl, hb⟩
theorem top_elems {H : Type} {enc : TypeId × Value → H} {W : World} {r : Reach} {base : Nat} {v : Value} {d : DataW H} {ps : List MemPlace} (hv : Value.okWide Try.prog W r base 56 v) (h : DataW.Trod enc Try.prog W 0 (fun _ => true) true 56 v d ps) : ∃ n kf df, ElemsIn (whole W) v n kf df := by
  have hc : Try.prog.cellsOf 37 = 2 := by kernel_rfl
  rcases top_slice Try.underlying56 (by rw [hc]; decide) hv h with ⟨rfl, rfl⟩ | ⟨elems, spare, flat, rfl, h1, h2, h3⟩
  · exact ⟨0, fun _ => 0, fun _ => [], [], Sl.nil 2 _, rfl, fun i hi => absurd hi (Nat.not_lt_zero _)⟩
  · rw [hc] at h2 h3
    have hex : ∀ i, ∃ p : Int × List UInt8, i < lenS v → ∃ w, (flat.drop (i * 2)).take 2 = [.int .i64 p.1, w] ∧ By (whole W) w p.2 := by
      intro i
      by_cases hi : i < lenS v
      · obtain ⟨di, e1, e2⟩ := h3 i hi
        obtain ⟨k, w, bs, f1, f2⟩ := td_elem e2
        exact ⟨(k, bs), fun _ => ⟨w, f1, f2⟩⟩
      · exact ⟨(0, []), fun h => absurd h hi⟩
    exact ⟨lenS v, fun i => (hex i).choose.1, fun i => (hex i).choose.2, flat, h2, rfl, fun i hi => (hex i).choose_spec hi⟩
theorem derBack_walk {H : Type} {enc : TypeId × Value → H} {W : World} {base : Nat} {v0 v1 : Value} {d0 d1 : DataW H} {p0 p1 : List MemPlace}
    (hv0 : Value.okWide Try.prog W .any base 56 v0) (h0 : DataW.Trod enc Try.prog W 0 (fun _ => true) true 56 v0 d0 p0)
    (hv1 : Value.okWide Try.prog W .any base 25 v1) (h1 : DataW.Trod enc Try.prog W 0 (fun _ => true) true 25 v1 d1 p1)
    (hsz : (DataW.weightsEach Try.prog [56, 25] [d0, d1]).all (· ≤ reachBytes) = true) :
    HC Try.prog 9 #[v0, v1] (whole W) fun v G' => v = .bool true ∧ (whole W).le G' := by
  obtain ⟨n, kf, df, hn⟩ := top_elems hv0 h0
  obtain ⟨bs, hb, hl⟩ := top_bytesL 1 Try.underlying25 Try.underlying5 (by kernel_rfl) (by kernel_rfl) hv1 h1 hsz rfl rfl
  exact law9 v0 v1 n kf df bs _ hn hb hl
end Go.Proofs.Ytkidjjnmdpbcaaa.V
