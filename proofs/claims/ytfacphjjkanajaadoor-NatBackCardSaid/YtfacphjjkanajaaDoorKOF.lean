/- NatBytes. -/
import Derived.Test.YtfacphjjkanajaaDoorKOE
import Derived.Test.YtfacphjjkanajaaDoorKNG
import Derived.Test.YtfacphjjkanajaaDoorKVL
set_option linter.unusedSimpArgs false
set_option linter.unusedVariables false
-- @nums
namespace Go.Proofs.YtfacphjjkanajaaDoor.V
open Go.RowKit Go.ChangeShapes Go.WideShapes
/-- What is told: nothing wrong, or too long; the number, or nought. -/
def er (xs : List Nat) : Int := if ln xs ≤ 64 then 0 else 3
def nv (xs : List Nat) : Nat := if ln xs ≤ 64 then val 18446744073709551616 xs else 0
section
variable {u : Value} {xs : List Nat} {G : GH}
theorem nBytesE (h : Nu .u64 G u xs) (hd : Dl 18446744073709551616 xs) : HC Tryd.prog 10 #[u] G fun v G' => G.le G' ∧ ∃ w, v = .tuple #[w, .int .i64 (er xs)] ∧ Own 1 G G' w ((bytesOf (nv xs)).map bv) :=
  (nBytes u xs G h hd).mono fun v G' hr => by
    unfold er nv
    rcases hr with ⟨h1, ⟨h2, rfl⟩ | ⟨h2, w, rfl, h3⟩⟩
    · rw [if_neg h2, if_neg h2, bytes_zero]
      exact ⟨h1, _, rfl, .inl ⟨rfl, rfl⟩⟩
    · rw [if_pos h2, if_pos h2]
      exact ⟨h1, w, rfl, h3⟩
theorem nBitsE (h : Nu .u64 G u xs) (hd : Dl 18446744073709551616 xs) : HC Tryd.prog 11 #[u] G fun v G' => G.le G' ∧ v = .tuple #[iv .i64 (dg 2 (nv xs)).length, .int .i64 (er xs)] :=
  (nBits u xs G h hd).mono fun v G' hr => by
    unfold er nv
    rcases hr with ⟨h1, ⟨h2, rfl⟩ | ⟨h2, rfl⟩⟩
    · rw [if_neg h2, if_neg h2, dg_zero]
      exact ⟨h1, rfl⟩
    · rw [if_pos h2, if_pos h2]
      exact ⟨h1, rfl⟩
end
def fe (bs : List UInt8) : Int := if (strip bs).length ≤ 512 then 0 else 3
section
variable {u : Value} {bs : List UInt8} {G : GH}
theorem FromE (h : By G u bs) : HC Tryd.prog 5 #[u] G fun v G' => G.le G' ∧ ∃ w, v = .tuple #[w, .int .i64 (fe bs)] ∧ (¬ (strip bs).length ≤ 512 → w = .slice none 0 0) ∧ ((strip bs).length ≤ 512 → Own 1 G G' w ((dg 18446744073709551616 (num bs)).map (iv .u64))) :=
  (From u bs G h).mono fun v G' hr => by
    unfold fe
    rcases hr with ⟨h1, ⟨h2, rfl⟩ | ⟨h2, w, rfl, h3⟩⟩
    · rw [if_neg (by omega)]
      exact ⟨h1, _, rfl, fun _ => rfl, fun h => absurd h (by omega)⟩
    · rw [if_pos h2]
      exact ⟨h1, w, rfl, fun h => absurd h2 h, fun _ => h3⟩
theorem small8 {n m : Nat} (h : (dg 18446744073709551616 n).length ≤ m) : (dg 256 n).length ≤ 8 * m := by
  refine dg_len_le (by decide) ?_
  have h1 := lt_dg (B := 18446744073709551616) (by decide) n
  have h2 := Nat.pow_le_pow_right (n := 18446744073709551616) (by decide) h
  rw [pow8 m] at h2
  exact Nat.lt_of_lt_of_le h1 h2
end
theorem wf_i64d {n : Int} (h : (Lit.int .i64 n).wf = true) : -9223372036854775808 ≤ n ∧ n ≤ 9223372036854775807 := by
  simpa [Lit.wf, IntKind.has, IntKind.min, IntKind.max, IntKind.signed, IntKind.bits] using h
end Go.Proofs.YtfacphjjkanajaaDoor.V
