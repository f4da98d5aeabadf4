/- What is put is taken. -/
import Derived.Test.YtkidjjnmdpbcaaaF
set_option linter.unusedSimpArgs false
set_option linter.unusedVariables false
namespace Go.Proofs.Ytkidjjnmdpbcaaa.V
open Go.RowKit Go.ChangeShapes Go.WideShapes
theorem ofIntM (n : Int) : ((UInt8.ofInt n).toNat : Int) = n % 256 := by
  have := wrap8 n
  rw [wrap_u8] at this
  exact this.symm
theorem put_hdr {t : Int} {c z : List UInt8} (ht : tagP t) (hc : c.length ≤ 16777215) :
    hdrE (UInt8.ofInt t :: lenB c.length ++ c ++ z) = 0 ∧ hdrF (UInt8.ofInt t :: lenB c.length ++ c ++ z) = 1 + (lenB c.length).length ∧ hdrN (UInt8.ofInt t :: lenB c.length ++ c ++ z) = c.length ∧ byt (UInt8.ofInt t :: lenB c.length ++ c ++ z) 0 = t := by
  have b0 : ∀ l : List UInt8, byt (UInt8.ofInt t :: l) 0 = t := fun l => by
    show ((UInt8.ofInt t).toNat : Int) = t
    rw [ofIntM]; omega
  obtain ⟨n, hn⟩ : ∃ n : Nat, c.length = n := ⟨_, rfl⟩
  rw [hn] at hc ⊢
  have e0 := ofIntM (n : Int)
  have e1 := ofIntM ((n : Int) / 256)
  have e2 := ofIntM ((n : Int) / 65536)
  unfold lenB
  split
  · rename_i h
    simp only [List.cons_append, List.nil_append]
    have b1 : byt (UInt8.ofInt t :: UInt8.ofInt n :: (c ++ z)) 1 = n := by show ((UInt8.ofInt (n : Int)).toNat : Int) = n; omega
    refine ⟨?_, by unfold hdrF; rw [if_pos (by omega)]; rfl, by unfold hdrN; rw [if_pos (by omega)]; exact b1, b0 _⟩
    unfold hdrE
    rw [if_neg (by simp), if_neg (by rw [b0]; omega), if_neg (by simp), if_pos (by omega)]
  split
  · rename_i h h2
    simp only [List.cons_append, List.nil_append]
    have b1 : byt (UInt8.ofInt t :: 129 :: UInt8.ofInt n :: (c ++ z)) 1 = 129 := rfl
    have b2 : byt (UInt8.ofInt t :: 129 :: UInt8.ofInt n :: (c ++ z)) 2 = n := by show ((UInt8.ofInt (n : Int)).toNat : Int) = n; omega
    have hnum : num (((UInt8.ofInt t :: 129 :: UInt8.ofInt n :: (c ++ z)).drop 2).take ((129 : Int) - 128).toNat) = n := by
      show num [UInt8.ofInt (n : Int)] = n
      simp only [num, List.foldl_cons, List.foldl_nil]; omega
    refine ⟨?_, by unfold hdrF; rw [b1]; rfl, by unfold hdrN; rw [b1, if_neg (by omega)]; exact hnum, b0 _⟩
    unfold hdrE
    rw [b1, b2, hnum, if_neg (by simp), if_neg (by rw [b0]; omega), if_neg (by simp), if_neg (by omega), if_neg (by omega), if_neg (by simp only [List.length_cons]; omega), if_neg (by omega)]
  split
  · rename_i h h2 h3
    simp only [List.cons_append, List.nil_append]
    have b1 : byt (UInt8.ofInt t :: 130 :: UInt8.ofInt (n / 256) :: UInt8.ofInt n :: (c ++ z)) 1 = 130 := rfl
    have b2 : byt (UInt8.ofInt t :: 130 :: UInt8.ofInt (n / 256) :: UInt8.ofInt n :: (c ++ z)) 2 = (n : Int) / 256 := by show ((UInt8.ofInt ((n : Int) / 256)).toNat : Int) = n / 256; omega
    have hnum : num (((UInt8.ofInt t :: 130 :: UInt8.ofInt (n / 256) :: UInt8.ofInt n :: (c ++ z)).drop 2).take ((130 : Int) - 128).toNat) = n := by
      show num [UInt8.ofInt ((n : Int) / 256), UInt8.ofInt (n : Int)] = n
      simp only [num, List.foldl_cons, List.foldl_nil]; omega
    refine ⟨?_, by unfold hdrF; rw [b1]; rfl, by unfold hdrN; rw [b1, if_neg (by omega)]; exact hnum, b0 _⟩
    unfold hdrE
    rw [b1, b2, hnum, if_neg (by simp), if_neg (by rw [b0]; omega), if_neg (by simp), if_neg (by omega), if_neg (by omega), if_neg (by simp only [List.length_cons]; omega), if_neg (by omega)]
  · rename_i h h2 h3
    simp only [List.cons_append, List.nil_append]
    have b1 : byt (UInt8.ofInt t :: 131 :: UInt8.ofInt (n / 65536) :: UInt8.ofInt (n / 256) :: UInt8.ofInt n :: (c ++ z)) 1 = 131 := rfl
    have b2 : byt (UInt8.ofInt t :: 131 :: UInt8.ofInt (n / 65536) :: UInt8.ofInt (n / 256) :: UInt8.ofInt n :: (c ++ z)) 2 = (n : Int) / 65536 := by show ((UInt8.ofInt ((n : Int) / 65536)).toNat : Int) = n / 65536; omega
    have hnum : num (((UInt8.ofInt t :: 131 :: UInt8.ofInt (n / 65536) :: UInt8.ofInt (n / 256) :: UInt8.ofInt n :: (c ++ z)).drop 2).take ((131 : Int) - 128).toNat) = n := by
      show num [UInt8.ofInt ((n : Int) / 65536), UInt8.ofInt ((n : Int) / 256), UInt8.ofInt (n : Int)] = n
      simp only [num, List.foldl_cons, List.foldl_nil]; omega
    refine ⟨?_, by unfold hdrF; rw [b1]; rfl, by unfold hdrN; rw [b1, if_neg (by omega)]; exact hnum, b0 _⟩
    unfold hdrE
    rw [b1, b2, hnum, if_neg (by simp), if_neg (by rw [b0]; omega), if_neg (by simp), if_neg (by omega), if_neg (by omega), if_neg (by simp only [List.length_cons]; omega), if_neg (by omega)]
theorem put_tk {t : Int} {c z : List UInt8} (ht : tagP t) (hc : c.length ≤ 16777215) :
    tkE (UInt8.ofInt t :: lenB c.length ++ c ++ z) = 0 ∧ tkC (UInt8.ofInt t :: lenB c.length ++ c ++ z) = c := by
  obtain ⟨h1, h2, h3, h4⟩ := put_hdr (z := z) ht hc
  have hl : (UInt8.ofInt t :: lenB c.length ++ c ++ z).length = 1 + (lenB c.length).length + c.length + z.length := by simp; omega
  refine ⟨?_, ?_⟩
  · unfold tkE; rw [if_neg (by omega), if_neg (by rw [h2, h3, hl]; omega)]
  · unfold tkC
    rw [h2, h3]
    have e : (UInt8.ofInt t :: lenB c.length ++ c ++ z) = (UInt8.ofInt t :: lenB c.length) ++ (c ++ z) := by simp
    rw [e, show ((1 : Int) + (lenB c.length).length).toNat = (UInt8.ofInt t :: lenB c.length).length by simp; omega, List.drop_left, Int.toNat_natCast, List.take_left]
/-- No element's bytes begin with those of another one. -/
theorem put_prefix {t t' : Int} {c c' z : List UInt8} (ht : tagP t) (hc : c.length ≤ 16777215) (ht' : tagP t') (hc' : c'.length ≤ 16777215) (h : UInt8.ofInt t :: lenB c.length ++ c ++ z = UInt8.ofInt t' :: lenB c'.length ++ c') : t = t' ∧ c = c' := by
  have a := put_hdr (z := z) ht hc
  have a2 := put_tk (z := z) ht hc
  have b := put_hdr (z := []) ht' hc'
  have b2 := put_tk (z := []) ht' hc'
  rw [List.append_nil] at b b2
  rw [h] at a a2
  exact ⟨a.2.2.2.symm.trans b.2.2.2, a2.2.symm.trans b2.2⟩
theorem put_begin {t t' : Int} {c c' : List UInt8} (ht : tagP t) (hc : c.length ≤ 16777215) (ht' : tagP t') (hc' : c'.length ≤ 16777215) (n : Nat)
    (hn : n = min (UInt8.ofInt t :: lenB c.length ++ c).length (UInt8.ofInt t' :: lenB c'.length ++ c').length) :
    ((UInt8.ofInt t :: lenB c.length ++ c).take n = (UInt8.ofInt t' :: lenB c'.length ++ c').take n) ↔ (t = t' ∧ c = c') := by
  constructor
  · intro h
    by_cases hle : (UInt8.ofInt t :: lenB c.length ++ c).length ≤ (UInt8.ofInt t' :: lenB c'.length ++ c').length
    · rw [Nat.min_eq_left hle] at hn
      have e : (UInt8.ofInt t :: lenB c.length ++ c) ++ (UInt8.ofInt t' :: lenB c'.length ++ c').drop n = UInt8.ofInt t' :: lenB c'.length ++ c' := by
        rw [List.take_of_length_le (by omega)] at h
        rw [h, List.take_append_drop]
      exact put_prefix ht hc ht' hc' e
    · rw [Nat.min_eq_right (by omega)] at hn
      have e : (UInt8.ofInt t' :: lenB c'.length ++ c') ++ (UInt8.ofInt t :: lenB c.length ++ c).drop n = UInt8.ofInt t :: lenB c.length ++ c := by
        rw [List.take_of_length_le (l := UInt8.ofInt t' :: lenB c'.length ++ c') (by omega)] at h
        rw [← h, List.take_append_drop]
      obtain ⟨h1, h2⟩ := put_prefix ht' hc' ht hc e
      exact ⟨h1.symm, h2.symm⟩
  · rintro ⟨rfl, rfl⟩; rfl
end Go.Proofs.Ytkidjjnmdpbcaaa.V
