/- What is put is taken. -/
import Derived.Test.YtkidjjnmdpbcaaaPbF
set_option linter.unusedSimpArgs false
set_option linter.unusedVariables false
namespace Go.Proofs.Ytkidjjnmdpbcaaa.V
open Go.RowKit Go.ChangeShapes Go.WideShapes
theorem ofIntM (n : Int) : ((UInt8.ofInt n).toNat : Int) = n % 256 := by
  have := wrap8 n
  rw [wrap_u8] at this
  exact this.symm
theorem put_hdr {t : Int} {c z : List UInt8} (ht : tagP t) (hc : c.length ≤ 16777215) :
    hdrE (UInt8.ofInt t :: lenB c.length ++ c ++ z) = 0 ∧ hdrF (UInt8.ofInt t :: lenB c.length ++ c ++ z) = 1 + (lenB c.length).length ∧ hdrN (UInt8.ofInt t :: lenB c.length ++ c ++ z) = c.length ∧ byt (UInt8.ofInt t :: lenB c.length ++ c ++ z) 0 = t := by
  have b0 : ∀ l : List UInt8, byt (UInt8.ofInt t :: l) 0 = t := fun l => by
    show ((UInt8.ofInt t).toNat : Int) = t
    rw [ofIntM]; omega
  obtain ⟨n, hn⟩ : ∃ n : Nat, c.length = n := ⟨_, rfl⟩
  rw [hn] at hc ⊢
  have e0 := ofIntM (n : Int)
  have e1 := ofIntM ((n : Int) / 256)
  have e2 := ofIntM ((n : Int) / 65536)
  unfold lenB
  split
  · rename_i h
    simp only [List.cons_append, List.nil_append]
    have b1 : byt (UInt8.ofInt t :: UInt8.ofInt n :: (c ++ z)) 1 = n := by show ((UInt8.ofInt (n : Int)).toNat : Int) = n; omega
    refine ⟨?_, by unfold hdrF; rw [if_pos (by omega)]; rfl, by unfold hdrN; rw [if_pos (by omega)]; exact b1, b0 _⟩
    unfold hdrE
    rw [if_neg (by simp), if_neg (by rw [b0]; omega), if_neg (by simp), if_pos (by omega)]
  split
  · rename_i h h2
    simp only [List.cons_append, List.nil_append]
    have b1 : byt (UInt8.ofInt t :: 129 :: UInt8.ofInt n :: (c ++ z)) 1 = 129 := rfl
    have b2 : byt (UInt8.ofInt t :: 129 :: UInt8.ofInt n :: (c ++ z)) 2 = n := by show ((UInt8.ofInt (n : Int)).toNat : Int) = n; omega
    have hnum : num (((UInt8.ofInt t :: 129 :: UInt8.ofInt n :: (c ++ z)).drop 2).take ((129 : Int) - 128).toNat) = n := by
      show num [UInt8.ofInt (n : Int)] = n
      simp only [num, List.foldl_cons, List.foldl_nil]; omega
    refine ⟨?_, by unfold hdrF; rw [b1]; rfl, by unfold hdrN; rw [b1, if_neg (by omega)]; exact hnum, b0 _⟩
    unfold hdrE
    rw [b1, b2, hnum, if_neg (by simp), if_neg (by rw [b0]; omega), if_neg (by simp), if_neg (by omega), if_neg (by omega), if_neg (by simp only [List.length_cons]; omega), if_neg (by omega)]
  split
  · rename_i h h2 h3
    simp only [List.cons_append, List.nil_append]
    have b1 : byt (UInt8.ofInt t :: 130 :: UInt8.ofInt (n / 256) :: UInt8.ofInt n :: (c ++ z)) 1 = 130 := rfl
    have b2 : byt (UInt8.ofInt t :: 130 :: UInt8.ofInt (n / 256) :: UInt8.ofInt n :: (c ++ z)) 2 = (n : Int) / 256 := by show ((UInt8.ofInt ((n : Int) / 256)).toNat : Int) = n / 256; omega
    have hnum : num (((UInt8.ofInt t :: 130 :: UInt8.ofInt (n / 256) :: UInt8.ofInt n :: (c ++ z)).drop 2).take ((130 : Int) - 128).toNat) = n := by
      show num [UInt8.ofInt ((n : Int) / 256), UInt8.ofInt (n : Int)] = n
      simp only [num, List.foldl_cons, List.foldl_nil]; omega
    refine ⟨?_, by unfold hdrF; rw [b1]; rfl, by unfold hdrN; rw [b1, if_neg (by omega)]; exact hnum, b0 _⟩
    unfold hdrE
    rw [b1, b2, hnum, if_neg (by simp), if_neg (by rw [b0]; omega), if_neg (by simp), if_neg (by omega), if_neg (by omega), if_neg (by simp only [List.length_cons]; omega), if_neg (by omega)]
  · rename_i h h2 h3
    simp only [List.cons_append, List.nil_append]
    have b1 : byt (UInt8.ofInt t :: 131 :: UInt8.ofInt (n / 65536) :: UInt8.ofInt (n / 256) :: UInt8.ofInt n :: (c ++ z)) 1 = 131 := rfl
    have b2 : byt (UInt8.ofInt t :: 131 :: UInt8.ofInt (n / 65536) :: UInt8.ofInt (n / 256) :: UInt8.ofInt n :: (c ++ z)) 2 = (n : Int) / 65536 := by show ((UInt8.ofInt ((n : Int) / 65536)).toNat : Int) = n / 65536; omega
    have hnum : num (((UInt8.ofInt t :: 131 :: UInt8.ofInt (n / 65536) :: UInt8.ofInt (n / 256) :: UInt8.ofInt n :: (c ++ z)).drop 2).take ((131 : Int) - 128).toNat) = n := by
      show num [UInt8.ofInt ((n : Int) / 65536), UInt8.ofInt ((n : Int) / 256), UInt8.ofInt (n : Int)] = n
      simp only [num, List.foldl_cons, List.foldl_nil]; omega
    refine ⟨?_, by unfold hdrF; rw [b1]; rfl, by unfold hdrN; rw [b1, if_neg (by omega)]; exact hnum, b0 _⟩
    unfold hdrE
    rw [b1, b2, hnum, if_neg (by simp), if_neg (by rw [b0]; omega), if_neg (by simp), if_neg (by omega), if_neg (by omega), if_neg (by simp only [List.length_cons]; omega), if_neg (by omega)]
theorem put_tk {t : Int} {c z : List UInt8} (ht : tagP t) (hc : c.length ≤ 16777215) :
    tkE (UInt8.ofInt t :: lenB c.length ++ c ++ z) = 0 ∧ tkC (UInt8.ofInt t :: lenB c.length ++ c ++ z) = c := by
  obtain ⟨h1, h2, h3, h4⟩ := put_hdr (z := z) ht hc
  have hl : (UInt8.ofInt t :: lenB c.length ++ c ++ z).length = 1 + (lenB c.length).length + c.length + z.length := by simp; omega
  refine ⟨?_, ?_⟩
  · unfold tkE; rw [if_neg (by omega), if_neg (by rw [h2, h3, hl]; omega)]
  · unfold tkC
    rw [h2, h3]
    have e : (UInt8.ofInt t :: lenB c.length ++ c ++ z) = (UInt8.ofInt t :: lenB c.length) ++ (c ++ z) := by simp
    rw [e, show ((1 : Int) + (lenB c.length).length).toNat = (UInt8.ofInt t :: lenB c.length).length by simp; omega, List.drop_left, Int.toNat_natCast, List.take_left]
end Go.Proofs.Ytkidjjnmdpbcaaa.V
