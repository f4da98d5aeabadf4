/- The order of texts. -/
import Derived.Test.YtigefimonifpmaaJ
set_option linter.unusedSimpArgs false
set_option linter.unusedVariables false
namespace Go.Proofs.Ytigefimonifpmaa.V
open Go.RowKit Go.ChangeShapes Go.WideShapes
theorem less_app : ∀ (p q : List UInt8), p.length = q.length → ∀ x y, Op.bytesLess (p ++ x) (q ++ y) = (Op.bytesLess p q || (p == q && Op.bytesLess x y))
  | [], [], _, x, y => by simp [Op.bytesLess]
  | a :: p, b :: q, h, x, y => by
    have ih := less_app p q (by simpa using h) x y
    simp only [List.cons_append, Op.bytesLess, ih]
    by_cases h1 : a < b
    · simp [h1]
    · simp only [List.cons_beq_cons, h1, decide_false, Bool.false_or]
      cases a == b <;> cases Op.bytesLess p q <;> cases p == q <;> simp
  | [], _ :: _, h, _, _ => by simp at h
  | _ :: _, [], h, _, _ => by simp at h
theorem less_irr : ∀ x : List UInt8, Op.bytesLess x x = false
  | [] => rfl
  | a :: x => by simp [Op.bytesLess, less_irr x]
theorem ofInt_lt {a b : Int} (ha : 0 ≤ a) (ha2 : a < 256) (hb : 0 ≤ b) (hb2 : b < 256) : (UInt8.ofInt a < UInt8.ofInt b) ↔ a < b := by
  have e (z : Int) (h : 0 ≤ z) (h2 : z < 256) : ((UInt8.ofInt z).toNat : Int) = z := by rw [← wrap8, wrap_u8]; omega
  have h1 := e a ha ha2
  have h2 := e b hb hb2
  rw [UInt8.lt_iff_toNat_lt]; omega
theorem ofInt_eq {a b : Int} (ha : 0 ≤ a) (ha2 : a < 256) (hb : 0 ≤ b) (hb2 : b < 256) : (UInt8.ofInt a = UInt8.ofInt b) ↔ a = b := by
  have e (z : Int) (h : 0 ≤ z) (h2 : z < 256) : ((UInt8.ofInt z).toNat : Int) = z := by rw [← wrap8, wrap_u8]; omega
  have h1 := e a ha ha2
  have h2 := e b hb hb2
  constructor
  · intro h; rw [h] at h1; omega
  · intro h; rw [h]
theorem less_two {n m : Int} (h0 : 0 ≤ n) (h1 : n ≤ 99) (h2 : 0 ≤ m) (h3 : m ≤ 99) (x y : List UInt8) : Op.bytesLess (two n ++ x) (two m ++ y) = true ↔ n < m ∨ (n = m ∧ Op.bytesLess x y = true) := by
  rw [less_app (two n) (two m) (by rfl)]
  simp only [two, Op.bytesLess, Bool.or_eq_true, Bool.and_eq_true, decide_eq_true_eq, beq_iff_eq, List.cons.injEq, and_true, Bool.false_eq_true, and_false, or_false]
  rw [ofInt_lt (by omega) (by omega) (by omega) (by omega), ofInt_lt (by omega) (by omega) (by omega) (by omega), ofInt_eq (by omega) (by omega) (by omega) (by omega), ofInt_eq (by omega) (by omega) (by omega) (by omega)]
  constructor
  · rintro ((h | ⟨h, h'⟩) | ⟨⟨h, h'⟩, hx⟩)
    · left; omega
    · left; omega
    · right; exact ⟨by omega, hx⟩
  · rintro (h | ⟨h, hx⟩)
    · left; omega
    · right; exact ⟨by omega, hx⟩
theorem less_cons (a : UInt8) (x y : List UInt8) : Op.bytesLess (a :: x) (a :: y) = Op.bytesLess x y := by simp [Op.bytesLess]
def lexC (y mo d h mi s y' mo' d' h' mi' s' : Int) : Prop := y < y' ∨ (y = y' ∧ (mo < mo' ∨ (mo = mo' ∧ (d < d' ∨ (d = d' ∧ (h < h' ∨ (h = h' ∧ (mi < mi' ∨ (mi = mi' ∧ s < s')))))))))
theorem lex_sec {y mo d h mi s y' mo' d' h' mi' s' : Int} (o : okC y mo d h mi s) (o' : okC y' mo' d' h' mi' s') (l : lexC y mo d h mi s y' mo' d' h' mi' s') : secOf y mo d h mi s < secOf y' mo' d' h' mi' s' := by
  obtain ⟨_, _, o1, o2, o3, o4, o5, o6, o7, o8⟩ := o
  obtain ⟨_, _, p1, p2, p3, p4, p5, p6, p7, p8⟩ := o'
  have hm := mon_of_ok o1 o2
  have hm' := mon_of_ok p1 p2
  have a := day_in o1 o2
  have a' := day_in p1 p2
  have b := ahead_succ y
  unfold secOf
  rcases l with l | ⟨rfl, l | ⟨rfl, l⟩⟩
  · have := ahead_lt l; unfold dayNo; omega
  · have e := sumM_le y (a := (mo + 1 - 1).toNat) (b := (mo' - 1).toNat) (by omega)
    rw [sumM_succ y hm.1] at e
    unfold dayNo; omega
  · unfold dayNo; omega
theorem less_text {y mo d h mi s y' mo' d' h' mi' s' : Int} (o : okC y mo d h mi s) (o' : okC y' mo' d' h' mi' s') : Op.bytesLess (textB y mo d h mi s) (textB y' mo' d' h' mi' s') = true ↔ lexC y mo d h mi s y' mo' d' h' mi' s' := by
  obtain ⟨o1, o2, o3, o4, o5, o6, o7, o8, o9, o10⟩ := o
  obtain ⟨p1, p2, p3, p4, p5, p6, p7, p8, p9, p10⟩ := o'
  have hm := mon_of_ok o3 o4
  have hm' := mon_of_ok p3 p4
  have md := mdays_nn y mo
  have md' := mdays_nn y' mo'
  unfold textB lexC
  simp only [List.append_assoc]
  rw [less_two (by omega) (by omega) (by omega) (by omega), less_two (by omega) (by omega) (by omega) (by omega)]
  simp only [List.cons_append, less_cons]
  rw [less_two (by omega) (by omega) (by omega) (by omega), less_cons, less_two (by omega) (by omega) (by omega) (by omega), less_cons, less_two (by omega) (by omega) (by omega) (by omega), less_cons, less_two (by omega) (by omega) (by omega) (by omega), less_cons]
  rw [← List.append_nil (two s), ← List.append_nil (two s'), less_two (by omega) (by omega) (by omega) (by omega)]
  simp only [Op.bytesLess, Bool.false_eq_true, and_false, or_false]
  omega
theorem less_iff {t u y mo d h mi s y' mo' d' h' mi' s' : Int} (o : CivOf t y mo d h mi s) (o' : CivOf u y' mo' d' h' mi' s') : Op.bytesLess (textB y mo d h mi s) (textB y' mo' d' h' mi' s') = true ↔ t < u := by
  rw [less_text o.ok o'.ok, ← o.sec, ← o'.sec]
  constructor
  · exact lex_sec o.ok o'.ok
  · intro hl
    by_cases e : lexC y mo d h mi s y' mo' d' h' mi' s'
    · exact e
    · exfalso
      have : lexC y' mo' d' h' mi' s' y mo d h mi s ∨ (y = y' ∧ mo = mo' ∧ d = d' ∧ h = h' ∧ mi = mi' ∧ s = s') := by
        unfold lexC at e ⊢; omega
      rcases this with l | ⟨rfl, rfl, rfl, rfl, rfl, rfl⟩
      · have := lex_sec o'.ok o.ok l; omega
      · omega
theorem text_eq {t u y mo d h mi s y' mo' d' h' mi' s' : Int} (o : CivOf t y mo d h mi s) (o' : CivOf u y' mo' d' h' mi' s') : textB y mo d h mi s = textB y' mo' d' h' mi' s' ↔ t = u := by
  constructor
  · intro e
    have h1 := less_iff o o'
    have h2 := less_iff o' o
    rw [e, less_irr] at h1 h2
    simp at h1 h2; omega
  · rintro rfl
    obtain ⟨rfl, rfl, rfl, rfl, rfl, rfl⟩ := o.uniq o'
    rfl
end Go.Proofs.Ytigefimonifpmaa.V
