/- What is put is read; what is read was put. -/
import Derived.Test.YtigefimonifpmaaU
set_option linter.unusedSimpArgs false
set_option linter.unusedVariables false
namespace Go.Proofs.Ytigefimonifpmaa.V
open Go.RowKit Go.ChangeShapes Go.WideShapes
theorem digit8 {m : Int} (h0 : 0 ≤ m) (h1 : m ≤ 9) : ((UInt8.ofInt (48 + m)).toNat : Int) = 48 + m := ofInt8 (by omega) (by omega)
theorem num10_two {n : Int} (h0 : 0 ≤ n) (h1 : n < 100) : num10 (two n) = n := by
  have a := digit8 (m := n / 10 % 10) (by omega) (by omega)
  have b := digit8 (m := n % 10) (by omega) (by omega)
  simp only [num10, two, List.foldl_cons, List.foldl_nil, a, b]
  omega
theorem num10_four {a b : Int} (h0 : 0 ≤ a) (h1 : a < 100) (h2 : 0 ≤ b) (h3 : b < 100) : num10 (two a ++ two b) = 100 * a + b := by
  have a1 := digit8 (m := a / 10 % 10) (by omega) (by omega)
  have a2 := digit8 (m := a % 10) (by omega) (by omega)
  have b1 := digit8 (m := b / 10 % 10) (by omega) (by omega)
  have b2 := digit8 (m := b % 10) (by omega) (by omega)
  simp only [num10, two, List.cons_append, List.nil_append, List.foldl_cons, List.foldl_nil, a1, a2, b1, b2]
  omega
theorem dig_app {a b : List UInt8} (ha : dig10 a) (hb : dig10 b) : dig10 (a ++ b) := by
  intro i hi
  rw [List.length_append] at hi
  by_cases h : i < a.length
  · have := ha i h
    simpa only [List.getD_eq_getElem?_getD, List.getElem?_append_left h] using this
  · have := hb (i - a.length) (by omega)
    simpa only [List.getD_eq_getElem?_getD, List.getElem?_append_right (Nat.le_of_not_lt h)] using this
theorem dig_two (n : Int) : dig10 (two n) := by
  have a := digit8 (m := n / 10 % 10) (by omega) (by omega)
  have b := digit8 (m := n % 10) (by omega) (by omega)
  intro i hi
  rcases i with _ | _ | i
  · show 48 ≤ ((UInt8.ofInt (48 + n / 10 % 10)).toNat : Int) ∧ _
    rw [show (two n).getD 0 0 = UInt8.ofInt (48 + n / 10 % 10) from rfl, a]; omega
  · show 48 ≤ ((UInt8.ofInt (48 + n % 10)).toNat : Int) ∧ _
    rw [show (two n).getD (0 + 1) 0 = UInt8.ofInt (48 + n % 10) from rfl, b]; omega
  · simp [two] at hi; omega
theorem two_num {l : List UInt8} (h : l.length = 2) (hd : dig10 l) : two (num10 l) = l ∧ 0 ≤ num10 l ∧ num10 l < 100 := by
  match l, h with
  | [a, b], _ =>
    have h0 := hd 0 (by simp)
    have h1 := hd 1 (by simp)
    simp only [List.getD_cons_zero, List.getD_cons_succ] at h0 h1
    have e : num10 [a, b] = 10 * ((a.toNat : Int) - 48) + ((b.toNat : Int) - 48) := by simp [num10]
    rw [e]
    refine ⟨?_, by omega, by omega⟩
    have e1 : 48 + (10 * ((a.toNat : Int) - 48) + ((b.toNat : Int) - 48)) / 10 % 10 = (a.toNat : Int) := by omega
    have e2 : 48 + (10 * ((a.toNat : Int) - 48) + ((b.toNat : Int) - 48)) % 10 = (b.toNat : Int) := by omega
    simp only [two, e1, e2, ofInt_nat, UInt8.ofNat_toNat]
theorem four_num {l : List UInt8} (h : l.length = 4) (hd : dig10 l) : two (num10 l / 100) ++ two (num10 l % 100) = l := by
  have h1 := two_num (l := l.take 2) (by rw [List.length_take]; omega) (by
    have := dig_sub (bs := l) (n := 4) (a := 0) (k := 2) (by rw [List.take_of_length_le (by omega)]; exact hd) (by omega) (by omega)
    rwa [List.drop_zero] at this)
  have h2 := two_num (l := l.drop 2) (by rw [List.length_drop]; omega) (by
    have := dig_sub (bs := l) (n := 4) (a := 2) (k := 2) (by rw [List.take_of_length_le (by omega)]; exact hd) (by omega) (by omega)
    rwa [List.take_of_length_le (by rw [List.length_drop]; omega)] at this)
  have e : num10 l = 100 * num10 (l.take 2) + num10 (l.drop 2) := by
    have := num10_four h1.2.1 h1.2.2 h2.2.1 h2.2.2
    rw [h1.1, h2.1, List.take_append_drop] at this
    exact this
  rw [show num10 l / 100 = num10 (l.take 2) by omega, show num10 l % 100 = num10 (l.drop 2) by omega, h1.1, h2.1, List.take_append_drop]
theorem putS_parts (p : List UInt8) (mo d h mi s : Int) (k : Nat) (hp : p.length = k) :
    let bs := p ++ putS mo d h mi s
    bs.length = k + 11 ∧ bs.getD (k + 10) 0 = 90 ∧ bs.take k = p ∧ bs.take (k + 10) = p ++ (two mo ++ two d ++ two h ++ two mi ++ two s) ∧
      (bs.drop k).take 2 = two mo ∧ (bs.drop (k + 2)).take 2 = two d ∧ (bs.drop (k + 4)).take 2 = two h ∧ (bs.drop (k + 6)).take 2 = two mi ∧ (bs.drop (k + 8)).take 2 = two s := by
  subst hp
  have dr (i : Nat) : (p ++ putS mo d h mi s).drop (p.length + i) = (putS mo d h mi s).drop i := by rw [← List.drop_drop, List.drop_left]
  refine ⟨by rw [List.length_append]; rfl, ?_, by rw [List.take_left], ?_, ?_, ?_, ?_, ?_, ?_⟩
  · rw [List.getD_eq_getElem?_getD, List.getElem?_append_right (by omega), show p.length + 10 - p.length = 10 by omega]; rfl
  · rw [List.take_append, List.take_of_length_le (by omega), show p.length + 10 - p.length = 10 by omega]; rfl
  · rw [show (p ++ putS mo d h mi s).drop p.length = putS mo d h mi s from List.drop_left ..]; rfl
  · rw [dr]; rfl
  · rw [dr]; rfl
  · rw [dr]; rfl
  · rw [dr]; rfl
/-- What is put is read as it was. -/
theorem put_take {t y mo d h mi s : Int} (hc : CivOf t y mo d h mi s) : tE (putT y) (putB y mo d h mi s) = 0 ∧ tV (putT y) (putB y mo d h mi s) = t := by
  obtain ⟨⟨o1, o2, o3, o4, o5, o6, o7, o8, o9, o10⟩, hs⟩ := hc
  have ho : okC y mo d h mi s := ⟨o1, o2, o3, o4, o5, o6, o7, o8, o9, o10⟩
  have hm := mon_of_ok o3 o4
  have md := mdays_nn y mo
  have dS : dig10 (two mo ++ two d ++ two h ++ two mi ++ two s) := dig_app (dig_app (dig_app (dig_app (dig_two _) (dig_two _)) (dig_two _)) (dig_two _)) (dig_two _)
  by_cases hy : y < 2050
  · have e1 : putT y = 23 := by unfold putT; rw [if_pos hy]
    have e2 : putB y mo d h mi s = two (y % 100) ++ putS mo d h mi s := by unfold putB; rw [if_pos hy]
    obtain ⟨p1, p2, p3, p4, p5, p6, p7, p8, p9⟩ := putS_parts (two (y % 100)) mo d h mi s 2 rfl
    rw [← e2] at p1 p2 p3 p4 p5 p6 p7 p8 p9
    have hk : kOf 23 = 2 := rfl
    obtain ⟨a, b⟩ := tE_fE (tag := 23) (bs := putB y mo d h mi s) (.inl rfl) p1 (by rw [hk, p2]; rfl) (by rw [hk, p4]; exact dig_app (dig_two _) dS)
    have ey : yrOf 23 (putB y mo d h mi s) = y := by
      unfold yrOf
      rw [if_pos rfl, p3, num10_two (by omega) (by omega)]
      split <;> omega
    simp only [hk, fld, p5, p6, p7, p8, p9, ey] at a b
    rw [num10_two (by omega) (by omega), num10_two (by omega) (by omega), num10_two (by omega) (by omega), num10_two (by omega) (by omega), num10_two (by omega) (by omega)] at a b
    have ef : fE 23 y mo d h mi s = 0 := by unfold fE; rw [if_pos ho, if_neg (by omega)]
    rw [e1, a, b]
    exact ⟨ef, by unfold fV; rw [if_pos ef]; exact hs⟩
  · have e1 : putT y = 24 := by unfold putT; rw [if_neg hy]
    have e2 : putB y mo d h mi s = (two (y / 100) ++ two (y % 100)) ++ putS mo d h mi s := by unfold putB; rw [if_neg hy]
    obtain ⟨p1, p2, p3, p4, p5, p6, p7, p8, p9⟩ := putS_parts (two (y / 100) ++ two (y % 100)) mo d h mi s 4 rfl
    rw [← e2] at p1 p2 p3 p4 p5 p6 p7 p8 p9
    have hk : kOf 24 = 4 := rfl
    obtain ⟨a, b⟩ := tE_fE (tag := 24) (bs := putB y mo d h mi s) (.inr rfl) p1 (by rw [hk, p2]; rfl) (by rw [hk, p4]; exact dig_app (dig_app (dig_two _) (dig_two _)) dS)
    have ey : yrOf 24 (putB y mo d h mi s) = y := by
      unfold yrOf
      rw [if_neg (by decide), p3, num10_four (by omega) (by omega) (by omega) (by omega)]
      omega
    simp only [hk, fld, p5, p6, p7, p8, p9, ey] at a b
    rw [num10_two (by omega) (by omega), num10_two (by omega) (by omega), num10_two (by omega) (by omega), num10_two (by omega) (by omega), num10_two (by omega) (by omega)] at a b
    have ef : fE 24 y mo d h mi s = 0 := by unfold fE; rw [if_pos ho, if_neg (by omega)]
    rw [e1, a, b]
    exact ⟨ef, by unfold fV; rw [if_pos ef]; exact hs⟩
/-- What is read was put. -/
theorem take_put {tag : Int} {bs : List UInt8} (h : tE tag bs = 0) : ∃ y mo d h mi s, CivOf (tV tag bs) y mo d h mi s ∧ putT y = tag ∧ putB y mo d h mi s = bs := by
  by_cases ht : tag = 23 ∨ tag = 24
  rotate_left
  · unfold tE at h; rw [if_pos ht] at h; omega
  have h0 := h
  unfold tE at h
  rw [if_neg (not_not_intro ht)] at h
  split at h
  · omega
  rename_i hn
  split at h
  · omega
  rename_i hd
  have h1 : bs.length = kOf tag + 11 := by
    by_cases k : bs.length = kOf tag + 11
    · exact k
    · exact absurd (.inl k) hn
  have h2 : ((bs.getD (kOf tag + 10) 0).toNat : Int) = 90 := by
    by_cases k : ((bs.getD (kOf tag + 10) 0).toNat : Int) = 90
    · exact k
    · exact absurd (.inr k) hn
  have hD : dig10 (bs.take (kOf tag + 10)) := by
    by_cases k : dig10 (bs.take (kOf tag + 10))
    · exact k
    · exact absurd k hd
  obtain ⟨a, b⟩ := tE_fE ht h1 h2 hD
  rw [b]
  have pc (i : Nat) (hi : i + 2 ≤ kOf tag + 10) := two_num (l := (bs.drop i).take 2) (by rw [List.length_take, List.length_drop]; omega) (dig_sub hD (by omega) hi)
  generalize hk : kOf tag = k at *
  have q0 := pc k (by omega)
  have q2 := pc (k + 2) (by omega)
  have q4 := pc (k + 4) (by omega)
  have q6 := pc (k + 6) (by omega)
  have q8 := pc (k + 8) (by omega)
  have hlast : bs.drop (k + 10) = [90] := by
    have e1 : (bs.drop (k + 10)).length = 1 := by rw [List.length_drop]; omega
    match hx : bs.drop (k + 10), e1 with
    | [x], _ =>
      have : bs.getD (k + 10) 0 = x := by
        have := congrArg (fun l => l[0]?) hx
        simp only [List.getElem?_drop, Nat.add_zero] at this
        rw [List.getD_eq_getElem?_getD, this]; rfl
      rw [this] at h2
      have : x = 90 := by
        apply UInt8.toNat_inj.1
        show x.toNat = 90
        omega
      rw [this]
  have hsp : bs.drop k = putS (fld bs k) (fld bs (k + 2)) (fld bs (k + 4)) (fld bs (k + 6)) (fld bs (k + 8)) := by
    unfold putS fld
    rw [q0.1, q2.1, q4.1, q6.1, q8.1, ← hlast]
    have st (i : Nat) : (bs.drop i).take 2 ++ bs.drop (i + 2) = bs.drop i := by rw [← List.drop_drop, List.take_append_drop]
    simp only [List.append_assoc]
    rw [st (k + 8), st (k + 6), st (k + 4), st (k + 2), st k]
  rw [h] at a
  have hf : fE tag (yrOf tag bs) (fld bs k) (fld bs (k + 2)) (fld bs (k + 4)) (fld bs (k + 6)) (fld bs (k + 8)) = 0 := h
  have ho : okC (yrOf tag bs) (fld bs k) (fld bs (k + 2)) (fld bs (k + 4)) (fld bs (k + 6)) (fld bs (k + 8)) := by
    unfold fE at hf
    split at hf
    · assumption
    · omega
  have hy24 : ¬ (tag = 24 ∧ yrOf tag bs < 2050) := by
    unfold fE at hf
    rw [if_pos ho] at hf
    split at hf
    · omega
    · assumption
  refine ⟨_, _, _, _, _, _, ⟨ho, by unfold fV; rw [if_pos hf]⟩, ?_, ?_⟩
  · rcases ht with rfl | rfl
    · have q := two_num (l := bs.take 2) (by rw [List.length_take]; omega) (by
        have := dig_sub (a := 0) (k := 2) hD (by omega) (by omega)
        rwa [List.drop_zero] at this)
      unfold putT yrOf
      rw [if_pos (by rw [if_pos rfl]; split <;> omega)]
    · unfold putT; rw [if_neg (by omega)]
  · have hp : bs = bs.take k ++ bs.drop k := (List.take_append_drop ..).symm
    rcases ht with rfl | rfl
    · have hk2 : k = 2 := hk.symm
      subst hk2
      have q := two_num (l := bs.take 2) (by rw [List.length_take]; omega) (by
        have := dig_sub (a := 0) (k := 2) hD (by omega) (by omega)
        rwa [List.drop_zero] at this)
      have ey : yrOf 23 bs < 2050 ∧ yrOf 23 bs % 100 = num10 (bs.take 2) := by
        unfold yrOf
        rw [if_pos rfl]
        split <;> omega
      unfold putB
      rw [if_pos ey.1, ey.2, q.1, ← hsp, ← hp]
    · have hk4 : k = 4 := hk.symm
      subst hk4
      have d4 : dig10 (bs.take 4) := by
        have := dig_sub (a := 0) (k := 4) hD (by omega) (by omega)
        rwa [List.drop_zero] at this
      have q := four_num (l := bs.take 4) (by rw [List.length_take]; omega) d4
      have ey : yrOf 24 bs = num10 (bs.take 4) := by unfold yrOf; rw [if_neg (by decide)]
      unfold putB
      rw [if_neg (by omega), ey, q, ← hsp, ← hp]
end Go.Proofs.Ytigefimonifpmaa.V
