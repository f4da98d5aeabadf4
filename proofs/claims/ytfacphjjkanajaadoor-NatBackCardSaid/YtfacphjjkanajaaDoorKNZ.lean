/- A number by its bytes: plain. -/
import Derived.Test.YtfacphjjkanajaaDoorKCN
set_option linter.unusedSimpArgs false
set_option linter.unusedVariables false
namespace Go.Proofs.YtfacphjjkanajaaDoor.V
/-- The digits that bytes are, the lowest first. -/
def nb (bs : List UInt8) : List Nat := bs.reverse.map UInt8.toNat
def num (bs : List UInt8) : Nat := val 256 (nb bs)
theorem nb_dl (bs : List UInt8) : Dl 256 (nb bs) := fun x hx => by
  obtain ⟨b, _, rfl⟩ := List.mem_map.1 hx
  exact b.toNat_lt
theorem nb_len (bs : List UInt8) : (nb bs).length = bs.length := by simp [nb]
theorem nb_cons (b : UInt8) (bs : List UInt8) : nb (b :: bs) = nb bs ++ [b.toNat] := by simp [nb]
theorem nb_push (b : UInt8) (bs : List UInt8) : nb (bs ++ [b]) = b.toNat :: nb bs := by simp [nb]
theorem num_push (bs : List UInt8) (b : UInt8) : num (bs ++ [b]) = 256 * num bs + b.toNat := by
  unfold num
  rw [nb_push, val]; omega
theorem num_cons (b : UInt8) (bs : List UInt8) : num (b :: bs) = num bs + 256 ^ bs.length * b.toNat := by
  unfold num
  rw [nb_cons, val_push, nb_len]
def strip : List UInt8 → List UInt8
  | [] => []
  | b :: r => if b.toNat = 0 then strip r else b :: r
theorem num_strip : ∀ bs : List UInt8, num (strip bs) = num bs
  | [] => rfl
  | b :: r => by
    unfold strip
    split
    · rename_i h; rw [num_strip r, num_cons, h]; simp
    · rfl
theorem strip_len : ∀ bs : List UInt8, (strip bs).length ≤ bs.length
  | [] => Nat.le_refl _
  | b :: r => by
    unfold strip
    split
    · have := strip_len r; simp; omega
    · exact Nat.le_refl _
theorem dg_strip : ∀ bs : List UInt8, dg 256 (num bs) = nb (strip bs)
  | [] => by show dg 256 0 = _; rw [dg_zero]; rfl
  | b :: r => by
    unfold strip
    split
    · rename_i h; rw [num_cons, h]; simpa using dg_strip r
    · rename_i h
      refine dg_top (by decide) (nb_dl _) (.inr ?_)
      rw [nb_len, nb_cons, getD_appR _ _ (by rw [nb_len]; simp), nb_len]
      simpa using h
def bytesOf (n : Nat) : List UInt8 := ((dg 256 n).map UInt8.ofNat).reverse
theorem bytes_len (n : Nat) : (bytesOf n).length = (dg 256 n).length := by simp [bytesOf]
theorem bytes_num (bs : List UInt8) : bytesOf (num bs) = strip bs := by
  unfold bytesOf
  rw [dg_strip]
  unfold nb
  rw [List.map_map, ← List.map_reverse, List.reverse_reverse]
  conv => rhs; rw [← List.map_id (strip bs)]
  refine List.map_congr_left fun b _ => ?_
  simp
theorem nb_bytes (n : Nat) : nb (bytesOf n) = dg 256 n := by
  unfold nb bytesOf
  rw [List.reverse_reverse, List.map_map]
  conv => rhs; rw [← List.map_id (dg 256 n)]
  refine List.map_congr_left fun b hb => ?_
  have := dg_lt (B := 256) (by decide) n b hb
  simp [UInt8.toNat_ofNat', Nat.mod_eq_of_lt this]
theorem num_bytes (n : Nat) : num (bytesOf n) = n := by unfold num; rw [nb_bytes, val_dg (by decide)]
theorem bytes_zero : bytesOf 0 = [] := by unfold bytesOf; rw [dg_zero]; rfl
/-! ### Rows by a function -/
def rl (f : Nat → Nat) : Nat → List Nat
  | 0 => []
  | n + 1 => rl f n ++ [f n]
theorem rl_len (f : Nat → Nat) : ∀ n, (rl f n).length = n
  | 0 => rfl
  | n + 1 => by rw [rl, List.length_append, rl_len f n]; rfl
theorem rl_at (f : Nat → Nat) : ∀ {n i : Nat}, i < n → (rl f n).getD i 0 = f i
  | n + 1, i, h => by
    rw [rl]
    by_cases hi : i < n
    · rw [getD_appL _ _ (by rw [rl_len]; exact hi), rl_at f hi]
    · have : i = n := by omega
      subst this
      rw [getD_appR _ _ (by rw [rl_len]; omega), rl_len, Nat.sub_self]; rfl
theorem rl_set {f g : Nat → Nat} {n k : Nat} (hk : k < n) (h : ∀ i, i ≠ k → g i = f i) : rl g n = (rl f n).set k (g k) := by
  refine ext_getD (by rw [List.length_set, rl_len, rl_len]) fun j hj => ?_
  rw [rl_len] at hj
  rw [rl_at _ hj]
  by_cases e : j = k
  · subst e; rw [set_getD_eq _ (by rw [rl_len]; exact hj)]
  · rw [set_getD_ne _ (Ne.symm e), rl_at _ hj, h j e]
theorem rl_val {f : Nat → Nat} {xs : List Nat} {n : Nat} (h : ∀ i, i < n → f i = xs.getD i 0) (hn : xs.length ≤ n) (B : Nat) : val B (rl f n) = val B xs := by
  have e : rl f n = xs ++ List.replicate (n - xs.length) 0 := by
    refine ext_getD (by rw [rl_len, List.length_append, List.length_replicate]; omega) fun j hj => ?_
    rw [rl_len] at hj
    rw [rl_at _ hj, h j hj]
    by_cases e : j < xs.length
    · rw [getD_appL _ _ e]
    · rw [getD_appR _ _ (by omega), getD_ge _ (by omega)]
      by_cases e2 : j - xs.length < n - xs.length
      · simp [List.getD_eq_getElem?_getD, List.getElem?_replicate, e2]
      · rw [getD_ge _ (by simp; omega)]
  rw [e, val_append, val_rep, Nat.mul_zero, Nat.add_zero]
/-- The word j of digits d. -/
def wd (d : Nat → Nat) (j : Nat) : Nat := d (8 * j) + 256 * (d (8 * j + 1) + 256 * (d (8 * j + 2) + 256 * (d (8 * j + 3) + 256 * (d (8 * j + 4) + 256 * (d (8 * j + 5) + 256 * (d (8 * j + 6) + 256 * d (8 * j + 7)))))))
theorem wd_lt {d : Nat → Nat} (h : ∀ i, d i < 256) (j : Nat) : wd d j < 18446744073709551616 := by
  have h0 := h (8 * j); have h1 := h (8 * j + 1); have h2 := h (8 * j + 2); have h3 := h (8 * j + 3); have h4 := h (8 * j + 4); have h5 := h (8 * j + 5); have h6 := h (8 * j + 6); have h7 := h (8 * j + 7)
  unfold wd; omega
theorem pow8 (m : Nat) : (18446744073709551616 : Nat) ^ m = 256 ^ (8 * m) := by rw [Nat.pow_mul]
theorem wd_val (d : Nat → Nat) : ∀ m, val 18446744073709551616 (rl (wd d) m) = val 256 (rl d (8 * m))
  | 0 => rfl
  | m + 1 => by
    rw [show 8 * (m + 1) = 8 * m + 8 by omega]
    rw [rl, val_push, wd_val d m, rl_len]
    show _ = val 256 (((((((((rl d (8 * m) ++ [d (8 * m)]) ++ [d (8 * m + 1)]) ++ [d (8 * m + 2)]) ++ [d (8 * m + 3)]) ++ [d (8 * m + 4)]) ++ [d (8 * m + 5)]) ++ [d (8 * m + 6)]) ++ [d (8 * m + 7)]))
    simp only [val_push, List.length_append, rl_len, List.length_singleton]
    rw [pow8]
    unfold wd
    simp only [Nat.pow_add, Nat.mul_add, Nat.pow_one, ← Nat.mul_assoc, ← Nat.add_assoc]
theorem wd_ne {d e : Nat → Nat} {k : Nat} (h : ∀ i, i ≠ k → e i = d i) {j : Nat} (hj : j ≠ k / 8) : wd e j = wd d j := by
  unfold wd
  rw [h _ (by omega), h _ (by omega), h _ (by omega), h _ (by omega), h _ (by omega), h _ (by omega), h _ (by omega), h _ (by omega)]
theorem orA {X Y : Nat} (m : Nat) (i : Nat) (hm : 2 ^ i = m) (hX : X % m = 0) (hY : Y < m) : X ||| Y = X + Y := by
  subst hm
  have e : X = 2 ^ i * (X / 2 ^ i) := (Nat.mul_div_cancel' (Nat.dvd_of_mod_eq_zero hX)).symm
  rw [e]; exact (Nat.two_pow_add_eq_or_of_lt hY _).symm
theorem wd_rl (d : Nat → Nat) (j : Nat) : wd d j = val 256 (rl (fun t => d (8 * j + t)) 8) := by
  simp [wd, rl, val]
theorem put_val {f g : Nat → Nat} {n t : Nat} (ht : t < n) (h : ∀ u, u ≠ t → g u = f u) (hz : ∀ u, u ≤ t → f u = 0) : ∃ D, val 256 (rl f n) = 256 ^ (t + 1) * D ∧ val 256 (rl g n) = 256 ^ (t + 1) * D + g t * 256 ^ t := by
  have z1 : val 256 ((rl f n).take (t + 1)) = 0 := by
    refine val_zero fun j => ?_
    by_cases hj : j < t + 1
    · rw [getD_take _ hj, rl_at _ (by omega), hz j (by omega)]
    · exact getD_ge _ (by rw [List.length_take]; omega)
  have z2 : val 256 ((rl f n).take t) = 0 := by
    refine val_zero fun j => ?_
    by_cases hj : j < t
    · rw [getD_take _ hj, rl_at _ (by omega), hz j (by omega)]
    · exact getD_ge _ (by rw [List.length_take]; omega)
  refine ⟨val 256 ((rl f n).drop (t + 1)), ?_, ?_⟩
  · rw [val_split 256 (rl f n) (t + 1), z1, Nat.zero_add]
  · rw [rl_set ht h, val_split 256 _ (t + 1), val_set_take _ _ (by rw [rl_len]; exact ht), z2, List.drop_set_of_lt (by omega), Nat.zero_add, Nat.mul_comm (256 ^ t)]
    omega
theorem wd_put {d e : Nat → Nat} {k : Nat} (h : ∀ i, i ≠ k → e i = d i) (hz : ∀ i, i ≤ k → d i = 0) (hb : e k < 256) : wd e (k / 8) = wd d (k / 8) ||| e k * 2 ^ (8 * (k % 8)) ∧ e k * 2 ^ (8 * (k % 8)) < 18446744073709551616 := by
  obtain ⟨D, h1, h2⟩ := put_val (f := fun t => d (8 * (k / 8) + t)) (g := fun t => e (8 * (k / 8) + t)) (n := 8) (t := k % 8) (by omega) (fun u hu => h _ (by omega)) (fun u hu => hz _ (by omega))
  rw [wd_rl, wd_rl, h1, h2, Nat.div_add_mod]
  have e1 : (2 : Nat) ^ (8 * (k % 8)) = 256 ^ (k % 8) := by rw [Nat.pow_mul]
  have e2 : (2 : Nat) ^ (8 * (k % 8 + 1)) = 256 ^ (k % 8 + 1) := by rw [Nat.pow_mul]
  have hlt : e k * 256 ^ (k % 8) < 256 ^ (k % 8 + 1) := by
    rw [Nat.pow_succ, Nat.mul_comm]; exact Nat.mul_lt_mul_of_pos_left hb (Nat.pow_pos (by decide))
  rw [e1]
  refine ⟨(orA _ _ e2 (Nat.mul_mod_right _ _) hlt).symm, Nat.lt_of_lt_of_le hlt ?_⟩
  exact Nat.pow_le_pow_right (n := 256) (by decide) (show k % 8 + 1 ≤ 8 by omega)
/-- What is read so far: the highest i digits. -/
def gz (ds : List Nat) (i p : Nat) : Nat := if ds.length ≤ p + i then ds.getD p 0 else 0
theorem gz_lt {ds : List Nat} (h : Dl 256 ds) (i p : Nat) : gz ds i p < 256 := by
  unfold gz; split
  · exact h.getD (by decide) p
  · decide
theorem gz_zero (ds : List Nat) (p : Nat) : gz ds 0 p = 0 := by
  unfold gz; split
  · exact getD_ge _ (by omega)
  · rfl
theorem gz_all (ds : List Nat) (p : Nat) : gz ds ds.length p = ds.getD p 0 := by unfold gz; rw [if_pos (by omega)]
theorem gz_step {ds : List Nat} (hd : Dl 256 ds) {i : Nat} (hi : i < ds.length) (m : Nat) (hm : ds.length ≤ 8 * m) : rl (wd (gz ds (i + 1))) m = (rl (wd (gz ds i)) m).set ((ds.length - 1 - i) / 8) ((rl (wd (gz ds i)) m).getD ((ds.length - 1 - i) / 8) 0 ||| ds.getD (ds.length - 1 - i) 0 * 2 ^ (8 * ((ds.length - 1 - i) % 8))) ∧
    ds.getD (ds.length - 1 - i) 0 * 2 ^ (8 * ((ds.length - 1 - i) % 8)) < 18446744073709551616 := by
  obtain ⟨k, hk⟩ : ∃ k, k = ds.length - 1 - i := ⟨_, rfl⟩
  rw [← hk]
  have h1 : ∀ p, p ≠ k → gz ds (i + 1) p = gz ds i p := fun p hp => by
    unfold gz
    by_cases h : ds.length ≤ p + i
    · rw [if_pos h, if_pos (by omega)]
    · rw [if_neg h, if_neg (by omega)]
  have h2 : ∀ p, p ≤ k → gz ds i p = 0 := fun p hp => by unfold gz; rw [if_neg (by omega)]
  have h3 : gz ds (i + 1) k = ds.getD k 0 := by unfold gz; rw [if_pos (by omega)]
  obtain ⟨w1, w2⟩ := wd_put h1 h2 (gz_lt hd _ _)
  rw [h3] at w1 w2
  have hkm : k / 8 < m := by omega
  refine ⟨?_, w2⟩
  rw [rl_set (g := wd (gz ds (i + 1))) (f := wd (gz ds i)) hkm fun j hj => wd_ne h1 hj, w1, rl_at _ hkm]
theorem gz_end {ds : List Nat} (hd : Dl 256 ds) (m : Nat) (hm : 8 * m < ds.length + 8) (hm2 : ds.length ≤ 8 * m) (ht : ds = [] ∨ ds.getD (ds.length - 1) 0 ≠ 0) : rl (wd (gz ds ds.length)) m = dg 18446744073709551616 (val 256 ds) := by
  have e : val 18446744073709551616 (rl (wd (gz ds ds.length)) m) = val 256 ds := by
    rw [wd_val]
    exact rl_val (fun i _ => gz_all ds i) hm2 256
  rw [← e]
  refine (dg_top (by decide) (fun x hx => ?_) ?_).symm
  · obtain ⟨i, hi, rfl⟩ := List.getElem_of_mem hx
    rw [rl_len] at hi
    have := rl_at (wd (gz ds ds.length)) hi
    rw [List.getD_eq_getElem?_getD, List.getElem?_eq_getElem (by rw [rl_len]; exact hi)] at this
    have e2 : (rl (wd (gz ds ds.length)) m)[i] = wd (gz ds ds.length) i := by simpa using this
    rw [e2]
    exact wd_lt (gz_lt hd _) i
  · rcases ht with rfl | ht
    · left
      have : m = 0 := by simp at hm; omega
      subst this; rfl
    · by_cases hm0 : m = 0
      · subst hm0; exact .inl rfl
      right
      rw [rl_len, rl_at _ (by omega)]
      have h0 : 0 < ds.length := by
        rcases Nat.eq_zero_or_pos ds.length with h | h
        · rw [getD_ge _ (by omega)] at ht; exact absurd rfl ht
        · exact h
      have hL := gz_all ds (ds.length - 1)
      obtain ⟨t, h8, htt⟩ : ∃ t, t < 8 ∧ ds.length - 1 = 8 * (m - 1) + t := ⟨ds.length - 1 - 8 * (m - 1), by omega, by omega⟩
      rw [htt] at hL ht
      unfold wd
      generalize gz ds ds.length = g at *
      intro h
      match t, h8 with
      | 0, _ => simp only [Nat.add_zero] at hL ht; omega
      | 1, _ => omega
      | 2, _ => omega
      | 3, _ => omega
      | 4, _ => omega
      | 5, _ => omega
      | 6, _ => omega
      | 7, _ => omega
end Go.Proofs.YtfacphjjkanajaaDoor.V
