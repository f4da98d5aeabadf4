/- Elements, one behind the other: where they stand; what is taken is what is put. -/
import Derived.Test.YtkidjjnmdpbcaaaPaL
import Derived.Test.YtkidjjnmdpbcaaaPaCR
set_option linter.unusedSimpArgs false
set_option linter.unusedVariables false
namespace Go.Proofs.Ytkidjjnmdpbcaaa.V
open Go.RowKit
theorem ofInt_byte (x : UInt8) {n : Int} (h : n % 256 = (x.toNat : Int)) : UInt8.ofInt n = x := by
  apply UInt8.toNat_inj.1
  have := ofIntM n
  omega
/-- What is taken is what is put. -/
theorem take_put {bs : List UInt8} (h : tkE bs = 0) : bs.take (nxt bs).toNat = UInt8.ofInt (byt bs 0) :: lenB ((tkC bs).length : Int) ++ tkC bs := by
  obtain ⟨t1, t2, t3, t4, t5, t6, t7⟩ := tk_bounds h
  have h0 := (tk_in h).1
  rw [t6]
  have hE := h0
  have hl2 : 2 ≤ bs.length := by have := (hdr_ok h0).2.2.1; omega
  unfold hdrE at hE
  rw [if_neg (by omega), if_neg (fun h => h t7), if_neg (by omega)] at hE
  rcases bs with _ | ⟨b0, _ | ⟨b1, r⟩⟩
  · simp only [List.length_nil] at hl2; omega
  · simp only [List.length_cons, List.length_nil] at hl2; omega
  have e0 : byt (b0 :: b1 :: r) 0 = (b0.toNat : Int) := rfl
  have e1 : byt (b0 :: b1 :: r) 1 = (b1.toNat : Int) := rfl
  have x1 := b1.toNat_lt
  have f0 : UInt8.ofInt (byt (b0 :: b1 :: r) 0) = b0 := ofInt_byte b0 (by rw [e0]; have := b0.toNat_lt; omega)
  rw [f0]
  split at hE
  · rename_i c3
    have hF : hdrF (b0 :: b1 :: r) = 2 := by unfold hdrF; rw [if_pos c3]
    have hN : hdrN (b0 :: b1 :: r) = (b1.toNat : Int) := by unfold hdrN; rw [if_pos c3, e1]
    have hL : lenB (b1.toNat : Int) = [b1] := by
      unfold lenB
      rw [if_pos (by rw [e1] at c3; exact c3), ofInt_byte b1 (by omega)]
    unfold nxt tkC
    rw [hF, hN, hL, show ((2 : Int) + (b1.toNat : Int)).toNat = b1.toNat + 2 by omega]
    simp
  split at hE
  · omega
  rename_i c3 c4
  split at hE
  · omega
  split at hE
  · omega
  rename_i c5 c6
  rw [e1] at c3 c4 c5 c6
  have hF : hdrF (b0 :: b1 :: r) = 2 + ((b1.toNat : Int) - 128) := by unfold hdrF; rw [e1, if_neg c3]
  have hN : hdrN (b0 :: b1 :: r) = num (r.take ((b1.toNat : Int) - 128).toNat) := by unfold hdrN; rw [e1, if_neg c3]; rfl
  have c6' : ¬ num (r.take ((b1.toNat : Int) - 128).toNat) < 128 := c6
  have hk : (b1.toNat : Int) = 129 ∨ (b1.toNat : Int) = 130 ∨ (b1.toNat : Int) = 131 := by omega
  have nz : (b0 :: b1 :: r).length > 2 → ¬ byt (b0 :: b1 :: r) 2 = 0 := fun h e => c4 (.inr (.inr ⟨h, e⟩))
  rcases hk with hk | hk | hk
  · rw [hk] at hF hN c5 c6'
    have hb1 : b1 = 129 := by
      apply UInt8.toNat_inj.1
      show b1.toNat = 129
      omega
    have c5' : ¬ ((r.length + 2 : Nat) : Int) < 2 + (129 - 128) := c5
    rcases r with _ | ⟨x, r⟩
    · simp only [List.length_cons, List.length_nil] at c5'; omega
    have hn : num ((x :: r).take ((129 : Int) - 128).toNat) = (x.toNat : Int) := by simp [num]
    rw [hn] at hN c6'
    have hx := x.toNat_lt
    have hL : lenB (x.toNat : Int) = [b1, x] := by
      unfold lenB
      rw [if_neg (by omega), if_pos (by omega), ofInt_byte x (by omega)]
      rw [hb1]
    unfold nxt tkC
    rw [hF, hN, hL, show ((2 : Int) + (129 - 128) + (x.toNat : Int)).toNat = x.toNat + 3 by omega]
    simp
  · rw [hk] at hF hN c5 c6'
    have hb1 : b1 = 130 := by
      apply UInt8.toNat_inj.1
      show b1.toNat = 130
      omega
    have c5' : ¬ ((r.length + 2 : Nat) : Int) < 2 + (130 - 128) := c5
    rcases r with _ | ⟨x, _ | ⟨y, r⟩⟩
    · simp only [List.length_cons, List.length_nil] at c5'; omega
    · simp only [List.length_cons, List.length_nil] at c5'; omega
    have hn : num ((x :: y :: r).take ((130 : Int) - 128).toNat) = 256 * (x.toNat : Int) + y.toNat := by simp [num]
    rw [hn] at hN c6'
    have hx := x.toNat_lt
    have hy := y.toNat_lt
    have hx0 : (x.toNat : Int) ≠ 0 := nz (by simp)
    have hL : lenB (256 * (x.toNat : Int) + y.toNat) = [b1, x, y] := by
      unfold lenB
      rw [if_neg (by omega), if_neg (by omega), if_pos (by omega), ofInt_byte x (n := (256 * (x.toNat : Int) + y.toNat) / 256) (by omega), ofInt_byte y (by omega)]
      rw [hb1]
    unfold nxt tkC
    rw [hF, hN, hL, show ((2 : Int) + (130 - 128) + (256 * (x.toNat : Int) + y.toNat)).toNat = (256 * x.toNat + y.toNat) + 4 by omega]
    simp
    try omega
  · rw [hk] at hF hN c5 c6'
    have hb1 : b1 = 131 := by
      apply UInt8.toNat_inj.1
      show b1.toNat = 131
      omega
    have c5' : ¬ ((r.length + 2 : Nat) : Int) < 2 + (131 - 128) := c5
    rcases r with _ | ⟨x, _ | ⟨y, _ | ⟨z, r⟩⟩⟩
    · simp only [List.length_cons, List.length_nil] at c5'; omega
    · simp only [List.length_cons, List.length_nil] at c5'; omega
    · simp only [List.length_cons, List.length_nil] at c5'; omega
    have hn : num ((x :: y :: z :: r).take ((131 : Int) - 128).toNat) = 65536 * (x.toNat : Int) + 256 * y.toNat + z.toNat := by simp [num]; omega
    rw [hn] at hN c6'
    have hx := x.toNat_lt
    have hy := y.toNat_lt
    have hz := z.toNat_lt
    have hx0 : (x.toNat : Int) ≠ 0 := nz (by simp)
    have hL : lenB (65536 * (x.toNat : Int) + 256 * y.toNat + z.toNat) = [b1, x, y, z] := by
      unfold lenB
      rw [if_neg (by omega), if_neg (by omega), if_neg (by omega), ofInt_byte x (n := (65536 * (x.toNat : Int) + 256 * y.toNat + z.toNat) / 65536) (by omega), ofInt_byte y (n := (65536 * (x.toNat : Int) + 256 * y.toNat + z.toNat) / 256) (by omega), ofInt_byte z (by omega)]
      rw [hb1]
    unfold nxt tkC
    rw [hF, hN, hL, show ((2 : Int) + (131 - 128) + (65536 * (x.toNat : Int) + 256 * y.toNat + z.toNat)).toNat = (65536 * x.toNat + 256 * y.toNat + z.toNat) + 5 by omega]
    simp
    try omega
theorem nxt_size {bs : List UInt8} (h : tkE bs = 0) : nxt bs = sizeD ((tkC bs).length : Int) + (tkC bs).length := by
  obtain ⟨t1, t2, t3, t4, t5, t6, t7⟩ := tk_bounds h
  have e := congrArg List.length (take_put h)
  rw [List.length_take, List.length_append, List.length_cons] at e
  unfold sizeD
  rw [if_neg (by omega)]
  unfold nxt at *
  omega
def pos (bs : List UInt8) : Nat → Nat
  | 0 => 0
  | k + 1 => pos bs k + (nxt (bs.drop (pos bs k))).toNat
def okA (bs : List UInt8) (k : Nat) : Prop := pos bs k < bs.length ∧ tkE (bs.drop (pos bs k)) = 0
theorem pos_ge {bs : List UInt8} : ∀ {k}, (∀ j, j < k → okA bs j) → 2 * k ≤ pos bs k
  | 0, _ => Nat.zero_le _
  | k + 1, h => by
    have := pos_ge (k := k) fun j hj => h j (by omega)
    obtain ⟨t1, t2, t3, t4, t5, t6, t7⟩ := tk_bounds (h k (by omega)).2
    simp only [pos]; unfold nxt at *; omega
theorem ok_len {bs : List UInt8} {k : Nat} (h : okA bs k) : pos bs (k + 1) ≤ bs.length := by
  obtain ⟨t1, t2, t3, t4, t5, t6, t7⟩ := tk_bounds h.2
  rw [List.length_drop] at t5
  have := h.1
  simp only [pos]; omega
theorem row_ex (bs : List UInt8) : ∃ n, (∀ k, k < n → okA bs k) ∧ ¬ okA bs n := by
  have key : ∀ m, (∃ n, (∀ k, k < n → okA bs k) ∧ ¬ okA bs n) ∨ ∀ k, k < m → okA bs k := by
    intro m
    induction m with
    | zero => exact .inr fun k hk => absurd hk (Nat.not_lt_zero _)
    | succ m ih =>
      rcases ih with h | h
      · exact .inl h
      · by_cases hm : okA bs m
        · refine .inr fun k hk => ?_
          rcases Nat.lt_succ_iff_lt_or_eq.1 hk with h1 | h1
          · exact h k h1
          · rw [h1]; exact hm
        · exact .inl ⟨m, h, hm⟩
  rcases key (bs.length + 1) with h | h
  · exact h
  · have h1 := (h bs.length (by omega)).1
    have := pos_ge (bs := bs) (k := bs.length) fun j hj => h j (by omega)
    omega
/-- How many elements; where they end; why. -/
noncomputable def rowN (bs : List UInt8) : Nat := (row_ex bs).choose
theorem rowN_ok {bs : List UInt8} {k : Nat} (h : k < rowN bs) : okA bs k := (row_ex bs).choose_spec.1 k h
theorem rowN_no (bs : List UInt8) : ¬ okA bs (rowN bs) := (row_ex bs).choose_spec.2
theorem pos_le {bs : List UInt8} {k : Nat} (h : k ≤ rowN bs) : pos bs k ≤ bs.length := by
  cases k with
  | zero => exact Nat.zero_le _
  | succ k => exact ok_len (rowN_ok h)
theorem rowN_le (bs : List UInt8) : 2 * rowN bs ≤ bs.length := Nat.le_trans (pos_ge fun j hj => rowN_ok hj) (pos_le (Nat.le_refl _))
noncomputable def rowE (bs : List UInt8) : Nat := pos bs (rowN bs)
noncomputable def rowB (bs : List UInt8) : Int := if rowE bs = bs.length then 0 else tkE (bs.drop (rowE bs))
theorem rowB_lt {bs : List UInt8} (h : rowE bs < bs.length) : tkE (bs.drop (rowE bs)) ≠ 0 := fun e => rowN_no bs ⟨h, e⟩
def rowK (bs : List UInt8) (k : Nat) : Int := byt (bs.drop (pos bs k)) 0
def rowD (bs : List UInt8) (k : Nat) : List UInt8 := tkC (bs.drop (pos bs k))
theorem rowD_len {bs : List UInt8} {k : Nat} (h : okA bs k) : (rowD bs k).length ≤ 16777215 := by
  obtain ⟨t1, t2, t3, t4, t5, t6, t7⟩ := tk_bounds h.2
  unfold rowD; omega
theorem pos_succ {bs : List UInt8} {k : Nat} (h : okA bs k) : ((pos bs (k + 1) : Nat) : Int) = (pos bs k : Int) + sizeD ((rowD bs k).length : Int) + (rowD bs k).length := by
  obtain ⟨t1, t2, t3, t4, t5, t6, t7⟩ := tk_bounds h.2
  have := nxt_size h.2
  simp only [pos]; unfold rowD; unfold nxt at *; omega
theorem pos_nxt {bs : List UInt8} {k : Nat} (h : okA bs k) : ((pos bs k : Nat) : Int) + (hdrF (bs.drop (pos bs k)) + hdrN (bs.drop (pos bs k))) = (pos bs (k + 1) : Nat) := by
  obtain ⟨t1, t2, t3, t4, t5, t6, t7⟩ := tk_bounds h.2
  simp only [pos]; unfold nxt; omega
/-- What the k-th round of a loop over elements is told. -/
def ElemI (bs : List UInt8) (k : Nat) (x : List Value) (G0 G : GH) : Prop := ∃ w, x = [.int .i64 (pos bs k), .agg #[.int .i64 (rowK bs k), w]] ∧ Own 1 G0 G w ((rowD bs k).map bv)
theorem ElemI.unp {bs : List UInt8} {k l : Nat} {x : List Value} {G0 G : GH} {o : Obj} (hl : G l = some o) (hc : o.isCells = false) (h : ElemI bs k x G0 G) : ElemI bs k x (unp G0 l) (unp G l) := by
  obtain ⟨w, h1, h2⟩ := h
  exact ⟨w, h1, own_unp h2 hl hc⟩
end Go.Proofs.Ytkidjjnmdpbcaaa.V
