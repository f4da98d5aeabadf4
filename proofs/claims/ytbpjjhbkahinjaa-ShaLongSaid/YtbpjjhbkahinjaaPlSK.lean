/- The keyed hash. -/
import Derived.Test.YtbpjjhbkahinjaaPlSJ
set_option linter.unusedSimpArgs false
set_option linter.unusedVariables false
-- @words
-- @bbs
-- @extra s_nilPf s_nilPt s_nilNf s_nilNt s_nilck s_fptr0
namespace Go.Proofs.Ytbpjjhbkahinjaa.V
open Go.RowKit Go.ChangeShapes Go.WideShapes
def kk (key : List UInt8) : List UInt8 := if key.length > 64 then dig key else key
def kp (key : List UInt8) : List UInt8 := kk key ++ List.replicate (64 - (kk key).length) 0
def ik (key : List UInt8) : List UInt8 := (kp key).map (· ^^^ 54)
def ok (key : List UInt8) : List UInt8 := (kp key).map (· ^^^ 92)
def mac (key bs : List UInt8) : List UInt8 := dig (ok key ++ dig (ik key ++ bs))
theorem kk_len (key : List UInt8) : (kk key).length ≤ 64 := by
  unfold kk; split
  · rw [dig_len]; omega
  · omega
theorem kp_len (key : List UInt8) : (kp key).length = 64 := by
  have := kk_len key
  simp [kp]; omega
theorem ik_len (key : List UInt8) : (ik key).length = 64 := by simp [ik, kp_len]
theorem ok_len (key : List UInt8) : (ok key).length = 64 := by simp [ok, kp_len]
theorem mac_len (key bs : List UInt8) : (mac key bs).length = 32 := dig_len _
theorem x8 : ∀ x : Fin 256, IntKind.u8.wrap ((BitVec.ofInt 8 (x.1 : Int) ^^^ BitVec.ofInt 8 54).toNat : Int) = ((UInt8.ofNat x.1 ^^^ 54).toNat : Int) := by decide +kernel
theorem x9 : ∀ x : Fin 256, IntKind.u8.wrap ((BitVec.ofInt 8 (x.1 : Int) ^^^ BitVec.ofInt 8 92).toNat : Int) = ((UInt8.ofNat x.1 ^^^ 92).toNat : Int) := by decide +kernel
theorem px54 (x : UInt8) : pureV (.bin .xor) [bv x, .int .u8 54] = some (bv (x ^^^ 54)) := by
  have h := x8 ⟨x.toNat, UInt8.toNat_lt x⟩
  rw [x_xor]
  refine congrArg (fun z => some (Value.int .u8 z)) (Eq.trans h ?_)
  simp
theorem px92 (x : UInt8) : pureV (.bin .xor) [bv x, .int .u8 92] = some (bv (x ^^^ 92)) := by
  have h := x9 ⟨x.toNat, UInt8.toNat_lt x⟩
  rw [x_xor]
  refine congrArg (fun z => some (Value.int .u8 z)) (Eq.trans h ?_)
  simp
section
variable {P : Program} {E : Env} {K : St → Prop} {r : List Stp} {dd : Option Nat} {L : SL} {A : AL} {G : GH}
theorem s_x54 {d : Nat} {x : Operand} {v : UInt8} (h : vops P E r K (S (.set d (bv (v ^^^ 54)) L) A G)) (hx : evo L x = some (bv v) := by with_unfolding_all rfl) : vops P E (⟨none, dd, .pure d (.bin .xor) [x, .const (.int .u8 54)]⟩ :: r) K (S L A G) := o_pure (evs2p hx) (px54 v) h
theorem s_x92 {d : Nat} {x : Operand} {v : UInt8} (h : vops P E r K (S (.set d (bv (v ^^^ 92)) L) A G)) (hx : evo L x = some (bv v) := by with_unfolding_all rfl) : vops P E (⟨none, dd, .pure d (.bin .xor) [x, .const (.int .u8 92)]⟩ :: r) K (S L A G) := o_pure (evs2p hx) (px92 v) h
end
/-- The row of an array that is made. -/
theorem arr_own {G0 G : GH} {b n : Nat} {l : List UInt8} {e : TypeId} (h0 : G0 b = none) (h : G b = some (.cells (bb l) e (0, 0))) (hl : l.length = n) (hn : n ≤ 1000) : Own 1 G0 G (.slice (some ⟨b, 0, none⟩) n n) (l.map bv) := by
  subst hl
  refine .inr ⟨b, [], h0, 0, l.length, l.length, _, _, _, rfl, h, Nat.le_refl _, by omega, by simp [bb], .inl (Nat.zero_le _), ?_, by simp⟩
  simp [bb]
  rw [List.take_of_length_le (by simp)]
theorem wr_front {es : List Value} {z : Value} {n : Nat} (h : es.length ≤ n) : wr (List.replicate n z).toArray 0 es = (es ++ List.replicate (n - es.length) z).toArray := by
  apply Array.ext'
  apply List.ext_getElem?
  intro i
  rw [Array.getElem?_toList, wr_get _ _ _ _ (by simp; omega)]
  simp only [Nat.not_lt_zero, if_false, Nat.zero_add, Nat.sub_zero, List.getElem?_toArray]
  split
  · rw [List.getElem?_append_left (by assumption)]
  · rename_i hi
    rw [List.getElem?_append_right (by omega), List.getElem?_replicate, List.getElem?_replicate]
    by_cases h2 : i < n
    · rw [if_pos h2, if_pos (by omega)]
    · rw [if_neg h2, if_neg (by omega)]
/-- A keyed hash: x has gone into the one, y into the other. -/
def KS (G0 G : GH) (p : Value) (x y : List UInt8) : Prop := ∃ b e p1 p2, ∃ F1 F2 : GH, p = pt b ∧ G0 b = none ∧ G b = some (.cells #[p1, p2] e (0, 0)) ∧ F1.le G ∧ F2.le G ∧ HX F1 p1 x ∧ HX F2 p2 y ∧ sep F1 F2 ∧ sep F1 G0 ∧ sep F2 G0 ∧ F1 b = none ∧ F2 b = none
theorem writeP (p w pc : Value) (x bs : List UInt8) (F B G2 G : GH) (hF : F.le G2) (hp : HX F p bs) (hB : B.le G2) (hs : sep F B) (hx : By B pc x) (hl : G2.le G) (hw : Own 1 G2 G w [pc]) (hn : bs.length + x.length ≤ 4611686018427387904) (hm : x.length ≤ 211106232532928) :
    HC Try.prog 11 #[p, w] G fun v G' => v = .int .i64 0 ∧ (off F G).le G' ∧ ∃ F' : GH, F'.le G' ∧ sep F' (off F G) ∧ HX F' p (bs ++ x) := by
  have hFG := GH.le_trans hF hl
  have hP : Parts (off F G) w [pc] [x] := ⟨(hw.out hF).sl, rfl, fun i hi => by
    have : i = 0 := by simpa using hi
    subst this
    exact ⟨pc, rfl, Sl.le hx (le_off (GH.le_trans hB hl) hs)⟩⟩
  have hm' : ∀ i (h : i < [x].length), [x][i].length ≤ 211106232532928 := by
    intro i hi
    have : i = 0 := by simpa using hi
    subst this
    exact hm
  have h := writeX p w [pc] [x] bs F G hFG hp hP (by simpa using hn) hm'
  rw [show [x].flatten = x by simp] at h
  exact h
end Go.Proofs.Ytbpjjhbkahinjaa.V
