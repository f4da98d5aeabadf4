/-
  DERIVED: THE SHELF's CONTRACTS AT THIS DUMP, IN PLAIN WORDS (tools/lay-plain.mjs out of 'YtbmhdmkmnhaffaaDI.lean', which tools/lay-shelf.mjs wrote): THE SAME DECLARATIONS UNDER THE SAME NAMES: 'import', 'namespace', 'open', 'def', 'theorem' AND NOTHING ELSE: no command of the shelf's: FOR A HAND-IN. Each laying: the table of numbers ('.._ren') and one theorem, a field a fact of the dump's own or the kernel's comparison; each contract: ONE APPLICATION.
-/
import Derived.Shelf.SlIter.Nil
import Derived.Shelf.SortM.Plain
import Derived.Shelf.SortM.SortNone
import Derived.Shelf.SlMaps.Clone
import Derived.Ground.GgzProg
import Derived.Ground.SlgmProg
import Derived.Ground.SlmcProg
import Derived.Test.YtbmhdmkmnhaffaaProg
import Derived.Test.YtbmhdmkmnhaffaaSYZVKDA
import Derived.StringKeys
import Derived.KernelRfl
section
namespace Go.Proofs
open Go.Shelf
def Try.keysL_ren : Go.Shelf.Ren := ⟨fun | 7 => 46 | 10 => 67 | n => n, fun | 23 => 61 | 26 => 9 | 3 => 28 | 28 => 85 | 0 => 0 | 27 => 84 | 33 => 89 | 4 => 4 | n => n, fun | n => n⟩
theorem Try.keysL : Go.Proofs.SlLaysZ.n7 Try.prog Try.keysL_ren := {
  mixed := by kernel_rfl
  f7 := ⟨Try.f46.name, by decide, Try.func46.trans (congrArg some (by kernel_rfl))⟩
  f10 := ⟨Try.f67.name, by decide, Try.func67.trans (congrArg some (by kernel_rfl))⟩
  t0 := Try.underlying0
  a0 := Try.isAgg0
  z0 := Try.sizeOf0
  v0 := Try.zeroValue0
  t4 := Try.underlying4
  a4 := Try.isAgg4
  z4 := Try.sizeOf4
  v4 := Try.zeroValue4
  t23 := Try.underlying61
  a23 := Try.isAgg61
  z23 := Try.sizeOf61
  v23 := Try.zeroValue61
  t26 := Try.underlying9
  a26 := Try.isAgg9
  z26 := Try.sizeOf9
  v26 := Try.zeroValue9
  t27 := Try.underlying84
  a27 := Try.isAgg84
  z27 := Try.sizeOf84
  v27 := Try.zeroValue84
  t28 := Try.underlying85
  a28 := Try.isAgg85
  z28 := Try.sizeOf85
  v28 := Try.zeroValue85
  t33 := Try.underlying89
  a33 := Try.isAgg89
  z33 := Try.sizeOf89
  v33 := Try.zeroValue89 }
def Try.sortedL_ren : Go.Shelf.Ren := ⟨fun | 6 => 45 | 8 => 65 | 9 => 66 | 11 => 73 | 13 => 75 | 12 => 74 | 23 => 86 | 24 => 87 | 14 => 77 | 15 => 78 | 16 => 79 | 17 => 80 | 18 => 81 | 19 => 82 | 20 => 83 | 21 => 84 | 22 => 85 | 25 => 88 | 26 => 89 | 27 => 90 | 28 => 91 | 29 => 92 | 30 => 93 | 31 => 94 | n => n, fun | 26 => 9 | 28 => 85 | 24 => 82 | 0 => 0 | 3 => 3 | 37 => 109 | 48 => 121 | 50 => 35 | 4 => 4 | 40 => 113 | 39 => 112 | 45 => 118 | 5 => 5 | 9 => 9 | 51 => 123 | 55 => 127 | 57 => 129 | 58 => 130 | 33 => 89 | n => n, fun | n => n⟩
theorem Try.sortedL : Go.Proofs.SlLaysZ.n6 Try.prog Try.sortedL_ren := {
  mixed := by kernel_rfl
  f6 := ⟨Try.f45.name, by decide, Try.func45.trans (congrArg some (by kernel_rfl))⟩
  f8 := ⟨Try.f65.name, by decide, Try.func65.trans (congrArg some (by kernel_rfl))⟩
  f11 := ⟨Try.f73.name, by decide, Try.func73.trans (congrArg some (by kernel_rfl))⟩
  t0 := Try.underlying0
  a0 := Try.isAgg0
  z0 := Try.sizeOf0
  v0 := Try.zeroValue0
  t24 := Try.underlying82
  a24 := Try.isAgg82
  z24 := Try.sizeOf82
  v24 := Try.zeroValue82
  t26 := Try.underlying9
  a26 := Try.isAgg9
  z26 := Try.sizeOf9
  v26 := Try.zeroValue9
  t28 := Try.underlying85
  a28 := Try.isAgg85
  z28 := Try.sizeOf85
  v28 := Try.zeroValue85
  i26 := by kernel_rfl }
def Try.sortL_ren : Go.Shelf.Ren := ⟨fun | 6 => 66 | 8 => 75 | 9 => 74 | 19 => 86 | 20 => 87 | 21 => 77 | 22 => 78 | 23 => 79 | 24 => 80 | 25 => 81 | 26 => 82 | 27 => 83 | 28 => 84 | 29 => 85 | 36 => 88 | 31 => 89 | 32 => 90 | 37 => 91 | 38 => 92 | 39 => 93 | 41 => 94 | n => n, fun | 27 => 82 | 29 => 9 | 3 => 3 | 32 => 109 | 26 => 82 | 0 => 0 | 44 => 121 | 46 => 35 | 4 => 4 | 36 => 113 | 35 => 112 | 41 => 118 | 5 => 5 | 9 => 9 | 53 => 123 | 57 => 127 | 63 => 129 | 64 => 130 | n => n, fun | n => n⟩
theorem Try.sortL : Go.Proofs.SlLaysM.n6 Try.prog Try.sortL_ren := {
  mixed := by kernel_rfl
  f6 := ⟨Try.f66.name, by decide, Try.func66.trans (congrArg some (by kernel_rfl))⟩
  f8 := Try.func75.trans (congrArg some (by kernel_rfl))
  f9 := ⟨Try.f74.name, by decide, Try.func74.trans (congrArg some (by kernel_rfl))⟩
  f19 := Try.func86.trans (congrArg some (by kernel_rfl))
  f20 := Try.func87.trans (congrArg some (by kernel_rfl))
  f21 := ⟨Try.f77.name, by decide, Try.func77.trans (congrArg some (by kernel_rfl))⟩
  f22 := ⟨Try.f78.name, by decide, Try.func78.trans (congrArg some (by kernel_rfl))⟩
  f23 := ⟨Try.f79.name, by decide, Try.func79.trans (congrArg some (by kernel_rfl))⟩
  f24 := ⟨Try.f80.name, by decide, Try.func80.trans (congrArg some (by kernel_rfl))⟩
  f25 := ⟨Try.f81.name, by decide, Try.func81.trans (congrArg some (by kernel_rfl))⟩
  f26 := ⟨Try.f82.name, by decide, Try.func82.trans (congrArg some (by kernel_rfl))⟩
  f27 := ⟨Try.f83.name, by decide, Try.func83.trans (congrArg some (by kernel_rfl))⟩
  f28 := ⟨Try.f84.name, by decide, Try.func84.trans (congrArg some (by kernel_rfl))⟩
  f29 := ⟨Try.f85.name, by decide, Try.func85.trans (congrArg some (by kernel_rfl))⟩
  f31 := Try.func89.trans (congrArg some (by kernel_rfl))
  f32 := Try.func90.trans (congrArg some (by kernel_rfl))
  f36 := ⟨Try.f88.name, by decide, Try.func88.trans (congrArg some (by kernel_rfl))⟩
  f37 := ⟨Try.f91.name, by decide, Try.func91.trans (congrArg some (by kernel_rfl))⟩
  f38 := ⟨Try.f92.name, by decide, Try.func92.trans (congrArg some (by kernel_rfl))⟩
  f39 := ⟨Try.f93.name, by decide, Try.func93.trans (congrArg some (by kernel_rfl))⟩
  f41 := ⟨Try.f94.name, by decide, Try.func94.trans (congrArg some (by kernel_rfl))⟩
  t0 := Try.underlying0
  a0 := Try.isAgg0
  z0 := Try.sizeOf0
  v0 := Try.zeroValue0
  t3 := Try.underlying3
  a3 := Try.isAgg3
  z3 := Try.sizeOf3
  v3 := Try.zeroValue3
  t4 := Try.underlying4
  a4 := Try.isAgg4
  z4 := Try.sizeOf4
  v4 := Try.zeroValue4
  t5 := Try.underlying5
  a5 := Try.isAgg5
  z5 := Try.sizeOf5
  v5 := Try.zeroValue5
  t9 := Try.underlying9
  a9 := Try.isAgg9
  z9 := Try.sizeOf9
  v9 := Try.zeroValue9
  t26 := Try.underlying82
  a26 := Try.isAgg82
  z26 := Try.sizeOf82
  v26 := Try.zeroValue82
  t27 := Try.underlying82
  a27 := Try.isAgg82
  z27 := Try.sizeOf82
  v27 := Try.zeroValue82
  t29 := Try.underlying9
  a29 := Try.isAgg9
  z29 := Try.sizeOf9
  v29 := Try.zeroValue9
  t32 := Try.underlying109
  a32 := Try.isAgg109
  z32 := Try.sizeOf109
  v32 := Try.zeroValue109
  t35 := Try.underlying112
  a35 := Try.isAgg112
  z35 := Try.sizeOf112
  v35 := Try.zeroValue112
  t36 := Try.underlying113
  a36 := Try.isAgg113
  z36 := Try.sizeOf113
  v36 := Try.zeroValue113
  t41 := Try.underlying118
  a41 := Try.isAgg118
  z41 := Try.sizeOf118
  v41 := Try.zeroValue118
  t44 := Try.underlying121
  a44 := Try.isAgg121
  z44 := Try.sizeOf121
  v44 := Try.zeroValue121
  t46 := Try.underlying35
  a46 := Try.isAgg35
  z46 := Try.sizeOf35
  v46 := Try.zeroValue35
  t53 := Try.underlying123
  a53 := Try.isAgg123
  z53 := Try.sizeOf123
  v53 := Try.zeroValue123
  t57 := Try.underlying127
  a57 := Try.isAgg127
  z57 := Try.sizeOf127
  v57 := Try.zeroValue127
  t63 := Try.underlying129
  a63 := Try.isAgg129
  z63 := Try.sizeOf129
  v63 := Try.zeroValue129
  t64 := Try.underlying130
  a64 := Try.isAgg130
  z64 := Try.sizeOf130
  v64 := Try.zeroValue130 }
def Try.cloneL_ren : Go.Shelf.Ren := ⟨fun | 5 => 34 | 7 => 57 | n => n, fun | 23 => 61 | 25 => 9 | 3 => 28 | 4 => 4 | 20 => 20 | n => n, fun | n => n⟩
theorem Try.cloneL : Go.Proofs.SlLaysW.n5 Try.prog Try.cloneL_ren := {
  mixed := by kernel_rfl
  f5 := ⟨Try.f34.name, by decide, Try.func34.trans (congrArg some (by kernel_rfl))⟩
  f7 := Try.func57.trans (congrArg some (by kernel_rfl))
  t4 := Try.underlying4
  a4 := Try.isAgg4
  z4 := Try.sizeOf4
  v4 := Try.zeroValue4
  t20 := Try.underlying20
  a20 := Try.isAgg20
  z20 := Try.sizeOf20
  v20 := Try.zeroValue20
  t23 := Try.underlying61
  a23 := Try.isAgg61
  z23 := Try.sizeOf61
  v23 := Try.zeroValue61 }
end Go.Proofs
end
section
/- Boxes; what is known but some blocks; rows that grow side by side. -/
set_option linter.unusedSimpArgs false
set_option linter.unusedVariables false
namespace Go.Proofs.Ytbmhdmkmnhaffaa.V
open Go.RowKit
abbrev pt (b : Nat) : Value := .pointer (some ⟨b, 0, none⟩)
/-- A box with one value. -/
abbrev bx (v : Value) (t : TypeId) : Obj := .cells #[v] t (0, 0)
theorem le_none {G G' : GH} {b : Nat} (h : G.le G') (hb : G' b = none) : G b = none := by
  cases e : G b with
  | none => rfl
  | some o => rw [h _ _ e] at hb; cases hb
theorem Own.at_ {n : Nat} {G0 G : GH} {u : Value} {xs : List Value} (h : Own n G0 G u xs) {c : Nat} (hc : blkS u = some c) : ∃ o, G c = some o ∧ G0 c = none := by
  rcases h with ⟨rfl, _⟩ | ⟨b', sp, h0, h⟩
  · cases hc
  · have := h.blk; rw [hc] at this; cases this
    obtain ⟨q, len, cap, cs, e, fr, _, hG, _⟩ := h
    exact ⟨_, hG, h0⟩
/-- All that is known but a slice's own block. -/
def offb (u : Value) (G : GH) : GH := fun c => if blkS u = some c then none else G c
theorem offb_le (u : Value) (G : GH) : (offb u G).le G := fun c o h => by
  unfold offb at h; split at h
  · cases h
  · exact h
theorem le_offb {B G : GH} {u : Value} (h : B.le G) (hn : ∀ c, blkS u = some c → B c = none) : B.le (offb u G) := fun c o hc => by
  unfold offb; split
  · rename_i hb; rw [hn c hb] at hc; cases hc
  · exact h c o hc
theorem offb_none {u : Value} {G : GH} {c : Nat} (h : blkS u = some c) : offb u G c = none := by simp [offb, h]
theorem offb_ne {u : Value} {G : GH} {c : Nat} (h : blkS u ≠ some c) : offb u G c = G c := by simp [offb, h]
theorem offb_mono {u : Value} {G G' : GH} (h : G.le G') : (offb u G).le (offb u G') := le_offb (GH.le_trans (offb_le _ _) h) fun c hc => offb_none hc
section
variable {P : Program} {E : Env} {K : St → Prop} {r : List Stp} {dd dd2 : Option Nat} {L : SL} {A : AL} {G : GH}
/-- A variable in a box is made. -/
theorem o_boxv {d : Nat} {t : TypeId} {z : Array Value} {x : Operand} (v : Value) (hx : ∀ b, evo (.set d (pt b) L) x = some v) (hz : z.size = 1) (hv : v.cells = [v].toArray) (h1 : cells1 [v] = true)
    (h : ∀ b G', G b = none → G.le G' → G' b = some (bx v t) → vops P E r K (S (.set d (pt b) L) A G')) : vops P E (⟨none, dd, .halloc d t z⟩ :: ⟨none, dd2, .hstore 1 (.tmp d) x⟩ :: r) K (S L A G) := by
  refine o_halloc ?_
  intro b hb
  refine o_hstore (vs := [v]) (b := b) (q := 0) (by show (match Nat.beq d d with | true => some (pt b) | false => _) = _; simp) (GH.put_same _ _ _) (hx b) hv ⟨rfl, by simp [hz], h1, .inl (Nat.zero_le _)⟩ ?_
  refine h b _ hb (GH.le_put_of _ (GH.le_put _ hb) hb) ?_
  rw [GH.put_same]
  obtain ⟨l⟩ := z
  match l, hz with
  | [a], _ => rfl
/-- A variable in a box is written. -/
theorem o_setv {b : Nat} {t : TypeId} {x y : Operand} {u : Value} (v : Value) (hx : evo L x = some (pt b)) (hb : G b = some (bx u t)) (hy : evo L y = some v) (hv : v.cells = [v].toArray) (h1 : cells1 [v] = true)
    (h : ∀ G', (∀ c, c ≠ b → G' c = G c) → G' b = some (bx v t) → vops P E r K (S L A G')) : vops P E (⟨none, dd, .hstore 1 x y⟩ :: r) K (S L A G) := by
  refine o_hstore (vs := [v]) hx hb hy hv ⟨rfl, Nat.le_refl _, h1, .inl (Nat.zero_le _)⟩ ?_
  refine h _ (fun c hc => GH.put_ne _ _ hc) ?_
  rw [GH.put_same]; rfl
end
theorem le_but {B G G' : GH} {b : Nat} (h : B.le G) (hb : B b = none) (hk : ∀ c, c ≠ b → G' c = G c) : B.le G' := fun c o hc => by
  rw [hk c (fun e => by subst e; rw [hb] at hc; cases hc)]; exact h c o hc
/-- Two rows that grow, and what both leave. -/
def Two (m n : Nat) (G H B : GH) (l p : Value) (xs ys : List Value) : Prop := B = offb l (offb p H) ∧ G.le B ∧ Own m G H l xs ∧ Own n G H p ys ∧ ∀ c, blkS l = some c → blkS p ≠ some c
theorem Two.le {m n : Nat} {G H B H' : GH} {l p : Value} {xs ys : List Value} (h : Two m n G H B l p xs ys) (hl : H.le H') : Two m n G H' (offb l (offb p H')) l p xs ys ∧ B.le (offb l (offb p H')) := by
  obtain ⟨rfl, h2, h3, h4, h5⟩ := h
  have hle := offb_mono (u := l) (offb_mono (u := p) hl)
  exact ⟨⟨rfl, GH.le_trans h2 hle, h3.le hl, h4.le hl, h5⟩, hle⟩
theorem Two.nil (m n : Nat) (G : GH) : Two m n G G G (.slice none 0 0) (.slice none 0 0) [] [] :=
  ⟨by funext c; simp [offb, blkS], GH.le_refl _, .inl ⟨rfl, rfl⟩, .inl ⟨rfl, rfl⟩, fun c hc => by cases hc⟩
/-- Of what is new the rows' blocks are none. -/
theorem Two.newO {m n k : Nat} {G H B H' : GH} {l p w : Value} {xs ys zs : List Value} (h : Two m n G H B l p xs ys) (hl : H.le H') (hw : Own k H H' w zs) : Own k H (offb l (offb p H')) w zs := by
  obtain ⟨rfl, h2, h3, h4, h5⟩ := h
  refine Own.keep hw fun c hc o ho => ?_
  obtain ⟨_, _, hn⟩ := hw.at_ hc
  have n1 : blkS l ≠ some c := fun e => by obtain ⟨o, ho, _⟩ := h3.at_ e; rw [hn] at ho; cases ho
  have n2 : blkS p ≠ some c := fun e => by obtain ⟨o, ho, _⟩ := h4.at_ e; rw [hn] at ho; cases ho
  rw [offb_ne n1, offb_ne n2]; exact ho
theorem Two.new {m n k : Nat} {G H B H' : GH} {l p w : Value} {xs ys zs : List Value} (h : Two m n G H B l p xs ys) (hl : H.le H') (hw : Own k H H' w zs) : Sl k (offb l (offb p H')) w zs := (h.newO hl hw).sl
/-- The first row has grown. -/
theorem Two.fst {m n : Nat} {G H B H' : GH} {l p l' : Value} {xs xs' ys : List Value} (h : Two m n G H B l p xs ys) (h1 : G.le H') (h2 : Own m G H' l' xs') (h3 : ∀ b, blkS l ≠ some b → ∀ o, H b = some o → H' b = some o) (h4 : blkS l' = blkS l ∨ ∃ b, blkS l' = some b ∧ H b = none) :
    Two m n G H' (offb l' (offb p H')) l' p xs' ys ∧ B.le (offb l' (offb p H')) := by
  obtain ⟨rfl, k2, k3, k4, k5⟩ := h
  have hd : ∀ c, blkS l' = some c → blkS p ≠ some c := fun c hc hp => by
    rcases h4 with e | ⟨b, e, hn⟩
    · exact k5 c (by rw [← e]; exact hc) hp
    · rw [e] at hc; cases hc
      obtain ⟨o, ho, _⟩ := k4.at_ hp
      rw [hn] at ho; cases ho
  have hB : (offb l (offb p H)).le (offb l' (offb p H')) := fun c o hc => by
    have n1 : blkS l ≠ some c := fun e => by rw [offb_none e] at hc; cases hc
    rw [offb_ne n1] at hc
    have n2 : blkS p ≠ some c := fun e => by rw [offb_none e] at hc; cases hc
    rw [offb_ne n2] at hc
    have n3 : blkS l' ≠ some c := fun e => by
      rcases h4 with e2 | ⟨b, e2, hn⟩
      · exact n1 (by rw [← e2]; exact e)
      · rw [e2] at e; cases e; rw [hn] at hc; cases hc
    rw [offb_ne n3, offb_ne n2]; exact h3 c n1 o hc
  refine ⟨⟨rfl, GH.le_trans k2 hB, h2, k4.keep fun c hc o ho => h3 c (fun e => k5 c e hc) o ho, hd⟩, hB⟩
/-- THE FRAME RULE: what the callee isn't told of stays as it was. -/
theorem HC.frame {P : Program} {f : FuncId} {args : Array Value} {Gv H : GH} {R : Value → GH → Prop} (hle : Gv.le H) (h : HC P f args Gv R) : HC P f args H fun v H' => ∃ G', R v G' ∧ G'.le H' ∧ (∀ c o, Gv c = none → H c = some o → H' c = some o ∧ G' c = none) := by
  intro w hw
  refine (h w (fun b o hb => hw b o (hle b o hb))).mono ?_
  rintro e w' ⟨v, G', rfl, hf, hR⟩
  have key : ∀ c o, Gv c = none → H c = some o → w'.heap[c]? = some o ∧ G' c = none := fun c o hn ho => by
    have hlt := hw.lt ho
    exact ⟨(hf.block c hlt hn).trans (hw c o ho), hf.none c hlt hn⟩
  refine ⟨v, fun c => match G' c with | some o => some o | none => if Gv c = none then H c else none, rfl, ⟨hf.os, hf.tape, hf.output, hf.size, fun b hb hn => ?_, fun b hb hn => ?_, fun b o ho => ?_⟩, G', hR, fun c o hc => ?_, fun c o hn ho => ⟨?_, (key c o hn ho).2⟩⟩
  · exact hf.block b hb (le_none hle hn)
  · have h1 := hf.none b hb (le_none hle hn)
    simp only [h1, le_none hle hn, if_true]; exact hn
  · cases e : G' b with
    | some o' =>
      simp only [e] at ho
      cases ho; exact hf.view b _ e
    | none =>
      simp only [e] at ho
      split at ho
      · rename_i hn
        exact (key b o hn ho).1
      · cases ho
  · simp only [hc]
  · have h1 := (key c o hn ho).2
    simp only [h1, hn, if_true]; exact ho
end Go.Proofs.Ytbmhdmkmnhaffaa.V
end
section
/- The library's calls on maps: maps.Clone, maps.Keys, slices.Sorted of these. -/
set_option linter.unusedVariables false
namespace Go.Proofs.Ytbmhdmkmnhaffaa.V
open Go.RowKit Go.ChangeShapes Go.WideShapes
open Go.MapKept (Stamped)
theorem cloneO (b : Nat) (o : Obj) (m : AM) (G : GH) (hb : G b = some o) (hm : MapO o m) : HC Try.prog 34 #[.map (some b)] G fun v G' => ∃ b', G b' = none ∧ v = .map (some b') ∧ G' = G.put b' o := by
  intro w hw
  obtain ⟨es, c, rfl, h1, h2⟩ := hm
  refine (AnyW.maps_Clone Try.cloneL b es c w (hw b _ hb)).mono ?_
  rintro e w' ⟨rfl, rfl⟩
  exact ⟨_, _, rfl, Fr.alloc hw _, w.heap.size, hw.fresh (Nat.le_refl _), rfl, rfl⟩
theorem keysO (m : Option Nat) (G : GH) : HC Try.prog 46 #[.map m] G fun v G' => ∃ b t, G b = none ∧ v = .func (.func 67) #[] #[pt b] ∧ G' = G.put b (bx (.map m) t) := by
  intro w hw
  refine (callsIn_wide.1 (AnyZ.keys_in Try.keysL Fence.wide 5 trivial rfl m w)).mono ?_
  rintro e w' ⟨rfl, rfl⟩
  exact ⟨_, _, rfl, Fr.alloc hw _, w.heap.size, _, hw.fresh (Nat.le_refl _), rfl, rfl⟩
theorem sortsI (m : Nat) : AnyZ.SortsIn Try.prog Try.sortedL_ren Fence.wide m :=
  ⟨fun blk off cap ss W hH hblk hsz => callsIn_wide.2 (AnyM.slices_Sort_string Try.sortL blk off cap ss W hH hblk hsz),
   fun p cap W => callsIn_wide.2 (AnyM.slices_Sort_string_none Try.sortL p cap W)⟩
/-- Names as a row of strings. -/
abbrev sv (s : Nm) : Value := .string (strB s)
abbrev leN : Nm → Nm → Bool := fun x y => decide (x ≤ y)
theorem own_of_row {G : GH} {w w' : World} {v : Value} {n : Nat} {xs : List Value} {e : TypeId} (hw : View G w) (hb : Go.RowKit.Below w.heap.size w w') (h : w'.ownsRow w.heap.size e 1 v n xs) : ∃ G', Fr G w G' w' ∧ G.le G' ∧ Own 1 G G' v xs := by
  obtain ⟨h0, h⟩ := h
  rcases h with ⟨rfl, rfl⟩ | ⟨g, cap, cur, rfl, h1, h2, h3, h4, h5, h6⟩
  · have hx : xs = [] := List.eq_nil_of_length_eq_zero (by omega)
    subst hx
    refine ⟨G, ⟨hb.os, hb.tape, hb.output, hb.size, fun b hl _ => hb.block b hl, fun b _ h => h, fun b o hG => ?_⟩, GH.le_refl _, .inl ⟨rfl, rfl⟩⟩
    rw [hb.block b (hw.lt hG)]; exact hw b o hG
  · have hg : G g = none := hw.fresh h1
    refine ⟨G.put g (.cells cur e), ⟨hb.os, hb.tape, hb.output, hb.size, fun b hl _ => hb.block b hl, fun b hl hn => ?_, fun b o hG => ?_⟩, GH.le_put _ hg, .inr ⟨g, cur.toList.drop n, hg, ?_⟩⟩
    · rw [GH.put_ne _ _ (by omega)]; exact hn
    · by_cases e : b = g
      · subst e; rw [GH.put_same] at hG; cases hG; exact h2
      · rw [GH.put_ne _ _ e] at hG
        rw [hb.block b (hw.lt hG)]; exact hw b o hG
    · have e1 : cur.toList = xs ++ cur.toList.drop n := by rw [← h6, Nat.mul_one, List.take_append_drop]
      refine OwnB.fresh (by omega) ?_ h3 h4 e1
      rw [← e1]
      simpa using h5
theorem foldr_keys {es : Array MapEntry} {c : Nat} {m : AM} (h1 : Ent es.toList m) {P : Program} {k : TypeId} (hk : P.underlying k = some .string) (hl : ∀ s ∈ m.map (·.1), s.length ≤ maxLen) :
    (Go.strKeys (.map ((es.toList.map (Go.WideElems.rg P k (fun _ => some ((.nil : DataW Unit), [])))).foldr DataW.insert []))).Perm (m.map (·.1)) := by
  have hp := sorted_perm (es.toList.map (Go.WideElems.rg P k (fun _ => some ((.nil : DataW Unit), []))))
  refine (hp.map (fun p => Go.strOf p.1)).trans ?_
  rw [List.map_map]
  have e : es.toList.map (fun x => Go.strOf (Go.WideElems.rg P k (fun _ => some ((.nil : DataW Unit), [])) x).1) = m.map (·.1) := by
    have h2 : ∀ x ∈ es.toList, ∀ s : Nm, x.key = sv s → s.length ≤ maxLen → Go.strOf (Go.WideElems.rg P k (fun _ => some ((.nil : DataW Unit), [])) x).1 = s := by
      intro x _ s hx hs
      have hko := Go.WideMaps.keyOf_string_mk hk (s := strB s) hs
      have : Go.WideElems.rd P k (fun _ => some ((.nil : DataW Unit), [])) x = some (.string s, .nil) := by
        unfold Go.WideElems.rd
        rw [hx, hko]
        rfl
      rw [Go.WideElems.rg_of this]
      rfl
    clear hp
    generalize es.toList = l at h1 h2
    induction l generalizing m with
    | nil => cases m with
      | nil => rfl
      | cons _ _ => cases h1
    | cons x l ih => cases m with
      | nil => cases h1
      | cons p m =>
        simp only [Ent, List.map_cons, List.cons.injEq, Prod.mk.injEq] at h1
        rw [List.map_cons, List.map_cons, h2 x List.mem_cons_self p.1 h1.1.1 (hl _ (by simp)), ih (m := m) (fun s hs => hl s (List.mem_cons_of_mem _ hs)) h1.2 fun y hy => h2 y (List.mem_cons_of_mem _ hy)]
  exact List.Perm.of_eq e
theorem sortedO (bk b t : Nat) (o : Obj) (m : AM) (G : GH) (hk : G bk = some (bx (.map (some b)) t)) (hb : G b = some o) (hm : MapO o m) (hl : ∀ s ∈ m.map (·.1), s.length ≤ 4096) (hn : m.length ≤ 1000000) :
    HC Try.prog 45 #[.func (.func 67) #[] #[pt bk]] G fun v G' => G.le G' ∧ Own 1 G G' v (((m.map (·.1)).mergeSort leN).map sv) := by
  intro w hw
  obtain ⟨es, c, rfl, h1, h2⟩ := hm
  have hlen : es.size = m.length := by
    have := congrArg List.length h1
    simpa using this
  have hmx : (4096 : Nat) ≤ maxLen := by decide
  have hmx2 : (1000000 : Nat) ≤ maxLen := by decide
  have hl' : ∀ s ∈ m.map (·.1), s.length ≤ maxLen := fun s hs => Nat.le_trans (hl s hs) hmx
  have hown : w.ownsMap Try.prog 9 (fun _ => some ((.nil : DataW Unit), [])) b es.size (.map ((es.toList.map (Go.WideElems.rg Try.prog 9 (fun _ => some ((.nil : DataW Unit), [])))).foldr DataW.insert [])) := by
    refine ⟨es, c, hw b _ hb, ⟨by omega, h2, fun x hx => ?_⟩, Nat.le_refl _, rfl⟩
    have h3 : (x.key, x.val) ∈ m.map fun p => (sv p.1, p.2) := by rw [← h1]; exact List.mem_map_of_mem (f := fun e => (e.key, e.val)) hx
    obtain ⟨p, hp, e⟩ := List.mem_map.1 h3
    have hko := Go.WideMaps.keyOf_string_mk Try.underlying9 (s := strB p.1) (hl' p.1 (List.mem_map_of_mem hp))
    refine ⟨(.string p.1, .nil), ?_⟩
    unfold Go.WideElems.rd
    rw [show x.key = sv p.1 from (congrArg Prod.fst e).symm, hko]
    rfl
  have hsz : Go.Maps.size (.map ((es.toList.map (Go.WideElems.rg Try.prog 9 (fun _ => some ((.nil : DataW Unit), [])))).foldr DataW.insert []) : DataW Unit) = m.length := by
    have := (sorted_perm (es.toList.map (Go.WideElems.rg Try.prog 9 (fun _ => some ((.nil : DataW Unit), []))))).length_eq
    show List.length _ = _
    rw [this]
    simp [hlen]
  have hseq := AnyZ.keys_gives (ρ := Try.keysL_ren) { Try.keysL with } Fence.wide 2 trivial rfl (by omega) bk b es.size _ w (hw.lt hk) (by
    have := hw bk _ hk
    simp [World.cell?, this]) hown
  have hs := AnyZ.sorted_in Try.sortedL Fence.wide 5 trivial trivial trivial trivial rfl (by omega) (sortsI _) (enters_of Try.func66 (by kernel_rfl) rfl) 67 #[pt bk] trivial (enters_of Try.func67 (by kernel_rfl) rfl) _ _ (by rw [hsz]; omega) (by rw [hsz]; omega) w hseq
  refine (callsIn_wide.1 hs).mono ?_
  rintro e w' ⟨v, ss, rfl, hp, hrow, _, hbel⟩
  obtain ⟨G', f1, f2, f3⟩ := own_of_row hw hbel hrow
  refine ⟨v, G', rfl, f1, f2, ?_⟩
  have hq := hp.trans (foldr_keys h1 (c := c) Try.underlying9 hl')
  have := mergeSort_of_perm hq
  rw [this] at f3
  exact f3
end Go.Proofs.Ytbmhdmkmnhaffaa.V
end
section
/- The compiled code of functions of the program (printed by a program of this repo), and that it is theirs. -/
set_option maxRecDepth 100000
namespace Go.Proofs.Ytbmhdmkmnhaffaa.V
/-- chancery/chancerylaw23.DiskSynced -/
def E5 : Env := ⟨[(5, 5)], 95⟩
def pc5 : PC := (.seq (.ops [⟨none, (some 5), (.lbox 5 5 (.tmp 1))⟩, ⟨none, (some 8), (.pure 8 .mv [(.const (.bool false))])⟩]) (.seq (.ops [⟨none, (some 14), (.call (some 14) 9 [(.const (.int .i64 1048576))])⟩, ⟨none, (some 13), (.pure 13 .mv [(.tmp 14)])⟩, ⟨none, (some 15), (.pure 15 (.ext 0) [(.tmp 13)])⟩, ⟨none, (some 16), (.pure 16 (.ext 1) [(.tmp 13)])⟩, ⟨none, (some 9), (.pure 9 .mv [(.tmp 15)])⟩, ⟨none, (some 10), (.pure 10 .mv [(.tmp 16)])⟩]) (.seq (.seq (.ops [⟨none, (some 17), (.pure 17 .mv [(.tmp 10)])⟩, ⟨none, (some 18), (.pure 18 (.bin .neq) [(.tmp 17), (.const (.int .i64 0))])⟩, ⟨none, (some 19), (.pure 19 .mv [(.tmp 18)])⟩, ⟨(some (19, false)), (some 20), (.pure 20 .mv [(.tmp 9)])⟩, ⟨(some (19, false)), (some 21), (.pure 21 (.nilP false) [(.tmp 20), (.const (.pointer none))])⟩, ⟨none, (some 22), (.pure 22 .pick [(.tmp 19), (.const (.bool true)), (.tmp 21)])⟩]) (.cond (.tmp 22) (.seq (.ops [⟨none, (some 8), (.pure 8 .mv [(.const (.bool false))])⟩]) .ret) .skip)) (.seq (.seq (.ops [⟨none, (some 11), (.pure 11 .mv [(.const (.int .i64 0))])⟩]) (.block 0 (.loop (.seq (.seq (.ops [⟨none, (some 23), (.pure 23 .mv [(.tmp 11)])⟩, ⟨none, (some 24), (.pure 24 .mv [(.tmp 0)])⟩, ⟨none, (some 25), (.pure 25 .lenL [(.tmp 24)])⟩, ⟨none, (some 26), (.pure 26 (.bin .lss) [(.tmp 23), (.tmp 25)])⟩, ⟨none, (some 27), (.pure 27 .mv [(.tmp 26)])⟩, ⟨(some (27, true)), (some 28), (.pure 28 .mv [(.tmp 11)])⟩, ⟨(some (27, true)), (some 29), (.pure 29 (.bin .lss) [(.tmp 28), (.const (.int .i64 60))])⟩, ⟨none, (some 30), (.pure 30 .pick [(.tmp 27), (.tmp 29), (.const (.bool false))])⟩]) (.cond (.tmp 30) .skip (.exit 0))) (.seq (.block 1 (.ops [⟨none, (some 33), (.pure 33 .mv [(.tmp 9)])⟩, ⟨none, (some 34), (.pure 34 .mv [(.tmp 0)])⟩, ⟨none, (some 35), (.pure 35 .mv [(.tmp 11)])⟩, ⟨none, (some 36), (.pure 36 (.iptrS 5) [(.tmp 34), (.tmp 35)])⟩, ⟨none, (some 37), (.hload 37 5 true (.tmp 36))⟩, ⟨none, (some 38), (.call (some 38) 10 [(.tmp 33), (.tmp 37)])⟩])) (.ops [⟨none, (some 31), (.pure 31 .mv [(.tmp 11)])⟩, ⟨none, (some 32), (.pure 32 (.bin .add) [(.tmp 31), (.const (.int .i64 1))])⟩, ⟨none, (some 11), (.pure 11 .mv [(.tmp 32)])⟩])))))) (.seq (.ops [⟨none, (some 39), (.pure 39 .mv [(.tmp 9)])⟩, ⟨none, (some 40), (.pure 40 .mv [(.tmp 2)])⟩, ⟨none, (some 41), (.call (some 41) 18 [(.tmp 39), (.tmp 40)])⟩]) (.seq (.ops [⟨none, (some 42), (.pure 42 .mv [(.tmp 9)])⟩, ⟨none, (some 43), (.call (some 43) 12 [(.tmp 42)])⟩, ⟨none, (some 12), (.pure 12 .mv [(.tmp 43)])⟩]) (.seq (.seq (.ops [⟨none, (some 44), (.pure 44 .mv [(.tmp 12)])⟩, ⟨none, (some 45), (.pure 45 (.nilP false) [(.tmp 44), (.const (.pointer none))])⟩, ⟨none, (some 46), (.pure 46 .mv [(.tmp 45)])⟩, ⟨(some (46, false)), (some 47), (.pure 47 .mv [(.tmp 12)])⟩, ⟨(some (46, false)), (some 48), (.lload 48 5 5 5 true)⟩, ⟨(some (46, false)), (some 49), (.call (some 49) 10 [(.tmp 47), (.tmp 48)])⟩, ⟨(some (46, false)), (some 50), (.pure 50 (.bin .neq) [(.tmp 49), (.const (.int .i64 0))])⟩, ⟨(some (46, false)), (some 51), (.pure 51 .mv [(.tmp 50)])⟩, ⟨(some (51, true)), (some 52), (.pure 52 .mv [(.tmp 12)])⟩, ⟨(some (51, true)), (some 53), (.call (some 53) 14 [(.tmp 52)])⟩, ⟨(some (51, true)), (some 54), (.pure 54 .mv [(.tmp 9)])⟩, ⟨(some (51, true)), (some 55), (.call (some 55) 14 [(.tmp 54)])⟩, ⟨(some (51, true)), (some 56), (.pure 56 (.bin .neq) [(.tmp 53), (.tmp 55)])⟩, ⟨(some (51, true)), (some 57), (.pure 57 .mv [(.tmp 56)])⟩, ⟨(some (57, false)), (some 58), (.pure 58 .mv [(.tmp 12)])⟩, ⟨(some (57, false)), (some 59), (.pure 59 .mv [(.tmp 9)])⟩, ⟨(some (57, false)), (some 60), (.call (some 60) 16 [(.tmp 58), (.tmp 59)])⟩, ⟨(some (57, false)), (some 61), (.pure 61 (.un .not) [(.tmp 60)])⟩, ⟨(some (51, true)), (some 62), (.pure 62 .pick [(.tmp 57), (.const (.bool true)), (.tmp 61)])⟩, ⟨(some (46, false)), (some 63), (.pure 63 .pick [(.tmp 51), (.tmp 62), (.const (.bool false))])⟩, ⟨none, (some 64), (.pure 64 .pick [(.tmp 46), (.const (.bool true)), (.tmp 63)])⟩]) (.cond (.tmp 64) (.seq (.ops [⟨none, (some 8), (.pure 8 .mv [(.const (.bool false))])⟩]) .ret) .skip)) (.seq (.seq (.ops [⟨none, (some 65), (.pure 65 .mv [(.tmp 9)])⟩, ⟨none, (some 66), (.call (some 66) 11 [(.tmp 65)])⟩, ⟨none, (some 67), (.pure 67 (.bin .neq) [(.tmp 66), (.const (.int .i64 0))])⟩, ⟨none, (some 68), (.pure 68 .mv [(.tmp 67)])⟩, ⟨(some (68, false)), (some 69), (.pure 69 .mv [(.tmp 9)])⟩, ⟨(some (68, false)), (some 70), (.call (some 70) 14 [(.tmp 69)])⟩, ⟨(some (68, false)), (some 71), (.pure 71 (.bin .neq) [(.tmp 70), (.const (.int .i64 0))])⟩, ⟨none, (some 72), (.pure 72 .pick [(.tmp 68), (.const (.bool true)), (.tmp 71)])⟩]) (.cond (.tmp 72) (.seq (.ops [⟨none, (some 8), (.pure 8 .mv [(.const (.bool false))])⟩]) .ret) .skip)) (.seq (.ops [⟨none, (some 73), (.pure 73 .mv [(.tmp 9)])⟩, ⟨none, (some 74), (.call (some 74) 12 [(.tmp 73)])⟩, ⟨none, (some 12), (.pure 12 .mv [(.tmp 74)])⟩]) (.seq (.ops [⟨none, (some 75), (.pure 75 .mv [(.tmp 12)])⟩, ⟨none, (some 76), (.pure 76 (.nilP true) [(.tmp 75), (.const (.pointer none))])⟩, ⟨none, (some 77), (.pure 77 .mv [(.tmp 76)])⟩, ⟨(some (77, true)), (some 78), (.pure 78 .mv [(.tmp 12)])⟩, ⟨(some (77, true)), (some 79), (.pure 79 .mv [(.tmp 3)])⟩, ⟨(some (77, true)), (some 80), (.call (some 80) 15 [(.tmp 78), (.tmp 79)])⟩, ⟨(some (77, true)), (some 81), (.pure 81 (.bin .eql) [(.tmp 80), (.const (.int .i64 0))])⟩, ⟨none, (some 82), (.pure 82 .pick [(.tmp 77), (.tmp 81), (.const (.bool false))])⟩, ⟨none, (some 83), (.pure 83 .mv [(.tmp 82)])⟩, ⟨(some (83, true)), (some 84), (.pure 84 .mv [(.tmp 12)])⟩, ⟨(some (83, true)), (some 85), (.pure 85 .mv [(.tmp 9)])⟩, ⟨(some (83, true)), (some 86), (.call (some 86) 16 [(.tmp 84), (.tmp 85)])⟩, ⟨none, (some 87), (.pure 87 .pick [(.tmp 83), (.tmp 86), (.const (.bool false))])⟩, ⟨none, (some 88), (.pure 88 .mv [(.tmp 87)])⟩, ⟨(some (88, true)), (some 89), (.pure 89 .mv [(.tmp 12)])⟩, ⟨(some (88, true)), (some 90), (.call (some 90) 19 [(.tmp 89)])⟩, ⟨(some (88, true)), (some 91), (.pure 91 .mv [(.tmp 9)])⟩, ⟨(some (88, true)), (some 92), (.call (some 92) 19 [(.tmp 91)])⟩, ⟨(some (88, true)), (some 93), (.pure 93 (.bin .eql) [(.tmp 90), (.tmp 92)])⟩, ⟨none, (some 94), (.pure 94 .pick [(.tmp 88), (.tmp 93), (.const (.bool false))])⟩, ⟨none, (some 8), (.pure 8 .mv [(.tmp 94)])⟩]) .ret))))))))))
theorem comp5 : Comp Try.prog 5 E5 4 [(.slot 8)] pc5 := ⟨_, _, Try.func5, rfl, by kernel_rfl, by decide, by kernel_rfl, by kernel_rfl, by kernel_rfl⟩
/-- chancery/disk.New -/
def E9 : Env := ⟨[], 12⟩
def pc9 : PC := (.seq (.ops [⟨none, (some 2), (.pure 2 .mv [(.const (.pointer none))])⟩, ⟨none, (some 3), (.pure 3 .mv [(.const (.int .i64 0))])⟩]) (.seq (.seq (.ops [⟨none, (some 4), (.pure 4 .mv [(.tmp 0)])⟩, ⟨none, (some 5), (.call (some 5) 31 [(.tmp 4)])⟩, ⟨none, (some 6), (.pure 6 (.un .not) [(.tmp 5)])⟩]) (.cond (.tmp 6) (.seq (.ops [⟨none, (some 2), (.pure 2 .mv [(.const (.pointer none))])⟩, ⟨none, (some 3), (.pure 3 .mv [(.const (.int .i64 2))])⟩]) .ret) .skip)) (.seq (.ops [⟨none, (some 7), (.pure 7 .mv [(.tmp 0)])⟩, ⟨none, (some 8), (.mkmap 8)⟩, ⟨none, (some 9), (.mkmap 9)⟩, ⟨none, (some 10), (.pure 10 (.build #[(.bool false), (.int .i64 0), (.map none), (.map none), (.slice none 0 0), (.int .i64 0), (.bool false)] [(0, 1), (1, 1), (2, 1), (3, 1), (5, 1)]) [(.const (.bool true)), (.tmp 7), (.tmp 8), (.tmp 9), (.const (.int .i64 (-1)))])⟩, ⟨none, (some 11), (.hbox 11 64 (.tmp 10))⟩, ⟨none, (some 2), (.pure 2 .mv [(.tmp 11)])⟩, ⟨none, (some 3), (.pure 3 .mv [(.const (.int .i64 0))])⟩]) .ret)))
theorem comp9 : Comp Try.prog 9 E9 1 [(.slot 2), (.slot 3)] pc9 := ⟨_, _, Try.func9, rfl, by kernel_rfl, by decide, by kernel_rfl, by kernel_rfl, by kernel_rfl⟩
/-- chancery/chancerylaw23.act -/
def E10 : Env := ⟨[(3, 3), (5, 3), (10, 3), (12, 3), (19, 3), (21, 3), (27, 3), (33, 3), (35, 3)], 38⟩
def pc10 : PC := (.seq (.ops [⟨none, (some 3), (.lbox 3 3 (.tmp 1))⟩, ⟨none, (some 4), (.pure 4 .mv [(.const (.int .i64 0))])⟩]) (.seq (.seq (.ops [⟨none, (some 5), (.lfield 5 3 0)⟩, ⟨none, (some 6), (.lload 6 3 5 1 false)⟩]) (.block 0 (.seq (.ops [⟨none, (some 8), (.pure 8 (.bin .eql) [(.tmp 6), (.const (.int .i64 0))])⟩, ⟨none, (some 7), (.pure 7 .mv [(.tmp 8)])⟩]) (.cond (.tmp 7) (.seq (.ops [⟨none, (some 9), (.pure 9 .mv [(.tmp 0)])⟩, ⟨none, (some 10), (.lfield 10 3 2)⟩, ⟨none, (some 11), (.lload 11 3 10 1 false)⟩, ⟨none, (some 12), (.lfield 12 3 4)⟩, ⟨none, (some 13), (.lload 13 3 12 1 false)⟩, ⟨none, (some 14), (.bslice 14 28 1 #[(.slice none 0 0)] [(0, 1)] [(.tmp 13)])⟩, ⟨none, (some 15), (.call (some 15) 24 [(.tmp 9), (.tmp 11), (.tmp 14)])⟩, ⟨none, (some 4), (.pure 4 .mv [(.tmp 15)])⟩]) .ret) (.seq (.ops [⟨none, (some 17), (.pure 17 (.bin .eql) [(.tmp 6), (.const (.int .i64 1))])⟩, ⟨none, (some 16), (.pure 16 .mv [(.tmp 17)])⟩]) (.cond (.tmp 16) (.seq (.ops [⟨none, (some 18), (.pure 18 .mv [(.tmp 0)])⟩, ⟨none, (some 19), (.lfield 19 3 2)⟩, ⟨none, (some 20), (.lload 20 3 19 1 false)⟩, ⟨none, (some 21), (.lfield 21 3 3)⟩, ⟨none, (some 22), (.lload 22 3 21 1 false)⟩, ⟨none, (some 23), (.call (some 23) 25 [(.tmp 18), (.tmp 20), (.tmp 22)])⟩, ⟨none, (some 4), (.pure 4 .mv [(.tmp 23)])⟩]) .ret) (.seq (.ops [⟨none, (some 25), (.pure 25 (.bin .eql) [(.tmp 6), (.const (.int .i64 2))])⟩, ⟨none, (some 24), (.pure 24 .mv [(.tmp 25)])⟩]) (.cond (.tmp 24) (.seq (.ops [⟨none, (some 26), (.pure 26 .mv [(.tmp 0)])⟩, ⟨none, (some 27), (.lfield 27 3 2)⟩, ⟨none, (some 28), (.lload 28 3 27 1 false)⟩, ⟨none, (some 29), (.call (some 29) 26 [(.tmp 26), (.tmp 28)])⟩, ⟨none, (some 4), (.pure 4 .mv [(.tmp 29)])⟩]) .ret) (.seq (.ops [⟨none, (some 31), (.pure 31 (.bin .eql) [(.tmp 6), (.const (.int .i64 7))])⟩, ⟨none, (some 30), (.pure 30 .mv [(.tmp 31)])⟩]) (.cond (.tmp 30) (.seq (.ops [⟨none, (some 32), (.pure 32 .mv [(.tmp 0)])⟩, ⟨none, (some 33), (.lfield 33 3 2)⟩, ⟨none, (some 34), (.lload 34 3 33 1 false)⟩, ⟨none, (some 35), (.lfield 35 3 1)⟩, ⟨none, (some 36), (.lload 36 3 35 1 false)⟩, ⟨none, (some 37), (.call (some 37) 27 [(.tmp 32), (.tmp 34), (.tmp 36)])⟩, ⟨none, (some 4), (.pure 4 .mv [(.tmp 37)])⟩]) .ret) .skip)))))))))) (.seq (.ops [⟨none, (some 4), (.pure 4 .mv [(.const (.int .i64 2))])⟩]) .ret)))
theorem comp10 : Comp Try.prog 10 E10 2 [(.slot 4)] pc10 := ⟨_, _, Try.func10, rfl, by kernel_rfl, by decide, by kernel_rfl, by kernel_rfl, by kernel_rfl⟩
/-- (*chancery/disk.Disk).Sync -/
def E11 : Env := ⟨[], 23⟩
def pc11 : PC := (.seq (.ops [⟨none, (some 2), (.pure 2 .mv [(.const (.int .i64 0))])⟩]) (.seq (.seq (.ops [⟨none, (some 4), (.pure 4 .mv [(.tmp 0)])⟩, ⟨none, (some 5), (.call (some 5) 32 [(.tmp 4)])⟩, ⟨none, (some 3), (.pure 3 .mv [(.tmp 5)])⟩]) (.seq (.ops [⟨none, (some 6), (.pure 6 .mv [(.tmp 3)])⟩, ⟨none, (some 7), (.pure 7 (.bin .neq) [(.tmp 6), (.const (.int .i64 0))])⟩]) (.cond (.tmp 7) (.seq (.ops [⟨none, (some 8), (.pure 8 .mv [(.tmp 3)])⟩, ⟨none, (some 2), (.pure 2 .mv [(.tmp 8)])⟩]) .ret) .skip))) (.seq (.seq (.ops [⟨none, (some 9), (.pure 9 .mv [(.tmp 0)])⟩, ⟨none, (some 10), (.call (some 10) 33 [(.tmp 9), (.const (.int .i64 1))])⟩, ⟨none, (some 11), (.pure 11 (.bin .eql) [(.tmp 10), (.const (.int .i64 0))])⟩]) (.cond (.tmp 11) (.seq (.ops [⟨none, (some 2), (.pure 2 .mv [(.const (.int .i64 232))])⟩]) .ret) .skip)) (.seq (.ops [⟨none, (some 12), (.pure 12 .mv [(.tmp 0)])⟩, ⟨none, (some 13), (.pure 13 .mv [(.tmp 0)])⟩, ⟨none, (some 14), (.pure 14 .nilck [(.tmp 13)])⟩, ⟨none, (some 15), (.pure 15 (.fptr 2) [(.tmp 14)])⟩, ⟨none, (some 16), (.hload 16 1 false (.tmp 15))⟩, ⟨none, (some 17), (.call (some 17) 34 [(.tmp 16)])⟩, ⟨none, (some 18), (.pure 18 .nilck [(.tmp 12)])⟩, ⟨none, (some 19), (.pure 19 (.fptr 3) [(.tmp 18)])⟩, ⟨none, none, (.hstore 1 (.tmp 19) (.tmp 17))⟩]) (.seq (.ops [⟨none, (some 20), (.pure 20 .mv [(.tmp 0)])⟩, ⟨none, (some 21), (.pure 21 .nilck [(.tmp 20)])⟩, ⟨none, (some 22), (.pure 22 (.fptr 4) [(.tmp 21)])⟩, ⟨none, none, (.hstore 1 (.tmp 22) (.const (.slice none 0 0)))⟩]) (.seq (.ops [⟨none, (some 2), (.pure 2 .mv [(.const (.int .i64 0))])⟩]) .ret))))))
theorem comp11 : Comp Try.prog 11 E11 1 [(.slot 2)] pc11 := ⟨_, _, Try.func11, rfl, by kernel_rfl, by decide, by kernel_rfl, by kernel_rfl, by kernel_rfl⟩
/-- (*chancery/disk.Disk).Copy -/
def E12 : Env := ⟨[], 27⟩
def pc12 : PC := (.seq (.ops [⟨none, (some 2), (.pure 2 .mv [(.const (.pointer none))])⟩]) (.seq (.seq (.ops [⟨none, (some 4), (.pure 4 .mv [(.tmp 0)])⟩, ⟨none, (some 5), (.call (some 5) 35 [(.tmp 4)])⟩]) (.cond (.tmp 5) (.seq (.ops [⟨none, (some 2), (.pure 2 .mv [(.const (.pointer none))])⟩]) .ret) .skip)) (.seq (.ops [⟨none, (some 6), (.pure 6 .mv [(.tmp 0)])⟩, ⟨none, (some 7), (.pure 7 .nilck [(.tmp 6)])⟩, ⟨none, (some 8), (.hload 8 7 true (.tmp 7))⟩, ⟨none, (some 3), (.halloc 3 64 #[(.bool false), (.int .i64 0), (.map none), (.map none), (.slice none 0 0), (.int .i64 0), (.bool false)])⟩, ⟨none, none, (.hstore 7 (.tmp 3) (.tmp 8))⟩]) (.seq (.draw [] (.take 0 ⟨none, (some 9), (.pure 9 .mv [(.tmp 0)])⟩ (.take 1 ⟨none, (some 10), (.pure 10 .nilck [(.tmp 9)])⟩ (.take 2 ⟨none, (some 11), (.pure 11 (.fptr 2) [(.tmp 10)])⟩ (.take 5 ⟨none, (some 14), (.pure 14 .mv [(.tmp 0)])⟩ (.take 6 ⟨none, (some 15), (.pure 15 .nilck [(.tmp 14)])⟩ (.take 7 ⟨none, (some 16), (.pure 16 (.fptr 3) [(.tmp 15)])⟩ (.take 10 ⟨none, (some 19), (.pure 19 .mv [(.tmp 0)])⟩ (.take 11 ⟨none, (some 20), (.pure 20 .nilck [(.tmp 19)])⟩ (.take 12 ⟨none, (some 21), (.pure 21 (.fptr 4) [(.tmp 20)])⟩ (.alt 3 ⟨none, (some 12), (.hload 12 1 false (.tmp 11))⟩ (.alt 4 ⟨none, (some 13), (.call (some 13) 34 [(.tmp 12)])⟩ (.alt 8 ⟨none, (some 17), (.hload 17 1 false (.tmp 16))⟩ (.alt 9 ⟨none, (some 18), (.call (some 18) 34 [(.tmp 17)])⟩ (.alt 13 ⟨none, (some 22), (.hload 22 1 false (.tmp 21))⟩ (.alt 14 ⟨none, (some 23), (.call (some 23) 36 [(.tmp 22)])⟩ (.take 15 ⟨none, (some 24), (.pure 24 (.fptr 2) [(.tmp 3)])⟩ (.alt 16 ⟨none, none, (.hstore 1 (.tmp 24) (.tmp 13))⟩ (.take 17 ⟨none, (some 25), (.pure 25 (.fptr 3) [(.tmp 3)])⟩ (.alt 18 ⟨none, none, (.hstore 1 (.tmp 25) (.tmp 18))⟩ (.take 19 ⟨none, (some 26), (.pure 26 (.fptr 4) [(.tmp 3)])⟩ (.alt 20 ⟨none, none, (.hstore 1 (.tmp 26) (.tmp 23))⟩ .done .no)) .no)) .no)) .no) .no) (.alt 13 ⟨none, (some 22), (.hload 22 1 false (.tmp 21))⟩ (.alt 9 ⟨none, (some 18), (.call (some 18) 34 [(.tmp 17)])⟩ (.alt 14 ⟨none, (some 23), (.call (some 23) 36 [(.tmp 22)])⟩ (.take 15 ⟨none, (some 24), (.pure 24 (.fptr 2) [(.tmp 3)])⟩ (.alt 16 ⟨none, none, (.hstore 1 (.tmp 24) (.tmp 13))⟩ (.take 17 ⟨none, (some 25), (.pure 25 (.fptr 3) [(.tmp 3)])⟩ (.alt 18 ⟨none, none, (.hstore 1 (.tmp 25) (.tmp 18))⟩ (.take 19 ⟨none, (some 26), (.pure 26 (.fptr 4) [(.tmp 3)])⟩ (.alt 20 ⟨none, none, (.hstore 1 (.tmp 26) (.tmp 23))⟩ .done .no)) .no)) .no)) .no) .no) .no)) (.alt 13 ⟨none, (some 22), (.hload 22 1 false (.tmp 21))⟩ (.alt 8 ⟨none, (some 17), (.hload 17 1 false (.tmp 16))⟩ (.alt 9 ⟨none, (some 18), (.call (some 18) 34 [(.tmp 17)])⟩ (.alt 14 ⟨none, (some 23), (.call (some 23) 36 [(.tmp 22)])⟩ (.take 15 ⟨none, (some 24), (.pure 24 (.fptr 2) [(.tmp 3)])⟩ (.alt 16 ⟨none, none, (.hstore 1 (.tmp 24) (.tmp 13))⟩ (.take 17 ⟨none, (some 25), (.pure 25 (.fptr 3) [(.tmp 3)])⟩ (.alt 18 ⟨none, none, (.hstore 1 (.tmp 25) (.tmp 18))⟩ (.take 19 ⟨none, (some 26), (.pure 26 (.fptr 4) [(.tmp 3)])⟩ (.alt 20 ⟨none, none, (.hstore 1 (.tmp 26) (.tmp 23))⟩ .done .no)) .no)) .no)) .no) .no) .no) .no)) (.alt 8 ⟨none, (some 17), (.hload 17 1 false (.tmp 16))⟩ (.alt 4 ⟨none, (some 13), (.call (some 13) 34 [(.tmp 12)])⟩ (.alt 9 ⟨none, (some 18), (.call (some 18) 34 [(.tmp 17)])⟩ (.alt 13 ⟨none, (some 22), (.hload 22 1 false (.tmp 21))⟩ (.alt 14 ⟨none, (some 23), (.call (some 23) 36 [(.tmp 22)])⟩ (.take 15 ⟨none, (some 24), (.pure 24 (.fptr 2) [(.tmp 3)])⟩ (.alt 16 ⟨none, none, (.hstore 1 (.tmp 24) (.tmp 13))⟩ (.take 17 ⟨none, (some 25), (.pure 25 (.fptr 3) [(.tmp 3)])⟩ (.alt 18 ⟨none, none, (.hstore 1 (.tmp 25) (.tmp 18))⟩ (.take 19 ⟨none, (some 26), (.pure 26 (.fptr 4) [(.tmp 3)])⟩ (.alt 20 ⟨none, none, (.hstore 1 (.tmp 26) (.tmp 23))⟩ .done .no)) .no)) .no)) .no) .no) (.alt 13 ⟨none, (some 22), (.hload 22 1 false (.tmp 21))⟩ (.alt 9 ⟨none, (some 18), (.call (some 18) 34 [(.tmp 17)])⟩ (.alt 14 ⟨none, (some 23), (.call (some 23) 36 [(.tmp 22)])⟩ (.take 15 ⟨none, (some 24), (.pure 24 (.fptr 2) [(.tmp 3)])⟩ (.alt 16 ⟨none, none, (.hstore 1 (.tmp 24) (.tmp 13))⟩ (.take 17 ⟨none, (some 25), (.pure 25 (.fptr 3) [(.tmp 3)])⟩ (.alt 18 ⟨none, none, (.hstore 1 (.tmp 25) (.tmp 18))⟩ (.take 19 ⟨none, (some 26), (.pure 26 (.fptr 4) [(.tmp 3)])⟩ (.alt 20 ⟨none, none, (.hstore 1 (.tmp 26) (.tmp 23))⟩ .done .no)) .no)) .no)) .no) .no) .no)) (.alt 13 ⟨none, (some 22), (.hload 22 1 false (.tmp 21))⟩ (.alt 4 ⟨none, (some 13), (.call (some 13) 34 [(.tmp 12)])⟩ (.alt 9 ⟨none, (some 18), (.call (some 18) 34 [(.tmp 17)])⟩ (.alt 14 ⟨none, (some 23), (.call (some 23) 36 [(.tmp 22)])⟩ (.take 15 ⟨none, (some 24), (.pure 24 (.fptr 2) [(.tmp 3)])⟩ (.alt 16 ⟨none, none, (.hstore 1 (.tmp 24) (.tmp 13))⟩ (.take 17 ⟨none, (some 25), (.pure 25 (.fptr 3) [(.tmp 3)])⟩ (.alt 18 ⟨none, none, (.hstore 1 (.tmp 25) (.tmp 18))⟩ (.take 19 ⟨none, (some 26), (.pure 26 (.fptr 4) [(.tmp 3)])⟩ (.alt 20 ⟨none, none, (.hstore 1 (.tmp 26) (.tmp 23))⟩ .done .no)) .no)) .no)) .no) .no) .no) .no)) (.alt 13 ⟨none, (some 22), (.hload 22 1 false (.tmp 21))⟩ (.alt 4 ⟨none, (some 13), (.call (some 13) 34 [(.tmp 12)])⟩ (.alt 8 ⟨none, (some 17), (.hload 17 1 false (.tmp 16))⟩ (.alt 9 ⟨none, (some 18), (.call (some 18) 34 [(.tmp 17)])⟩ (.alt 14 ⟨none, (some 23), (.call (some 23) 36 [(.tmp 22)])⟩ (.take 15 ⟨none, (some 24), (.pure 24 (.fptr 2) [(.tmp 3)])⟩ (.alt 16 ⟨none, none, (.hstore 1 (.tmp 24) (.tmp 13))⟩ (.take 17 ⟨none, (some 25), (.pure 25 (.fptr 3) [(.tmp 3)])⟩ (.alt 18 ⟨none, none, (.hstore 1 (.tmp 25) (.tmp 18))⟩ (.take 19 ⟨none, (some 26), (.pure 26 (.fptr 4) [(.tmp 3)])⟩ (.alt 20 ⟨none, none, (.hstore 1 (.tmp 26) (.tmp 23))⟩ .done .no)) .no)) .no)) .no) .no) .no) (.alt 8 ⟨none, (some 17), (.hload 17 1 false (.tmp 16))⟩ (.alt 4 ⟨none, (some 13), (.call (some 13) 34 [(.tmp 12)])⟩ (.alt 9 ⟨none, (some 18), (.call (some 18) 34 [(.tmp 17)])⟩ (.alt 14 ⟨none, (some 23), (.call (some 23) 36 [(.tmp 22)])⟩ (.take 15 ⟨none, (some 24), (.pure 24 (.fptr 2) [(.tmp 3)])⟩ (.alt 16 ⟨none, none, (.hstore 1 (.tmp 24) (.tmp 13))⟩ (.take 17 ⟨none, (some 25), (.pure 25 (.fptr 3) [(.tmp 3)])⟩ (.alt 18 ⟨none, none, (.hstore 1 (.tmp 25) (.tmp 18))⟩ (.take 19 ⟨none, (some 26), (.pure 26 (.fptr 4) [(.tmp 3)])⟩ (.alt 20 ⟨none, none, (.hstore 1 (.tmp 26) (.tmp 23))⟩ .done .no)) .no)) .no)) .no) .no) .no) .no)) .no))) (.alt 8 ⟨none, (some 17), (.hload 17 1 false (.tmp 16))⟩ (.alt 3 ⟨none, (some 12), (.hload 12 1 false (.tmp 11))⟩ (.alt 4 ⟨none, (some 13), (.call (some 13) 34 [(.tmp 12)])⟩ (.alt 9 ⟨none, (some 18), (.call (some 18) 34 [(.tmp 17)])⟩ (.alt 13 ⟨none, (some 22), (.hload 22 1 false (.tmp 21))⟩ (.alt 14 ⟨none, (some 23), (.call (some 23) 36 [(.tmp 22)])⟩ (.take 15 ⟨none, (some 24), (.pure 24 (.fptr 2) [(.tmp 3)])⟩ (.alt 16 ⟨none, none, (.hstore 1 (.tmp 24) (.tmp 13))⟩ (.take 17 ⟨none, (some 25), (.pure 25 (.fptr 3) [(.tmp 3)])⟩ (.alt 18 ⟨none, none, (.hstore 1 (.tmp 25) (.tmp 18))⟩ (.take 19 ⟨none, (some 26), (.pure 26 (.fptr 4) [(.tmp 3)])⟩ (.alt 20 ⟨none, none, (.hstore 1 (.tmp 26) (.tmp 23))⟩ .done .no)) .no)) .no)) .no) .no) (.alt 13 ⟨none, (some 22), (.hload 22 1 false (.tmp 21))⟩ (.alt 9 ⟨none, (some 18), (.call (some 18) 34 [(.tmp 17)])⟩ (.alt 14 ⟨none, (some 23), (.call (some 23) 36 [(.tmp 22)])⟩ (.take 15 ⟨none, (some 24), (.pure 24 (.fptr 2) [(.tmp 3)])⟩ (.alt 16 ⟨none, none, (.hstore 1 (.tmp 24) (.tmp 13))⟩ (.take 17 ⟨none, (some 25), (.pure 25 (.fptr 3) [(.tmp 3)])⟩ (.alt 18 ⟨none, none, (.hstore 1 (.tmp 25) (.tmp 18))⟩ (.take 19 ⟨none, (some 26), (.pure 26 (.fptr 4) [(.tmp 3)])⟩ (.alt 20 ⟨none, none, (.hstore 1 (.tmp 26) (.tmp 23))⟩ .done .no)) .no)) .no)) .no) .no) .no)) (.alt 13 ⟨none, (some 22), (.hload 22 1 false (.tmp 21))⟩ (.alt 4 ⟨none, (some 13), (.call (some 13) 34 [(.tmp 12)])⟩ (.alt 9 ⟨none, (some 18), (.call (some 18) 34 [(.tmp 17)])⟩ (.alt 14 ⟨none, (some 23), (.call (some 23) 36 [(.tmp 22)])⟩ (.take 15 ⟨none, (some 24), (.pure 24 (.fptr 2) [(.tmp 3)])⟩ (.alt 16 ⟨none, none, (.hstore 1 (.tmp 24) (.tmp 13))⟩ (.take 17 ⟨none, (some 25), (.pure 25 (.fptr 3) [(.tmp 3)])⟩ (.alt 18 ⟨none, none, (.hstore 1 (.tmp 25) (.tmp 18))⟩ (.take 19 ⟨none, (some 26), (.pure 26 (.fptr 4) [(.tmp 3)])⟩ (.alt 20 ⟨none, none, (.hstore 1 (.tmp 26) (.tmp 23))⟩ .done .no)) .no)) .no)) .no) .no) .no) .no)) (.alt 13 ⟨none, (some 22), (.hload 22 1 false (.tmp 21))⟩ (.alt 3 ⟨none, (some 12), (.hload 12 1 false (.tmp 11))⟩ (.alt 4 ⟨none, (some 13), (.call (some 13) 34 [(.tmp 12)])⟩ (.alt 9 ⟨none, (some 18), (.call (some 18) 34 [(.tmp 17)])⟩ (.alt 14 ⟨none, (some 23), (.call (some 23) 36 [(.tmp 22)])⟩ (.take 15 ⟨none, (some 24), (.pure 24 (.fptr 2) [(.tmp 3)])⟩ (.alt 16 ⟨none, none, (.hstore 1 (.tmp 24) (.tmp 13))⟩ (.take 17 ⟨none, (some 25), (.pure 25 (.fptr 3) [(.tmp 3)])⟩ (.alt 18 ⟨none, none, (.hstore 1 (.tmp 25) (.tmp 18))⟩ (.take 19 ⟨none, (some 26), (.pure 26 (.fptr 4) [(.tmp 3)])⟩ (.alt 20 ⟨none, none, (.hstore 1 (.tmp 26) (.tmp 23))⟩ .done .no)) .no)) .no)) .no) .no) .no) .no) .no)) (.alt 13 ⟨none, (some 22), (.hload 22 1 false (.tmp 21))⟩ (.alt 3 ⟨none, (some 12), (.hload 12 1 false (.tmp 11))⟩ (.alt 4 ⟨none, (some 13), (.call (some 13) 34 [(.tmp 12)])⟩ (.alt 8 ⟨none, (some 17), (.hload 17 1 false (.tmp 16))⟩ (.alt 9 ⟨none, (some 18), (.call (some 18) 34 [(.tmp 17)])⟩ (.alt 14 ⟨none, (some 23), (.call (some 23) 36 [(.tmp 22)])⟩ (.take 15 ⟨none, (some 24), (.pure 24 (.fptr 2) [(.tmp 3)])⟩ (.alt 16 ⟨none, none, (.hstore 1 (.tmp 24) (.tmp 13))⟩ (.take 17 ⟨none, (some 25), (.pure 25 (.fptr 3) [(.tmp 3)])⟩ (.alt 18 ⟨none, none, (.hstore 1 (.tmp 25) (.tmp 18))⟩ (.take 19 ⟨none, (some 26), (.pure 26 (.fptr 4) [(.tmp 3)])⟩ (.alt 20 ⟨none, none, (.hstore 1 (.tmp 26) (.tmp 23))⟩ .done .no)) .no)) .no)) .no) .no) .no) (.alt 8 ⟨none, (some 17), (.hload 17 1 false (.tmp 16))⟩ (.alt 4 ⟨none, (some 13), (.call (some 13) 34 [(.tmp 12)])⟩ (.alt 9 ⟨none, (some 18), (.call (some 18) 34 [(.tmp 17)])⟩ (.alt 14 ⟨none, (some 23), (.call (some 23) 36 [(.tmp 22)])⟩ (.take 15 ⟨none, (some 24), (.pure 24 (.fptr 2) [(.tmp 3)])⟩ (.alt 16 ⟨none, none, (.hstore 1 (.tmp 24) (.tmp 13))⟩ (.take 17 ⟨none, (some 25), (.pure 25 (.fptr 3) [(.tmp 3)])⟩ (.alt 18 ⟨none, none, (.hstore 1 (.tmp 25) (.tmp 18))⟩ (.take 19 ⟨none, (some 26), (.pure 26 (.fptr 4) [(.tmp 3)])⟩ (.alt 20 ⟨none, none, (.hstore 1 (.tmp 26) (.tmp 23))⟩ .done .no)) .no)) .no)) .no) .no) .no) .no)) (.alt 8 ⟨none, (some 17), (.hload 17 1 false (.tmp 16))⟩ (.alt 3 ⟨none, (some 12), (.hload 12 1 false (.tmp 11))⟩ (.alt 4 ⟨none, (some 13), (.call (some 13) 34 [(.tmp 12)])⟩ (.alt 9 ⟨none, (some 18), (.call (some 18) 34 [(.tmp 17)])⟩ (.alt 14 ⟨none, (some 23), (.call (some 23) 36 [(.tmp 22)])⟩ (.take 15 ⟨none, (some 24), (.pure 24 (.fptr 2) [(.tmp 3)])⟩ (.alt 16 ⟨none, none, (.hstore 1 (.tmp 24) (.tmp 13))⟩ (.take 17 ⟨none, (some 25), (.pure 25 (.fptr 3) [(.tmp 3)])⟩ (.alt 18 ⟨none, none, (.hstore 1 (.tmp 25) (.tmp 18))⟩ (.take 19 ⟨none, (some 26), (.pure 26 (.fptr 4) [(.tmp 3)])⟩ (.alt 20 ⟨none, none, (.hstore 1 (.tmp 26) (.tmp 23))⟩ .done .no)) .no)) .no)) .no) .no) .no) .no) .no)) .no))))))))))))) (.seq (.ops [⟨none, (some 2), (.pure 2 .mv [(.tmp 3)])⟩]) .ret)))))
theorem comp12 : Comp Try.prog 12 E12 1 [(.slot 2)] pc12 := ⟨_, _, Try.func12, rfl, by kernel_rfl, by decide, by kernel_rfl, by kernel_rfl, by kernel_rfl⟩
/-- (*chancery/disk.Disk).Pending -/
def E14 : Env := ⟨[(5, 5), (18, 5)], 23⟩
def pc14 : PC := (.seq (.ops [⟨none, (some 2), (.pure 2 .mv [(.const (.int .i64 0))])⟩]) (.seq (.seq (.ops [⟨none, (some 6), (.pure 6 .mv [(.tmp 0)])⟩, ⟨none, (some 7), (.call (some 7) 35 [(.tmp 6)])⟩]) (.cond (.tmp 7) (.seq (.ops [⟨none, (some 2), (.pure 2 .mv [(.const (.int .i64 0))])⟩]) .ret) .skip)) (.seq (.ops [⟨none, (some 3), (.pure 3 .mv [(.const (.int .i64 0))])⟩]) (.seq (.seq (.ops [⟨none, (some 8), (.pure 8 .mv [(.tmp 0)])⟩, ⟨none, (some 9), (.pure 9 .nilck [(.tmp 8)])⟩, ⟨none, (some 10), (.pure 10 (.fptr 4) [(.tmp 9)])⟩, ⟨none, (some 11), (.hload 11 1 false (.tmp 10))⟩, ⟨none, (some 12), (.pure 12 .lenL [(.tmp 11)])⟩, ⟨none, (some 13), (.pure 13 .mv [(.const (.int .i64 0))])⟩]) (.block 0 (.loop (.seq (.ops [⟨none, (some 14), (.pure 14 (.bin .lss) [(.tmp 13), (.tmp 12)])⟩]) (.seq (.cond (.tmp 14) .skip (.exit 0)) (.seq (.block 1 (.seq (.ops [⟨none, (some 15), (.pure 15 (.iptrS 2) [(.tmp 11), (.tmp 13)])⟩, ⟨none, (some 16), (.hload 16 2 true (.tmp 15))⟩, ⟨none, (some 5), (.lalloc 5 5 #[(.int .i64 0), .nilFunc])⟩, ⟨none, none, (.lstore 5 5 2 (.tmp 16))⟩]) (.ops [⟨none, (some 17), (.pure 17 .mv [(.tmp 3)])⟩, ⟨none, (some 18), (.lfield 18 5 0)⟩, ⟨none, (some 19), (.lload 19 5 18 1 false)⟩, ⟨none, (some 20), (.pure 20 (.bin .add) [(.tmp 17), (.tmp 19)])⟩, ⟨none, (some 3), (.pure 3 .mv [(.tmp 20)])⟩]))) (.ops [⟨none, (some 21), (.pure 21 (.bin .add) [(.tmp 13), (.const (.int .i64 1))])⟩, ⟨none, (some 13), (.pure 13 .mv [(.tmp 21)])⟩]))))))) (.seq (.ops [⟨none, (some 22), (.pure 22 .mv [(.tmp 3)])⟩, ⟨none, (some 2), (.pure 2 .mv [(.tmp 22)])⟩]) .ret)))))
theorem comp14 : Comp Try.prog 14 E14 1 [(.slot 2)] pc14 := ⟨_, _, Try.func14, rfl, by kernel_rfl, by decide, by kernel_rfl, by kernel_rfl, by kernel_rfl⟩
/-- (*chancery/disk.Disk).Crash -/
def E15 : Env := ⟨[(8, 8), (42, 8), (47, 8)], 62⟩
def pc15 : PC := (.seq (.ops [⟨none, (some 4), (.pure 4 .mv [(.const (.int .i64 0))])⟩]) (.seq (.seq (.ops [⟨none, (some 10), (.pure 10 .mv [(.tmp 0)])⟩, ⟨none, (some 11), (.call (some 11) 35 [(.tmp 10)])⟩]) (.cond (.tmp 11) (.seq (.ops [⟨none, (some 4), (.pure 4 .mv [(.const (.int .i64 0))])⟩]) .ret) .skip)) (.seq (.ops [⟨none, (some 12), (.pure 12 .mv [(.tmp 1)])⟩, ⟨none, (some 13), (.pure 13 .mv [(.tmp 0)])⟩, ⟨none, (some 14), (.call (some 14) 14 [(.tmp 13)])⟩, ⟨none, (some 15), (.pure 15 .minI [(.tmp 12), (.tmp 14)])⟩, ⟨none, (some 16), (.pure 16 .maxI [(.const (.int .i64 0)), (.tmp 15)])⟩, ⟨none, (some 5), (.pure 5 .mv [(.tmp 16)])⟩]) (.seq (.ops [⟨none, (some 17), (.pure 17 .mv [(.tmp 5)])⟩, ⟨none, (some 6), (.pure 6 .mv [(.tmp 17)])⟩]) (.seq (.ops [⟨none, (some 18), (.pure 18 .mv [(.tmp 0)])⟩, ⟨none, (some 19), (.pure 19 .mv [(.tmp 0)])⟩, ⟨none, (some 20), (.pure 20 .nilck [(.tmp 18)])⟩, ⟨none, (some 21), (.pure 21 (.fptr 5) [(.tmp 20)])⟩, ⟨none, none, (.hstore 1 (.tmp 21) (.const (.int .i64 (-1))))⟩, ⟨none, (some 22), (.pure 22 .nilck [(.tmp 19)])⟩, ⟨none, (some 23), (.pure 23 (.fptr 6) [(.tmp 22)])⟩, ⟨none, none, (.hstore 1 (.tmp 23) (.const (.bool false)))⟩]) (.seq (.ops [⟨none, (some 24), (.pure 24 .mv [(.tmp 0)])⟩, ⟨none, (some 25), (.pure 25 .mv [(.tmp 0)])⟩, ⟨none, (some 26), (.pure 26 .nilck [(.tmp 25)])⟩, ⟨none, (some 27), (.pure 27 (.fptr 3) [(.tmp 26)])⟩, ⟨none, (some 28), (.hload 28 1 false (.tmp 27))⟩, ⟨none, (some 29), (.call (some 29) 34 [(.tmp 28)])⟩, ⟨none, (some 30), (.pure 30 .nilck [(.tmp 24)])⟩, ⟨none, (some 31), (.pure 31 (.fptr 2) [(.tmp 30)])⟩, ⟨none, none, (.hstore 1 (.tmp 31) (.tmp 29))⟩]) (.seq (.seq (.ops [⟨none, (some 32), (.pure 32 .mv [(.tmp 0)])⟩, ⟨none, (some 33), (.pure 33 .nilck [(.tmp 32)])⟩, ⟨none, (some 34), (.pure 34 (.fptr 4) [(.tmp 33)])⟩, ⟨none, (some 35), (.hload 35 1 false (.tmp 34))⟩, ⟨none, (some 36), (.pure 36 .lenL [(.tmp 35)])⟩, ⟨none, (some 37), (.pure 37 .mv [(.const (.int .i64 0))])⟩]) (.block 0 (.loop (.seq (.ops [⟨none, (some 38), (.pure 38 (.bin .lss) [(.tmp 37), (.tmp 36)])⟩]) (.seq (.cond (.tmp 38) .skip (.exit 0)) (.seq (.block 1 (.seq (.ops [⟨none, (some 39), (.pure 39 (.iptrS 2) [(.tmp 35), (.tmp 37)])⟩, ⟨none, (some 40), (.hload 40 2 true (.tmp 39))⟩, ⟨none, (some 8), (.lalloc 8 8 #[(.int .i64 0), .nilFunc])⟩, ⟨none, none, (.lstore 8 8 2 (.tmp 40))⟩]) (.seq (.ops [⟨none, (some 41), (.pure 41 .mv [(.tmp 5)])⟩, ⟨none, (some 42), (.lfield 42 8 0)⟩, ⟨none, (some 43), (.lload 43 8 42 1 false)⟩, ⟨none, (some 44), (.pure 44 .minI [(.tmp 41), (.tmp 43)])⟩, ⟨none, (some 9), (.pure 9 .mv [(.tmp 44)])⟩]) (.seq (.ops [⟨none, (some 45), (.pure 45 .mv [(.tmp 9)])⟩, ⟨none, (some 46), (.pure 46 (.bin .gtr) [(.tmp 45), (.const (.int .i64 0))])⟩]) (.cond (.tmp 46) (.seq (.draw [8] (.take 0 ⟨none, (some 47), (.lfield 47 8 1)⟩ (.take 1 ⟨none, (some 48), (.lload 48 8 47 1 false)⟩ (.take 2 ⟨none, (some 49), (.pure 49 .mv [(.tmp 0)])⟩ (.take 3 ⟨none, (some 50), (.pure 50 .nilck [(.tmp 49)])⟩ (.take 4 ⟨none, (some 51), (.pure 51 (.fptr 2) [(.tmp 50)])⟩ (.take 5 ⟨none, (some 52), (.hload 52 1 false (.tmp 51))⟩ (.take 6 ⟨none, (some 53), (.pure 53 .mv [(.tmp 9)])⟩ (.alt 7 ⟨none, (some 54), (.callv (some 54) (.tmp 48) [(.tmp 52), (.tmp 53)])⟩ .done .no))))))))) (.ops [⟨none, (some 55), (.pure 55 .mv [(.tmp 5)])⟩, ⟨none, (some 56), (.pure 56 .mv [(.tmp 9)])⟩, ⟨none, (some 57), (.pure 57 (.bin .sub) [(.tmp 55), (.tmp 56)])⟩, ⟨none, (some 5), (.pure 5 .mv [(.tmp 57)])⟩])) .skip))))) (.ops [⟨none, (some 58), (.pure 58 (.bin .add) [(.tmp 37), (.const (.int .i64 1))])⟩, ⟨none, (some 37), (.pure 37 .mv [(.tmp 58)])⟩]))))))) (.seq (.ops [⟨none, (some 59), (.pure 59 .mv [(.tmp 0)])⟩, ⟨none, (some 60), (.call (some 60) 11 [(.tmp 59)])⟩]) (.seq (.ops [⟨none, (some 61), (.pure 61 .mv [(.tmp 6)])⟩, ⟨none, (some 4), (.pure 4 .mv [(.tmp 61)])⟩]) .ret)))))))))
theorem comp15 : Comp Try.prog 15 E15 2 [(.slot 4)] pc15 := ⟨_, _, Try.func15, rfl, by kernel_rfl, by decide, by kernel_rfl, by kernel_rfl, by kernel_rfl⟩
/-- chancery/chancerylaw23.alike -/
def E16 : Env := ⟨[], 52⟩
def pc16 : PC := (.seq (.ops [⟨none, (some 2), (.hbox 2 23 (.tmp 0))⟩, ⟨none, (some 3), (.hbox 3 23 (.tmp 1))⟩, ⟨none, (some 4), (.halloc 4 4 #[(.bool false)])⟩]) (.seq (.ops [⟨none, (some 5), (.halloc 5 3 #[(.int .i64 0)])⟩, ⟨none, (some 6), (.halloc 6 3 #[(.int .i64 0)])⟩, ⟨none, none, (.hstore 1 (.tmp 5) (.const (.int .i64 0)))⟩, ⟨none, none, (.hstore 1 (.tmp 6) (.const (.int .i64 0)))⟩]) (.seq (.seq (.ops [⟨none, (some 12), (.hload 12 1 false (.tmp 2))⟩, ⟨none, (some 13), (.call (some 13) 21 [(.tmp 12)])⟩]) (.block 0 (.range (.tmp 13) [14, 15] (.ops [⟨none, (some 7), (.pure 7 .mv [(.tmp 14)])⟩]) (.block 1 (.seq (.ops [⟨none, (some 16), (.hload 16 1 false (.tmp 5))⟩, ⟨none, (some 17), (.pure 17 (.bin .add) [(.tmp 16), (.const (.int .i64 1))])⟩, ⟨none, none, (.hstore 1 (.tmp 5) (.tmp 17))⟩]) (.seq (.ops [⟨none, (some 19), (.hload 19 1 false (.tmp 2))⟩, ⟨none, (some 20), (.pure 20 .mv [(.tmp 7)])⟩, ⟨none, (some 21), (.call (some 21) 23 [(.tmp 19), (.tmp 20)])⟩, ⟨none, (some 18), (.pure 18 .mv [(.tmp 21)])⟩, ⟨none, (some 22), (.pure 22 (.ext 0) [(.tmp 18)])⟩, ⟨none, (some 23), (.pure 23 (.ext 1) [(.tmp 18)])⟩, ⟨none, (some 8), (.pure 8 .mv [(.tmp 22)])⟩, ⟨none, (some 9), (.pure 9 .mv [(.tmp 23)])⟩]) (.seq (.ops [⟨none, (some 25), (.hload 25 1 false (.tmp 3))⟩, ⟨none, (some 26), (.pure 26 .mv [(.tmp 7)])⟩, ⟨none, (some 27), (.call (some 27) 23 [(.tmp 25), (.tmp 26)])⟩, ⟨none, (some 24), (.pure 24 .mv [(.tmp 27)])⟩, ⟨none, (some 28), (.pure 28 (.ext 0) [(.tmp 24)])⟩, ⟨none, (some 29), (.pure 29 (.ext 1) [(.tmp 24)])⟩, ⟨none, (some 10), (.pure 10 .mv [(.tmp 28)])⟩, ⟨none, (some 11), (.pure 11 .mv [(.tmp 29)])⟩]) (.seq (.ops [⟨none, (some 30), (.pure 30 .mv [(.tmp 9)])⟩, ⟨none, (some 31), (.pure 31 (.bin .neq) [(.tmp 30), (.const (.int .i64 0))])⟩, ⟨none, (some 32), (.pure 32 .mv [(.tmp 31)])⟩, ⟨(some (32, false)), (some 33), (.pure 33 .mv [(.tmp 11)])⟩, ⟨(some (32, false)), (some 34), (.pure 34 (.bin .neq) [(.tmp 33), (.const (.int .i64 0))])⟩, ⟨none, (some 35), (.pure 35 .pick [(.tmp 32), (.const (.bool true)), (.tmp 34)])⟩, ⟨none, (some 36), (.pure 36 .mv [(.tmp 35)])⟩, ⟨(some (36, false)), (some 37), (.pure 37 .mv [(.tmp 8)])⟩, ⟨(some (36, false)), (some 38), (.b2s 38 (.tmp 37))⟩, ⟨(some (36, false)), (some 39), (.pure 39 .mv [(.tmp 10)])⟩, ⟨(some (36, false)), (some 40), (.b2s 40 (.tmp 39))⟩, ⟨(some (36, false)), (some 41), (.pure 41 (.bin .neq) [(.tmp 38), (.tmp 40)])⟩, ⟨none, (some 42), (.pure 42 .pick [(.tmp 36), (.const (.bool true)), (.tmp 41)])⟩]) (.cond (.tmp 42) (.seq (.ops [⟨none, none, (.hstore 1 (.tmp 4) (.const (.bool false)))⟩]) .ret) .skip))))))))) (.seq (.seq (.ops [⟨none, (some 43), (.hload 43 1 false (.tmp 3))⟩, ⟨none, (some 44), (.call (some 44) 21 [(.tmp 43)])⟩]) (.block 2 (.range (.tmp 44) [45, 46] .skip (.block 3 (.ops [⟨none, (some 47), (.hload 47 1 false (.tmp 6))⟩, ⟨none, (some 48), (.pure 48 (.bin .add) [(.tmp 47), (.const (.int .i64 1))])⟩, ⟨none, none, (.hstore 1 (.tmp 6) (.tmp 48))⟩]))))) (.seq (.ops [⟨none, (some 49), (.hload 49 1 false (.tmp 5))⟩, ⟨none, (some 50), (.hload 50 1 false (.tmp 6))⟩, ⟨none, (some 51), (.pure 51 (.bin .eql) [(.tmp 49), (.tmp 50)])⟩, ⟨none, none, (.hstore 1 (.tmp 4) (.tmp 51))⟩]) .ret)))))
theorem comp16 : Comp Try.prog 16 E16 2 [(.heap 4 1 false)] pc16 := ⟨_, _, Try.func16, rfl, by kernel_rfl, by decide, by kernel_rfl, by kernel_rfl, by kernel_rfl⟩
/-- (*chancery/disk.Disk).Resize -/
def E18 : Env := ⟨[], 16⟩
def pc18 : PC := (.seq (.ops [⟨none, (some 4), (.pure 4 .mv [(.const (.int .i64 0))])⟩]) (.seq (.block 0 (.seq (.ops [⟨none, (some 6), (.pure 6 .mv [(.tmp 0)])⟩, ⟨none, (some 7), (.call (some 7) 35 [(.tmp 6)])⟩, ⟨none, (some 5), (.pure 5 .mv [(.tmp 7)])⟩]) (.cond (.tmp 5) (.seq (.ops [⟨none, (some 4), (.pure 4 .mv [(.const (.int .i64 1))])⟩]) .ret) (.seq (.ops [⟨none, (some 9), (.pure 9 .mv [(.tmp 1)])⟩, ⟨none, (some 10), (.call (some 10) 31 [(.tmp 9)])⟩, ⟨none, (some 11), (.pure 11 (.un .not) [(.tmp 10)])⟩, ⟨none, (some 8), (.pure 8 .mv [(.tmp 11)])⟩]) (.cond (.tmp 8) (.seq (.ops [⟨none, (some 4), (.pure 4 .mv [(.const (.int .i64 2))])⟩]) .ret) .skip))))) (.seq (.ops [⟨none, (some 12), (.pure 12 .mv [(.tmp 0)])⟩, ⟨none, (some 13), (.pure 13 .mv [(.tmp 1)])⟩, ⟨none, (some 14), (.pure 14 .nilck [(.tmp 12)])⟩, ⟨none, (some 15), (.pure 15 (.fptr 1) [(.tmp 14)])⟩, ⟨none, none, (.hstore 1 (.tmp 15) (.tmp 13))⟩]) (.seq (.ops [⟨none, (some 4), (.pure 4 .mv [(.const (.int .i64 0))])⟩]) .ret))))
theorem comp18 : Comp Try.prog 18 E18 2 [(.slot 4)] pc18 := ⟨_, _, Try.func18, rfl, by kernel_rfl, by decide, by kernel_rfl, by kernel_rfl, by kernel_rfl⟩
/-- (*chancery/disk.Disk).Used -/
def E19 : Env := ⟨[], 14⟩
def pc19 : PC := (.seq (.ops [⟨none, (some 2), (.pure 2 .mv [(.const (.int .i64 0))])⟩]) (.seq (.ops [⟨none, (some 3), (.halloc 3 3 #[(.int .i64 0)])⟩, ⟨none, none, (.hstore 1 (.tmp 3) (.const (.int .i64 0)))⟩]) (.seq (.seq (.ops [⟨none, (some 6), (.pure 6 .mv [(.tmp 0)])⟩, ⟨none, (some 7), (.call (some 7) 21 [(.tmp 6)])⟩]) (.block 0 (.range (.tmp 7) [8, 9] (.ops [⟨none, (some 5), (.pure 5 .mv [(.tmp 9)])⟩]) (.block 1 (.ops [⟨none, (some 10), (.hload 10 1 false (.tmp 3))⟩, ⟨none, (some 11), (.pure 11 .mv [(.tmp 5)])⟩, ⟨none, (some 12), (.pure 12 (.bin .add) [(.tmp 10), (.tmp 11)])⟩, ⟨none, none, (.hstore 1 (.tmp 3) (.tmp 12))⟩]))))) (.seq (.ops [⟨none, (some 13), (.hload 13 1 false (.tmp 3))⟩, ⟨none, (some 2), (.pure 2 .mv [(.tmp 13)])⟩]) .ret))))
theorem comp19 : Comp Try.prog 19 E19 1 [(.slot 2)] pc19 := ⟨_, _, Try.func19, rfl, by kernel_rfl, by decide, by kernel_rfl, by kernel_rfl, by kernel_rfl⟩
/-- (*chancery/disk.Disk).Names -/
def E21 : Env := ⟨[], 13⟩
def pc21 : PC := (.seq (.ops [⟨none, (some 2), (.pure 2 .mv [(.const .nilFunc)])⟩]) (.seq (.ops [⟨none, (some 3), (.halloc 3 61 #[(.map none)])⟩]) (.seq (.seq (.ops [⟨none, (some 4), (.pure 4 .mv [(.tmp 0)])⟩, ⟨none, (some 5), (.call (some 5) 35 [(.tmp 4)])⟩, ⟨none, (some 6), (.pure 6 (.un .not) [(.tmp 5)])⟩]) (.cond (.tmp 6) (.ops [⟨none, (some 7), (.pure 7 .mv [(.tmp 0)])⟩, ⟨none, (some 8), (.pure 8 .nilck [(.tmp 7)])⟩, ⟨none, (some 9), (.pure 9 (.fptr 2) [(.tmp 8)])⟩, ⟨none, (some 10), (.hload 10 1 false (.tmp 9))⟩, ⟨none, (some 11), (.call (some 11) 34 [(.tmp 10)])⟩, ⟨none, none, (.hstore 1 (.tmp 3) (.tmp 11))⟩]) .skip)) (.seq (.ops [⟨none, (some 12), (.pure 12 (.mkfn (.func 44) 0) [(.tmp 3)])⟩, ⟨none, (some 2), (.pure 2 .mv [(.tmp 12)])⟩]) .ret))))
theorem comp21 : Comp Try.prog 21 E21 1 [(.slot 2)] pc21 := ⟨_, _, Try.func21, rfl, by kernel_rfl, by decide, by kernel_rfl, by kernel_rfl, by kernel_rfl⟩
/-- (*chancery/disk.Disk).Read -/
def E23 : Env := ⟨[], 20⟩
def pc23 : PC := (.seq (.ops [⟨none, (some 4), (.pure 4 .mv [(.const (.slice none 0 0))])⟩, ⟨none, (some 5), (.pure 5 .mv [(.const (.int .i64 0))])⟩]) (.seq (.seq (.ops [⟨none, (some 7), (.pure 7 .mv [(.tmp 0)])⟩, ⟨none, (some 8), (.pure 8 .mv [(.tmp 1)])⟩, ⟨none, (some 9), (.call (some 9) 47 [(.tmp 7), (.tmp 8)])⟩, ⟨none, (some 6), (.pure 6 .mv [(.tmp 9)])⟩]) (.seq (.ops [⟨none, (some 10), (.pure 10 .mv [(.tmp 6)])⟩, ⟨none, (some 11), (.pure 11 (.bin .neq) [(.tmp 10), (.const (.int .i64 0))])⟩]) (.cond (.tmp 11) (.seq (.ops [⟨none, (some 12), (.pure 12 .mv [(.tmp 6)])⟩, ⟨none, (some 4), (.pure 4 .mv [(.const (.slice none 0 0))])⟩, ⟨none, (some 5), (.pure 5 .mv [(.tmp 12)])⟩]) .ret) .skip))) (.seq (.ops [⟨none, (some 13), (.pure 13 .mv [(.tmp 0)])⟩, ⟨none, (some 14), (.pure 14 .nilck [(.tmp 13)])⟩, ⟨none, (some 15), (.pure 15 (.fptr 2) [(.tmp 14)])⟩, ⟨none, (some 16), (.hload 16 1 false (.tmp 15))⟩, ⟨none, (some 17), (.pure 17 .mv [(.tmp 1)])⟩, ⟨none, (some 18), (.mlook 18 (.slice none 0 0) false (.tmp 16) (.tmp 17))⟩, ⟨none, (some 19), (.call (some 19) 48 [(.tmp 18)])⟩, ⟨none, (some 4), (.pure 4 .mv [(.tmp 19)])⟩, ⟨none, (some 5), (.pure 5 .mv [(.const (.int .i64 0))])⟩]) .ret)))
theorem comp23 : Comp Try.prog 23 E23 2 [(.slot 4), (.slot 5)] pc23 := ⟨_, _, Try.func23, rfl, by kernel_rfl, by decide, by kernel_rfl, by kernel_rfl, by kernel_rfl⟩
/-- (*chancery/disk.Disk).Append -/
def E24 : Env := ⟨[], 52⟩
def pc24 : PC := (.seq (.ops [⟨none, (some 4), (.hbox 4 9 (.tmp 1))⟩, ⟨none, (some 6), (.pure 6 .mv [(.const (.int .i64 0))])⟩]) (.seq (.seq (.ops [⟨none, (some 12), (.pure 12 .mv [(.tmp 0)])⟩, ⟨none, (some 13), (.call (some 13) 32 [(.tmp 12)])⟩, ⟨none, (some 7), (.pure 7 .mv [(.tmp 13)])⟩]) (.seq (.ops [⟨none, (some 14), (.pure 14 .mv [(.tmp 7)])⟩, ⟨none, (some 15), (.pure 15 (.bin .neq) [(.tmp 14), (.const (.int .i64 0))])⟩]) (.cond (.tmp 15) (.seq (.ops [⟨none, (some 16), (.pure 16 .mv [(.tmp 7)])⟩, ⟨none, (some 6), (.pure 6 .mv [(.tmp 16)])⟩]) .ret) .skip))) (.seq (.seq (.ops [⟨none, (some 17), (.hload 17 1 false (.tmp 4))⟩, ⟨none, (some 18), (.call (some 18) 49 [(.tmp 17)])⟩, ⟨none, (some 19), (.pure 19 (.un .not) [(.tmp 18)])⟩]) (.cond (.tmp 19) (.seq (.ops [⟨none, (some 6), (.pure 6 .mv [(.const (.int .i64 231))])⟩]) .ret) .skip)) (.seq (.draw [] (.take 0 ⟨none, (some 20), (.pure 20 .mv [(.tmp 0)])⟩ (.take 1 ⟨none, (some 21), (.pure 21 .nilck [(.tmp 20)])⟩ (.take 2 ⟨none, (some 22), (.pure 22 (.fptr 1) [(.tmp 21)])⟩ (.take 3 ⟨none, (some 23), (.hload 23 1 false (.tmp 22))⟩ (.take 4 ⟨none, (some 24), (.pure 24 .mv [(.tmp 0)])⟩ (.alt 5 ⟨none, (some 25), (.call (some 25) 19 [(.tmp 24)])⟩ (.take 6 ⟨none, (some 26), (.pure 26 (.bin .sub) [(.tmp 23), (.tmp 25)])⟩ (.take 7 ⟨none, (some 8), (.pure 8 .mv [(.tmp 26)])⟩ .done)) .no))))))) (.seq (.seq (.ops [⟨none, (some 27), (.pure 27 .mv [(.tmp 2)])⟩, ⟨none, (some 28), (.pure 28 .lenL [(.tmp 27)])⟩, ⟨none, (some 29), (.pure 29 .mv [(.const (.int .i64 0))])⟩]) (.block 0 (.loop (.seq (.ops [⟨none, (some 30), (.pure 30 (.bin .lss) [(.tmp 29), (.tmp 28)])⟩]) (.seq (.cond (.tmp 30) .skip (.exit 0)) (.seq (.block 1 (.seq (.ops [⟨none, (some 31), (.pure 31 (.iptrS 1) [(.tmp 27), (.tmp 29)])⟩, ⟨none, (some 32), (.hload 32 1 false (.tmp 31))⟩, ⟨none, (some 10), (.pure 10 .mv [(.tmp 32)])⟩]) (.seq (.seq (.ops [⟨none, (some 33), (.pure 33 .mv [(.tmp 10)])⟩, ⟨none, (some 34), (.pure 34 .lenL [(.tmp 33)])⟩, ⟨none, (some 35), (.pure 35 .mv [(.tmp 8)])⟩, ⟨none, (some 36), (.pure 36 (.bin .gtr) [(.tmp 34), (.tmp 35)])⟩]) (.cond (.tmp 36) (.seq (.ops [⟨none, (some 6), (.pure 6 .mv [(.const (.int .i64 230))])⟩]) .ret) .skip)) (.ops [⟨none, (some 37), (.pure 37 .mv [(.tmp 8)])⟩, ⟨none, (some 38), (.pure 38 .mv [(.tmp 10)])⟩, ⟨none, (some 39), (.pure 39 .lenL [(.tmp 38)])⟩, ⟨none, (some 40), (.pure 40 (.bin .sub) [(.tmp 37), (.tmp 39)])⟩, ⟨none, (some 8), (.pure 8 .mv [(.tmp 40)])⟩])))) (.ops [⟨none, (some 41), (.pure 41 (.bin .add) [(.tmp 29), (.const (.int .i64 1))])⟩, ⟨none, (some 29), (.pure 29 .mv [(.tmp 41)])⟩]))))))) (.seq (.seq (.ops [⟨none, (some 42), (.pure 42 .mv [(.tmp 8)])⟩, ⟨none, (some 43), (.pure 43 (.bin .lss) [(.tmp 42), (.const (.int .i64 0))])⟩]) (.cond (.tmp 43) (.seq (.ops [⟨none, (some 6), (.pure 6 .mv [(.const (.int .i64 230))])⟩]) .ret) .skip)) (.seq (.ops [⟨none, (some 44), (.pure 44 .mv [(.tmp 2)])⟩, ⟨none, (some 45), (.call (some 45) 50 [(.tmp 44)])⟩, ⟨none, (some 11), (.halloc 11 28 #[(.slice none 0 0)])⟩, ⟨none, none, (.hstore 1 (.tmp 11) (.tmp 45))⟩]) (.seq (.ops [⟨none, (some 46), (.pure 46 .mv [(.tmp 0)])⟩, ⟨none, (some 47), (.hload 47 1 false (.tmp 11))⟩, ⟨none, (some 48), (.pure 48 .lenL [(.tmp 47)])⟩, ⟨none, (some 49), (.pure 49 (.bin .add) [(.const (.int .i64 1)), (.tmp 48)])⟩, ⟨none, (some 50), (.pure 50 (.mkfn (.func 52) 0) [(.tmp 4), (.tmp 11)])⟩, ⟨none, (some 51), (.call (some 51) 51 [(.tmp 46), (.tmp 49), (.tmp 50)])⟩, ⟨none, (some 6), (.pure 6 .mv [(.tmp 51)])⟩]) .ret))))))))
theorem comp24 : Comp Try.prog 24 E24 3 [(.slot 6)] pc24 := ⟨_, _, Try.func24, rfl, by kernel_rfl, by decide, by kernel_rfl, by kernel_rfl, by kernel_rfl⟩
/-- (*chancery/disk.Disk).Replace -/
def E25 : Env := ⟨[], 27⟩
def pc25 : PC := (.seq (.ops [⟨none, (some 4), (.hbox 4 9 (.tmp 1))⟩, ⟨none, (some 5), (.hbox 5 9 (.tmp 2))⟩, ⟨none, (some 6), (.pure 6 .mv [(.const (.int .i64 0))])⟩]) (.seq (.ops [⟨none, (some 8), (.pure 8 .mv [(.tmp 0)])⟩, ⟨none, (some 9), (.hload 9 1 false (.tmp 4))⟩, ⟨none, (some 10), (.call (some 10) 47 [(.tmp 8), (.tmp 9)])⟩, ⟨none, (some 7), (.pure 7 .mv [(.tmp 10)])⟩]) (.seq (.seq (.ops [⟨none, (some 11), (.pure 11 .mv [(.tmp 7)])⟩, ⟨none, (some 12), (.pure 12 (.bin .eql) [(.tmp 11), (.const (.int .i64 70))])⟩, ⟨none, (some 13), (.pure 13 .mv [(.tmp 12)])⟩, ⟨(some (13, true)), (some 14), (.hload 14 1 false (.tmp 5))⟩, ⟨(some (13, true)), (some 15), (.call (some 15) 49 [(.tmp 14)])⟩, ⟨(some (13, true)), (some 16), (.pure 16 (.un .not) [(.tmp 15)])⟩, ⟨none, (some 17), (.pure 17 .pick [(.tmp 13), (.tmp 16), (.const (.bool false))])⟩]) (.cond (.tmp 17) (.ops [⟨none, (some 7), (.pure 7 .mv [(.const (.int .i64 231))])⟩]) .skip)) (.seq (.seq (.ops [⟨none, (some 18), (.pure 18 .mv [(.tmp 7)])⟩, ⟨none, (some 19), (.pure 19 (.bin .neq) [(.tmp 18), (.const (.int .i64 0))])⟩]) (.cond (.tmp 19) (.seq (.ops [⟨none, (some 20), (.pure 20 .mv [(.tmp 7)])⟩, ⟨none, (some 6), (.pure 6 .mv [(.tmp 20)])⟩]) .ret) .skip)) (.seq (.seq (.ops [⟨none, (some 21), (.hload 21 1 false (.tmp 5))⟩, ⟨none, (some 22), (.call (some 22) 49 [(.tmp 21)])⟩, ⟨none, (some 23), (.pure 23 (.un .not) [(.tmp 22)])⟩]) (.cond (.tmp 23) (.seq (.ops [⟨none, (some 6), (.pure 6 .mv [(.const (.int .i64 231))])⟩]) .ret) .skip)) (.seq (.ops [⟨none, (some 24), (.pure 24 .mv [(.tmp 0)])⟩, ⟨none, (some 25), (.pure 25 (.mkfn (.func 53) 0) [(.tmp 4), (.tmp 5)])⟩, ⟨none, (some 26), (.call (some 26) 51 [(.tmp 24), (.const (.int .i64 1)), (.tmp 25)])⟩, ⟨none, (some 6), (.pure 6 .mv [(.tmp 26)])⟩]) .ret))))))
theorem comp25 : Comp Try.prog 25 E25 3 [(.slot 6)] pc25 := ⟨_, _, Try.func25, rfl, by kernel_rfl, by decide, by kernel_rfl, by kernel_rfl, by kernel_rfl⟩
/-- (*chancery/disk.Disk).Remove -/
def E26 : Env := ⟨[], 15⟩
def pc26 : PC := (.seq (.ops [⟨none, (some 3), (.hbox 3 9 (.tmp 1))⟩, ⟨none, (some 4), (.pure 4 .mv [(.const (.int .i64 0))])⟩]) (.seq (.seq (.ops [⟨none, (some 6), (.pure 6 .mv [(.tmp 0)])⟩, ⟨none, (some 7), (.hload 7 1 false (.tmp 3))⟩, ⟨none, (some 8), (.call (some 8) 47 [(.tmp 6), (.tmp 7)])⟩, ⟨none, (some 5), (.pure 5 .mv [(.tmp 8)])⟩]) (.seq (.ops [⟨none, (some 9), (.pure 9 .mv [(.tmp 5)])⟩, ⟨none, (some 10), (.pure 10 (.bin .neq) [(.tmp 9), (.const (.int .i64 0))])⟩]) (.cond (.tmp 10) (.seq (.ops [⟨none, (some 11), (.pure 11 .mv [(.tmp 5)])⟩, ⟨none, (some 4), (.pure 4 .mv [(.tmp 11)])⟩]) .ret) .skip))) (.seq (.ops [⟨none, (some 12), (.pure 12 .mv [(.tmp 0)])⟩, ⟨none, (some 13), (.pure 13 (.mkfn (.func 54) 0) [(.tmp 3)])⟩, ⟨none, (some 14), (.call (some 14) 51 [(.tmp 12), (.const (.int .i64 1)), (.tmp 13)])⟩, ⟨none, (some 4), (.pure 4 .mv [(.tmp 14)])⟩]) .ret)))
theorem comp26 : Comp Try.prog 26 E26 2 [(.slot 4)] pc26 := ⟨_, _, Try.func26, rfl, by kernel_rfl, by decide, by kernel_rfl, by kernel_rfl, by kernel_rfl⟩
/-- (*chancery/disk.Disk).Cut -/
def E27 : Env := ⟨[], 30⟩
def pc27 : PC := (.seq (.ops [⟨none, (some 4), (.hbox 4 9 (.tmp 1))⟩, ⟨none, (some 5), (.hbox 5 3 (.tmp 2))⟩, ⟨none, (some 6), (.pure 6 .mv [(.const (.int .i64 0))])⟩]) (.seq (.seq (.ops [⟨none, (some 8), (.pure 8 .mv [(.tmp 0)])⟩, ⟨none, (some 9), (.hload 9 1 false (.tmp 4))⟩, ⟨none, (some 10), (.call (some 10) 47 [(.tmp 8), (.tmp 9)])⟩, ⟨none, (some 7), (.pure 7 .mv [(.tmp 10)])⟩]) (.seq (.ops [⟨none, (some 11), (.pure 11 .mv [(.tmp 7)])⟩, ⟨none, (some 12), (.pure 12 (.bin .neq) [(.tmp 11), (.const (.int .i64 0))])⟩]) (.cond (.tmp 12) (.seq (.ops [⟨none, (some 13), (.pure 13 .mv [(.tmp 7)])⟩, ⟨none, (some 6), (.pure 6 .mv [(.tmp 13)])⟩]) .ret) .skip))) (.seq (.seq (.draw [] (.take 0 ⟨none, (some 14), (.hload 14 1 false (.tmp 5))⟩ (.take 1 ⟨none, (some 15), (.pure 15 (.bin .lss) [(.tmp 14), (.const (.int .i64 0))])⟩ (.take 2 ⟨none, (some 16), (.pure 16 .mv [(.tmp 15)])⟩ (.take 3 ⟨(some (16, false)), (some 17), (.hload 17 1 false (.tmp 5))⟩ (.take 4 ⟨(some (16, false)), (some 18), (.pure 18 .mv [(.tmp 0)])⟩ (.take 5 ⟨(some (16, false)), (some 19), (.pure 19 .nilck [(.tmp 18)])⟩ (.take 6 ⟨(some (16, false)), (some 20), (.pure 20 (.fptr 2) [(.tmp 19)])⟩ (.take 7 ⟨(some (16, false)), (some 21), (.hload 21 1 false (.tmp 20))⟩ (.take 8 ⟨(some (16, false)), (some 22), (.hload 22 1 false (.tmp 4))⟩ (.alt 9 ⟨(some (16, false)), (some 23), (.mlook 23 (.slice none 0 0) false (.tmp 21) (.tmp 22))⟩ (.take 10 ⟨(some (16, false)), (some 24), (.pure 24 .lenL [(.tmp 23)])⟩ (.take 11 ⟨(some (16, false)), (some 25), (.pure 25 (.bin .gtr) [(.tmp 17), (.tmp 24)])⟩ (.take 12 ⟨none, (some 26), (.pure 26 .pick [(.tmp 16), (.const (.bool true)), (.tmp 25)])⟩ .done))) .no))))))))))) (.cond (.tmp 26) (.seq (.ops [⟨none, (some 6), (.pure 6 .mv [(.const (.int .i64 2))])⟩]) .ret) .skip)) (.seq (.ops [⟨none, (some 27), (.pure 27 .mv [(.tmp 0)])⟩, ⟨none, (some 28), (.pure 28 (.mkfn (.func 55) 0) [(.tmp 4), (.tmp 5)])⟩, ⟨none, (some 29), (.call (some 29) 51 [(.tmp 27), (.const (.int .i64 1)), (.tmp 28)])⟩, ⟨none, (some 6), (.pure 6 .mv [(.tmp 29)])⟩]) .ret))))
theorem comp27 : Comp Try.prog 27 E27 3 [(.slot 6)] pc27 := ⟨_, _, Try.func27, rfl, by kernel_rfl, by decide, by kernel_rfl, by kernel_rfl, by kernel_rfl⟩
/-- chancery/disk.fits -/
def E31 : Env := ⟨[], 9⟩
def pc31 : PC := (.seq (.ops [⟨none, (some 2), (.pure 2 .mv [(.const (.bool false))])⟩]) (.seq (.ops [⟨none, (some 3), (.pure 3 .mv [(.tmp 0)])⟩, ⟨none, (some 4), (.pure 4 (.bin .geq) [(.tmp 3), (.const (.int .i64 0))])⟩, ⟨none, (some 5), (.pure 5 .mv [(.tmp 4)])⟩, ⟨(some (5, true)), (some 6), (.pure 6 .mv [(.tmp 0)])⟩, ⟨(some (5, true)), (some 7), (.pure 7 (.bin .leq) [(.tmp 6), (.const (.int .i64 1048576))])⟩, ⟨none, (some 8), (.pure 8 .pick [(.tmp 5), (.tmp 7), (.const (.bool false))])⟩, ⟨none, (some 2), (.pure 2 .mv [(.tmp 8)])⟩]) .ret))
theorem comp31 : Comp Try.prog 31 E31 1 [(.slot 2)] pc31 := ⟨_, _, Try.func31, rfl, by kernel_rfl, by decide, by kernel_rfl, by kernel_rfl, by kernel_rfl⟩
/-- (*chancery/disk.Disk).power -/
def E32 : Env := ⟨[], 11⟩
def pc32 : PC := (.seq (.ops [⟨none, (some 2), (.pure 2 .mv [(.const (.int .i64 0))])⟩]) (.seq (.block 0 (.seq (.ops [⟨none, (some 4), (.pure 4 .mv [(.tmp 0)])⟩, ⟨none, (some 5), (.call (some 5) 35 [(.tmp 4)])⟩, ⟨none, (some 3), (.pure 3 .mv [(.tmp 5)])⟩]) (.cond (.tmp 3) (.seq (.ops [⟨none, (some 2), (.pure 2 .mv [(.const (.int .i64 1))])⟩]) .ret) (.seq (.ops [⟨none, (some 7), (.pure 7 .mv [(.tmp 0)])⟩, ⟨none, (some 8), (.pure 8 .nilck [(.tmp 7)])⟩, ⟨none, (some 9), (.pure 9 (.fptr 6) [(.tmp 8)])⟩, ⟨none, (some 10), (.hload 10 1 false (.tmp 9))⟩, ⟨none, (some 6), (.pure 6 .mv [(.tmp 10)])⟩]) (.cond (.tmp 6) (.seq (.ops [⟨none, (some 2), (.pure 2 .mv [(.const (.int .i64 232))])⟩]) .ret) .skip))))) (.seq (.ops [⟨none, (some 2), (.pure 2 .mv [(.const (.int .i64 0))])⟩]) .ret)))
theorem comp32 : Comp Try.prog 32 E32 1 [(.slot 2)] pc32 := ⟨_, _, Try.func32, rfl, by kernel_rfl, by decide, by kernel_rfl, by kernel_rfl, by kernel_rfl⟩
/-- (*chancery/disk.Disk).burn -/
def E33 : Env := ⟨[], 33⟩
def pc33 : PC := (.seq (.ops [⟨none, (some 4), (.pure 4 .mv [(.const (.int .i64 0))])⟩]) (.seq (.seq (.ops [⟨none, (some 6), (.pure 6 .mv [(.tmp 0)])⟩, ⟨none, (some 7), (.pure 7 .nilck [(.tmp 6)])⟩, ⟨none, (some 8), (.pure 8 (.fptr 5) [(.tmp 7)])⟩, ⟨none, (some 9), (.hload 9 1 false (.tmp 8))⟩, ⟨none, (some 10), (.pure 10 (.bin .lss) [(.tmp 9), (.const (.int .i64 0))])⟩]) (.cond (.tmp 10) (.seq (.ops [⟨none, (some 11), (.pure 11 .mv [(.tmp 1)])⟩, ⟨none, (some 4), (.pure 4 .mv [(.tmp 11)])⟩]) .ret) .skip)) (.seq (.ops [⟨none, (some 12), (.pure 12 .mv [(.tmp 1)])⟩, ⟨none, (some 13), (.pure 13 .mv [(.tmp 0)])⟩, ⟨none, (some 14), (.pure 14 .nilck [(.tmp 13)])⟩, ⟨none, (some 15), (.pure 15 (.fptr 5) [(.tmp 14)])⟩, ⟨none, (some 16), (.hload 16 1 false (.tmp 15))⟩, ⟨none, (some 17), (.pure 17 .minI [(.tmp 12), (.tmp 16)])⟩, ⟨none, (some 5), (.pure 5 .mv [(.tmp 17)])⟩]) (.seq (.ops [⟨none, (some 18), (.pure 18 .mv [(.tmp 0)])⟩, ⟨none, (some 19), (.pure 19 .nilck [(.tmp 18)])⟩, ⟨none, (some 20), (.pure 20 (.fptr 5) [(.tmp 19)])⟩, ⟨none, (some 21), (.hload 21 1 false (.tmp 20))⟩, ⟨none, (some 22), (.pure 22 .mv [(.tmp 5)])⟩, ⟨none, (some 23), (.pure 23 (.bin .sub) [(.tmp 21), (.tmp 22)])⟩, ⟨none, (some 24), (.pure 24 .nilck [(.tmp 18)])⟩, ⟨none, (some 25), (.pure 25 (.fptr 5) [(.tmp 24)])⟩, ⟨none, none, (.hstore 1 (.tmp 25) (.tmp 23))⟩]) (.seq (.ops [⟨none, (some 26), (.pure 26 .mv [(.tmp 0)])⟩, ⟨none, (some 27), (.pure 27 .mv [(.tmp 5)])⟩, ⟨none, (some 28), (.pure 28 .mv [(.tmp 1)])⟩, ⟨none, (some 29), (.pure 29 (.bin .lss) [(.tmp 27), (.tmp 28)])⟩, ⟨none, (some 30), (.pure 30 .nilck [(.tmp 26)])⟩, ⟨none, (some 31), (.pure 31 (.fptr 6) [(.tmp 30)])⟩, ⟨none, none, (.hstore 1 (.tmp 31) (.tmp 29))⟩]) (.seq (.ops [⟨none, (some 32), (.pure 32 .mv [(.tmp 5)])⟩, ⟨none, (some 4), (.pure 4 .mv [(.tmp 32)])⟩]) .ret))))))
theorem comp33 : Comp Try.prog 33 E33 2 [(.slot 4)] pc33 := ⟨_, _, Try.func33, rfl, by kernel_rfl, by decide, by kernel_rfl, by kernel_rfl, by kernel_rfl⟩
/-- (*chancery/disk.Disk).none -/
def E35 : Env := ⟨[], 12⟩
def pc35 : PC := (.seq (.ops [⟨none, (some 2), (.pure 2 .mv [(.const (.bool false))])⟩]) (.seq (.ops [⟨none, (some 3), (.pure 3 .mv [(.tmp 0)])⟩, ⟨none, (some 4), (.pure 4 (.nilP false) [(.tmp 3), (.const (.pointer none))])⟩, ⟨none, (some 5), (.pure 5 .mv [(.tmp 4)])⟩, ⟨(some (5, false)), (some 6), (.pure 6 .mv [(.tmp 0)])⟩, ⟨(some (5, false)), (some 7), (.pure 7 .nilck [(.tmp 6)])⟩, ⟨(some (5, false)), (some 8), (.pure 8 (.fptr 0) [(.tmp 7)])⟩, ⟨(some (5, false)), (some 9), (.hload 9 1 false (.tmp 8))⟩, ⟨(some (5, false)), (some 10), (.pure 10 (.un .not) [(.tmp 9)])⟩, ⟨none, (some 11), (.pure 11 .pick [(.tmp 5), (.const (.bool true)), (.tmp 10)])⟩, ⟨none, (some 2), (.pure 2 .mv [(.tmp 11)])⟩]) .ret))
theorem comp35 : Comp Try.prog 35 E35 1 [(.slot 2)] pc35 := ⟨_, _, Try.func35, rfl, by kernel_rfl, by decide, by kernel_rfl, by kernel_rfl, by kernel_rfl⟩
/-- slices.Clone[[]chancery/disk.unit,chancery/disk.unit] -/
def E36 : Env := ⟨[], 8⟩
def pc36 : PC := (.seq (.ops [⟨none, (some 2), (.pure 2 .mv [(.const (.slice none 0 0))])⟩]) (.seq (.seq (.ops [⟨none, (some 3), (.pure 3 .mv [(.tmp 0)])⟩, ⟨none, (some 4), (.pure 4 (.nilS false) [(.tmp 3), (.const (.slice none 0 0))])⟩]) (.cond (.tmp 4) (.seq (.ops [⟨none, (some 2), (.pure 2 .mv [(.const (.slice none 0 0))])⟩]) .ret) .skip)) (.seq (.ops [⟨none, (some 5), (.bslice 5 74 0 #[] [] [])⟩, ⟨none, (some 6), (.pure 6 .mv [(.tmp 0)])⟩, ⟨none, (some 7), (.append 7 74 2 16 #[(.int .i64 0), .nilFunc] (.tmp 5) (.tmp 6))⟩, ⟨none, (some 2), (.pure 2 .mv [(.tmp 7)])⟩]) .ret)))
theorem comp36 : Comp Try.prog 36 E36 1 [(.slot 2)] pc36 := ⟨_, _, Try.func36, rfl, by kernel_rfl, by decide, by kernel_rfl, by kernel_rfl, by kernel_rfl⟩
/-- (*chancery/disk.Disk).Names$1 -/
def E44 : Env := ⟨[(3000019, 999)], 22⟩
def pc44 : PC := (.seq (.ops [⟨none, (some 5), (.hload 5 1 false (.tmp 1))⟩, ⟨none, (some 6), (.call (some 6) 46 [(.tmp 5)])⟩, ⟨none, (some 7), (.call (some 7) 45 [(.tmp 6)])⟩, ⟨none, (some 8), (.pure 8 .lenL [(.tmp 7)])⟩, ⟨none, (some 9), (.pure 9 .mv [(.const (.int .i64 0))])⟩]) (.block 0 (.loop (.seq (.ops [⟨none, (some 10), (.pure 10 (.bin .lss) [(.tmp 9), (.tmp 8)])⟩]) (.seq (.cond (.tmp 10) .skip (.exit 0)) (.seq (.block 1 (.seq (.ops [⟨none, (some 11), (.pure 11 (.iptrS 1) [(.tmp 7), (.tmp 9)])⟩, ⟨none, (some 12), (.hload 12 1 false (.tmp 11))⟩, ⟨none, (some 4), (.pure 4 .mv [(.tmp 12)])⟩]) (.seq (.ops [⟨none, (some 13), (.pure 13 .mv [(.tmp 0)])⟩, ⟨none, (some 14), (.pure 14 .mv [(.tmp 4)])⟩, ⟨none, (some 15), (.hload 15 1 false (.tmp 1))⟩, ⟨none, (some 16), (.pure 16 .mv [(.tmp 4)])⟩, ⟨none, (some 17), (.mlook 17 (.slice none 0 0) false (.tmp 15) (.tmp 16))⟩, ⟨none, (some 18), (.pure 18 .lenL [(.tmp 17)])⟩, ⟨none, (some 19), (.yieldc 19 (.tmp 13) [(.tmp 14), (.tmp 18)])⟩, ⟨none, (some 20), (.pure 20 (.un .not) [(.tmp 19)])⟩]) (.cond (.tmp 20) .ret .skip)))) (.ops [⟨none, (some 21), (.pure 21 (.bin .add) [(.tmp 9), (.const (.int .i64 1))])⟩, ⟨none, (some 9), (.pure 9 .mv [(.tmp 21)])⟩])))))))
theorem comp44 : Comp Try.prog 44 E44 2 [] pc44 := ⟨_, _, Try.func44, rfl, by kernel_rfl, by decide, by kernel_rfl, by kernel_rfl, by kernel_rfl⟩
/-- (*chancery/disk.Disk).there -/
def E47 : Env := ⟨[], 27⟩
def pc47 : PC := (.seq (.ops [⟨none, (some 4), (.pure 4 .mv [(.const (.int .i64 0))])⟩]) (.seq (.seq (.ops [⟨none, (some 8), (.pure 8 .mv [(.tmp 0)])⟩, ⟨none, (some 9), (.call (some 9) 32 [(.tmp 8)])⟩, ⟨none, (some 5), (.pure 5 .mv [(.tmp 9)])⟩]) (.seq (.ops [⟨none, (some 10), (.pure 10 .mv [(.tmp 5)])⟩, ⟨none, (some 11), (.pure 11 (.bin .neq) [(.tmp 10), (.const (.int .i64 0))])⟩]) (.cond (.tmp 11) (.seq (.ops [⟨none, (some 12), (.pure 12 .mv [(.tmp 5)])⟩, ⟨none, (some 4), (.pure 4 .mv [(.tmp 12)])⟩]) .ret) .skip))) (.seq (.seq (.ops [⟨none, (some 13), (.pure 13 .mv [(.tmp 1)])⟩, ⟨none, (some 14), (.call (some 14) 49 [(.tmp 13)])⟩, ⟨none, (some 15), (.pure 15 (.un .not) [(.tmp 14)])⟩]) (.cond (.tmp 15) (.seq (.ops [⟨none, (some 4), (.pure 4 .mv [(.const (.int .i64 231))])⟩]) .ret) .skip)) (.seq (.seq (.ops [⟨none, (some 17), (.pure 17 .mv [(.tmp 0)])⟩, ⟨none, (some 18), (.pure 18 .nilck [(.tmp 17)])⟩, ⟨none, (some 19), (.pure 19 (.fptr 2) [(.tmp 18)])⟩, ⟨none, (some 20), (.hload 20 1 false (.tmp 19))⟩, ⟨none, (some 21), (.pure 21 .mv [(.tmp 1)])⟩, ⟨none, (some 22), (.mlook 22 (.slice none 0 0) true (.tmp 20) (.tmp 21))⟩, ⟨none, (some 16), (.pure 16 .mv [(.tmp 22)])⟩, ⟨none, (some 23), (.pure 23 (.ext 0) [(.tmp 16)])⟩, ⟨none, (some 24), (.pure 24 (.ext 1) [(.tmp 16)])⟩, ⟨none, (some 6), (.pure 6 .mv [(.tmp 23)])⟩, ⟨none, (some 7), (.pure 7 .mv [(.tmp 24)])⟩]) (.seq (.ops [⟨none, (some 25), (.pure 25 .mv [(.tmp 7)])⟩, ⟨none, (some 26), (.pure 26 (.un .not) [(.tmp 25)])⟩]) (.cond (.tmp 26) (.seq (.ops [⟨none, (some 4), (.pure 4 .mv [(.const (.int .i64 70))])⟩]) .ret) .skip))) (.seq (.ops [⟨none, (some 4), (.pure 4 .mv [(.const (.int .i64 0))])⟩]) .ret)))))
theorem comp47 : Comp Try.prog 47 E47 2 [(.slot 4)] pc47 := ⟨_, _, Try.func47, rfl, by kernel_rfl, by decide, by kernel_rfl, by kernel_rfl, by kernel_rfl⟩
/-- slices.Clone[[]byte,byte] -/
def E48 : Env := ⟨[], 8⟩
def pc48 : PC := (.seq (.ops [⟨none, (some 2), (.pure 2 .mv [(.const (.slice none 0 0))])⟩]) (.seq (.seq (.ops [⟨none, (some 3), (.pure 3 .mv [(.tmp 0)])⟩, ⟨none, (some 4), (.pure 4 (.nilS false) [(.tmp 3), (.const (.slice none 0 0))])⟩]) (.cond (.tmp 4) (.seq (.ops [⟨none, (some 2), (.pure 2 .mv [(.const (.slice none 0 0))])⟩]) .ret) .skip)) (.seq (.ops [⟨none, (some 5), (.bslice 5 5 0 #[] [] [])⟩, ⟨none, (some 6), (.pure 6 .mv [(.tmp 0)])⟩, ⟨none, (some 7), (.append 7 5 1 1 #[(.int .u8 0)] (.tmp 5) (.tmp 6))⟩, ⟨none, (some 2), (.pure 2 .mv [(.tmp 7)])⟩]) .ret)))
theorem comp48 : Comp Try.prog 48 E48 1 [(.slot 2)] pc48 := ⟨_, _, Try.func48, rfl, by kernel_rfl, by decide, by kernel_rfl, by kernel_rfl, by kernel_rfl⟩
/-- chancery/disk.named -/
def E49 : Env := ⟨[], 14⟩
def pc49 : PC := (.seq (.ops [⟨none, (some 2), (.pure 2 .mv [(.const (.bool false))])⟩]) (.seq (.seq (.ops [⟨none, (some 3), (.pure 3 .mv [(.tmp 0)])⟩, ⟨none, (some 4), (.pure 4 (.bin .eql) [(.tmp 3), (.const (.string ⟨#[]⟩))])⟩, ⟨none, (some 5), (.pure 5 .mv [(.tmp 4)])⟩, ⟨(some (5, false)), (some 6), (.pure 6 .mv [(.tmp 0)])⟩, ⟨(some (5, false)), (some 7), (.pure 7 .lenS [(.tmp 6)])⟩, ⟨(some (5, false)), (some 8), (.pure 8 (.bin .gtr) [(.tmp 7), (.const (.int .i64 16))])⟩, ⟨none, (some 9), (.pure 9 .pick [(.tmp 5), (.const (.bool true)), (.tmp 8)])⟩]) (.cond (.tmp 9) (.seq (.ops [⟨none, (some 2), (.pure 2 .mv [(.const (.bool false))])⟩]) .ret) .skip)) (.seq (.ops [⟨none, (some 10), (.pure 10 .mv [(.tmp 0)])⟩, ⟨none, (some 11), (.s2b 11 5 (.tmp 10))⟩, ⟨none, (some 12), (.call (some 12) 68 [(.tmp 11), (.func 69)])⟩, ⟨none, (some 13), (.pure 13 (.un .not) [(.tmp 12)])⟩, ⟨none, (some 2), (.pure 2 .mv [(.tmp 13)])⟩]) .ret)))
theorem comp49 : Comp Try.prog 49 E49 1 [(.slot 2)] pc49 := ⟨_, _, Try.func49, rfl, by kernel_rfl, by decide, by kernel_rfl, by kernel_rfl, by kernel_rfl⟩
/-- slices.Concat[[]byte,byte] -/
def E50 : Env := ⟨[], 36⟩
def pc50 : PC := (.seq (.ops [⟨none, (some 2), (.pure 2 .mv [(.const (.slice none 0 0))])⟩]) (.seq (.ops [⟨none, (some 3), (.pure 3 .mv [(.const (.int .i64 0))])⟩]) (.seq (.seq (.ops [⟨none, (some 9), (.pure 9 .mv [(.tmp 0)])⟩, ⟨none, (some 10), (.pure 10 .lenL [(.tmp 9)])⟩, ⟨none, (some 11), (.pure 11 .mv [(.const (.int .i64 0))])⟩]) (.block 0 (.loop (.seq (.ops [⟨none, (some 12), (.pure 12 (.bin .lss) [(.tmp 11), (.tmp 10)])⟩]) (.seq (.cond (.tmp 12) .skip (.exit 0)) (.seq (.block 1 (.seq (.ops [⟨none, (some 13), (.pure 13 (.iptrS 1) [(.tmp 9), (.tmp 11)])⟩, ⟨none, (some 14), (.hload 14 1 false (.tmp 13))⟩, ⟨none, (some 5), (.pure 5 .mv [(.tmp 14)])⟩]) (.seq (.ops [⟨none, (some 15), (.pure 15 .mv [(.tmp 3)])⟩, ⟨none, (some 16), (.pure 16 .mv [(.tmp 5)])⟩, ⟨none, (some 17), (.pure 17 .lenL [(.tmp 16)])⟩, ⟨none, (some 18), (.pure 18 (.bin .add) [(.tmp 15), (.tmp 17)])⟩, ⟨none, (some 3), (.pure 3 .mv [(.tmp 18)])⟩]) (.seq (.ops [⟨none, (some 19), (.pure 19 .mv [(.tmp 3)])⟩, ⟨none, (some 20), (.pure 20 (.bin .lss) [(.tmp 19), (.const (.int .i64 0))])⟩]) (.cond (.tmp 20) (.ops [⟨none, (some 21), .stuck⟩, ⟨none, none, .stuck⟩]) .skip))))) (.ops [⟨none, (some 22), (.pure 22 (.bin .add) [(.tmp 11), (.const (.int .i64 1))])⟩, ⟨none, (some 11), (.pure 11 .mv [(.tmp 22)])⟩]))))))) (.seq (.ops [⟨none, (some 23), (.pure 23 .mv [(.tmp 3)])⟩, ⟨none, (some 24), (.call (some 24) 70 [(.const (.slice none 0 0)), (.tmp 23)])⟩, ⟨none, (some 6), (.pure 6 .mv [(.tmp 24)])⟩]) (.seq (.seq (.ops [⟨none, (some 25), (.pure 25 .mv [(.tmp 0)])⟩, ⟨none, (some 26), (.pure 26 .lenL [(.tmp 25)])⟩, ⟨none, (some 27), (.pure 27 .mv [(.const (.int .i64 0))])⟩]) (.block 2 (.loop (.seq (.ops [⟨none, (some 28), (.pure 28 (.bin .lss) [(.tmp 27), (.tmp 26)])⟩]) (.seq (.cond (.tmp 28) .skip (.exit 2)) (.seq (.block 3 (.seq (.ops [⟨none, (some 29), (.pure 29 (.iptrS 1) [(.tmp 25), (.tmp 27)])⟩, ⟨none, (some 30), (.hload 30 1 false (.tmp 29))⟩, ⟨none, (some 8), (.pure 8 .mv [(.tmp 30)])⟩]) (.ops [⟨none, (some 31), (.pure 31 .mv [(.tmp 6)])⟩, ⟨none, (some 32), (.pure 32 .mv [(.tmp 8)])⟩, ⟨none, (some 33), (.append 33 5 1 1 #[(.int .u8 0)] (.tmp 31) (.tmp 32))⟩, ⟨none, (some 6), (.pure 6 .mv [(.tmp 33)])⟩]))) (.ops [⟨none, (some 34), (.pure 34 (.bin .add) [(.tmp 27), (.const (.int .i64 1))])⟩, ⟨none, (some 27), (.pure 27 .mv [(.tmp 34)])⟩]))))))) (.seq (.ops [⟨none, (some 35), (.pure 35 .mv [(.tmp 6)])⟩, ⟨none, (some 2), (.pure 2 .mv [(.tmp 35)])⟩]) .ret))))))
theorem comp50 : Comp Try.prog 50 E50 1 [(.slot 2)] pc50 := ⟨_, _, Try.func50, rfl, by kernel_rfl, by decide, by kernel_rfl, by kernel_rfl, by kernel_rfl⟩
/-- (*chancery/disk.Disk).does -/
def E51 : Env := ⟨[], 33⟩
def pc51 : PC := (.seq (.ops [⟨none, (some 6), (.pure 6 .mv [(.const (.int .i64 0))])⟩]) (.seq (.seq (.ops [⟨none, (some 7), (.pure 7 .mv [(.tmp 0)])⟩, ⟨none, (some 8), (.pure 8 .mv [(.tmp 1)])⟩, ⟨none, (some 9), (.call (some 9) 33 [(.tmp 7), (.tmp 8)])⟩, ⟨none, (some 1), (.pure 1 .mv [(.tmp 9)])⟩]) (.seq (.ops [⟨none, (some 10), (.pure 10 .mv [(.tmp 1)])⟩, ⟨none, (some 11), (.pure 11 (.bin .gtr) [(.tmp 10), (.const (.int .i64 0))])⟩]) (.cond (.tmp 11) (.seq (.ops [⟨none, (some 12), (.pure 12 .mv [(.tmp 2)])⟩, ⟨none, (some 13), (.pure 13 .mv [(.tmp 0)])⟩, ⟨none, (some 14), (.pure 14 .nilck [(.tmp 13)])⟩, ⟨none, (some 15), (.pure 15 (.fptr 2) [(.tmp 14)])⟩, ⟨none, (some 16), (.hload 16 1 false (.tmp 15))⟩, ⟨none, (some 17), (.pure 17 .mv [(.tmp 1)])⟩, ⟨none, (some 18), (.callv (some 18) (.tmp 12) [(.tmp 16), (.tmp 17)])⟩]) (.ops [⟨none, (some 19), (.pure 19 .mv [(.tmp 0)])⟩, ⟨none, (some 20), (.pure 20 .mv [(.tmp 0)])⟩, ⟨none, (some 21), (.pure 21 .nilck [(.tmp 20)])⟩, ⟨none, (some 22), (.pure 22 (.fptr 4) [(.tmp 21)])⟩, ⟨none, (some 23), (.hload 23 1 false (.tmp 22))⟩, ⟨none, (some 24), (.pure 24 .mv [(.tmp 1)])⟩, ⟨none, (some 25), (.pure 25 .mv [(.tmp 2)])⟩, ⟨none, (some 26), (.pure 26 (.build #[(.int .i64 0), .nilFunc] [(0, 1), (1, 1)]) [(.tmp 24), (.tmp 25)])⟩, ⟨none, (some 27), (.bslice 27 74 1 #[(.int .i64 0), .nilFunc] [(0, 2)] [(.tmp 26)])⟩, ⟨none, (some 28), (.append 28 74 2 16 #[(.int .i64 0), .nilFunc] (.tmp 23) (.tmp 27))⟩, ⟨none, (some 29), (.pure 29 .nilck [(.tmp 19)])⟩, ⟨none, (some 30), (.pure 30 (.fptr 4) [(.tmp 29)])⟩, ⟨none, none, (.hstore 1 (.tmp 30) (.tmp 28))⟩])) .skip))) (.seq (.ops [⟨none, (some 31), (.pure 31 .mv [(.tmp 0)])⟩, ⟨none, (some 32), (.call (some 32) 32 [(.tmp 31)])⟩, ⟨none, (some 6), (.pure 6 .mv [(.tmp 32)])⟩]) .ret)))
theorem comp51 : Comp Try.prog 51 E51 3 [(.slot 6)] pc51 := ⟨_, _, Try.func51, rfl, by kernel_rfl, by decide, by kernel_rfl, by kernel_rfl, by kernel_rfl⟩
/-- (*chancery/disk.Disk).Append$1 -/
def E52 : Env := ⟨[], 17⟩
def pc52 : PC := (.draw [] (.take 0 ⟨none, (some 6), (.pure 6 .mv [(.tmp 0)])⟩ (.take 1 ⟨none, (some 7), (.hload 7 1 false (.tmp 2))⟩ (.take 2 ⟨none, (some 8), (.pure 8 .mv [(.tmp 0)])⟩ (.take 3 ⟨none, (some 9), (.hload 9 1 false (.tmp 2))⟩ (.take 5 ⟨none, (some 11), (.hload 11 1 false (.tmp 3))⟩ (.take 6 ⟨none, (some 12), (.pure 12 .mv [(.tmp 1)])⟩ (.take 7 ⟨none, (some 13), (.pure 13 (.bin .sub) [(.tmp 12), (.const (.int .i64 1))])⟩ (.take 8 ⟨none, (some 14), (.pure 14 (.slc 1 false true false) [(.tmp 11), (.tmp 13)])⟩ (.alt 4 ⟨none, (some 10), (.mlook 10 (.slice none 0 0) false (.tmp 8) (.tmp 9))⟩ (.alt 9 ⟨none, (some 15), (.bslice 15 28 2 #[(.slice none 0 0), (.slice none 0 0)] [(0, 1), (1, 1)] [(.tmp 10), (.tmp 14)])⟩ (.alt 10 ⟨none, (some 16), (.call (some 16) 50 [(.tmp 15)])⟩ (.alt 11 ⟨none, none, (.mput (.tmp 6) (.tmp 7) (.tmp 16))⟩ .done .no) .no) .no) .no))))))))))
theorem comp52 : Comp Try.prog 52 E52 4 [] pc52 := ⟨_, _, Try.func52, rfl, by kernel_rfl, by decide, by kernel_rfl, by kernel_rfl, by kernel_rfl⟩
/-- (*chancery/disk.Disk).Replace$1 -/
def E53 : Env := ⟨[], 15⟩
def pc53 : PC := (.seq (.ops [⟨none, (some 7), (.pure 7 .mv [(.tmp 0)])⟩, ⟨none, (some 8), (.hload 8 1 false (.tmp 2))⟩, ⟨none, (some 9), (.mlook 9 (.slice none 0 0) false (.tmp 7) (.tmp 8))⟩, ⟨none, (some 6), (.pure 6 .mv [(.tmp 9)])⟩]) (.seq (.ops [⟨none, (some 10), (.pure 10 .mv [(.tmp 0)])⟩, ⟨none, (some 11), (.hload 11 1 false (.tmp 2))⟩, ⟨none, none, (.mdel (.tmp 10) (.tmp 11))⟩]) (.ops [⟨none, (some 12), (.pure 12 .mv [(.tmp 0)])⟩, ⟨none, (some 13), (.hload 13 1 false (.tmp 3))⟩, ⟨none, (some 14), (.pure 14 .mv [(.tmp 6)])⟩, ⟨none, none, (.mput (.tmp 12) (.tmp 13) (.tmp 14))⟩])))
theorem comp53 : Comp Try.prog 53 E53 4 [] pc53 := ⟨_, _, Try.func53, rfl, by kernel_rfl, by decide, by kernel_rfl, by kernel_rfl, by kernel_rfl⟩
/-- (*chancery/disk.Disk).Remove$1 -/
def E54 : Env := ⟨[], 7⟩
def pc54 : PC := (.ops [⟨none, (some 5), (.pure 5 .mv [(.tmp 0)])⟩, ⟨none, (some 6), (.hload 6 1 false (.tmp 2))⟩, ⟨none, none, (.mdel (.tmp 5) (.tmp 6))⟩])
theorem comp54 : Comp Try.prog 54 E54 3 [] pc54 := ⟨_, _, Try.func54, rfl, by kernel_rfl, by decide, by kernel_rfl, by kernel_rfl, by kernel_rfl⟩
/-- (*chancery/disk.Disk).Cut$1 -/
def E55 : Env := ⟨[], 14⟩
def pc55 : PC := (.draw [] (.take 0 ⟨none, (some 6), (.pure 6 .mv [(.tmp 0)])⟩ (.take 1 ⟨none, (some 7), (.hload 7 1 false (.tmp 2))⟩ (.take 2 ⟨none, (some 8), (.pure 8 .mv [(.tmp 0)])⟩ (.take 3 ⟨none, (some 9), (.hload 9 1 false (.tmp 2))⟩ (.take 5 ⟨none, (some 11), (.hload 11 1 false (.tmp 3))⟩ (.take 6 ⟨none, (some 12), (.hload 12 1 false (.tmp 3))⟩ (.alt 4 ⟨none, (some 10), (.mlook 10 (.slice none 0 0) false (.tmp 8) (.tmp 9))⟩ (.take 7 ⟨none, (some 13), (.pure 13 (.slc 1 false true true) [(.tmp 10), (.tmp 11), (.tmp 12)])⟩ (.alt 8 ⟨none, none, (.mput (.tmp 6) (.tmp 7) (.tmp 13))⟩ .done .no)) .no))))))))
theorem comp55 : Comp Try.prog 55 E55 4 [] pc55 := ⟨_, _, Try.func55, rfl, by kernel_rfl, by decide, by kernel_rfl, by kernel_rfl, by kernel_rfl⟩
/-- slices.ContainsFunc[[]byte,byte] -/
def E68 : Env := ⟨[], 9⟩
def pc68 : PC := (.seq (.ops [⟨none, (some 4), (.pure 4 .mv [(.const (.bool false))])⟩]) (.seq (.ops [⟨none, (some 5), (.pure 5 .mv [(.tmp 0)])⟩, ⟨none, (some 6), (.pure 6 .mv [(.tmp 1)])⟩, ⟨none, (some 7), (.call (some 7) 76 [(.tmp 5), (.tmp 6)])⟩, ⟨none, (some 8), (.pure 8 (.bin .geq) [(.tmp 7), (.const (.int .i64 0))])⟩, ⟨none, (some 4), (.pure 4 .mv [(.tmp 8)])⟩]) .ret))
theorem comp68 : Comp Try.prog 68 E68 2 [(.slot 4)] pc68 := ⟨_, _, Try.func68, rfl, by kernel_rfl, by decide, by kernel_rfl, by kernel_rfl, by kernel_rfl⟩
/-- chancery/disk.named$1 -/
def E69 : Env := ⟨[], 21⟩
def pc69 : PC := (.seq (.ops [⟨none, (some 2), (.pure 2 .mv [(.const (.bool false))])⟩]) (.seq (.ops [⟨none, (some 3), (.pure 3 .mv [(.tmp 0)])⟩, ⟨none, (some 4), (.pure 4 (.bin .lss) [(.tmp 3), (.const (.int .u8 97))])⟩, ⟨none, (some 5), (.pure 5 .mv [(.tmp 4)])⟩, ⟨(some (5, false)), (some 6), (.pure 6 .mv [(.tmp 0)])⟩, ⟨(some (5, false)), (some 7), (.pure 7 (.bin .gtr) [(.tmp 6), (.const (.int .u8 122))])⟩, ⟨none, (some 8), (.pure 8 .pick [(.tmp 5), (.const (.bool true)), (.tmp 7)])⟩, ⟨none, (some 9), (.pure 9 .mv [(.tmp 8)])⟩, ⟨(some (9, true)), (some 10), (.pure 10 .mv [(.tmp 0)])⟩, ⟨(some (9, true)), (some 11), (.pure 11 (.bin .lss) [(.tmp 10), (.const (.int .u8 48))])⟩, ⟨(some (9, true)), (some 12), (.pure 12 .mv [(.tmp 11)])⟩, ⟨(some (12, false)), (some 13), (.pure 13 .mv [(.tmp 0)])⟩, ⟨(some (12, false)), (some 14), (.pure 14 (.bin .gtr) [(.tmp 13), (.const (.int .u8 57))])⟩, ⟨(some (9, true)), (some 15), (.pure 15 .pick [(.tmp 12), (.const (.bool true)), (.tmp 14)])⟩, ⟨none, (some 16), (.pure 16 .pick [(.tmp 9), (.tmp 15), (.const (.bool false))])⟩, ⟨none, (some 17), (.pure 17 .mv [(.tmp 16)])⟩, ⟨(some (17, true)), (some 18), (.pure 18 .mv [(.tmp 0)])⟩, ⟨(some (17, true)), (some 19), (.pure 19 (.bin .neq) [(.tmp 18), (.const (.int .u8 46))])⟩, ⟨none, (some 20), (.pure 20 .pick [(.tmp 17), (.tmp 19), (.const (.bool false))])⟩, ⟨none, (some 2), (.pure 2 .mv [(.tmp 20)])⟩]) .ret))
theorem comp69 : Comp Try.prog 69 E69 1 [(.slot 2)] pc69 := ⟨_, _, Try.func69, rfl, by kernel_rfl, by decide, by kernel_rfl, by kernel_rfl, by kernel_rfl⟩
/-- slices.Grow[[]byte,byte] -/
def E70 : Env := ⟨[], 27⟩
def pc70 : PC := (.seq (.ops [⟨none, (some 4), (.pure 4 .mv [(.const (.slice none 0 0))])⟩]) (.seq (.seq (.ops [⟨none, (some 5), (.pure 5 .mv [(.tmp 1)])⟩, ⟨none, (some 6), (.pure 6 (.bin .lss) [(.tmp 5), (.const (.int .i64 0))])⟩]) (.cond (.tmp 6) (.ops [⟨none, (some 7), .stuck⟩, ⟨none, none, .stuck⟩]) .skip)) (.seq (.seq (.ops [⟨none, (some 8), (.pure 8 .mv [(.tmp 1)])⟩, ⟨none, (some 9), (.pure 9 .mv [(.tmp 0)])⟩, ⟨none, (some 10), (.pure 10 .capL [(.tmp 9)])⟩, ⟨none, (some 11), (.pure 11 .mv [(.tmp 0)])⟩, ⟨none, (some 12), (.pure 12 .lenL [(.tmp 11)])⟩, ⟨none, (some 13), (.pure 13 (.bin .sub) [(.tmp 10), (.tmp 12)])⟩, ⟨none, (some 14), (.pure 14 (.bin .sub) [(.tmp 8), (.tmp 13)])⟩, ⟨none, (some 1), (.pure 1 .mv [(.tmp 14)])⟩]) (.seq (.ops [⟨none, (some 15), (.pure 15 .mv [(.tmp 1)])⟩, ⟨none, (some 16), (.pure 16 (.bin .gtr) [(.tmp 15), (.const (.int .i64 0))])⟩]) (.cond (.tmp 16) (.ops [⟨none, (some 17), (.pure 17 .mv [(.tmp 0)])⟩, ⟨none, (some 18), (.pure 18 .mv [(.tmp 0)])⟩, ⟨none, (some 19), (.pure 19 .capL [(.tmp 18)])⟩, ⟨none, (some 20), (.pure 20 (.slc 1 false true false) [(.tmp 17), (.tmp 19)])⟩, ⟨none, (some 21), (.pure 21 .mv [(.tmp 1)])⟩, ⟨none, (some 22), (.growz 22 5 1 1 #[(.int .u8 0)] (.tmp 20) (.tmp 21))⟩, ⟨none, (some 23), (.pure 23 .mv [(.tmp 0)])⟩, ⟨none, (some 24), (.pure 24 .lenL [(.tmp 23)])⟩, ⟨none, (some 25), (.pure 25 (.slc 1 false true false) [(.tmp 22), (.tmp 24)])⟩, ⟨none, (some 0), (.pure 0 .mv [(.tmp 25)])⟩]) .skip))) (.seq (.ops [⟨none, (some 26), (.pure 26 .mv [(.tmp 0)])⟩, ⟨none, (some 4), (.pure 4 .mv [(.tmp 26)])⟩]) .ret))))
theorem comp70 : Comp Try.prog 70 E70 2 [(.slot 4)] pc70 := ⟨_, _, Try.func70, rfl, by kernel_rfl, by decide, by kernel_rfl, by kernel_rfl, by kernel_rfl⟩
/-- slices.IndexFunc[[]byte,byte] -/
def E76 : Env := ⟨[], 19⟩
def pc76 : PC := (.seq (.ops [⟨none, (some 4), (.pure 4 .mv [(.const (.int .i64 0))])⟩]) (.seq (.seq (.ops [⟨none, (some 6), (.pure 6 .mv [(.tmp 0)])⟩, ⟨none, (some 7), (.pure 7 .lenL [(.tmp 6)])⟩, ⟨none, (some 8), (.pure 8 .mv [(.const (.int .i64 0))])⟩]) (.block 0 (.loop (.seq (.ops [⟨none, (some 9), (.pure 9 (.bin .lss) [(.tmp 8), (.tmp 7)])⟩]) (.seq (.cond (.tmp 9) .skip (.exit 0)) (.seq (.block 1 (.seq (.ops [⟨none, (some 10), (.pure 10 .mv [(.tmp 8)])⟩, ⟨none, (some 5), (.pure 5 .mv [(.tmp 10)])⟩]) (.seq (.ops [⟨none, (some 11), (.pure 11 .mv [(.tmp 1)])⟩, ⟨none, (some 12), (.pure 12 .mv [(.tmp 0)])⟩, ⟨none, (some 13), (.pure 13 .mv [(.tmp 5)])⟩, ⟨none, (some 14), (.pure 14 (.iptrS 1) [(.tmp 12), (.tmp 13)])⟩, ⟨none, (some 15), (.hload 15 1 false (.tmp 14))⟩, ⟨none, (some 16), (.callv (some 16) (.tmp 11) [(.tmp 15)])⟩]) (.cond (.tmp 16) (.seq (.ops [⟨none, (some 17), (.pure 17 .mv [(.tmp 5)])⟩, ⟨none, (some 4), (.pure 4 .mv [(.tmp 17)])⟩]) .ret) .skip)))) (.ops [⟨none, (some 18), (.pure 18 (.bin .add) [(.tmp 8), (.const (.int .i64 1))])⟩, ⟨none, (some 8), (.pure 8 .mv [(.tmp 18)])⟩]))))))) (.seq (.ops [⟨none, (some 4), (.pure 4 .mv [(.const (.int .i64 (-1)))])⟩]) .ret)))
theorem comp76 : Comp Try.prog 76 E76 2 [(.slot 4)] pc76 := ⟨_, _, Try.func76, rfl, by kernel_rfl, by decide, by kernel_rfl, by kernel_rfl, by kernel_rfl⟩
end Go.Proofs.Ytbmhdmkmnhaffaa.V
end
