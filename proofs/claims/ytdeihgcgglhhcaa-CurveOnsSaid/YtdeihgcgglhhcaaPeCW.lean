/- Rows of numbers in memory. -/
import Derived.Test.YtdeihgcgglhhcaaPeCN
set_option linter.unusedSimpArgs false
set_option linter.unusedVariables false
namespace Go.Proofs.Ytdeihgcgglhhcaa.V
open Go.RowKit Go.ChangeShapes Go.WideShapes Go.ChangeAt
abbrev iv (k : IntKind) (x : Nat) : Value := .int k (x : Int)
abbrev Nu (k : IntKind) (G : GH) (u : Value) (xs : List Nat) : Prop := Sl 1 G u (xs.map (iv k))
theorem Nu.len {k : IntKind} {G : GH} {u : Value} {xs : List Nat} (h : Nu k G u xs) : lenS u = xs.length := by
  have := Sl.len h; simp at this; omega
theorem Nu.len_le {k : IntKind} {G : GH} {u : Value} {xs : List Nat} (h : Nu k G u xs) : xs.length ≤ 9223372036854775807 := by
  have := Sl.len_le h; rw [Nu.len h] at this; exact this
theorem nu_get {k : IntKind} (xs : List Nat) {j : Nat} (h : j < xs.length) : (xs.map (iv k))[j]? = some (iv k (xs.getD j 0)) := by
  rw [List.getElem?_map, List.getD_eq_getElem?_getD, List.getElem?_eq_getElem h]; rfl
theorem nu_cells (k : IntKind) (xs : List Nat) : cells1 (xs.map (iv k)) = true := by simp [cells1, Value.oneCell']
section
variable {P : Program} {E : Env} {K : St → Prop} {r : List Stp} {dd : Option Nat} {L : SL} {A : AL} {G : GH}
/-- Copies of cells into what is made. -/
theorem o_copy {d n : Nat} {x y : Operand} {b q len cap : Nat} {v : Value} {es : List Value} {cs : Array Value} {e : TypeId} {fr : Nat × Nat} (hx : evo L x = some (.slice (some ⟨b, q, none⟩) len cap)) (hy : evo L y = some v) (hv : Sl n G v es) (h1 : cells1 es = true) (hl : lenS v ≤ len) (hn : n ≠ 0)
    (hG : G b = some (.cells cs e fr)) (hs : q + lenS v * n ≤ cs.size) (hf : fr.2 ≤ q ∨ q + lenS v * n ≤ fr.1)
    (h : vops P E r K (S (.set d (.int .i64 (lenS v)) L) A (G.put b (.cells (wr cs q es) e fr)))) : vops P E (⟨none, dd, .copy d n x y⟩ :: r) K (S L A G) := by
  obtain ⟨a', cap', f1, f2, f3, f4, f5⟩ := hv.slice
  have hmin : Nat.min (lenS v) len = lenS v := Nat.min_eq_left hl
  rw [f1] at hy
  have hr := hv.rd
  rw [f1] at hr
  refine ⟨_, _, _, _, _, _, es, evo_ev hx, evo_ev hy, ?_, ?_⟩
  · rw [hmin]; exact hr
  · rw [hmin]; exact ⟨rfl, cs, e, fr, hG, ⟨hs, h1, hf⟩, h⟩
theorem put_put (G : GH) (b : Nat) (o o' : Obj) : (G.put b o).put b o' = G.put b o' := by
  funext i; by_cases h : i = b
  · subst h; rw [GH.put_same, GH.put_same]
  · rw [GH.put_ne _ _ h, GH.put_ne _ _ h, GH.put_ne _ _ h]
theorem put_self {G : GH} {b : Nat} {o : Obj} (h : G b = some o) : G.put b o = G := by
  funext i; by_cases hi : i = b
  · subst hi; rw [GH.put_same, h]
  · rw [GH.put_ne _ _ hi]
theorem le_eq {G0 G G' : GH} {b : Nat} {o : Obj} (e : G' = G.put b o) (h : G0.le G) (hb : G0 b = none) : G0.le G' := by rw [e]; exact GH.le_put_of _ h hb
theorem put_eq {G G1 G2 : GH} {b : Nat} {o1 o2 : Obj} (e2 : G2 = G1.put b o2) (e1 : G1 = G.put b o1) : G2 = G.put b o2 := by rw [e2, e1, put_put]
/-- The whole of what is made, or a part of it, as numbers: all its room is in use. -/
structure Win (k : IntKind) (G : GH) (b q : Nat) (cs : Array Value) (e : TypeId) (fr : Nat × Nat) (xs : List Nat) : Prop where
  hG : G b = some (.cells cs e fr)
  hs : q + xs.length ≤ cs.size
  hf : fr.2 ≤ q ∨ q + xs.length ≤ fr.1
  hm : xs.length ≤ 9223372036854775807
  hx : ∀ j, j < xs.length → cs[q + j]? = some (iv k (xs.getD j 0))
/-- Cells changed in a part only. -/
def Upd (cs cs' : Array Value) (q n : Nat) : Prop := cs'.size = cs.size ∧ ∀ i, (i < q ∨ q + n ≤ i) → cs'[i]? = cs[i]?
theorem Upd.refl (cs : Array Value) (q n : Nat) : Upd cs cs q n := ⟨rfl, fun _ _ => rfl⟩
theorem Upd.trans {c1 c2 c3 : Array Value} {q n : Nat} (h : Upd c1 c2 q n) (k : Upd c2 c3 q n) : Upd c1 c3 q n := ⟨k.1.trans h.1, fun i hi => (k.2 i hi).trans (h.2 i hi)⟩
theorem Upd.wr1 (cs : Array Value) {q i n : Nat} (v : Value) (h : i < n) (hs : q + n ≤ cs.size) : Upd cs (wr cs (q + i) [v]) q n := by
  refine ⟨wr_size _ _ _, fun j hj => ?_⟩
  rw [wr_get _ _ _ _ (by simp; omega)]
  simp only [List.length_singleton]
  split
  · rfl
  · rw [if_neg (by omega)]
theorem Upd.wide {cs cs' : Array Value} {q i n m : Nat} (h : Upd cs cs' (q + i) n) (hm : i + n ≤ m) : Upd cs cs' q m := ⟨h.1, fun j hj => h.2 j (by omega)⟩
section
variable {k : IntKind} {G : GH} {b q : Nat} {cs : Array Value} {e : TypeId} {fr : Nat × Nat} {xs : List Nat}
theorem Win.ex (h : Win k G b q cs e fr xs) : (cs.extract q (q + xs.length)).toList = xs.map (iv k) := by
  apply List.ext_getElem?
  intro j
  by_cases hj : j < xs.length
  · rw [extract_get h.hs hj, h.hx j hj, nu_get xs hj]
  · rw [List.getElem?_eq_none (by rw [extract_len h.hs]; omega), List.getElem?_eq_none (by simp; omega)]
theorem Win.ownB (h : Win k G b q cs e fr xs) : OwnB 1 G b (.slice (some ⟨b, q, none⟩) xs.length xs.length) (xs.map (iv k)) [] :=
  ⟨q, _, _, cs, e, fr, rfl, h.hG, Nat.le_refl _, h.hm, by have := h.hs; omega, by have := h.hf; omega, by rw [Nat.mul_one, List.append_nil]; exact h.ex, by simp⟩
theorem Win.own {G0 : GH} (h : Win k G b q cs e fr xs) (hb : G0 b = none) : Own 1 G0 G (.slice (some ⟨b, q, none⟩) xs.length xs.length) (xs.map (iv k)) := .inr ⟨b, [], hb, h.ownB⟩
theorem Win.nu (h : Win k G b q cs e fr xs) : Nu k G (.slice (some ⟨b, q, none⟩) xs.length xs.length) xs := h.ownB.sl
theorem Win.ptr (h : Win k G b q cs e fr xs) {i : Nat} (hi : i < xs.length) : PtR G (.pointer (some ⟨b, q + i, none⟩)) 1 false (iv k (xs.getD i 0)) := ⟨b, q + i, cs, e, fr, rfl, h.hG, h.hx i hi⟩
theorem Win.set (h : Win k G b q cs e fr xs) {i : Nat} (hi : i < xs.length) (v : Nat) : Win k (G.put b (.cells (wr cs (q + i) [iv k v]) e fr)) b q (wr cs (q + i) [iv k v]) e fr (xs.set i v) := by
  refine ⟨GH.put_same _ _ _, by rw [wr_size, List.length_set]; exact h.hs, by rw [List.length_set]; exact h.hf, by rw [List.length_set]; exact h.hm, fun j hj => ?_⟩
  rw [List.length_set] at hj
  have hs := h.hs
  rw [wr_get _ _ _ _ (by simp; omega)]
  simp only [List.length_singleton]
  by_cases hji : j = i
  · subst hji
    rw [if_neg (by omega), if_pos (by omega), set_getD_eq xs hi, Nat.sub_self]; rfl
  · rw [set_getD_ne xs (by omega), ← h.hx j hj]
    split
    · rfl
    · rw [if_neg (by omega)]
theorem Win.keep {G' : GH} (h : Win k G b q cs e fr xs) (hk : G' b = G b) : Win k G' b q cs e fr xs := ⟨by rw [hk]; exact h.hG, h.hs, h.hf, h.hm, h.hx⟩
theorem Win.le {G' : GH} (h : Win k G b q cs e fr xs) (hl : G.le G') : Win k G' b q cs e fr xs := ⟨hl _ _ h.hG, h.hs, h.hf, h.hm, h.hx⟩
theorem Win.nu' {n : Nat} (h : Win k G b q cs e fr xs) (hn : xs.length = n) : Nu k G (.slice (some ⟨b, q, none⟩) n n) xs := by subst hn; exact h.nu
theorem Win.ptr0 (h : Win k G b 0 cs e fr xs) {i : Nat} (hi : i < xs.length) : PtR G (.pointer (some ⟨b, 0 + i, none⟩)) 1 false (iv k (xs.getD i 0)) := h.ptr hi
/-- A part. -/
theorem Win.sub (h : Win k G b q cs e fr xs) (i n : Nat) (hi : i + n ≤ xs.length) : Win k G b (q + i) cs e fr ((xs.drop i).take n) := by
  have hl : ((xs.drop i).take n).length = n := by rw [List.length_take, List.length_drop]; omega
  have hs := h.hs; have hf := h.hf; have hm := h.hm
  refine ⟨h.hG, by omega, by omega, by omega, fun j hj => ?_⟩
  rw [hl] at hj
  rw [Nat.add_assoc, h.hx (i + j) (by omega), getD_take _ hj, getD_drop]
/-- What is made: noughts. -/
theorem Win.make (k : IntKind) (n : Nat) (hm : n ≤ 9223372036854775807) (G : GH) (b : Nat) (e : TypeId) : Win k (G.put b (.cells (Builtin.zeroCells #[iv k 0] n) e)) b 0 (Builtin.zeroCells #[iv k 0] n) e (0, 0) (List.replicate n 0) := by
  have hz : (Builtin.zeroCells #[iv k 0] n).size = n := by rw [zeroCells_size]; simp
  refine ⟨GH.put_same _ _ _, by simp [hz], .inl (by simp), by simpa using hm, fun j hj => ?_⟩
  simp at hj
  have e0 : (List.replicate n 0).getD j 0 = 0 := by rw [List.getD_eq_getElem?_getD, List.getElem?_replicate]; split <;> rfl
  rw [e0]
  rw [Nat.zero_add, Array.getElem?_eq_getElem (by omega)]
  simp [Builtin.zeroCells, Nat.mod_one]
end
end
/-- Numbers with a mark in the room behind them. -/
def LentN (k : IntKind) (m : Nat) (G0 G : GH) (u : Value) (xs : List Nat) : Prop := ∃ b sp, G0 b = none ∧ OwnB 1 G b u (xs.map (iv k)) (iv k m :: sp)
theorem LentN.le {k : IntKind} {m : Nat} {G0 G G' : GH} {u : Value} {bs : List Nat} (h : LentN k m G0 G u bs) (hl : G.le G') : LentN k m G0 G' u bs :=
  let ⟨b, sp, h0, h⟩ := h; ⟨b, sp, h0, h.le fun o => hl b o⟩
theorem LentN.nu {k : IntKind} {m : Nat} {G0 G : GH} {u : Value} {bs : List Nat} (h : LentN k m G0 G u bs) : Nu k G u bs := let ⟨_, _, _, h⟩ := h; h.sl
section
variable {P : Program} {E : Env} {K : St → Prop} {r : List Stp} {dd : Option Nat} {L : SL} {A : AL} {G : GH}
/-- A store into what is made. -/
theorem o_hstoreW {x z : Operand} {b q i v : Nat} {k : IntKind} {cs : Array Value} {e : TypeId} {fr : Nat × Nat} {xs : List Nat} (hx : evo L x = some (.pointer (some ⟨b, q + i, none⟩))) (hw : Win k G b q cs e fr xs) (hi : i < xs.length) (hz : evo L z = some (iv k v))
    (h : ∀ cs' G', G' = G.put b (.cells cs' e fr) → Upd cs cs' q xs.length → Win k G' b q cs' e fr (xs.set i v) → vops P E r K (S L A G')) : vops P E (⟨none, dd, .hstore 1 x z⟩ :: r) K (S L A G) := by
  have hs := hw.hs; have hf := hw.hf
  exact o_hstore (vs := [iv k v]) hx hw.hG hz rfl ⟨rfl, by omega, rfl, by omega⟩ (h _ _ rfl (Upd.wr1 cs _ hi hw.hs) (hw.set hi v))
theorem o_copyW {d : Nat} {x y : Operand} {b q n : Nat} {v : Value} {k : IntKind} {cs : Array Value} {e : TypeId} {fr : Nat × Nat} {xs ys : List Nat} (hx : evo L x = some (.slice (some ⟨b, q, none⟩) n n)) (hy : evo L y = some v) (hw : Win k G b q cs e fr xs) (hn : n = xs.length) (hv : Nu k G v ys) (hl : ys.length ≤ xs.length)
    (h : ∀ cs' G', G' = G.put b (.cells cs' e fr) → Upd cs cs' q xs.length → Win k G' b q cs' e fr (ys ++ xs.drop ys.length) → vops P E r K (S (.set d (.int .i64 ys.length) L) A G')) : vops P E (⟨none, dd, .copy d 1 x y⟩ :: r) K (S L A G) := by
  have e1 := Nu.len hv
  have hs := hw.hs; have hf := hw.hf; have hm := hw.hm
  have ll : (ys ++ xs.drop ys.length).length = xs.length := by rw [List.length_append, List.length_drop]; omega
  refine o_copy hx hy hv (nu_cells k ys) (by omega) (by decide) hw.hG (by omega) (by omega) ?_
  rw [e1]
  refine h _ _ rfl ⟨wr_size _ _ _, fun j hj => ?_⟩ ⟨GH.put_same _ _ _, by rw [wr_size, ll]; exact hs, by rw [ll]; exact hf, by rw [ll]; exact hm, fun j hj => ?_⟩
  · rw [wr_get _ _ _ _ (by simp; omega)]
    simp only [List.length_map]
    split
    · rfl
    · rw [if_neg (by omega)]
  · rw [ll] at hj
    rw [wr_get _ _ _ _ (by simp; omega)]
    simp only [List.length_map]
    rw [if_neg (by omega)]
    by_cases h1 : j < ys.length
    · rw [if_pos (by omega), show q + j - q = j by omega, nu_get ys h1, getD_appL _ _ h1]
    · rw [if_neg (by omega), hw.hx j hj, getD_appR _ _ (by omega), getD_drop]
      congr 3; omega
end
end Go.Proofs.Ytdeihgcgglhhcaa.V
