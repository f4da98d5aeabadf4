/- Rows of numbers in memory. -/
import Derived.Test.YtfacphjjkanajaaDoorKCN
set_option linter.unusedSimpArgs false
set_option linter.unusedVariables false
namespace Go.Proofs.YtfacphjjkanajaaDoor.V
open Go.RowKit Go.ChangeShapes Go.WideShapes Go.ChangeAt
abbrev iv (k : IntKind) (x : Nat) : Value := .int k (x : Int)
abbrev Nu (k : IntKind) (G : GH) (u : Value) (xs : List Nat) : Prop := Sl 1 G u (xs.map (iv k))
theorem Nu.len {k : IntKind} {G : GH} {u : Value} {xs : List Nat} (h : Nu k G u xs) : lenS u = xs.length := by
  have := Sl.len h; simp at this; omega
theorem Nu.len_le {k : IntKind} {G : GH} {u : Value} {xs : List Nat} (h : Nu k G u xs) : xs.length ≤ 9223372036854775807 := by
  have := Sl.len_le h; rw [Nu.len h] at this; exact this
theorem nu_get {k : IntKind} (xs : List Nat) {j : Nat} (h : j < xs.length) : (xs.map (iv k))[j]? = some (iv k (xs.getD j 0)) := by
  rw [List.getElem?_map, List.getD_eq_getElem?_getD, List.getElem?_eq_getElem h]; rfl
theorem nu_cells (k : IntKind) (xs : List Nat) : cells1 (xs.map (iv k)) = true := by simp [cells1, Value.oneCell']
section
variable {P : Program} {E : Env} {K : St → Prop} {r : List Stp} {dd : Option Nat} {L : SL} {A : AL} {G : GH}
theorem o_lenN {d : Nat} {x : Operand} {u : Value} {k : IntKind} {xs : List Nat} (hx : evo L x = some u) (hb : Nu k G u xs) (h : vops P E r K (S (.set d (.int .i64 xs.length) L) A G)) : vops P E (⟨none, dd, .pure d .lenL [x]⟩ :: r) K (S L A G) :=
  o_pure (vs := [u]) (by simp only [evs, hx]) (by rw [Sl.lenL hb, Nu.len hb]) h
theorem o_idxN {d : Nat} {x y : Operand} {u : Value} {k k' : IntKind} {j : Int} {xs : List Nat} (hx : evo L x = some u) (hb : Nu k G u xs) (hy : evo L y = some (.int k' j)) (h0 : 0 ≤ j) (h1 : j < xs.length) (h : ∀ p, PtR G p 1 false (iv k (xs.getD j.toNat 0)) → vops P E r K (S (.set d p L) A G)) : vops P E (⟨none, dd, .pure d (.iptrS 1) [x, y]⟩ :: r) K (S L A G) :=
  o_idxS hx hb hy h0 (nu_get xs (by omega)) h
/-- Copies of cells into what is made. -/
theorem o_copy {d n : Nat} {x y : Operand} {b q len cap : Nat} {v : Value} {es : List Value} {cs : Array Value} {e : TypeId} {fr : Nat × Nat} (hx : evo L x = some (.slice (some ⟨b, q, none⟩) len cap)) (hy : evo L y = some v) (hv : Sl n G v es) (h1 : cells1 es = true) (hl : lenS v ≤ len) (hn : n ≠ 0)
    (hG : G b = some (.cells cs e fr)) (hs : q + lenS v * n ≤ cs.size) (hf : fr.2 ≤ q ∨ q + lenS v * n ≤ fr.1)
    (h : vops P E r K (S (.set d (.int .i64 (lenS v)) L) A (G.put b (.cells (wr cs q es) e fr)))) : vops P E (⟨none, dd, .copy d n x y⟩ :: r) K (S L A G) := by
  obtain ⟨a', cap', f1, f2, f3, f4, f5⟩ := hv.slice
  have hmin : Nat.min (lenS v) len = lenS v := Nat.min_eq_left hl
  rw [f1] at hy
  have hr := hv.rd
  rw [f1] at hr
  refine ⟨_, _, _, _, _, _, es, evo_ev hx, evo_ev hy, ?_, ?_⟩
  · rw [hmin]; exact hr
  · rw [hmin]; exact ⟨rfl, cs, e, fr, hG, ⟨hs, h1, hf⟩, h⟩
theorem le_eq {G0 G G' : GH} {b : Nat} {o : Obj} (e : G' = G.put b o) (h : G0.le G) (hb : G0 b = none) : G0.le G' := by rw [e]; exact GH.le_put_of _ h hb
/-- The whole of what is made, or a part of it, as numbers: all its room is in use. -/
structure Win (k : IntKind) (G : GH) (b q : Nat) (cs : Array Value) (e : TypeId) (fr : Nat × Nat) (xs : List Nat) : Prop where
  hG : G b = some (.cells cs e fr)
  hs : q + xs.length ≤ cs.size
  hf : fr.2 ≤ q ∨ q + xs.length ≤ fr.1
  hm : xs.length ≤ 9223372036854775807
  hx : ∀ j, j < xs.length → cs[q + j]? = some (iv k (xs.getD j 0))
/-- Cells changed in a part only. -/
def Upd (cs cs' : Array Value) (q n : Nat) : Prop := cs'.size = cs.size ∧ ∀ i, (i < q ∨ q + n ≤ i) → cs'[i]? = cs[i]?
theorem Upd.refl (cs : Array Value) (q n : Nat) : Upd cs cs q n := ⟨rfl, fun _ _ => rfl⟩
theorem Upd.trans {c1 c2 c3 : Array Value} {q n : Nat} (h : Upd c1 c2 q n) (k : Upd c2 c3 q n) : Upd c1 c3 q n := ⟨k.1.trans h.1, fun i hi => (k.2 i hi).trans (h.2 i hi)⟩
theorem Upd.wr1 (cs : Array Value) {q i n : Nat} (v : Value) (h : i < n) (hs : q + n ≤ cs.size) : Upd cs (wr cs (q + i) [v]) q n := by
  refine ⟨wr_size _ _ _, fun j hj => ?_⟩
  rw [wr_get _ _ _ _ (by simp; omega)]
  simp only [List.length_singleton]
  split
  · rfl
  · rw [if_neg (by omega)]
section
variable {k : IntKind} {G : GH} {b q : Nat} {cs : Array Value} {e : TypeId} {fr : Nat × Nat} {xs : List Nat}
theorem Win.ex (h : Win k G b q cs e fr xs) : (cs.extract q (q + xs.length)).toList = xs.map (iv k) := by
  apply List.ext_getElem?
  intro j
  by_cases hj : j < xs.length
  · rw [extract_get h.hs hj, h.hx j hj, nu_get xs hj]
  · rw [List.getElem?_eq_none (by rw [extract_len h.hs]; omega), List.getElem?_eq_none (by simp; omega)]
theorem Win.ownB (h : Win k G b q cs e fr xs) : OwnB 1 G b (.slice (some ⟨b, q, none⟩) xs.length xs.length) (xs.map (iv k)) [] :=
  ⟨q, _, _, cs, e, fr, rfl, h.hG, Nat.le_refl _, h.hm, by have := h.hs; omega, by have := h.hf; omega, by rw [Nat.mul_one, List.append_nil]; exact h.ex, by simp⟩
theorem Win.own {G0 : GH} (h : Win k G b q cs e fr xs) (hb : G0 b = none) : Own 1 G0 G (.slice (some ⟨b, q, none⟩) xs.length xs.length) (xs.map (iv k)) := .inr ⟨b, [], hb, h.ownB⟩
theorem Win.nu (h : Win k G b q cs e fr xs) : Nu k G (.slice (some ⟨b, q, none⟩) xs.length xs.length) xs := h.ownB.sl
theorem Win.ptr (h : Win k G b q cs e fr xs) {i : Nat} (hi : i < xs.length) : PtR G (.pointer (some ⟨b, q + i, none⟩)) 1 false (iv k (xs.getD i 0)) := ⟨b, q + i, cs, e, fr, rfl, h.hG, h.hx i hi⟩
theorem Win.set (h : Win k G b q cs e fr xs) {i : Nat} (hi : i < xs.length) (v : Nat) : Win k (G.put b (.cells (wr cs (q + i) [iv k v]) e fr)) b q (wr cs (q + i) [iv k v]) e fr (xs.set i v) := by
  refine ⟨GH.put_same _ _ _, by rw [wr_size, List.length_set]; exact h.hs, by rw [List.length_set]; exact h.hf, by rw [List.length_set]; exact h.hm, fun j hj => ?_⟩
  rw [List.length_set] at hj
  have hs := h.hs
  rw [wr_get _ _ _ _ (by simp; omega)]
  simp only [List.length_singleton]
  by_cases hji : j = i
  · subst hji
    rw [if_neg (by omega), if_pos (by omega), set_getD_eq xs hi, Nat.sub_self]; rfl
  · rw [set_getD_ne xs (by omega), ← h.hx j hj]
    split
    · rfl
    · rw [if_neg (by omega)]
theorem Win.keep {G' : GH} (h : Win k G b q cs e fr xs) (hk : G' b = G b) : Win k G' b q cs e fr xs := ⟨by rw [hk]; exact h.hG, h.hs, h.hf, h.hm, h.hx⟩
theorem Win.le {G' : GH} (h : Win k G b q cs e fr xs) (hl : G.le G') : Win k G' b q cs e fr xs := ⟨hl _ _ h.hG, h.hs, h.hf, h.hm, h.hx⟩
theorem Win.nu' {n : Nat} (h : Win k G b q cs e fr xs) (hn : xs.length = n) : Nu k G (.slice (some ⟨b, q, none⟩) n n) xs := by subst hn; exact h.nu
theorem Win.own' {n : Nat} {G0 : GH} (h : Win k G b q cs e fr xs) (hb : G0 b = none) (hn : xs.length = n) : Own 1 G0 G (.slice (some ⟨b, q, none⟩) n n) (xs.map (iv k)) := by subst hn; exact h.own hb
/-- A part. -/
theorem Win.sub (h : Win k G b q cs e fr xs) (i n : Nat) (hi : i + n ≤ xs.length) : Win k G b (q + i) cs e fr ((xs.drop i).take n) := by
  have hl : ((xs.drop i).take n).length = n := by rw [List.length_take, List.length_drop]; omega
  have hs := h.hs; have hf := h.hf; have hm := h.hm
  refine ⟨h.hG, by omega, by omega, by omega, fun j hj => ?_⟩
  rw [hl] at hj
  rw [Nat.add_assoc, h.hx (i + j) (by omega), getD_take _ hj, getD_drop]
/-- What is made: noughts. -/
theorem Win.make (k : IntKind) (n : Nat) (hm : n ≤ 9223372036854775807) (G : GH) (b : Nat) (e : TypeId) : Win k (G.put b (.cells (Builtin.zeroCells #[iv k 0] n) e)) b 0 (Builtin.zeroCells #[iv k 0] n) e (0, 0) (List.replicate n 0) := by
  have hz : (Builtin.zeroCells #[iv k 0] n).size = n := by rw [zeroCells_size]; simp
  refine ⟨GH.put_same _ _ _, by simp [hz], .inl (by simp), by simpa using hm, fun j hj => ?_⟩
  simp at hj
  have e0 : (List.replicate n 0).getD j 0 = 0 := by rw [List.getD_eq_getElem?_getD, List.getElem?_replicate]; split <;> rfl
  rw [e0]
  rw [Nat.zero_add, Array.getElem?_eq_getElem (by omega)]
  simp [Builtin.zeroCells, Nat.mod_one]
end
/-- A slice's beginning, without room behind. -/
def trimS : Value → Nat → Value
  | .slice a _ _, n => .slice a n n
  | v, _ => v
theorem trimS_pure {n1 : Nat} {G : GH} {u : Value} {xs : List Value} (h : Sl n1 G u xs) {k k' : IntKind} {n : Nat} (hn : n ≤ lenS u) : pureV (.slc 1 false true true) [u, .int k n, .int k' n] = some (trimS u n) := by
  obtain ⟨a, cap, e1, e2, e3, e4, e5⟩ := h.slice
  rw [e1]
  simp only [pureV, bnds, Option.bind_some, cutV, Option.getD_none, trimS]
  rw [if_pos (by omega)]
  simp only [Option.map_some, Int.toNat_zero, Int.toNat_natCast, Nat.sub_zero, addO]
  split
  · rfl
  · obtain ⟨b, q, rfl⟩ := e5 (by omega)
    simp [Addr.add]
theorem trimS_sl {n1 : Nat} {G : GH} {u : Value} {xs : List Value} (h : Sl n1 G u xs) {n : Nat} (hn : n ≤ lenS u) : Sl n1 G (trimS u n) (xs.take (n * n1)) := by
  obtain ⟨a, e1, e2⟩ := h.cut (l := 0) (j := n) (Nat.zero_le _) hn
  have e3 := e2.rd
  have e4 := e2.ok
  obtain ⟨a', cap, f1, f2, f3, f4, f5⟩ := h.slice
  simp only [Nat.zero_mul, List.drop_zero, Nat.sub_zero] at e3 e4
  rw [e1]
  refine ⟨?_, Nat.le_refl _, by omega⟩
  rw [← e3]
  simp only [trimS, addO]
  have ha : a' = a := by rw [f1] at e1; exact (Value.slice.inj e1).1
  subst ha
  by_cases hc : capS u = 0
  · rw [if_pos hc]
    cases a' with
    | none => cases n <;> rfl
    | some x => obtain ⟨b, q, sp⟩ := x; cases sp <;> first | rfl | (cases n <;> rfl)
  · rw [if_neg hc]
    cases a' with
    | none => cases n <;> rfl
    | some x =>
      obtain ⟨b, q, sp⟩ := x
      cases sp with
      | none => simp only [Option.map_some, Addr.add]; split <;> simp [V.rd]
      | some s =>
        have : lenS u = 0 := by
          by_cases h0 : lenS u = 0
          · exact h0
          · obtain ⟨_, _, h⟩ := f5 h0; cases h
        have hn0 : n = 0 := by omega
        subst hn0
        simp only [Option.map_some, Addr.add]
        split <;> simp [V.rd]
theorem trimS_own {n1 : Nat} {G0 G : GH} {u : Value} {xs : List Value} (h : Own n1 G0 G u xs) {n : Nat} (hn : n ≤ lenS u) : Own n1 G0 G (trimS u n) (xs.take (n * n1)) := by
  rcases h with ⟨rfl, rfl⟩ | ⟨b, sp, hb, h⟩
  · have : n = 0 := by simp only [lenS] at hn; omega
    subst this
    exact .inl ⟨rfl, by simp⟩
  · obtain ⟨q, len, cap, cs, e, fr, rfl, hG, k1, k2, k3, k4, k5, k6⟩ := h
    simp only [lenS] at hn
    have m1 : n * n1 ≤ cap * n1 := Nat.mul_le_mul_right _ (by omega)
    have m2 : n * n1 ≤ len * n1 := Nat.mul_le_mul_right _ (by omega)
    refine .inr ⟨b, [], hb, q, n, n, cs, e, fr, rfl, hG, Nat.le_refl _, by omega, by omega, by omega, ?_, by rw [List.length_take]; omega⟩
    have : (cs.extract q (q + n * n1)).toList = ((cs.extract q (q + cap * n1)).toList).take (n * n1) := by
      simp only [Array.toList_extract, List.extract_eq_take_drop, List.take_take]
      congr 1; omega
    rw [this, k5, List.append_nil, List.take_append_of_le_length (by omega)]
end
/-- Two boxes or one, by their blocks. -/
abbrev pt (b : Nat) : Value := .pointer (some ⟨b, 0, none⟩)
/-- Numbers with a mark in the room behind them. -/
def LentN (k : IntKind) (m : Nat) (G0 G : GH) (u : Value) (xs : List Nat) : Prop := ∃ b sp, G0 b = none ∧ OwnB 1 G b u (xs.map (iv k)) (iv k m :: sp)
theorem LentN.le {k : IntKind} {m : Nat} {G0 G G' : GH} {u : Value} {bs : List Nat} (h : LentN k m G0 G u bs) (hl : G.le G') : LentN k m G0 G' u bs :=
  let ⟨b, sp, h0, h⟩ := h; ⟨b, sp, h0, h.le fun o => hl b o⟩
theorem LentN.nu {k : IntKind} {m : Nat} {G0 G : GH} {u : Value} {bs : List Nat} (h : LentN k m G0 G u bs) : Nu k G u bs := let ⟨_, _, _, h⟩ := h; h.sl
section
variable {P : Program} {E : Env} {K : St → Prop} {r : List Stp} {dd : Option Nat} {L : SL} {A : AL} {G : GH}
/-- The index into what is made: a place. -/
theorem o_idxW {d : Nat} {x y : Operand} {b q n : Nat} {k' : IntKind} {i : Nat} (hx : evo L x = some (.slice (some ⟨b, q, none⟩) n n)) (hy : evo L y = some (.int k' i)) (hi : i < n) (h : vops P E r K (S (.set d (.pointer (some ⟨b, q + i, none⟩)) L) A G)) : vops P E (⟨none, dd, .pure d (.iptrS 1) [x, y]⟩ :: r) K (S L A G) := by
  refine o_pure (vs := [.slice (some ⟨b, q, none⟩) n n, .int k' i]) (by simp only [evs, hx, hy]) ?_ h
  simp only [pureV]
  rw [if_pos ⟨by omega, by omega⟩]
  simp [Addr.add]
/-- A store into what is made. -/
theorem o_hstoreW {x z : Operand} {b q i v : Nat} {k : IntKind} {cs : Array Value} {e : TypeId} {fr : Nat × Nat} {xs : List Nat} (hx : evo L x = some (.pointer (some ⟨b, q + i, none⟩))) (hw : Win k G b q cs e fr xs) (hi : i < xs.length) (hz : evo L z = some (iv k v))
    (h : ∀ cs' G', G' = G.put b (.cells cs' e fr) → Upd cs cs' q xs.length → Win k G' b q cs' e fr (xs.set i v) → vops P E r K (S L A G')) : vops P E (⟨none, dd, .hstore 1 x z⟩ :: r) K (S L A G) := by
  have hs := hw.hs; have hf := hw.hf
  exact o_hstore (vs := [iv k v]) hx hw.hG hz rfl ⟨rfl, by omega, rfl, by omega⟩ (h _ _ rfl (Upd.wr1 cs _ hi hw.hs) (hw.set hi v))
theorem o_mkW (k : IntKind) (n : Nat) {d bytes : Nat} {e : TypeId} {k1 k2 : IntKind} {x y : Operand} {i j : Int} {z : Array Value} (hx : evo L x = some (.int k1 i)) (hy : evo L y = some (.int k2 j)) (hz : z = #[iv k 0]) (hi : i = n) (hj : j = n) (hn : n * bytes ≤ 140737488355328 ∧ n ≤ 9223372036854775807)
    (h : ∀ b cs G', G b = none → G.le G' → G' = G.put b (.cells cs e) → Win k G' b 0 cs e (0, 0) (List.replicate n 0) → vops P E r K (S (.set d (.slice (some ⟨b, 0, none⟩) n n) L) A G')) : vops P E (⟨none, dd, .mslice d e 1 bytes z x y⟩ :: r) K (S L A G) := by
  subst hz hi hj
  exact o_mslice hx hy ⟨by omega, Int.le_refl _, by omega, by omega⟩ fun b hb => h b _ _ hb (GH.le_put _ hb) rfl (Win.make k n hn.2 G b e)
theorem o_copyW {d : Nat} {x y : Operand} {b q n : Nat} {v : Value} {k : IntKind} {cs : Array Value} {e : TypeId} {fr : Nat × Nat} {xs ys : List Nat} (hx : evo L x = some (.slice (some ⟨b, q, none⟩) n n)) (hy : evo L y = some v) (hw : Win k G b q cs e fr xs) (hn : n = xs.length) (hv : Nu k G v ys) (hl : ys.length ≤ xs.length)
    (h : ∀ cs' G', G' = G.put b (.cells cs' e fr) → Upd cs cs' q xs.length → Win k G' b q cs' e fr (ys ++ xs.drop ys.length) → vops P E r K (S (.set d (.int .i64 ys.length) L) A G')) : vops P E (⟨none, dd, .copy d 1 x y⟩ :: r) K (S L A G) := by
  have e1 := Nu.len hv
  have hs := hw.hs; have hf := hw.hf; have hm := hw.hm
  have ll : (ys ++ xs.drop ys.length).length = xs.length := by rw [List.length_append, List.length_drop]; omega
  refine o_copy hx hy hv (nu_cells k ys) (by omega) (by decide) hw.hG (by omega) (by omega) ?_
  rw [e1]
  refine h _ _ rfl ⟨wr_size _ _ _, fun j hj => ?_⟩ ⟨GH.put_same _ _ _, by rw [wr_size, ll]; exact hs, by rw [ll]; exact hf, by rw [ll]; exact hm, fun j hj => ?_⟩
  · rw [wr_get _ _ _ _ (by simp; omega)]
    simp only [List.length_map]
    split
    · rfl
    · rw [if_neg (by omega)]
  · rw [ll] at hj
    rw [wr_get _ _ _ _ (by simp; omega)]
    simp only [List.length_map]
    rw [if_neg (by omega)]
    by_cases h1 : j < ys.length
    · rw [if_pos (by omega), show q + j - q = j by omega, nu_get ys h1, getD_appL _ _ h1]
    · rw [if_neg (by omega), hw.hx j hj, getD_appR _ _ (by omega), getD_drop]
      congr 3; omega
/-- A box is written. -/
theorem o_boxst {x z : Operand} {b : Nat} {w v : Value} {e : TypeId} (hx : evo L x = some (.pointer (some ⟨b, 0, none⟩))) (hG : G b = some (.cells #[w] e)) (hz : evo L z = some v) (hv : v.oneCell' = true) (h : ∀ G', G' = G.put b (.cells #[v] e) → vops P E r K (S L A G')) : vops P E (⟨none, dd, .hstore 1 x z⟩ :: r) K (S L A G) :=
  o_hstore (vs := [v]) hx hG hz (cells_one hv) ⟨rfl, by simp, by simp [cells1, hv], .inl (by simp)⟩ (h _ rfl)
theorem s_lenN {d : Nat} {x : Operand} {u : Value} {k : IntKind} {xs : List Nat} (h : vops P E r K (S (.set d (.int .i64 xs.length) L) A G)) (hx : evo L x = some u := by with_unfolding_all rfl) (hb : Nu k G u xs := by (first | assumption | exact Own.sl (by assumption) | exact Sl.le (by assumption) (by first | assumption | exact GH.le_refl _ | ((repeat (first | exact GH.le_refl _ | assumption | refine GH.le_trans ?_ (by assumption))); first | done | fail)) | exact Sl.le (Own.sl (by assumption)) (by first | assumption | exact GH.le_refl _ | ((repeat (first | exact GH.le_refl _ | assumption | refine GH.le_trans ?_ (by assumption))); first | done | fail)))) : vops P E (⟨none, dd, .pure d .lenL [x]⟩ :: r) K (S L A G) := o_lenN hx hb h
theorem s_idxN {d : Nat} {x y : Operand} {u : Value} {k k' : IntKind} {j : Int} {xs : List Nat} (h : ∀ p, PtR G p 1 false (iv k (xs.getD j.toNat 0)) → vops P E r K (S (.set d p L) A G)) (hx : evo L x = some u := by with_unfolding_all rfl) (hb : Nu k G u xs := by (first | assumption | exact Own.sl (by assumption) | exact Sl.le (by assumption) (by first | assumption | exact GH.le_refl _ | ((repeat (first | exact GH.le_refl _ | assumption | refine GH.le_trans ?_ (by assumption))); first | done | fail)) | exact Sl.le (Own.sl (by assumption)) (by first | assumption | exact GH.le_refl _ | ((repeat (first | exact GH.le_refl _ | assumption | refine GH.le_trans ?_ (by assumption))); first | done | fail)))) (hy : evo L y = some (.int k' j) := by with_unfolding_all rfl) (h0 : 0 ≤ j := by omega) (h1 : j < xs.length := by omega) : vops P E (⟨none, dd, .pure d (.iptrS 1) [x, y]⟩ :: r) K (S L A G) := o_idxN hx hb hy h0 h1 h
end
def sndN : Nat → PC → PC
  | 0, p => p
  | n + 1, .seq _ b => sndN n b
  | _, p => p
/-- Two boxes, one behind the other. -/
theorem boxes {G : GH} {b1 b2 : Nat} {ua : Value} (ub : Value) {e : TypeId} (h1 : G b1 = none) (h2 : (G.put b1 (.cells #[ua] e)) b2 = none) : G.le ((G.put b1 (.cells #[ua] e)).put b2 (.cells #[ub] e)) ∧ G b2 = none ∧ b1 ≠ b2 ∧ ((G.put b1 (.cells #[ua] e)).put b2 (.cells #[ub] e)) b1 = some (.cells #[ua] e) ∧ ((G.put b1 (.cells #[ua] e)).put b2 (.cells #[ub] e)) b2 = some (.cells #[ub] e) := by
  have hne : b1 ≠ b2 := fun e => by subst e; rw [GH.put_same] at h2; cases h2
  have h3 : G b2 = none := by rwa [GH.put_ne _ _ (Ne.symm hne)] at h2
  exact ⟨GH.le_put_of _ (GH.le_put _ h1) h3, h3, hne, by rw [GH.put_ne _ _ hne, GH.put_same], GH.put_same _ _ _⟩
theorem bx_ptr {G : GH} {b : Nat} {w : Value} {e : TypeId} (h : G b = some (.cells #[w] e)) : PtR G (pt b) 1 false w := ⟨_, _, _, _, _, rfl, h, rfl⟩
end Go.Proofs.YtfacphjjkanajaaDoor.V
