/- The document's constants, and the program's. -/
import Derived.Test.YtdeihgcgglhhcaaPaZKKKR
import Derived.Test.YtdeihgcgglhhcaaPaZVHVL
section
set_option linter.unusedSimpArgs false
set_option linter.unusedVariables false
set_option maxRecDepth 20000
-- @nums
-- @retp
-- @extra s_eqP s_eqD s_idxA4 s_naddc s_nadd s_nsub s_nsubL s_nmulL s_wshr s_tou8
-- @pre g_lload s_lloadPI s_lloadPX s_lloadPY s_lloadPP s_lloadK s_lloadD s_lloadV s_lloadVc s_lloadW
-- @pre g_lstore s_lstoreP s_lstoreK s_lstoreD s_lstoreV s_lstoreVc s_lstoreW
-- @pre g_lbox s_lboxP s_lboxD s_lboxW
-- @pre g_build s_bp3 s_bp2 s_bp1 s_bp0
namespace Go.Proofs.Ytdeihgcgglhhcaa.V
open Go.RowKit Go.ChangeShapes Go.WideShapes
def gx256 : Nat := 48439561293906451759052585252797914202762949526041747995844080717082404635286
def gy256 : Nat := 36134250956749795798585127919587881956611106672985015071877198253568414405109
section
variable {P : Program} {E : Env} {K : St → Prop} {r : List Stp} {dd : Option Nat} {L : SL} {A : AL} {G : GH}
theorem s_idxA4 {d len i : Nat} {x y : Operand} {k : IntKind} {ws : List Nat} (h : vops P E r K (S (.set d (iv .u64 (ws.getD i 0)) L) A G)) (hx : evo L x = some (.agg (na ws)) := by with_unfolding_all rfl) (hy : evo L y = some (.int k i) := by with_unfolding_all rfl) (hi : i < len := by omega) (hl : i < ws.length := by omega) : vops P E (⟨none, dd, .pure d (.idxA false len 1) [x, y]⟩ :: r) K (S L A G) := by
  refine o_pure (vs := [.agg (na ws), .int k i]) (by simp only [evs, hx, hy]) ?_ h
  show (if 0 ≤ (i : Int) ∧ (i : Int) < len then takeV false (na ws) (Int.toNat i * 1) 1 else none) = _
  rw [if_pos ⟨by omega, by omega⟩, x_take1, Int.toNat_natCast, Nat.mul_one, List.getElem?_toArray, nu_get ws hl]
theorem s_nmulL {d : Nat} {b : Operand} {y n : Nat} (h : vops P E r K (S (.set d (iv .i64 ((OfNat.ofNat n : Nat) * y)) L) A G)) (hx : evo L b = some (.int .i64 y) := by with_unfolding_all rfl) (h1 : (OfNat.ofNat n : Nat) * y < 9223372036854775808 := by omega) : vops P E (⟨none, dd, .pure d (.bin .mul) [.const (.int .i64 (OfNat.ofNat n)), b]⟩ :: r) K (S L A G) := o_pure (evsL (c := iv .i64 n) hx) (nmul n y h1) h
end
/-- The modulus' bytes, filled from the back. -/
def fb (m : Nat) : List UInt8 := List.replicate (32 - m) 0 ++ (beN 32 p256).drop (32 - m)
theorem fb_len {m : Nat} (h : m ≤ 32) : (fb m).length = 32 := by
  unfold fb
  rw [List.length_append, List.length_replicate, List.length_drop, beN_len]
  omega
theorem fb_step {i k : Nat} (hi : i < 4) (hk : k < 8) : (fb (8 * i + k)).set (31 - 8 * i - k) (UInt8.ofNat ((fd 18446744073709551616 4 p256).getD i 0 / 2 ^ (8 * k))) = fb (8 * i + k + 1) := by
  have : ∀ i, i < 4 → ∀ k, k < 8 → (fb (8 * i + k)).set (31 - 8 * i - k) (UInt8.ofNat ((fd 18446744073709551616 4 p256).getD i 0 / 2 ^ (8 * k))) = fb (8 * i + k + 1) := by decide +kernel
  exact this i hi k hk
theorem fieldF (G : GH) : HC Try.prog 28 #[] G fun v G' => v = dK (beN 32 p256) ∧ G' = G := by
  have l3 := fd_len 18446744073709551616 4 p256
  refine HC.start comp28 rfl ?_; unfold pc28
  (repeat' (first | (with_reducible refine i_ops ?_; first | (refine g_mv ?_; refine s_mv ?_) | refine o_nil ?_ | (refine g_lalloc ?_; refine s_lalloc ?_) | refine o_callp qrf (by exact modulusK _) ?_) | (with_reducible refine i_vc ?_; first | refine v_seq ?_ | refine v_ops ?_ | refine v_block ?_) | (with_reducible refine n_then ?_)))
  refine v_loopX (α := Nat) (fun i => i ≤ 4) (fun i => [(0, .int .u64 0), (1, .int .u64 0), (5, nv p256), (6, iv .i64 i)]) (fun i => [(0, bca z0), (1, bca (fb (8 * i)))]) (fun _ => G) (fun i => 4 - i) 0 (Nat.zero_le _) qhs qhl rfl ?_
  rintro i s ll k1
  dsimp only [SL.sets, AL.sets]
  have g := fd_lt (B := 18446744073709551616) (by decide) 4 p256 i
  by_cases hi4 : i < 4
  · (repeat' (first | (with_reducible refine i_ops ?_; first | (refine g_mv ?_; refine s_mv ?_) | refine o_nil ?_ | (refine g_pure ?_; first | refine s_idxA4 ?_ | refine s_pure ?_)) | (with_reducible refine i_vc ?_; first | refine v_seq ?_ | refine v_ops ?_ | (refine g_cond ?_; first | refine s_cond_t ?_ | refine s_cond_f ?_) | refine v_block ?_ | refine v_skip ?_ | refine v_exit ?_) | (with_reducible first | refine n_then ?_ | refine e_then ?_ | refine e_block_eq qrf ?_) | ((with_reducible refine s_cond_c ?_ ?_) <;> intro hb <;> rw [hb] <;> (try simp only [decide_eq_true_eq, decide_eq_false_iff_not, beq_iff_eq, bne_iff_ne, beq_eq_false_iff_ne, bne_eq_false_iff_eq, ne_eq, Int.not_lt, Int.not_le, gt_iff_lt, ge_iff_le, Bool.not_eq_true', Bool.not_eq_false'] at hb))))
    · refine v_loopX (α := Nat) (fun k => k ≤ 8) (fun k => [(0, .int .u64 0), (1, .int .u64 0), (2, iv .i64 i), (3, iv .u64 ((fd 18446744073709551616 4 p256).getD i 0)), (5, nv p256), (6, iv .i64 i), (10, iv .i64 k)]) (fun k => [(0, bca z0), (1, bca (fb (8 * i + k)))]) (fun _ => G) (fun k => 8 - k) 0 (Nat.zero_le _) qhs qhl rfl ?_
      rintro k s ll m1
      dsimp only [SL.sets, AL.sets]
      have hf := fb_len (m := 8 * i + k) (by omega)
      (repeat' (first | (with_reducible refine i_ops ?_; first | (refine g_mv ?_; refine s_mv ?_) | refine o_nil ?_ | (refine g_pure ?_; first | refine s_naddc ?_ | refine s_nsub ?_ | refine s_nsubL ?_ | refine s_nmulL ?_ | refine s_wshr ?_ | refine s_tou8 ?_ | refine s_pure ?_) | (refine g_lstore ?_; refine s_lstoreK ?_) | (refine g_lindex ?_; refine s_lindex ?_)) | (with_reducible refine i_vc ?_; first | refine v_seq ?_ | refine v_ops ?_ | (refine g_cond ?_; first | refine s_cond_t ?_ | refine s_cond_f ?_) | refine v_block ?_ | refine v_skip ?_ | refine v_exit ?_) | (with_reducible first | refine n_then ?_ | refine e_then ?_ | refine n_block ?_ | refine e_block_eq qrf ?_) | ((with_reducible refine s_cond_c ?_ ?_) <;> intro hb <;> rw [hb] <;> (try simp only [decide_eq_true_eq, decide_eq_false_iff_not, beq_iff_eq, bne_iff_ne, beq_eq_false_iff_ne, bne_eq_false_iff_eq, ne_eq, Int.not_lt, Int.not_le, gt_iff_lt, ge_iff_le, Bool.not_eq_true', Bool.not_eq_false'] at hb))))
      · rw [fb_step hi4 (by omega)]
        exact ⟨8 - (k + 1), by omega, k + 1, rfl, by omega, qhs, qhl, rfl⟩
      · have hk : k = 8 := by omega
        subst hk
        exact ⟨4 - (i + 1), by omega, i + 1, rfl, by omega, qhs, qhl, rfl⟩
    · omega
  · have hi : i = 4 := by omega
    subst hi
    have e : fb (8 * 4) = beN 32 p256 := by decide +kernel
    rw [e]
    (repeat' (first | (with_reducible refine i_ops ?_; first | refine o_nil ?_ | (refine g_pure ?_; refine s_pure ?_) | (refine g_lload ?_; refine s_lloadD ?_) | (refine g_lstore ?_; refine s_lstoreD ?_)) | (with_reducible refine i_vc ?_; first | refine v_seq ?_ | refine v_ops ?_ | (refine g_cond ?_; refine s_cond_f ?_) | refine v_exit ?_ | refine v_ret ?_) | (with_reducible first | refine n_then ?_ | refine e_then ?_ | refine e_block_eq qrf ?_) | ((with_reducible refine s_ret ?_); try simp only [x_tup0, x_tup1, x_tup2, x_tup3, x_tup4, x_tup5, and_true, true_and])))
    rw [bca_ext (beN_len _ _)]
theorem orderF (G : GH) : HC Try.prog 26 #[] G fun v G' => v = dK (beN 32 n256) ∧ G' = G := by
  refine HC.start comp26 rfl ?_; unfold pc26
  (repeat' (first | (with_reducible refine i_ops ?_; first | refine o_nil ?_ | (refine g_build ?_; refine s_build ?_) | (refine g_lstore ?_; refine s_lstoreA ?_) | (refine g_lalloc ?_; refine s_lalloc ?_)) | (with_reducible refine i_vc ?_; first | refine v_seq ?_ | refine v_ops ?_ | refine v_ret ?_) | (with_reducible refine n_then ?_) | ((with_reducible refine s_ret ?_); try simp only [x_tup0, x_tup1, x_tup2, x_tup3, x_tup4, x_tup5, and_true, true_and])))
  kernel_rfl
theorem baseF (G : GH) : HC Try.prog 20 #[] G fun v G' => v = pnt (beN 32 gx256) (beN 32 gy256) false ∧ G' = G := by
  refine HC.start comp20 rfl ?_; unfold pc20
  (repeat' (first | (with_reducible refine i_ops ?_; first | refine o_nil ?_ | (refine g_build ?_; refine s_build ?_) | (refine g_lalloc ?_; refine s_lalloc ?_)) | (with_reducible refine i_vc ?_; first | refine v_seq ?_ | refine v_ops ?_) | (with_reducible refine n_then ?_)))
  refine s_bp2 (x := beN 32 gx256) (y := beN 32 gy256) ?_ (by kernel_rfl)
  have l1 := beN_len 32 gx256
  have l2 := beN_len 32 gy256
  (repeat' (first | (with_reducible refine i_ops ?_; first | refine o_nil ?_ | (refine g_lstore ?_; refine s_lstoreP ?_)) | (with_reducible refine i_vc ?_; refine v_ret ?_) | (with_reducible refine n_then ?_) | ((with_reducible refine s_retP1 ?_); try simp only [x_tup0, x_tup1, x_tup2, x_tup3, x_tup4, x_tup5, and_true, true_and])))
theorem baseR (G : GH) : HC Try.prog 32 #[] G fun v G' => v = pnt (beN 32 gx256) (beN 32 gy256) false ∧ G' = G := by
  have c1 : ∀ G, HC Try.prog 29 #[.agg #[.int .u64 3633889942, .int .u64 4104206661, .int .u64 770388896, .int .u64 1996717441, .int .u64 1671708914, .int .u64 4173129445, .int .u64 3777774151, .int .u64 1796723186]] G fun v G' => v = dK (beN 32 gx256) ∧ G' = G := toR gx256
  have c2 : ∀ G, HC Try.prog 29 #[.agg #[.int .u64 935285237, .int .u64 3417718888, .int .u64 1798397646, .int .u64 734933847, .int .u64 2081398294, .int .u64 2397563722, .int .u64 4263149467, .int .u64 1340293858]] G fun v G' => v = dK (beN 32 gy256) ∧ G' = G := toR gy256
  have l1 := beN_len 32 gx256
  have l2 := beN_len 32 gy256
  refine HC.start comp32 rfl ?_; unfold pc32
  (repeat' (first | (with_reducible refine i_ops ?_; first | refine o_nil ?_ | (refine g_build ?_; first | refine s_bp2 ?_ | refine s_build ?_) | (refine g_lload ?_; refine s_lload ?_) | (refine g_lstore ?_; first | refine s_lstoreP ?_ | refine s_lstoreA ?_) | (refine g_lalloc ?_; refine s_lalloc ?_)) | (with_reducible refine i_vc ?_; first | refine v_seq ?_ | refine v_ops ?_ | refine v_ret ?_ | refine v_draw0 ?_) | (with_reducible refine i_plan ?_; first | refine p_done ?_ | refine s_pre ?_ | refine p_callp qrf (by first | exact c1 _ | exact c2 _) qle ?_ p_no | refine s_alt ?_) | (with_reducible first | refine n_then ?_ | (refine g_stand ?_; refine s_standL ?_)) | ((with_reducible refine s_retP1 ?_); try simp only [x_tup0, x_tup1, x_tup2, x_tup3, x_tup4, x_tup5, and_true, true_and])))
theorem ownR (x y : List UInt8) (i : Bool) (G : GH) (hx : x.length = 32) (hy : y.length = 32) : HC Try.prog 27 #[pnt x y i] G fun v G' => v = pnt x y i ∧ G' = G := by
  refine HC.start comp27 rfl ?_; unfold pc27
  (repeat' (first | (with_reducible refine i_ops ?_; first | refine o_nil ?_ | (refine g_build ?_; refine s_bp3 ?_) | (refine g_lfield ?_; refine s_lfield ?_) | (refine g_lload ?_; first | refine s_lloadPI ?_ | refine s_lloadPX ?_ | refine s_lloadPY ?_) | (refine g_lstore ?_; refine s_lstoreP ?_) | (refine g_lalloc ?_; refine s_lalloc ?_) | (refine g_lbox ?_; refine s_lboxP ?_)) | (with_reducible refine i_vc ?_; first | refine v_seq ?_ | refine v_ops ?_ | refine v_ret ?_) | (with_reducible refine n_then ?_) | ((with_reducible refine s_retP1 ?_); try simp only [x_tup0, x_tup1, x_tup2, x_tup3, x_tup4, x_tup5, and_true, true_and])))
theorem theirsR (x y : List UInt8) (i : Bool) (G : GH) (hx : x.length = 32) (hy : y.length = 32) : HC Try.prog 16 #[pnt x y i] G fun v G' => v = pnt x y i ∧ G' = G := by
  refine HC.start comp16 rfl ?_; unfold pc16
  (repeat' (first | (with_reducible refine i_ops ?_; first | refine o_nil ?_ | (refine g_build ?_; refine s_bp3 ?_) | (refine g_lfield ?_; refine s_lfield ?_) | (refine g_lload ?_; first | refine s_lloadPI ?_ | refine s_lloadPX ?_ | refine s_lloadPY ?_) | (refine g_lstore ?_; refine s_lstoreP ?_) | (refine g_lalloc ?_; refine s_lalloc ?_) | (refine g_lbox ?_; refine s_lboxP ?_)) | (with_reducible refine i_vc ?_; first | refine v_seq ?_ | refine v_ops ?_ | refine v_ret ?_) | (with_reducible refine n_then ?_) | ((with_reducible refine s_retP1 ?_); try simp only [x_tup0, x_tup1, x_tup2, x_tup3, x_tup4, x_tup5, and_true, true_and])))
theorem sameR (x y x' y' : List UInt8) (i i' : Bool) (G : GH) (hx : x.length = 32) (hy : y.length = 32) (hx' : x'.length = 32) (hy' : y'.length = 32) : HC Try.prog 11 #[pnt x y i, pnt x' y' i'] G fun v G' => v = .bool (decide (x = x' ∧ y = y' ∧ i = i')) ∧ G' = G := by
  refine HC.start comp11 rfl ?_; unfold pc11
  (repeat' (first | (with_reducible refine i_ops ?_; first | (refine g_mv ?_; refine s_mv ?_) | refine o_nil ?_ | (refine g_pure ?_; refine s_eqP ?_) | (refine g_lload ?_; refine s_lloadPP ?_) | (refine g_lbox ?_; refine s_lboxP ?_)) | (with_reducible refine i_vc ?_; first | refine v_seq ?_ | refine v_ops ?_ | refine v_ret ?_ | refine v_draw0 ?_) | (with_reducible refine i_plan ?_; first | refine p_done ?_ | refine s_pre ?_ | refine p_callp qrf (by exact ownR _ _ _ _ hx' hy') qle ?_ p_no) | (with_reducible refine n_then ?_) | ((with_reducible refine s_ret ?_); try simp only [x_tup0, x_tup1, x_tup2, x_tup3, x_tup4, x_tup5, and_true, true_and])))
theorem namesR (G : GH) : HC Try.prog 12 #[] G fun v G' => v = .bool true ∧ G' = G := by
  have c1 := toR p256
  have c2 := toR n256
  have c3 := sameR (beN 32 gx256) (beN 32 gy256) (beN 32 gx256) (beN 32 gy256) false false G (beN_len _ _) (beN_len _ _) (beN_len _ _) (beN_len _ _)
  refine HC.start comp12 rfl ?_; unfold pc12
  (repeat' (first | (with_reducible refine i_ops ?_; first | (refine g_mv ?_; refine s_mv ?_) | refine o_nil ?_ | (refine g_some ?_; first | refine s_g_t ?_ | refine s_g_f ?_) | (refine g_pick ?_; first | refine s_pick_t ?_ | refine s_pick_f ?_) | (refine g_pure ?_; refine s_eqD ?_) | refine o_callp qrf (by first | exact fieldF _ | exact pR _ | exact c1 _ | exact orderF _ | exact nR _ | exact c2 _ | exact baseF _ | exact baseR _ | exact c3) ?_) | (with_reducible refine i_vc ?_; first | refine v_seq ?_ | refine v_ops ?_ | refine v_ret ?_) | (with_reducible refine n_then ?_) | ((with_reducible refine s_g_c ?_ ?_) <;> intro hb <;> rw [hb] <;> (try simp only [decide_eq_true_eq, decide_eq_false_iff_not, beq_iff_eq, bne_iff_ne, beq_eq_false_iff_ne, bne_eq_false_iff_eq, ne_eq, Int.not_lt, Int.not_le, gt_iff_lt, ge_iff_le, Bool.not_eq_true', Bool.not_eq_false'] at hb)) | ((with_reducible refine s_ret ?_); try simp only [x_tup0, x_tup1, x_tup2, x_tup3, x_tup4, x_tup5, and_true, true_and])))
  · rfl
  · exact absurd trivial hb
  · exact absurd trivial hb
end Go.Proofs.Ytdeihgcgglhhcaa.V
end
section
/- Points read. -/
set_option linter.unusedSimpArgs false
set_option linter.unusedVariables false
set_option maxRecDepth 20000
-- @retp
-- @s2a
-- @extra s_eqP s_eqD s_naddc s_nadd s_naddL
-- @pre g_lload s_lloadPI s_lloadPX s_lloadPY s_lloadPP
-- @pre g_lstore s_lstoreP s_lstorePX s_lstorePY
-- @pre g_lbox s_lboxP
-- @pre g_build s_bp3 s_bp2 s_bp1 s_bp0
namespace Go.Proofs.Ytdeihgcgglhhcaa.V
open Go.RowKit Go.ChangeShapes Go.WideShapes
theorem By.arr {G : GH} {u : Value} {bs : List UInt8} {n : Nat} (h : By G u bs) (hn : n ≠ 0) (hl : n ≤ bs.length) : ∃ p, pureV (.s2a n) [u] = some p ∧ PtR G p n true (dK (bs.take n)) := by
  obtain ⟨a, cap, e, h1, h2, h3, h4⟩ := Sl.slice h
  have hlen : lenS u = bs.length := by simpa using h3.symm
  rw [hlen] at e h1 h4
  obtain ⟨b, q, rfl⟩ := h4 (by omega)
  have hr := h.rd
  rw [e] at hr
  rcases rd_some hr with ⟨h5, _⟩ | ⟨_, cs, t, fr, hG, hs, hx⟩
  · omega
  refine ⟨.pointer (some ⟨b, q, none⟩), ?_, b, q, cs, t, fr, rfl, hG, ?_⟩
  · rw [e]
    show (if n ≤ bs.length then some (Value.pointer (some ⟨b, q, none⟩)) else none) = _
    rw [if_pos hl]
  · show (if q + n ≤ cs.size then some (Value.agg (cs.extract q (q + n))) else none) = _
    rw [if_pos (by omega)]
    congr 2
    apply Array.ext'
    show _ = (bs.take n).map bv
    rw [List.map_take, hx]
    simp only [Array.toList_extract, List.extract_eq_take_drop, Nat.mul_one, List.take_take]
    congr 1
    omega
section
variable {P : Program} {E : Env} {K : St → Prop} {r : List Stp} {dd : Option Nat} {L : SL} {A : AL} {G : GH}
theorem s_naddL {d : Nat} {b : Operand} {y n : Nat} (h : vops P E r K (S (.set d (iv .i64 ((OfNat.ofNat n : Nat) + y)) L) A G)) (hx : evo L b = some (.int .i64 y) := by with_unfolding_all rfl) (h1 : (OfNat.ofNat n : Nat) + y < 9223372036854775808 := by omega) : vops P E (⟨none, dd, .pure d (.bin .add) [.const (.int .i64 (OfNat.ofNat n)), b]⟩ :: r) K (S L A G) := o_pure (evsL (c := iv .i64 n) hx) (nadd n y h1) h
theorem pcells_x {x y : List UInt8} {f : Bool} {i : Nat} (h : i < x.length) (v : UInt8) : wr (pcells x y f) i [bv v] = pcells (x.set i v) y f := by
  show (pcells x y f).setIfInBounds i (bv v) = _
  unfold pcells
  rw [List.setIfInBounds_toArray, List.set_append_left _ _ (by simpa using h), List.map_set]
theorem pcells_y {x y : List UInt8} {f : Bool} {i : Nat} (hx : x.length = 32) (h : i < y.length) (v : UInt8) : wr (pcells x y f) (32 + i) [bv v] = pcells x (y.set i v) f := by
  show (pcells x y f).setIfInBounds (32 + i) (bv v) = _
  unfold pcells
  rw [List.setIfInBounds_toArray, List.set_append_right _ _ (by simp [hx]), List.length_map, hx, show 32 + i - 32 = i by omega, List.set_append_left _ _ (by simpa using h), List.map_set]
theorem s_lstorePX {k s0 i : Nat} {o : Operand} {v : UInt8} {x y : List UInt8} {f : Bool} (h : vops P E r K (S L (.set k (pcells (x.set i v) y f) A) G)) (hp : L.get s0 = some (iv .u64 i) := by with_unfolding_all rfl) (hc : A.get k = some (pcells x y f) := by with_unfolding_all rfl) (hx : evo L o = some (bv v) := by with_unfolding_all rfl) (hl : x.length = 32 ∧ y.length = 32 := by constructor <;> assumption) (hi : i < 32 := by omega) : vops P E (⟨none, dd, .lstore k s0 1 o⟩ :: r) K (S L A G) := by
  refine o_lstore (vs := [bv v]) hp hc hx rfl ⟨rfl, ?_, rfl⟩ ?_ h
  · rw [pcells_size hl.1 hl.2, Int.toNat_natCast]; omega
  · rw [Int.toNat_natCast, pcells_x (by omega)]
theorem s_lstorePY {k s0 i : Nat} {o : Operand} {v : UInt8} {x y : List UInt8} {f : Bool} (h : vops P E r K (S L (.set k (pcells x (y.set i v) f) A) G)) (hp : L.get s0 = some (.int .u64 (32 + (i : Int))) := by with_unfolding_all rfl) (hc : A.get k = some (pcells x y f) := by with_unfolding_all rfl) (hx : evo L o = some (bv v) := by with_unfolding_all rfl) (hl : x.length = 32 ∧ y.length = 32 := by (constructor <;> first | assumption | (simp only [List.length_set]; assumption))) (hi : i < 32 := by omega) : vops P E (⟨none, dd, .lstore k s0 1 o⟩ :: r) K (S L A G) := by
  have e : Int.toNat (32 + (i : Int)) = 32 + i := by omega
  refine o_lstore (vs := [bv v]) hp hc hx rfl ⟨rfl, ?_, rfl⟩ ?_ h
  · rw [pcells_size hl.1 hl.2, e]; omega
  · rw [e, pcells_y hl.1 (by omega)]
end
end Go.Proofs.Ytdeihgcgglhhcaa.V
end
section
/- Calls of function values. -/
set_option linter.unusedSimpArgs false
set_option linter.unusedVariables false
namespace Go.Proofs.Ytdeihgcgglhhcaa.V
open Go.RowKit
section
variable {P : Program} {E : Env} {K : St → Prop} {r : List Stp} {dd : Option Nat} {L : SL} {A : AL} {G : GH}
theorem o_callv {d : Nat} {f : FuncId} {x : Operand} {xs : List Operand} {vs : List Value} {first captured args : Array Value} {R : Value → GH → Prop} (hf : evo L x = some (.func (.func f) first captured)) (hx : evs L xs = some vs) (hp : callable P f = true) (ha : first ++ vs.toArray ++ captured = args) (hc : HC P f args G R) (h : ∀ v G', R v G' → vops P E r K (S (.set d v L) A G')) : vops P E (⟨none, dd, .callv (some d) x xs⟩ :: r) K (S L A G) := by
  subst ha
  refine ⟨f, first, captured, evo_ev hf, hp, ?_⟩
  rw [evs_ev hx]
  exact hc.mono fun v G' hr => h v G' hr
end
end Go.Proofs.Ytdeihgcgglhhcaa.V
end
section
/- A place as a point; points across. -/
set_option linter.unusedSimpArgs false
set_option linter.unusedVariables false
set_option maxRecDepth 20000
-- @retp
-- @extra s_eqP s_eqF s_eqM s_eqD s_naddc s_nadd s_naddL s_nilck s_fptr0
-- @pre g_lload s_lloadL s_lloadLX s_lloadLY s_lloadLZ s_lloadF s_lloadM s_lloadPI s_lloadPX s_lloadPY s_lloadPP
-- @pre g_lstore s_lstoreL s_lstoreLY s_lstoreF s_lstoreM s_lstoreP s_lstorePYw
-- @pre g_lbox s_lboxL s_lboxF s_lboxP
-- @pre g_build s_bf0 s_bl3 s_bl1 s_bl0 s_bp3 s_bp2 s_bp1 s_bp0
namespace Go.Proofs.Ytdeihgcgglhhcaa.V
open Go.RowKit Go.ChangeShapes Go.WideShapes
theorem take_l {a b c : List Value} (ha : a.length = 4) (hb : b.length = 4) (hc : c.length = 4) : takeV true (a ++ (b ++ c)).toArray 0 4 = some (.agg a.toArray) ∧ takeV true (a ++ (b ++ c)).toArray 4 4 = some (.agg b.toArray) ∧ takeV true (a ++ (b ++ c)).toArray 8 4 = some (.agg c.toArray) := by
  have hs : (a ++ (b ++ c)).toArray.size = 12 := by simp [ha, hb, hc]
  have e1 : List.take 4 a = a := List.take_of_length_le (by omega)
  have e2 : List.take 4 b = b := List.take_of_length_le (by omega)
  have e3 : List.take 4 c = c := List.take_of_length_le (by omega)
  have e4 : List.drop 8 a = [] := List.drop_of_length_le (by omega)
  have e5 : List.drop 4 a = [] := List.drop_of_length_le (by omega)
  refine ⟨?_, ?_, ?_⟩
  · show (if 0 + 4 ≤ (a ++ (b ++ c)).toArray.size then some (Value.agg ((a ++ (b ++ c)).toArray.extract 0 (0 + 4))) else none) = _
    rw [if_pos (by omega)]
    simp [List.extract_eq_take_drop, List.take_append, ha, e1]
  · show (if 4 + 4 ≤ (a ++ (b ++ c)).toArray.size then some (Value.agg ((a ++ (b ++ c)).toArray.extract 4 (4 + 4))) else none) = _
    rw [if_pos (by omega)]
    simp [List.extract_eq_take_drop, List.take_append, List.drop_append, ha, hb, e2, e5]
  · show (if 8 + 4 ≤ (a ++ (b ++ c)).toArray.size then some (Value.agg ((a ++ (b ++ c)).toArray.extract 8 (8 + 4))) else none) = _
    rw [if_pos (by omega)]
    simp [List.extract_eq_take_drop, List.take_append, List.drop_append, ha, hb, e3, e4]
theorem wr_ly {a b c b' : List Value} (ha : a.length = 4) (hb : b.length = 4) (hb' : b'.length = 4) (hc : c.length = 4) : wr (a ++ (b ++ c)).toArray 4 b' = (a ++ (b' ++ c)).toArray := by
  rw [wrV _ _ _ (by simp [ha, hb, hb', hc])]
  have e1 : List.take 4 a = a := List.take_of_length_le (by omega)
  have e2 : List.drop 8 a = [] := List.drop_of_length_le (by omega)
  simp [List.take_append, List.drop_append, ha, hb, hb', e1, e2]
section
variable {P : Program} {E : Env} {K : St → Prop} {r : List Stp} {dd : Option Nat} {L : SL} {A : AL} {G : GH} {X Y Z : Fp}
theorem s_lloadLX {d k s0 : Nat} {cs : Array Value} (h : vops P E r K (S (.set d (fv X) L) A G)) (hp : L.get s0 = some (.int .u64 0) := by with_unfolding_all rfl) (hc : A.get k = some cs ∧ cs = lcells X Y Z := by (refine ⟨by with_unfolding_all rfl, ?_⟩; with_reducible rfl)) : vops P E (⟨none, dd, .lload d k s0 4 true⟩ :: r) K (S L A G) :=
  o_lload hp hc.1 (by rw [hc.2]; exact (take_l (len4 X) (len4 Y) (len4 Z)).1) h
theorem s_lloadLY {d k s0 : Nat} {cs : Array Value} (h : vops P E r K (S (.set d (fv Y) L) A G)) (hp : L.get s0 = some (.int .u64 4) := by with_unfolding_all rfl) (hc : A.get k = some cs ∧ cs = lcells X Y Z := by (refine ⟨by with_unfolding_all rfl, ?_⟩; with_reducible rfl)) : vops P E (⟨none, dd, .lload d k s0 4 true⟩ :: r) K (S L A G) :=
  o_lload hp hc.1 (by rw [hc.2]; exact (take_l (len4 X) (len4 Y) (len4 Z)).2.1) h
theorem s_lloadLZ {d k s0 : Nat} {cs : Array Value} (h : vops P E r K (S (.set d (fv Z) L) A G)) (hp : L.get s0 = some (.int .u64 8) := by with_unfolding_all rfl) (hc : A.get k = some cs ∧ cs = lcells X Y Z := by (refine ⟨by with_unfolding_all rfl, ?_⟩; with_reducible rfl)) : vops P E (⟨none, dd, .lload d k s0 4 true⟩ :: r) K (S L A G) :=
  o_lload hp hc.1 (by rw [hc.2]; exact (take_l (len4 X) (len4 Y) (len4 Z)).2.2) h
theorem s_lboxL {d k : Nat} {o : Operand} {v : Value} {ts : List Nat} (h : vops P E r K (S (.set d (.int .u64 0) (.kill ts L)) (.set k (lcells X Y Z) A) G)) (hx : evo L o = some v ∧ v = plc X Y Z := by (refine ⟨by with_unfolding_all rfl, ?_⟩; with_reducible rfl)) (ho : onceE E.env = true := by with_unfolding_all rfl) (hk : slotsOf E.env k = some ts := by with_unfolding_all rfl) : vops P E (⟨none, dd, .lbox d k o⟩ :: r) K (S L A G) := o_lbox ho hk hx.1 (by rw [hx.2]; rfl) h
theorem s_lstoreLY {k s0 : Nat} {o : Operand} {Y' : Fp} {v : Value} {cs : Array Value} (h : vops P E r K (S L (.set k (lcells X Y' Z) A) G)) (hp : L.get s0 = some (.int .u64 4) := by with_unfolding_all rfl) (hx : evo L o = some v ∧ v = fv Y' := by (refine ⟨by with_unfolding_all rfl, ?_⟩; with_reducible rfl)) (hc : A.get k = some cs ∧ cs = lcells X Y Z := by (refine ⟨by with_unfolding_all rfl, ?_⟩; with_reducible rfl)) : vops P E (⟨none, dd, .lstore k s0 4 o⟩ :: r) K (S L A G) := by
  obtain ⟨hc, rfl⟩ := hc
  obtain ⟨hx, rfl⟩ := hx
  refine o_lstore (vs := (fd 18446744073709551616 4 (mo Y')).map (iv .u64)) hp hc hx rfl ⟨len4 Y', ?_, nu_cells _ _⟩ (wr_ly (len4 X) (len4 Y) (len4 Y') (len4 Z)) h
  rw [lc_size]; decide
theorem s_bf0 {d : Nat} {z : Array Value} (h : vops P E r K (S (.set d (fv 0) L) A G)) (hz : z = #[.int .u64 0, .int .u64 0, .int .u64 0, .int .u64 0] := by with_unfolding_all rfl) : vops P E (⟨none, dd, .pure d (.build z []) []⟩ :: r) K (S L A G) := by
  subst hz
  exact o_pure (vs := []) rfl rfl h
/-- The second row of a point is written. -/
theorem s_lstorePYw {k s0 : Nat} {o : Operand} {x y y' : List UInt8} {f : Bool} (h : vops P E r K (S L (.set k (pcells x y' f) A) G)) (hp : L.get s0 = some (.int .u64 32) := by with_unfolding_all rfl) (hx : evo L o = some (dK y') := by with_unfolding_all rfl) (hc : A.get k = some (pcells x y f) := by with_unfolding_all rfl) (hl : (x.length = 32 ∧ y.length = 32) ∧ y'.length = 32 := by (refine ⟨⟨?_, ?_⟩, ?_⟩ <;> first | assumption | exact beN_len _ _)) : vops P E (⟨none, dd, .lstore k s0 32 o⟩ :: r) K (S L A G) := by
  refine o_lstore (vs := y'.map bv) hp hc hx rfl ⟨by simp [hl.2], ?_, bca_cells _⟩ ?_ h
  · rw [pcells_size hl.1.1 hl.1.2]; decide
  · show wr (pcells x y f) 32 (y'.map bv) = _
    unfold pcells
    rw [wrV _ _ _ (by simp [hl.1.1, hl.1.2, hl.2])]
    have e1 : List.take 32 (x.map bv) = x.map bv := List.take_of_length_le (by simp [hl.1.1])
    have e2 : List.drop 64 (x.map bv) = [] := List.drop_of_length_le (by simp [hl.1.1])
    have e3 : List.drop 32 (y.map bv) = [] := List.drop_of_length_le (by simp [hl.1.2])
    simp [List.take_append, List.drop_append, hl.1.1, hl.1.2, hl.2, e1, e2, e3]
end
theorem app1 (a b : Value) : #[a] ++ [b].toArray ++ #[] = #[a, b] := rfl
/-- A place as a point. -/
def px (X Z : Fp) : List UInt8 := if Z = 0 then z0 else beN 32 (finv Z * X).val
theorem pointF (X Y Z : Fp) (G : GH) : HC Try.prog 36 #[plc X Y Z] G fun v G' => v = pnt (px X Z) (px Y Z) (decide (Z = 0)) ∧ G.le G' := by
  refine HC.start comp36 rfl ?_; unfold pc36
  (repeat' (first | (with_reducible refine i_ops ?_; first | refine o_nil ?_ | (refine g_build ?_; first | refine s_bf0 ?_ | refine s_bp1 ?_) | (refine g_pure ?_; refine s_eqF ?_) | (refine g_lfield ?_; refine s_lfield ?_) | (refine g_lload ?_; refine s_lloadLZ ?_) | (refine g_lstore ?_; refine s_lstoreA ?_) | (refine g_lalloc ?_; refine s_lalloc ?_) | (refine g_lbox ?_; refine s_lboxL ?_) | (refine o_callg qrf (by exact invertF _ _) ?_; intro G' hle)) | (with_reducible refine i_vc ?_; first | refine v_seq ?_ | refine v_ops ?_ | (refine g_cond ?_; first | refine s_cond_t ?_ | refine s_cond_f ?_) | refine v_skip ?_ | refine v_ret ?_) | (with_reducible first | refine n_then ?_ | refine r_then ?_) | ((with_reducible refine s_cond_c ?_ ?_) <;> intro hb <;> rw [hb] <;> (try simp only [decide_eq_true_eq, decide_eq_false_iff_not, beq_iff_eq, bne_iff_ne, beq_eq_false_iff_ne, bne_eq_false_iff_eq, ne_eq, Int.not_lt, Int.not_le, gt_iff_lt, ge_iff_le, Bool.not_eq_true', Bool.not_eq_false'] at hb)) | ((with_reducible refine s_retP1 ?_); try simp only [x_tup0, x_tup1, x_tup2, x_tup3, x_tup4, x_tup5, and_true, true_and])))
  · refine ⟨?_, GH.le_refl _⟩
    unfold px
    rw [if_pos hb, if_pos hb]
  · have l1 := beN_len 32 (finv Z * X).val
    have l2 := beN_len 32 (finv Z * Y).val
    refine o_pure (vs := [fv (finv Z)]) (v := .func (.func 51) #[fv (finv Z)] #[]) qrf rfl ?_
    (repeat' (first | (with_reducible refine i_ops ?_; first | (refine g_mv ?_; refine s_mv ?_) | refine o_nil ?_ | (refine g_lfield ?_; refine s_lfield ?_) | (refine g_lload ?_; first | refine s_lloadLX ?_ | refine s_lloadLY ?_)) | (with_reducible refine i_vc ?_; first | refine v_seq ?_ | refine v_draw0 ?_) | (with_reducible refine i_plan ?_; first | refine s_pre ?_ | refine s_alt ?_) | (with_reducible refine n_then ?_)))
    refine o_callv qrf qrf (by kernel_rfl) (app1 _ _) (timesF (finv Z) X _) ?_
    rintro _ G2 ⟨rfl, hle2⟩
    (repeat' (first | (with_reducible refine i_ops ?_; refine o_nil ?_) | (with_reducible refine i_plan ?_; first | (refine p_callg qrf (by exact bytesF _ _) qle ?_ p_no; intro G' hle) | refine s_alt ?_) | (with_reducible (refine g_stand ?_; refine s_stand ?_))))
    refine o_callv qrf qrf (by kernel_rfl) (app1 _ _) (timesF (finv Z) Y _) ?_
    rintro _ G3 ⟨rfl, hle3⟩
    (repeat' (first | (with_reducible refine i_ops ?_; first | refine o_nil ?_ | (refine g_build ?_; refine s_bp2 ?_) | (refine g_lstore ?_; refine s_lstoreP ?_)) | (with_reducible refine i_vc ?_; refine v_ret ?_) | (with_reducible refine i_plan ?_; first | refine p_done ?_ | refine s_preN ?_ | (refine p_callg qrf (by exact bytesF _ _) qle ?_ p_no; intro G' hle) | refine s_alt ?_) | (with_reducible first | refine n_then ?_ | (refine g_stand ?_; first | refine s_stand ?_ | refine s_standL ?_)) | ((with_reducible refine s_retP1 ?_); try simp only [x_tup0, x_tup1, x_tup2, x_tup3, x_tup4, x_tup5, and_true, true_and])))
    refine ⟨?_, qle⟩
    unfold px
    rw [if_neg hb, if_neg hb]
theorem one_ne : ¬(1 : Fp) = 0 := by decide
theorem on_lt {x y : List UInt8} (h : onP x y false = true) : be x < p256 ∧ be y < p256 := by
  simp only [onP, Bool.false_eq_true, if_false, Bool.and_eq_true, decide_eq_true_eq] at h
  exact ⟨h.1, h.2.1⟩
theorem on_far {x y : List UInt8} (h : onP x y true = true) : x = z0 ∧ y = z0 := by
  simpa [onP] using h
end Go.Proofs.Ytdeihgcgglhhcaa.V
end
section
/- Library V, part O: the compiled code of regions with many orders, step by step. No program here. -/
set_option linter.unusedVariables false
set_option linter.unusedSimpArgs false
namespace Go.Proofs.Ytdeihgcgglhhcaa.V
def cL : Code → Code | .seq a _ => a | c => c
def cR : Code → Code | .seq _ b => b | c => c
def bodyOf (f : Func) : Code := match f.body with | some c => c | none => .skip
def cId : Code → Nat | .region i _ _ => i | _ => 0
def cOps : Code → Array Oper | .region _ o _ => o | _ => #[]
section
variable {P : Program} {E : Env} {ops : Array Oper} {Ls : List Nat}
def altF (P : Program) (E : Env) (ops : Array Oper) (Ls : List Nat) (n : Nat) (listed : Array Bool) (i : Nat) : Option (Stp × Plan) :=
  (stepAt P E ops i).bind fun s => bif disj Ls (newD E s.d) then (mkPlan P E ops Ls n (listed.setIfInBounds i true)).map fun rest => (s, rest) else none
theorem mk_take {n i : Nat} {listed listed' : Array Bool} {s : Stp} {rest : Plan} (h2 : (Region.ready .any ops listed).find? (canTake P E ops Ls listed) = some i) (h3 : stepAt P E ops i = some s) (hl : listed.setIfInBounds i true = listed') (h4 : mkPlan P E ops Ls n listed' = some rest) : mkPlan P E ops Ls (n + 1) listed = some (.take i s rest) := by
  subst hl
  unfold mkPlan
  cases h1 : Region.ready .any ops listed with
  | nil => rw [h1] at h2; cases h2
  | cons r rs =>
    rw [h1] at h2
    simp only [h2, h3, h4, Option.bind_some, Option.map_some]
theorem mk_alts {n r : Nat} {rs : List Nat} {listed : Array Bool} {pl : Plan} (h1 : Region.ready .any ops listed = r :: rs) (h2 : (r :: rs).find? (canTake P E ops Ls listed) = none) (h3 : alts (altF P E ops Ls n listed) (r :: rs) = some pl) : mkPlan P E ops Ls (n + 1) listed = some pl := by
  unfold mkPlan
  simp only [h1, h2]
  exact h3
theorem mk_done {n : Nat} {listed : Array Bool} (h1 : Region.ready .any ops listed = []) : mkPlan P E ops Ls n listed = some .done := by
  cases n <;> (unfold mkPlan; simp only [h1])
theorem alts_nil {f : Nat → Option (Stp × Plan)} : alts f [] = some .no := rfl
theorem alts_cons {n i : Nat} {is : List Nat} {listed listed' : Array Bool} {s : Stp} {rest more : Plan} (h1 : stepAt P E ops i = some s) (h2 : disj Ls (newD E s.d) = true) (hl : listed.setIfInBounds i true = listed') (h3 : mkPlan P E ops Ls n listed' = some rest) (h4 : alts (altF P E ops Ls n listed) is = some more) : alts (altF P E ops Ls n listed) (i :: is) = some (.alt i s rest more) := by
  subst hl
  have e : altF P E ops Ls n listed i = some (s, rest) := by
    unfold altF
    simp only [h1, h2, h3, Option.bind_some, Option.map_some, cond_true]
  simp only [alts, e, h4, Option.bind_some, Option.map_some]
theorem comp_draw {pl : Plan} {c : Code} (hc : c = .region (cId c) (cOps c) true) (hm : (P.follows .mixedOrders && (Region.noSelect (cOps c) && (cOps c).toList.all noDefer)) = true) (hf : (lookE E.env (2000000 + cId c)).isSome = false) (hL : ((readsL E (cOps c)).filter fun k => !(writesL E (cOps c)).contains k) = Ls) (hp : mkPlan P E (cOps c) Ls (cOps c).size (Array.replicate (cOps c).size false) = some pl) : compC P E c = some (.draw Ls pl) := by
  rw [hc]
  subst hL
  unfold compC
  rw [hm, hf]
  simp only [cond_true, cond_false]
  rw [hp]; rfl
theorem comp_seq {c : Code} {x y : PC} (hc : c = .seq (cL c) (cR c)) (h1 : compC P E (cL c) = some x) (h2 : compC P E (cR c) = some y) : compC P E c = some (.seq x y) := by
  rw [hc]
  unfold compC
  rw [h1, h2]; rfl
end
end Go.Proofs.Ytdeihgcgglhhcaa.V
end
