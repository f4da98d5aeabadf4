/- Elements all the way down: the closure. -/
import Derived.Test.YtkidjjnmdpbcaaaM
set_option linter.unusedSimpArgs false
set_option linter.unusedVariables false
namespace Go.Proofs.Ytkidjjnmdpbcaaa.V
open Go.RowKit Go.ChangeShapes Go.WideShapes
section
variable {P : Program} {E : Env} {K : St → Prop} {r : List Stp} {dd : Option Nat} {L : SL} {A : AL} {G : GH}
theorem o_callv {d : Nat} {f : FuncId} {x : Operand} {first captured : Array Value} {xs : List Operand} {vs : List Value} {args : Array Value} {R : Value → GH → Prop} (hx : evo L x = some (.func (.func f) first captured)) (hxs : evs L xs = some vs) (hf : callable P f = true) (ha : first ++ vs.toArray ++ captured = args) (hc : HC P f args G R) (h : ∀ v G', R v G' → vops P E r K (S (.set d v L) A G')) : vops P E (⟨none, dd, .callv (some d) x xs⟩ :: r) K (S L A G) := by
  refine ⟨f, first, captured, evo_ev hx, hf, ?_⟩
  show HC P f (first ++ (xs.map (ev (S L A G))).toArray ++ captured) G _
  rw [evs_ev hxs, ha]
  exact hc.mono fun v G' hr => h v G' hr
end
abbrev ptr (b : Nat) : Value := .pointer (some ⟨b, 0, none⟩)
theorem put_self {G : GH} {b : Nat} {o : Obj} (h : G b = some o) : G.put b o = G := by
  funext i; unfold GH.put; split
  · rename_i e; rw [e, h]
  · rfl
theorem put_put (G : GH) (b : Nat) (o o' : Obj) : (G.put b o).put b o' = G.put b o' := by
  funext i; unfold GH.put; split <;> rfl
set_option maxRecDepth 20000 in
theorem and32 {t : Int} (h0 : 0 ≤ t) (h1 : t ≤ 255) : (IntKind.i64.wrap (BitVec.ofInt IntKind.i64.bits t &&& BitVec.ofInt IntKind.i64.bits 32).toNat != 0) = decide (t / 32 % 2 = 1) := by
  obtain ⟨n, rfl⟩ : ∃ n : Nat, t = n := ⟨t.toNat, by omega⟩
  have e1 : (BitVec.ofInt 64 (n : Int)).toNat = n := by simp; omega
  have e2 : (BitVec.ofInt 64 32).toNat = 2 ^ 5 := rfl
  have e3 : (BitVec.ofInt 64 (n : Int) &&& BitVec.ofInt 64 32).toNat = n / 32 % 2 * 32 := by
    rw [BitVec.toNat_and, e1, e2]
    have : ∀ k : Fin 256, (k.val &&& 2 ^ 5) = k.val / 32 % 2 * 32 := by decide
    exact this ⟨n, by omega⟩
  show (IntKind.i64.wrap ((BitVec.ofInt 64 (n : Int) &&& BitVec.ofInt 64 32).toNat : Int) != 0) = _
  rw [e3, wrap_i64 (by omega) (by omega), Bool.eq_iff_iff, bne_iff_ne, decide_eq_true_eq]
  omega
theorem and32_t {t : Int} (h0 : 0 ≤ t) (h1 : t ≤ 255) (h : ¬ IntKind.i64.wrap (BitVec.ofInt IntKind.i64.bits t &&& BitVec.ofInt IntKind.i64.bits 32).toNat = 0) : t / 32 % 2 = 1 :=
  of_decide_eq_true ((and32 h0 h1).symm.trans (bne_iff_ne.2 h))
theorem and32_f {t : Int} (h0 : 0 ≤ t) (h1 : t ≤ 255) (h : IntKind.i64.wrap (BitVec.ofInt IntKind.i64.bits t &&& BitVec.ofInt IntKind.i64.bits 32).toNat = 0) : ¬ t / 32 % 2 = 1 :=
  of_decide_eq_false ((and32 h0 h1).symm.trans (by rw [h]; rfl))
theorem sub_content {bs : List UInt8} {a L f n k : Nat} (h : f + n ≤ L) (hL : a + L ≤ bs.length) : (((((bs.drop a).take L).drop f).take n).drop k) = (bs.drop (a + f + k)).take (n - k) := by
  apply List.ext_getElem?
  intro i
  simp only [List.getElem?_drop, List.getElem?_take]
  by_cases h1 : i < n - k
  · rw [if_pos (by omega), if_pos (by omega), if_pos h1]; congr 1; omega
  · rw [if_neg (by omega), if_neg h1]
/-- What the closure's variables are. -/
structure Caps (G : GH) (b1 b2 b3 b4 : Nat) (deep m : Int) (u : Value) : Prop where
  c1 : G b1 = some (.cells #[.int .i64 deep] 3)
  c2 : G b2 = some (.cells #[u] 25)
  c3 : G b3 = some (.cells #[.int .i64 m] 3)
  c4 : G b4 = some (.cells #[.func (.func 42) #[] #[ptr b1, ptr b2, ptr b3, ptr b4]] 76)
  n1 : b1 ≠ b3
  n2 : b2 ≠ b3
  n4 : b4 ≠ b3
  nu : blkS u ≠ some b3 ∨ lenS u = 0
theorem Caps.put {G : GH} {b1 b2 b3 b4 : Nat} {deep m m' : Int} {u : Value} (h : Caps G b1 b2 b3 b4 deep m u) : Caps (G.put b3 (.cells #[.int .i64 m'] 3)) b1 b2 b3 b4 deep m' u :=
  ⟨by rw [GH.put_ne _ _ h.n1]; exact h.c1, by rw [GH.put_ne _ _ h.n2]; exact h.c2, GH.put_same _ _ _, by rw [GH.put_ne _ _ h.n4]; exact h.c4, h.n1, h.n2, h.n4, h.nu⟩
theorem By.empty {G G' : GH} {u : Value} {bs : List UInt8} (h : By G u bs) (h0 : lenS u = 0) : By G' u bs := by
  have hb : bs = [] := List.eq_nil_of_length_eq_zero (by rw [← By.len h]; exact h0)
  subst hb
  obtain ⟨a, n, c, rfl⟩ := Sl.shape h
  obtain rfl : n = 0 := h0
  refine ⟨?_, h.ok⟩
  cases a with
  | none => rfl
  | some x => obtain ⟨b, q, sp⟩ := x; cases sp <;> simp [V.rd]
theorem Caps.by {G : GH} {b1 b2 b3 b4 : Nat} {deep m m' : Int} {u : Value} {bs : List UInt8} (h : Caps G b1 b2 b3 b4 deep m u) (hb : By G u bs) : By (G.put b3 (.cells #[.int .i64 m'] 3)) u bs := by
  rcases h.nu with hn | hn
  · exact Sl.keep hb fun b hu o ho => by rw [GH.put_ne _ _ (fun e => hn (by rw [hu, e]))]; exact ho
  · exact By.empty hb hn
/-- What the closure answers. -/
def DR (deep : Int) (x : List UInt8) (a depth m m' : Int) (v : Value) : Prop :=
  ((chkOne deep x.length depth x).err ≠ 0 ∧ v = .tuple #[.int .i64 (a + (chkOne deep x.length depth x).pos), .int .i64 (chkOne deep x.length depth x).err]) ∨
  ((chkOne deep x.length depth x).err = 0 ∧ m' = m + (chkOne deep x.length depth x).many ∧ v = .tuple #[.int .i64 (a + nxt x), .int .i64 0])
set_option maxHeartbeats 2000000 in
theorem down42 (deep : Int) (hd0 : 0 ≤ deep) (hd1 : deep ≤ 64) (u : Value) (bs : List UInt8) (b1 b2 b3 b4 : Nat) : ∀ (n : Nat) (a e depth m : Int) (G : GH), (e - a).toNat < n → 0 ≤ a → a ≤ e → e ≤ bs.length → 0 ≤ depth → depth ≤ 65 → 0 ≤ m → m + (e - a) ≤ 1152921504606846976 → Caps G b1 b2 b3 b4 deep m u → By G u bs →
    HC Try.prog 42 #[.int .i64 a, .int .i64 e, .int .i64 depth, ptr b1, ptr b2, ptr b3, ptr b4] G fun v G' => ∃ m', G' = G.put b3 (.cells #[.int .i64 m'] 3) ∧ m ≤ m' ∧ m' ≤ m + (e - a) ∧ DR deep ((bs.drop a.toNat).take (e.toNat - a.toNat)) a depth m m' v := by
  intro n
  induction n with
  | zero => intro a e depth m G h; omega
  | succ n ih =>
    intro a e depth m G hn a0 ae e1 p0 p1 m0 m1 hC hB
    have P1 : PtR G (ptr b1) 1 false (.int .i64 deep) := ⟨b1, 0, _, _, _, rfl, hC.c1, rfl⟩
    have P2 : PtR G (ptr b2) 1 false u := ⟨b2, 0, _, _, _, rfl, hC.c2, rfl⟩
    have P3 : PtR G (ptr b3) 1 false (.int .i64 m) := ⟨b3, 0, _, _, _, rfl, hC.c3, rfl⟩
    have hself := put_self hC.c3
    have hl := By.len_le hB
    obtain ⟨x, hx⟩ : ∃ x, (bs.drop a.toNat).take (e.toNat - a.toNat) = x := ⟨_, rfl⟩
    have hxl : (x.length : Int) = e - a := by rw [← hx, List.length_take, List.length_drop]; omega
    rw [hx]
    refine HC.start comp42 rfl ?_; unfold pc42
    (repeat' (first | (with_reducible refine i_ops ?_; first | (refine g_mv ?_; refine s_mv ?_) | refine o_nil ?_ | (refine g_some ?_; first | refine s_g_t ?_ | refine s_g_f ?_ | refine s_g_f' ?_ | refine s_g_u ?_) | (refine g_pick ?_; first | refine s_pick_t ?_ | refine s_pick_f ?_) | (refine g_len ?_; first | refine s_lenB ?_ | refine s_pure ?_) | (refine g_idx ?_; first | (refine s_idxOB ?_; intro p hp hpw) | (refine s_idxB ?_; intro p hp)) | (refine g_slc ?_; ((first | refine s_slcB ?_ | refine s_slcB01 ?_ | refine s_slcB10 ?_); intro us hus hbs)) | (refine g_build ?_; first | refine s_build ?_ | refine s_buildP ?_) | (refine g_pure ?_; first | refine s_pure ?_ | refine s_saddB ?_) | (refine g_lfield ?_; refine s_lfield ?_) | (refine g_lload ?_; refine s_lload ?_) | (refine g_lstore ?_; first | refine s_lstoreA ?_ | refine s_lstore ?_) | (refine g_lindex ?_; refine s_lindex ?_) | (refine g_lalloc ?_; refine s_lalloc ?_) | (refine g_lbox ?_; refine s_lbox ?_) | (refine g_lmove ?_; refine s_lmove ?_) | (refine g_hload ?_; refine s_hloadP ?_) | (refine g_hstore ?_; (refine s_hstoreB ?_; intro G' hle ho hkp)) | (refine g_b2s ?_; refine s_b2sB ?_)) | (with_reducible refine i_vc ?_; first | refine v_seq ?_ | refine v_ops ?_ | (refine g_cond ?_; first | refine s_cond_t ?_ | refine s_cond_f ?_) | refine v_block ?_ | refine v_skip ?_ | refine v_exit ?_ | refine v_ret ?_ | refine s_drawl ?_ | refine v_draw0 ?_ | refine v_scope ?_) | (with_reducible refine i_plan ?_; first | refine p_done ?_ | refine s_pre ?_ | refine s_preN ?_ | refine s_ag_t ?_ | refine s_ag_f ?_ | refine s_alt ?_ | refine p_alt ?_ ?_) | (with_reducible first | refine n_then ?_ | refine r_then ?_ | refine e_then ?_ | refine n_block ?_ | refine r_block ?_ | refine e_block_eq (by with_unfolding_all rfl) ?_ | refine e_block_ne (by with_unfolding_all rfl) ?_ | refine n_scope ?_ | refine r_scope ?_ | refine e_scope ?_ | (refine g_stand ?_; first | refine s_stand ?_ | refine s_standL ?_)) | ((with_reducible first | refine s_g_c ?_ ?_ | refine s_cond_c ?_ ?_ | refine s_tg_c ?_ ?_ | refine s_ag_c ?_ ?_) <;> intro hb <;> rw [hb] <;> (try simp only [decide_eq_true_eq, decide_eq_false_iff_not, beq_iff_eq, bne_iff_ne, beq_eq_false_iff_ne, bne_eq_false_iff_eq, ne_eq, Int.not_lt, Int.not_le, gt_iff_lt, ge_iff_le, Bool.not_eq_true', Bool.not_eq_false'] at hb)) | ((with_reducible first | refine s_ret ?_ | refine s_normal ?_); try simp only [x_tup0, x_tup1, x_tup2, x_tup3, x_tup4, x_tup5, and_true, true_and])))
    · have ee : chkOne deep x.length depth x = ⟨0, 0, 14⟩ := by unfold chkOne; rw [if_pos hb]
      exact ⟨m, hself.symm, Int.le_refl _, by omega, .inl ⟨by rw [ee]; decide, by rw [ee, Int.add_zero]⟩⟩
    have hdep : ¬ depth > deep := by omega
    rw [hx] at hus
    refine o_callc (by with_unfolding_all rfl) (head40 us x G hus) ?_
    rintro _ G ⟨hv, rfl⟩
    rcases hv with ⟨he, rfl⟩ | ⟨he, rfl⟩
    · have et : tkE x = hdrE x := by unfold tkE; rw [if_pos he]
      have ee : chkOne deep x.length depth x = ⟨0, 0, hdrE x⟩ := by unfold chkOne; rw [if_neg hdep, if_pos (by omega), et]
      have hT : DR deep x a depth m m (.tuple #[.int .i64 a, .int .i64 (hdrE x)]) := .inl ⟨by rw [ee]; exact he, by rw [ee, Int.add_zero]⟩
      (repeat' (first | (with_reducible refine i_ops ?_; first | (refine g_mv ?_; refine s_mv ?_) | refine o_nil ?_ | (refine g_some ?_; first | refine s_g_t ?_ | refine s_g_f ?_ | refine s_g_f' ?_ | refine s_g_u ?_) | (refine g_pick ?_; first | refine s_pick_t ?_ | refine s_pick_f ?_) | (refine g_len ?_; first | refine s_lenB ?_ | refine s_pure ?_) | (refine g_idx ?_; first | (refine s_idxOB ?_; intro p hp hpw) | (refine s_idxB ?_; intro p hp)) | (refine g_slc ?_; ((first | refine s_slcB ?_ | refine s_slcB01 ?_ | refine s_slcB10 ?_); intro us hus hbs)) | (refine g_build ?_; first | refine s_build ?_ | refine s_buildP ?_) | (refine g_pure ?_; first | refine s_pure ?_ | refine s_saddB ?_) | (refine g_lfield ?_; refine s_lfield ?_) | (refine g_lload ?_; refine s_lload ?_) | (refine g_lstore ?_; first | refine s_lstoreA ?_ | refine s_lstore ?_) | (refine g_lindex ?_; refine s_lindex ?_) | (refine g_lalloc ?_; refine s_lalloc ?_) | (refine g_lbox ?_; refine s_lbox ?_) | (refine g_lmove ?_; refine s_lmove ?_) | (refine g_hload ?_; refine s_hloadP ?_) | (refine g_hstore ?_; (refine s_hstoreB ?_; intro G' hle ho hkp)) | (refine g_b2s ?_; refine s_b2sB ?_)) | (with_reducible refine i_vc ?_; first | refine v_seq ?_ | refine v_ops ?_ | (refine g_cond ?_; first | refine s_cond_t ?_ | refine s_cond_f ?_) | refine v_block ?_ | refine v_skip ?_ | refine v_exit ?_ | refine v_ret ?_ | refine s_drawl ?_ | refine v_draw0 ?_ | refine v_scope ?_) | (with_reducible refine i_plan ?_; first | refine p_done ?_ | refine s_pre ?_ | refine s_preN ?_ | refine s_ag_t ?_ | refine s_ag_f ?_ | refine s_alt ?_ | refine p_alt ?_ ?_) | (with_reducible first | refine n_then ?_ | refine r_then ?_ | refine e_then ?_ | refine n_block ?_ | refine r_block ?_ | refine e_block_eq (by with_unfolding_all rfl) ?_ | refine e_block_ne (by with_unfolding_all rfl) ?_ | refine n_scope ?_ | refine r_scope ?_ | refine e_scope ?_ | (refine g_stand ?_; first | refine s_stand ?_ | refine s_standL ?_)) | ((with_reducible first | refine s_g_c ?_ ?_ | refine s_cond_c ?_ ?_ | refine s_tg_c ?_ ?_ | refine s_ag_c ?_ ?_) <;> intro hb <;> rw [hb] <;> (try simp only [decide_eq_true_eq, decide_eq_false_iff_not, beq_iff_eq, bne_iff_ne, beq_eq_false_iff_ne, bne_eq_false_iff_eq, ne_eq, Int.not_lt, Int.not_le, gt_iff_lt, ge_iff_le, Bool.not_eq_true', Bool.not_eq_false'] at hb)) | ((with_reducible first | refine s_ret ?_ | refine s_normal ?_); try simp only [x_tup0, x_tup1, x_tup2, x_tup3, x_tup4, x_tup5, and_true, true_and])))
      all_goals first | exact ⟨m, hself.symm, Int.le_refl _, by omega, hT⟩ | (exfalso; omega)
    obtain ⟨f1, f2, f3, n1, n2, tg⟩ := hdr_ok he
    (repeat' (first | (with_reducible refine i_ops ?_; first | (refine g_mv ?_; refine s_mv ?_) | refine o_nil ?_ | (refine g_some ?_; first | refine s_g_t ?_ | refine s_g_f ?_ | refine s_g_f' ?_ | refine s_g_u ?_) | (refine g_pick ?_; first | refine s_pick_t ?_ | refine s_pick_f ?_) | (refine g_len ?_; first | refine s_lenB ?_ | refine s_pure ?_) | (refine g_idx ?_; first | (refine s_idxOB ?_; intro p hp hpw) | (refine s_idxB ?_; intro p hp)) | (refine g_slc ?_; ((first | refine s_slcB ?_ | refine s_slcB01 ?_ | refine s_slcB10 ?_); intro us hus hbs)) | (refine g_build ?_; first | refine s_build ?_ | refine s_buildP ?_) | (refine g_pure ?_; first | refine s_pure ?_ | refine s_saddB ?_) | (refine g_lfield ?_; refine s_lfield ?_) | (refine g_lload ?_; refine s_lload ?_) | (refine g_lstore ?_; first | refine s_lstoreA ?_ | refine s_lstore ?_) | (refine g_lindex ?_; refine s_lindex ?_) | (refine g_lalloc ?_; refine s_lalloc ?_) | (refine g_lbox ?_; refine s_lbox ?_) | (refine g_lmove ?_; refine s_lmove ?_) | (refine g_hload ?_; refine s_hloadP ?_) | (refine g_hstore ?_; (refine s_hstoreB ?_; intro G' hle ho hkp)) | (refine g_b2s ?_; refine s_b2sB ?_)) | (with_reducible refine i_vc ?_; first | refine v_seq ?_ | refine v_ops ?_ | (refine g_cond ?_; first | refine s_cond_t ?_ | refine s_cond_f ?_) | refine v_block ?_ | refine v_skip ?_ | refine v_exit ?_ | refine v_ret ?_ | refine s_drawl ?_ | refine v_draw0 ?_ | refine v_scope ?_) | (with_reducible refine i_plan ?_; first | refine p_done ?_ | refine s_pre ?_ | refine s_preN ?_ | refine s_ag_t ?_ | refine s_ag_f ?_ | refine s_alt ?_ | refine p_alt ?_ ?_) | (with_reducible first | refine n_then ?_ | refine r_then ?_ | refine e_then ?_ | refine n_block ?_ | refine r_block ?_ | refine e_block_eq (by with_unfolding_all rfl) ?_ | refine e_block_ne (by with_unfolding_all rfl) ?_ | refine n_scope ?_ | refine r_scope ?_ | refine e_scope ?_ | (refine g_stand ?_; first | refine s_stand ?_ | refine s_standL ?_)) | ((with_reducible first | refine s_g_c ?_ ?_ | refine s_cond_c ?_ ?_ | refine s_tg_c ?_ ?_ | refine s_ag_c ?_ ?_) <;> intro hb <;> rw [hb] <;> (try simp only [decide_eq_true_eq, decide_eq_false_iff_not, beq_iff_eq, bne_iff_ne, beq_eq_false_iff_ne, bne_eq_false_iff_eq, ne_eq, Int.not_lt, Int.not_le, gt_iff_lt, ge_iff_le, Bool.not_eq_true', Bool.not_eq_false'] at hb)) | ((with_reducible first | refine s_ret ?_ | refine s_normal ?_); try simp only [x_tup0, x_tup1, x_tup2, x_tup3, x_tup4, x_tup5, and_true, true_and])))
    · have et : tkE x = 10 := by unfold tkE; rw [if_neg (by omega), if_pos (by omega)]
      have ee : chkOne deep x.length depth x = ⟨0, 0, 10⟩ := by unfold chkOne; rw [if_neg hdep, if_pos (by omega), et]
      exact ⟨m, hself.symm, Int.le_refl _, by omega, .inl ⟨by rw [ee]; decide, by rw [ee, Int.add_zero]⟩⟩
    have et : tkE x = 0 := by unfold tkE; rw [if_neg (by omega), if_neg (by omega)]
    obtain ⟨_, _, _, _, nx, hcl, _⟩ := tk_bounds et
    have hnx : nxt x = hdrF x + hdrN x := rfl
    obtain ⟨c, hc⟩ : ∃ c, tkC x = c := ⟨_, rfl⟩
    rw [hc] at hcl
    have hone : chkOne deep x.length depth x = oneC (hdrF x) (if inD x then chkAll deep c.length (depth + 1) c else ⟨0, 0, 0⟩) := by
      unfold chkOne
      rw [if_neg hdep, if_neg (not_not_intro et), hc, chkAll_fuel deep x.length c.length (depth + 1) c (by omega) (Nat.le_refl _)]
    clear hus P1 P2
    refine o_hstore (vs := [.int .i64 (m + 1)]) (by with_unfolding_all rfl) hC.c3 (by with_unfolding_all rfl) rfl ⟨rfl, by simp, rfl, .inl (by simp)⟩ ?_
    (repeat' (first | (with_reducible refine i_ops ?_; first | (refine g_mv ?_; refine s_mv ?_) | refine o_nil ?_ | (refine g_some ?_; first | refine s_g_t ?_ | refine s_g_f ?_ | refine s_g_f' ?_ | refine s_g_u ?_) | (refine g_pick ?_; first | refine s_pick_t ?_ | refine s_pick_f ?_) | (refine g_len ?_; first | refine s_lenB ?_ | refine s_pure ?_) | (refine g_idx ?_; first | (refine s_idxOB ?_; intro p hp hpw) | (refine s_idxB ?_; intro p hp)) | (refine g_slc ?_; ((first | refine s_slcB ?_ | refine s_slcB01 ?_ | refine s_slcB10 ?_); intro us hus hbs)) | (refine g_build ?_; first | refine s_build ?_ | refine s_buildP ?_) | (refine g_pure ?_; first | refine s_pure ?_ | refine s_saddB ?_) | (refine g_lfield ?_; refine s_lfield ?_) | (refine g_lload ?_; refine s_lload ?_) | (refine g_lstore ?_; first | refine s_lstoreA ?_ | refine s_lstore ?_) | (refine g_lindex ?_; refine s_lindex ?_) | (refine g_lalloc ?_; refine s_lalloc ?_) | (refine g_lbox ?_; refine s_lbox ?_) | (refine g_lmove ?_; refine s_lmove ?_) | (refine g_hload ?_; refine s_hloadP ?_) | (refine g_hstore ?_; (refine s_hstoreB ?_; intro G' hle ho hkp)) | (refine g_b2s ?_; refine s_b2sB ?_)) | (with_reducible refine i_vc ?_; first | refine v_seq ?_ | refine v_ops ?_ | (refine g_cond ?_; first | refine s_cond_t ?_ | refine s_cond_f ?_) | refine v_block ?_ | refine v_skip ?_ | refine v_exit ?_ | refine v_ret ?_ | refine s_drawl ?_ | refine v_draw0 ?_ | refine v_scope ?_) | (with_reducible refine i_plan ?_; first | refine p_done ?_ | refine s_pre ?_ | refine s_preN ?_ | refine s_ag_t ?_ | refine s_ag_f ?_ | refine s_alt ?_ | refine p_alt ?_ ?_) | (with_reducible first | refine n_then ?_ | refine r_then ?_ | refine e_then ?_ | refine n_block ?_ | refine r_block ?_ | refine e_block_eq (by with_unfolding_all rfl) ?_ | refine e_block_ne (by with_unfolding_all rfl) ?_ | refine n_scope ?_ | refine r_scope ?_ | refine e_scope ?_ | (refine g_stand ?_; first | refine s_stand ?_ | refine s_standL ?_)) | ((with_reducible first | refine s_g_c ?_ ?_ | refine s_cond_c ?_ ?_ | refine s_tg_c ?_ ?_ | refine s_ag_c ?_ ?_) <;> intro hb <;> rw [hb] <;> (try simp only [decide_eq_true_eq, decide_eq_false_iff_not, beq_iff_eq, bne_iff_ne, beq_eq_false_iff_ne, bne_eq_false_iff_eq, ne_eq, Int.not_lt, Int.not_le, gt_iff_lt, ge_iff_le, Bool.not_eq_true', Bool.not_eq_false'] at hb)) | ((with_reducible first | refine s_ret ?_ | refine s_normal ?_); try simp only [x_tup0, x_tup1, x_tup2, x_tup3, x_tup4, x_tup5, and_true, true_and])))
    have hcx (k : Nat) (hk : k ≤ c.length) : (bs.drop (a + hdrF x + k).toNat).take ((a + hdrF x + hdrN x).toNat - (a + hdrF x + k).toNat) = c.drop k := by
      rw [← hc, ← hx, tkC, hx, ← hx, sub_content (by rw [hx]; omega) (by omega), hx]
      rw [show (a + hdrF x + hdrN x).toNat - (a + hdrF x + k).toNat = (hdrN x).toNat - k by omega, show (a + hdrF x + k).toNat = a.toNat + (hdrF x).toNat + k by omega]
    have x255 : byt x 0 ≤ 255 := tg.2.1
    have x0 : 0 ≤ byt x 0 := tg.1
    by_cases hin : inD x
    · rw [if_pos hin] at hone
      generalize hTT : chkAll deep c.length (depth + 1) c = T at hone
      refine v_loopX (α := Nat × Int) (fun y => y.1 ≤ c.length ∧ m + 1 ≤ y.2 ∧ y.2 ≤ m + 1 + y.1 ∧ Rest T (chkAll deep c.length (depth + 1) (c.drop y.1)) y.1 (y.2 - m - 1)) (fun y => [(2, .int .i64 depth), (6, ptr b4), (12, .int .i64 (byt x 0)), (16, .int .i64 (a + hdrF x + hdrN x)), (17, .int .i64 (a + hdrF x + y.1))]) (fun _ => []) (fun y => G.put b3 (.cells #[.int .i64 y.2] 3)) (fun y => c.length - y.1) (0, m + 1)
        ⟨Nat.zero_le _, by dsimp only; omega, by dsimp only; omega, ?_⟩ (by rw [show a + hdrF x + ((0 : Nat) : Int) = a + hdrF x by omega]; exact (by refine ⟨SL.get_fn (by with_unfolding_all rfl), SL.get_fn (by with_unfolding_all rfl), SL.get_fn (by with_unfolding_all rfl), SL.get_fn (by with_unfolding_all rfl), SL.get_fn (by with_unfolding_all rfl), trivial⟩)) trivial (by with_unfolding_all rfl) ?_
      · rw [List.drop_zero, hTT]
        refine ⟨fun h => ⟨rfl, by simp⟩, fun h => ⟨h, by dsimp only; omega⟩⟩
      rintro ⟨k, m2⟩ s ll ⟨k1, k2, k3, k5⟩
      dsimp only at k1 k2 k3 k5
      dsimp only [SL.sets, AL.sets]
      have hC2 : Caps (G.put b3 (.cells #[.int .i64 m2] 3)) b1 b2 b3 b4 deep m2 u := hC.put
      have hB2 : By (G.put b3 (.cells #[.int .i64 m2] 3)) u bs := hC.by hB
      have P4 : PtR (G.put b3 (.cells #[.int .i64 m2] 3)) (ptr b4) 1 false (.func (.func 42) #[] #[ptr b1, ptr b2, ptr b3, ptr b4]) := ⟨b4, 0, _, _, _, rfl, hC2.c4, rfl⟩
      clear P3 hTT hB hself
      (repeat' (first | (with_reducible refine i_ops ?_; first | (refine g_mv ?_; refine s_mv ?_) | refine o_nil ?_ | (refine g_some ?_; first | refine s_g_t ?_ | refine s_g_f ?_ | refine s_g_f' ?_ | refine s_g_u ?_) | (refine g_pick ?_; first | refine s_pick_t ?_ | refine s_pick_f ?_) | (refine g_len ?_; first | refine s_lenB ?_ | refine s_pure ?_) | (refine g_idx ?_; first | (refine s_idxOB ?_; intro p hp hpw) | (refine s_idxB ?_; intro p hp)) | (refine g_slc ?_; ((first | refine s_slcB ?_ | refine s_slcB01 ?_ | refine s_slcB10 ?_); intro us hus hbs)) | (refine g_build ?_; first | refine s_build ?_ | refine s_buildP ?_) | (refine g_pure ?_; first | refine s_pure ?_ | refine s_saddB ?_) | (refine g_lfield ?_; refine s_lfield ?_) | (refine g_lload ?_; refine s_lload ?_) | (refine g_lstore ?_; first | refine s_lstoreA ?_ | refine s_lstore ?_) | (refine g_lindex ?_; refine s_lindex ?_) | (refine g_lalloc ?_; refine s_lalloc ?_) | (refine g_lbox ?_; refine s_lbox ?_) | (refine g_lmove ?_; refine s_lmove ?_) | (refine g_hload ?_; refine s_hloadP ?_) | (refine g_hstore ?_; (refine s_hstoreB ?_; intro G' hle ho hkp)) | (refine g_b2s ?_; refine s_b2sB ?_)) | (with_reducible refine i_vc ?_; first | refine v_seq ?_ | refine v_ops ?_ | (refine g_cond ?_; first | refine s_cond_t ?_ | refine s_cond_f ?_) | refine v_block ?_ | refine v_skip ?_ | refine v_exit ?_ | refine v_ret ?_ | refine s_drawl ?_ | refine v_draw0 ?_ | refine v_scope ?_) | (with_reducible refine i_plan ?_; first | refine p_done ?_ | refine s_pre ?_ | refine s_preN ?_ | refine s_ag_t ?_ | refine s_ag_f ?_ | refine s_alt ?_ | refine p_alt ?_ ?_) | (with_reducible first | refine n_then ?_ | refine r_then ?_ | refine e_then ?_ | refine n_block ?_ | refine r_block ?_ | refine e_block_eq (by with_unfolding_all rfl) ?_ | refine e_block_ne (by with_unfolding_all rfl) ?_ | refine n_scope ?_ | refine r_scope ?_ | refine e_scope ?_ | (refine g_stand ?_; first | refine s_stand ?_ | refine s_standL ?_)) | ((with_reducible first | refine s_g_c ?_ ?_ | refine s_cond_c ?_ ?_ | refine s_tg_c ?_ ?_ | refine s_ag_c ?_ ?_) <;> intro hb <;> rw [hb] <;> (try simp only [decide_eq_true_eq, decide_eq_false_iff_not, beq_iff_eq, bne_iff_ne, beq_eq_false_iff_ne, bne_eq_false_iff_eq, ne_eq, Int.not_lt, Int.not_le, gt_iff_lt, ge_iff_le, Bool.not_eq_true', Bool.not_eq_false'] at hb)) | ((with_reducible first | refine s_ret ?_ | refine s_normal ?_); try simp only [x_tup0, x_tup1, x_tup2, x_tup3, x_tup4, x_tup5, and_true, true_and])))
      · have hk : k < c.length := by omega
        have hdl : (c.drop k).length = c.length - k := List.length_drop ..
        have hst := k5.step (Nat.le_refl _) hk
        have hfu := chkOne_fuel deep (c.drop k).length c.length (depth + 1) (c.drop k) (Nat.le_refl _) (by rw [hdl]; exact Nat.sub_le ..)
        refine o_callv (by with_unfolding_all rfl) (by with_unfolding_all rfl) (by kernel_rfl) (by simp) (ih (a + hdrF x + k) (a + hdrF x + hdrN x) (depth + 1) m2 _ (by omega) (by omega) (by omega) (by omega) (by omega) (by omega) (by omega) (by omega) hC2 hB2) ?_
        rintro _ _ ⟨m3, rfl, q1, q2, hv⟩
        rw [hcx k k1] at hv
        unfold DR at hv
        rw [hfu] at hv
        rw [put_put]
        rcases hv with ⟨he1, rfl⟩ | ⟨he1, q3, rfl⟩
        · obtain ⟨t1, t2⟩ := hst.1 he1
          (repeat' (first | (with_reducible refine i_ops ?_; first | (refine g_mv ?_; refine s_mv ?_) | refine o_nil ?_ | (refine g_some ?_; first | refine s_g_t ?_ | refine s_g_f ?_ | refine s_g_f' ?_ | refine s_g_u ?_) | (refine g_pick ?_; first | refine s_pick_t ?_ | refine s_pick_f ?_) | (refine g_len ?_; first | refine s_lenB ?_ | refine s_pure ?_) | (refine g_idx ?_; first | (refine s_idxOB ?_; intro p hp hpw) | (refine s_idxB ?_; intro p hp)) | (refine g_slc ?_; ((first | refine s_slcB ?_ | refine s_slcB01 ?_ | refine s_slcB10 ?_); intro us hus hbs)) | (refine g_build ?_; first | refine s_build ?_ | refine s_buildP ?_) | (refine g_pure ?_; first | refine s_pure ?_ | refine s_saddB ?_) | (refine g_lfield ?_; refine s_lfield ?_) | (refine g_lload ?_; refine s_lload ?_) | (refine g_lstore ?_; first | refine s_lstoreA ?_ | refine s_lstore ?_) | (refine g_lindex ?_; refine s_lindex ?_) | (refine g_lalloc ?_; refine s_lalloc ?_) | (refine g_lbox ?_; refine s_lbox ?_) | (refine g_lmove ?_; refine s_lmove ?_) | (refine g_hload ?_; refine s_hloadP ?_) | (refine g_hstore ?_; (refine s_hstoreB ?_; intro G' hle ho hkp)) | (refine g_b2s ?_; refine s_b2sB ?_)) | (with_reducible refine i_vc ?_; first | refine v_seq ?_ | refine v_ops ?_ | (refine g_cond ?_; first | refine s_cond_t ?_ | refine s_cond_f ?_) | refine v_block ?_ | refine v_skip ?_ | refine v_exit ?_ | refine v_ret ?_ | refine s_drawl ?_ | refine v_draw0 ?_ | refine v_scope ?_) | (with_reducible refine i_plan ?_; first | refine p_done ?_ | refine s_pre ?_ | refine s_preN ?_ | refine s_ag_t ?_ | refine s_ag_f ?_ | refine s_alt ?_ | refine p_alt ?_ ?_) | (with_reducible first | refine n_then ?_ | refine r_then ?_ | refine e_then ?_ | refine n_block ?_ | refine r_block ?_ | refine e_block_eq (by with_unfolding_all rfl) ?_ | refine e_block_ne (by with_unfolding_all rfl) ?_ | refine n_scope ?_ | refine r_scope ?_ | refine e_scope ?_ | (refine g_stand ?_; first | refine s_stand ?_ | refine s_standL ?_)) | ((with_reducible first | refine s_g_c ?_ ?_ | refine s_cond_c ?_ ?_ | refine s_tg_c ?_ ?_ | refine s_ag_c ?_ ?_) <;> intro hb <;> rw [hb] <;> (try simp only [decide_eq_true_eq, decide_eq_false_iff_not, beq_iff_eq, bne_iff_ne, beq_eq_false_iff_ne, bne_eq_false_iff_eq, ne_eq, Int.not_lt, Int.not_le, gt_iff_lt, ge_iff_le, Bool.not_eq_true', Bool.not_eq_false'] at hb)) | ((with_reducible first | refine s_ret ?_ | refine s_normal ?_); try simp only [x_tup0, x_tup1, x_tup2, x_tup3, x_tup4, x_tup5, and_true, true_and])))
          all_goals first | (exfalso; omega) | skip
          refine ⟨m3, rfl, by omega, by omega, .inl ?_⟩
          have ee : chkOne deep x.length depth x = ⟨0, hdrF x + T.pos, T.err⟩ := by rw [hone]; unfold oneC; rw [if_pos (by rw [t1]; exact he1)]
          rw [ee, t1, t2]
          refine ⟨he1, ?_⟩
          have e2 : a + (hdrF x + (k + (chkOne deep c.length (depth + 1) (c.drop k)).pos)) = a + hdrF x + k + (chkOne deep c.length (depth + 1) (c.drop k)).pos := by omega
          rw [e2]
        · have o := one_ok he1
          obtain ⟨g1, g2, g3, g4, g5, g6, g7⟩ := tk_bounds o.1
          have hR := hst.2 he1
          (repeat' (first | (with_reducible refine i_ops ?_; first | (refine g_mv ?_; refine s_mv ?_) | refine o_nil ?_ | (refine g_some ?_; first | refine s_g_t ?_ | refine s_g_f ?_ | refine s_g_f' ?_ | refine s_g_u ?_) | (refine g_pick ?_; first | refine s_pick_t ?_ | refine s_pick_f ?_) | (refine g_len ?_; first | refine s_lenB ?_ | refine s_pure ?_) | (refine g_idx ?_; first | (refine s_idxOB ?_; intro p hp hpw) | (refine s_idxB ?_; intro p hp)) | (refine g_slc ?_; ((first | refine s_slcB ?_ | refine s_slcB01 ?_ | refine s_slcB10 ?_); intro us hus hbs)) | (refine g_build ?_; first | refine s_build ?_ | refine s_buildP ?_) | (refine g_pure ?_; first | refine s_pure ?_ | refine s_saddB ?_) | (refine g_lfield ?_; refine s_lfield ?_) | (refine g_lload ?_; refine s_lload ?_) | (refine g_lstore ?_; first | refine s_lstoreA ?_ | refine s_lstore ?_) | (refine g_lindex ?_; refine s_lindex ?_) | (refine g_lalloc ?_; refine s_lalloc ?_) | (refine g_lbox ?_; refine s_lbox ?_) | (refine g_lmove ?_; refine s_lmove ?_) | (refine g_hload ?_; refine s_hloadP ?_) | (refine g_hstore ?_; (refine s_hstoreB ?_; intro G' hle ho hkp)) | (refine g_b2s ?_; refine s_b2sB ?_)) | (with_reducible refine i_vc ?_; first | refine v_seq ?_ | refine v_ops ?_ | (refine g_cond ?_; first | refine s_cond_t ?_ | refine s_cond_f ?_) | refine v_block ?_ | refine v_skip ?_ | refine v_exit ?_ | refine v_ret ?_ | refine s_drawl ?_ | refine v_draw0 ?_ | refine v_scope ?_) | (with_reducible refine i_plan ?_; first | refine p_done ?_ | refine s_pre ?_ | refine s_preN ?_ | refine s_ag_t ?_ | refine s_ag_f ?_ | refine s_alt ?_ | refine p_alt ?_ ?_) | (with_reducible first | refine n_then ?_ | refine r_then ?_ | refine e_then ?_ | refine n_block ?_ | refine r_block ?_ | refine e_block_eq (by with_unfolding_all rfl) ?_ | refine e_block_ne (by with_unfolding_all rfl) ?_ | refine n_scope ?_ | refine r_scope ?_ | refine e_scope ?_ | (refine g_stand ?_; first | refine s_stand ?_ | refine s_standL ?_)) | ((with_reducible first | refine s_g_c ?_ ?_ | refine s_cond_c ?_ ?_ | refine s_tg_c ?_ ?_ | refine s_ag_c ?_ ?_) <;> intro hb <;> rw [hb] <;> (try simp only [decide_eq_true_eq, decide_eq_false_iff_not, beq_iff_eq, bne_iff_ne, beq_eq_false_iff_ne, bne_eq_false_iff_eq, ne_eq, Int.not_lt, Int.not_le, gt_iff_lt, ge_iff_le, Bool.not_eq_true', Bool.not_eq_false'] at hb)) | ((with_reducible first | refine s_ret ?_ | refine s_normal ?_); try simp only [x_tup0, x_tup1, x_tup2, x_tup3, x_tup4, x_tup5, and_true, true_and])))
          have e3 : a + hdrF x + k + nxt (c.drop k) = a + hdrF x + ((k + (nxt (c.drop k)).toNat : Nat) : Int) := by unfold nxt at *; omega
          have e4 : m3 - m - 1 = m2 - m - 1 + (chkOne deep c.length (depth + 1) (c.drop k)).many := by omega
          rw [e3]
          refine ⟨c.length - (k + (nxt (c.drop k)).toNat), by unfold nxt at *; omega, (k + (nxt (c.drop k)).toNat, m3), rfl, ⟨by dsimp only; omega, by dsimp only; omega, by dsimp only; omega, ?_⟩, (by refine ⟨SL.get_fn (by with_unfolding_all rfl), SL.get_fn (by with_unfolding_all rfl), SL.get_fn (by with_unfolding_all rfl), SL.get_fn (by with_unfolding_all rfl), SL.get_fn (by with_unfolding_all rfl), trivial⟩), trivial, rfl⟩
          dsimp only
          rw [e4]; exact hR
      · have hk : k = c.length := by omega
        rw [hk, List.drop_length, chkAll_nil] at k5
        obtain ⟨t1, t2⟩ := k5.2 rfl
        have ee : chkOne deep x.length depth x = ⟨1 + T.many, 0, 0⟩ := by rw [hone]; unfold oneC; rw [if_neg (not_not_intro t1)]
        refine ⟨m2, rfl, by omega, by omega, .inr ?_⟩
        rw [ee]
        refine ⟨rfl, by dsimp only at t2 ⊢; omega, ?_⟩
        rw [show a + nxt x = a + hdrF x + hdrN x by omega]
      · exact absurd hin (and32_f x0 x255 hb)
    · rw [if_neg hin] at hone
      have ee : chkOne deep x.length depth x = ⟨1, 0, 0⟩ := by rw [hone]; rfl
      refine v_loopX (α := Unit) (fun _ => True) (fun _ => [(12, .int .i64 (byt x 0)), (16, .int .i64 (a + hdrF x + hdrN x)), (17, .int .i64 (a + hdrF x))]) (fun _ => []) (fun _ => G.put b3 (.cells #[.int .i64 (m + 1)] 3)) (fun _ => 0) ()
        trivial (by refine ⟨SL.get_fn (by with_unfolding_all rfl), SL.get_fn (by with_unfolding_all rfl), SL.get_fn (by with_unfolding_all rfl), trivial⟩) trivial (by with_unfolding_all rfl) ?_
      rintro _ s ll _
      dsimp only [SL.sets, AL.sets]
      (repeat' (first | (with_reducible refine i_ops ?_; first | (refine g_mv ?_; refine s_mv ?_) | refine o_nil ?_ | (refine g_some ?_; first | refine s_g_t ?_ | refine s_g_f ?_ | refine s_g_f' ?_ | refine s_g_u ?_) | (refine g_pick ?_; first | refine s_pick_t ?_ | refine s_pick_f ?_) | (refine g_len ?_; first | refine s_lenB ?_ | refine s_pure ?_) | (refine g_idx ?_; first | (refine s_idxOB ?_; intro p hp hpw) | (refine s_idxB ?_; intro p hp)) | (refine g_slc ?_; ((first | refine s_slcB ?_ | refine s_slcB01 ?_ | refine s_slcB10 ?_); intro us hus hbs)) | (refine g_build ?_; first | refine s_build ?_ | refine s_buildP ?_) | (refine g_pure ?_; first | refine s_pure ?_ | refine s_saddB ?_) | (refine g_lfield ?_; refine s_lfield ?_) | (refine g_lload ?_; refine s_lload ?_) | (refine g_lstore ?_; first | refine s_lstoreA ?_ | refine s_lstore ?_) | (refine g_lindex ?_; refine s_lindex ?_) | (refine g_lalloc ?_; refine s_lalloc ?_) | (refine g_lbox ?_; refine s_lbox ?_) | (refine g_lmove ?_; refine s_lmove ?_) | (refine g_hload ?_; refine s_hloadP ?_) | (refine g_hstore ?_; (refine s_hstoreB ?_; intro G' hle ho hkp)) | (refine g_b2s ?_; refine s_b2sB ?_)) | (with_reducible refine i_vc ?_; first | refine v_seq ?_ | refine v_ops ?_ | (refine g_cond ?_; first | refine s_cond_t ?_ | refine s_cond_f ?_) | refine v_block ?_ | refine v_skip ?_ | refine v_exit ?_ | refine v_ret ?_ | refine s_drawl ?_ | refine v_draw0 ?_ | refine v_scope ?_) | (with_reducible refine i_plan ?_; first | refine p_done ?_ | refine s_pre ?_ | refine s_preN ?_ | refine s_ag_t ?_ | refine s_ag_f ?_ | refine s_alt ?_ | refine p_alt ?_ ?_) | (with_reducible first | refine n_then ?_ | refine r_then ?_ | refine e_then ?_ | refine n_block ?_ | refine r_block ?_ | refine e_block_eq (by with_unfolding_all rfl) ?_ | refine e_block_ne (by with_unfolding_all rfl) ?_ | refine n_scope ?_ | refine r_scope ?_ | refine e_scope ?_ | (refine g_stand ?_; first | refine s_stand ?_ | refine s_standL ?_)) | ((with_reducible first | refine s_g_c ?_ ?_ | refine s_cond_c ?_ ?_ | refine s_tg_c ?_ ?_ | refine s_ag_c ?_ ?_) <;> intro hb <;> rw [hb] <;> (try simp only [decide_eq_true_eq, decide_eq_false_iff_not, beq_iff_eq, bne_iff_ne, beq_eq_false_iff_ne, bne_eq_false_iff_eq, ne_eq, Int.not_lt, Int.not_le, gt_iff_lt, ge_iff_le, Bool.not_eq_true', Bool.not_eq_false'] at hb)) | ((with_reducible first | refine s_ret ?_ | refine s_normal ?_); try simp only [x_tup0, x_tup1, x_tup2, x_tup3, x_tup4, x_tup5, and_true, true_and])))
      · exact absurd (and32_t x0 x255 (by assumption)) hin
      · exact absurd (and32_t x0 x255 (by assumption)) hin
      · refine ⟨m + 1, rfl, by omega, by omega, .inr ?_⟩
        rw [ee]
        refine ⟨rfl, rfl, ?_⟩
        rw [show a + nxt x = a + hdrF x + hdrN x by omega]
end Go.Proofs.Ytkidjjnmdpbcaaa.V
