/- The program's words of a block. -/
import Derived.Test.YtbpjjhbkahinjaaPlSB
import Derived.Test.YtbpjjhbkahinjaaPlCP
import Derived.Test.YtbpjjhbkahinjaaPlCB
import Derived.Test.YtbpjjhbkahinjaaPlCG
import Derived.Test.YtbpjjhbkahinjaaPlCW
set_option linter.unusedSimpArgs false
set_option linter.unusedVariables false
-- @words
-- @extra s_shr32 s_xor32 s_add32
namespace Go.Proofs.Ytbpjjhbkahinjaa.V
open Go.RowKit Go.ChangeShapes Go.WideShapes
def fstN (n : Nat) (p : PC) : PC := match sndN n p with
  | .seq a _ => a
  | p => p
def blkB : PC → PC
  | .block _ b => b
  | p => p
theorem q_trim {K : St → Prop} {L : SL} {A : AL} {G : GH} (kv : List (Nat × Value)) (la : List (Nat × Array Value)) (hs : hasS L.fn kv) (hl : hasL A.fn la) (h : ∀ s l, K (S (SL.sets s kv) (AL.sets l la) G)) : K (S L A G) := by
  rw [show S L A G = S (SL.sets L.fn kv) (AL.sets A.fn la) G from st_eq (st := S L A G) hs hl]
  exact h L.fn A.fn
set_option maxHeartbeats 4000000 in
theorem schedL {Q : Exit → St → Prop} (b : Nat) (bs : List UInt8) (G : GH) (hq : ∀ s l, Q (.exit 2) (S (SL.sets s [(0, pt b), (4, .int .u64 0), (5, .int .u64 0)]) (AL.sets l [(4, wa KK), (5, wa (sch bs 64))]) G)) (s0 : Nat → Value) (l0 : Nat → Array Value) :
    vc Try.prog E26 (blkB (sndN 1 (fstN 3 pc26))) Q (S (SL.sets s0 [(0, pt b), (4, .int .u64 0), (5, .int .u64 0), (7, .int .i64 16)]) (AL.sets l0 [(4, wa KK), (5, wa (fil (sch bs 16)))]) G) := by
  have r7 : ∀ x, HC Try.prog 31 #[u32 x, .int .i64 7] G fun v G' => v = u32 (rot x 7) ∧ G' = G := fun x => right x 7 G (by decide) (by decide)
  have r18 : ∀ x, HC Try.prog 31 #[u32 x, .int .i64 18] G fun v G' => v = u32 (rot x 18) ∧ G' = G := fun x => right x 18 G (by decide) (by decide)
  have r17 : ∀ x, HC Try.prog 31 #[u32 x, .int .i64 17] G fun v G' => v = u32 (rot x 17) ∧ G' = G := fun x => right x 17 G (by decide) (by decide)
  have r19 : ∀ x, HC Try.prog 31 #[u32 x, .int .i64 19] G fun v G' => v = u32 (rot x 19) ∧ G' = G := fun x => right x 19 G (by decide) (by decide)
  unfold pc26
  simp only [blkB, fstN, sndN, SL.sets, AL.sets]
  refine v_loopX (α := Nat) (fun t => 16 ≤ t ∧ t ≤ 64) (fun t => [(0, pt b), (4, .int .u64 0), (5, .int .u64 0), (7, .int .i64 t)]) (fun t => [(4, wa KK), (5, wa (fil (sch bs t)))]) (fun _ => G) (fun t => 64 - t) 16
    (by omega) (by refine ⟨SL.get_fn (by with_unfolding_all rfl), SL.get_fn (by with_unfolding_all rfl), SL.get_fn (by with_unfolding_all rfl), SL.get_fn (by with_unfolding_all rfl), trivial⟩) ⟨AL.get_fn (by with_unfolding_all rfl), AL.get_fn (by with_unfolding_all rfl), trivial⟩ rfl ?_
  rintro t s l ⟨k1, k2⟩
  dsimp only [SL.sets, AL.sets]
  have e1 := sch_len bs t
  have e2 := fil_len (L := sch bs t) (by omega)
  have hX : 16 ≤ t → t < 64 → (fil (sch bs t)).set t ((fil (sch bs t)).getD ((t : Int) - 16).toNat 0#32 + (rot ((fil (sch bs t)).getD ((t : Int) - 15).toNat 0#32) 7 ^^^ rot ((fil (sch bs t)).getD ((t : Int) - 15).toNat 0#32) 18 ^^^ (fil (sch bs t)).getD ((t : Int) - 15).toNat 0#32 >>> Int.toNat 3) + (fil (sch bs t)).getD ((t : Int) - 7).toNat 0#32 + (rot ((fil (sch bs t)).getD ((t : Int) - 2).toNat 0#32) 17 ^^^ rot ((fil (sch bs t)).getD ((t : Int) - 2).toNat 0#32) 19 ^^^ (fil (sch bs t)).getD ((t : Int) - 2).toNat 0#32 >>> Int.toNat 10)) = fil (sch bs (t + 1)) := fun h1 h2 => by
    rw [show ((t : Int) - 16).toNat = t - 16 by omega, show ((t : Int) - 15).toNat = t - 15 by omega, show ((t : Int) - 7).toNat = t - 7 by omega, show ((t : Int) - 2).toNat = t - 2 by omega]
    have g1 := fil_at (L := sch bs t) (i := t - 16) (by omega)
    have g2 := fil_at (L := sch bs t) (i := t - 15) (by omega)
    have g3 := fil_at (L := sch bs t) (i := t - 7) (by omega)
    have g4 := fil_at (L := sch bs t) (i := t - 2) (by omega)
    unfold gw at g1 g2 g3 g4
    rw [g1, g2, g3, g4, sch_hi bs (by omega)]
    have := fil_set (L := sch bs t) (by omega) (gw (sch bs t) (t - 16) + sg0 (gw (sch bs t) (t - 15)) + gw (sch bs t) (t - 7) + sg1 (gw (sch bs t) (t - 2)))
    rw [e1] at this
    exact this
  (repeat' (first | (with_reducible refine i_ops ?_; first | (refine g_mv ?_; refine s_mv ?_) | refine o_nil ?_ | (refine g_idx ?_; first | (refine s_idxU ?_; intro p hp; try simp only [Int.toNat_natCast] at hp) | (refine s_idxOB ?_; intro p hp hpw) | (refine s_idxB ?_; intro p hp)) | (refine g_build ?_; first | refine s_build ?_ | refine s_buildP ?_) | (refine g_pure ?_; first | refine s_shr32 ?_ | refine s_xor32 ?_ | refine s_add32 ?_ | refine s_pure ?_ | refine s_saddB ?_) | (refine g_lload ?_; first | refine s_lloadU ?_ | refine s_lload ?_) | (refine g_lstore ?_; first | refine s_lstoreU ?_ | refine s_lstoreA ?_ | refine s_lstore ?_) | (refine g_lindex ?_; refine s_lindex ?_) | (refine g_lalloc ?_; refine s_lalloc ?_) | (refine g_hload ?_; refine s_hloadP ?_) | (refine g_hstore ?_; first | (refine s_hstoreU ?_; intro G' hle ho hkp) | (refine s_hstoreB ?_; intro G' hle ho hkp)) | refine o_callp (by with_unfolding_all rfl) (by first | exact r7 _ | exact r18 _ | exact r17 _ | exact r19 _) ?_ | (refine o_callg (by with_unfolding_all rfl) (by first | exact r7 _ | exact r18 _ | exact r17 _ | exact r19 _) ?_; intro G' hle)) | (with_reducible refine i_vc ?_; first | refine v_seq ?_ | refine v_ops ?_ | (refine g_cond ?_; first | refine s_cond_t ?_ | refine s_cond_f ?_) | refine v_block ?_ | refine v_skip ?_ | refine v_exit ?_ | refine v_ret ?_ | refine s_drawl ?_ | refine v_draw0 ?_) | (with_reducible refine i_plan ?_; first | refine p_done ?_ | refine s_pre ?_ | refine s_preN ?_ | refine s_ag_t ?_ | refine s_ag_f ?_ | refine p_callp (by with_unfolding_all rfl) (by first | exact r7 _ | exact r18 _ | exact r17 _ | exact r19 _) (by first | assumption | exact GH.le_refl _ | ((repeat (first | exact GH.le_refl _ | assumption | refine GH.le_trans ?_ (by assumption))); first | done | fail)) ?_ p_no | (refine p_callg (by with_unfolding_all rfl) (by first | exact r7 _ | exact r18 _ | exact r17 _ | exact r19 _) (by first | assumption | exact GH.le_refl _ | ((repeat (first | exact GH.le_refl _ | assumption | refine GH.le_trans ?_ (by assumption))); first | done | fail)) ?_ p_no; intro G' hle) | refine s_alt ?_ | refine p_alt ?_ ?_) | (with_reducible first | refine n_then ?_ | refine r_then ?_ | refine e_then ?_ | refine n_block ?_ | refine r_block ?_ | refine e_block_eq (by with_unfolding_all rfl) ?_ | refine e_block_ne (by with_unfolding_all rfl) ?_ | (refine g_stand ?_; first | refine s_stand ?_ | refine s_standL ?_)) | ((with_reducible first | refine s_cond_c ?_ ?_) <;> intro hb <;> rw [hb] <;> (try simp only [decide_eq_true_eq, decide_eq_false_iff_not, beq_iff_eq, bne_iff_ne, beq_eq_false_iff_ne, bne_eq_false_iff_eq, ne_eq, Int.not_lt, Int.not_le, gt_iff_lt, ge_iff_le, Bool.not_eq_true', Bool.not_eq_false'] at hb)) | ((with_reducible first | refine s_ret ?_ | refine s_normal ?_); try simp only [x_tup0, x_tup1, x_tup2, x_tup3, x_tup4, x_tup5, and_true, true_and])))
  rotate_right
  · have ht : t = 64 := by omega
    subst ht
    rw [fil_all e1]
    exact q_trim [(0, pt b), (4, .int .u64 0), (5, .int .u64 0)] [(4, wa KK), (5, wa (sch bs 64))] (by refine ⟨SL.get_fn (by with_unfolding_all rfl), SL.get_fn (by with_unfolding_all rfl), SL.get_fn (by with_unfolding_all rfl), trivial⟩) ⟨AL.get_fn (by with_unfolding_all rfl), AL.get_fn (by with_unfolding_all rfl), trivial⟩ hq
  all_goals
    refine ⟨64 - (t + 1), by omega, t + 1, rfl, by omega, (by refine ⟨SL.get_fn (by with_unfolding_all rfl), SL.get_fn (by with_unfolding_all rfl), SL.get_fn (by with_unfolding_all rfl), SL.get_fn (by with_unfolding_all rfl), trivial⟩), ⟨AL.get_fn (by with_unfolding_all rfl), ?_, trivial⟩, rfl⟩
    rw [← hX k1 (by omega)]
    exact AL.get_fn (by with_unfolding_all rfl)
end Go.Proofs.Ytbpjjhbkahinjaa.V
