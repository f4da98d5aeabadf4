/- Pointers: nil or not, fields. -/
import Derived.Test.YtbmhdmkmnhaffaaSYZVKDA
import Derived.Test.YtbmhdmkmnhaffaaSYZDJCA
section
set_option linter.unusedSimpArgs false
set_option linter.unusedVariables false
namespace Go.Proofs.Ytbmhdmkmnhaffaa.V
open Go.RowKit
section
variable {P : Program} {E : Env} {K : St → Prop} {r : List Stp} {dd : Option Nat} {L : SL} {A : AL} {G : GH}
theorem evs2p {a : Operand} {v c : Value} (h : evo L a = some v) : evs L [a, .const c] = some [v, c] := by
  show (match evo L a with | none => none | some v => match some [c] with | none => none | some vs => some (v :: vs)) = _
  rw [h]
theorem s_nilPf {d : Nat} {x : Operand} {a : Addr} (h : vops P E r K (S (.set d (.bool false) L) A G)) (hx : evo L x = some (.pointer (some a)) := by with_unfolding_all rfl) : vops P E (⟨none, dd, .pure d (.nilP false) [x, .const (.pointer none)]⟩ :: r) K (S L A G) := o_pure (evs2p hx) rfl h
theorem s_nilPt {d : Nat} {x : Operand} (h : vops P E r K (S (.set d (.bool true) L) A G)) (hx : evo L x = some (.pointer none) := by with_unfolding_all rfl) : vops P E (⟨none, dd, .pure d (.nilP false) [x, .const (.pointer none)]⟩ :: r) K (S L A G) := o_pure (evs2p hx) rfl h
theorem s_nilNf {d : Nat} {x : Operand} {a : Addr} (h : vops P E r K (S (.set d (.bool true) L) A G)) (hx : evo L x = some (.pointer (some a)) := by with_unfolding_all rfl) : vops P E (⟨none, dd, .pure d (.nilP true) [x, .const (.pointer none)]⟩ :: r) K (S L A G) := o_pure (evs2p hx) rfl h
theorem s_nilNt {d : Nat} {x : Operand} (h : vops P E r K (S (.set d (.bool false) L) A G)) (hx : evo L x = some (.pointer none) := by with_unfolding_all rfl) : vops P E (⟨none, dd, .pure d (.nilP true) [x, .const (.pointer none)]⟩ :: r) K (S L A G) := o_pure (evs2p hx) rfl h
theorem s_nilck {d : Nat} {x : Operand} {a : Addr} (h : vops P E r K (S (.set d (.pointer (some a)) L) A G)) (hx : evo L x = some (.pointer (some a)) := by with_unfolding_all rfl) : vops P E (⟨none, dd, .pure d .nilck [x]⟩ :: r) K (S L A G) := o_pure (vs := [.pointer (some a)]) (by simp only [evs, hx]) rfl h
theorem s_fptr0 {d o b : Nat} {x : Operand} (h : vops P E r K (S (.set d (.pointer (some ⟨b, o, none⟩)) L) A G)) (hx : evo L x = some (.pointer (some ⟨b, 0, none⟩)) := by with_unfolding_all rfl) : vops P E (⟨none, dd, .pure d (.fptr o) [x]⟩ :: r) K (S L A G) :=
  o_pure (vs := [.pointer (some ⟨b, 0, none⟩)]) (by simp only [evs, hx]) (by simp only [pureV, Nat.zero_add]) h
end
end Go.Proofs.Ytbmhdmkmnhaffaa.V
end
section
/- Calls of function values. -/
set_option linter.unusedSimpArgs false
set_option linter.unusedVariables false
namespace Go.Proofs.Ytbmhdmkmnhaffaa.V
open Go.RowKit
section
variable {P : Program} {E : Env} {K : St → Prop} {r : List Stp} {dd : Option Nat} {L : SL} {A : AL} {G : GH}
theorem o_callv {d : Nat} {f : FuncId} {x : Operand} {xs : List Operand} {vs : List Value} {first captured args : Array Value} {R : Value → GH → Prop} (hf : evo L x = some (.func (.func f) first captured)) (hx : evs L xs = some vs) (hp : callable P f = true) (ha : first ++ vs.toArray ++ captured = args) (hc : HC P f args G R) (h : ∀ v G', R v G' → vops P E r K (S (.set d v L) A G')) : vops P E (⟨none, dd, .callv (some d) x xs⟩ :: r) K (S L A G) := by
  subst ha
  refine ⟨f, first, captured, evo_ev hf, hp, ?_⟩
  rw [evs_ev hx]
  exact hc.mono fun v G' hr => h v G' hr
end
end Go.Proofs.Ytbmhdmkmnhaffaa.V
end
section
/- Records on the heap: steps. -/
set_option linter.unusedVariables false
namespace Go.Proofs.Ytbmhdmkmnhaffaa.V
open Go.RowKit Go.ChangeShapes Go.WideShapes
section
variable {P : Program} {E : Env} {K : St → Prop} {r : List Stp} {dd : Option Nat} {L : SL} {A : AL} {G : GH}
theorem s_hloadC {d b o : Nat} {x : Operand} {cs : Array Value} {t : TypeId} {fr : Nat × Nat} {v : Value} (h : vops P E r K (S (.set d v L) A G)) (hx : evo L x = some (.pointer (some ⟨b, o, none⟩)) := by with_unfolding_all rfl) (hb : G b = some (.cells cs t fr) := by assumption) (hv : takeV false cs o 1 = some v := by with_unfolding_all rfl) : vops P E (⟨none, dd, .hload d 1 false x⟩ :: r) K (S L A G) :=
  o_hloadP hx ⟨b, o, cs, t, fr, rfl, hb, hv⟩ h
theorem o_hst {x z : Operand} {b q : Nat} {y : Value} {cs cs' : Array Value} {t : TypeId} (hx : evo L x = some (.pointer (some ⟨b, q, none⟩))) (hz : evo L z = some y) (hb : G b = some (.cells cs t (0, 0))) (hy : y.cells = #[y]) (h1 : cells1 [y] = true) (hq : q < cs.size) (hcs : wr cs q [y] = cs') (h : ∀ G', G' b = some (.cells cs' t (0, 0)) → (∀ c, c ≠ b → G' c = G c) → vops P E r K (S L A G')) : vops P E (⟨none, dd, .hstore 1 x z⟩ :: r) K (S L A G) := by
  refine o_hstore hx hb hz (vs := [y]) hy ⟨rfl, hq, h1, .inl (Nat.zero_le _)⟩ ?_
  rw [hcs]
  exact h _ (GH.put_same _ _ _) fun c hc => GH.put_ne _ _ hc
end
/-- A disk's cells. -/
def dc (made : Bool) (room : Int) (nw ls us : Value) (fuse : Int) (gone : Bool) : Array Value := #[.bool made, .int .i64 room, nw, ls, us, .int .i64 fuse, .bool gone]
section
variable {P : Program} {E : Env} {K : St → Prop} {r : List Stp} {dd : Option Nat} {L : SL} {A : AL} {G : GH} {b d : Nat} {x : Operand} {made : Bool} {room fuse : Int} {nw ls us : Value} {gone : Bool} {t : TypeId} {fr : Nat × Nat}
theorem s_d0 (h : vops P E r K (S (.set d (.bool made) L) A G)) (hx : evo L x = some (.pointer (some ⟨b, 0, none⟩)) := by with_unfolding_all rfl) (hb : G b = some (.cells (dc made room nw ls us fuse gone) t fr) := by assumption) : vops P E (⟨none, dd, .hload d 1 false x⟩ :: r) K (S L A G) := o_hloadP hx ⟨b, 0, _, t, fr, rfl, hb, rfl⟩ h
theorem s_d1 (h : vops P E r K (S (.set d (.int .i64 room) L) A G)) (hx : evo L x = some (.pointer (some ⟨b, 1, none⟩)) := by with_unfolding_all rfl) (hb : G b = some (.cells (dc made room nw ls us fuse gone) t fr) := by assumption) : vops P E (⟨none, dd, .hload d 1 false x⟩ :: r) K (S L A G) := o_hloadP hx ⟨b, 1, _, t, fr, rfl, hb, rfl⟩ h
theorem s_d2 (h : vops P E r K (S (.set d (nw) L) A G)) (hx : evo L x = some (.pointer (some ⟨b, 2, none⟩)) := by with_unfolding_all rfl) (hb : G b = some (.cells (dc made room nw ls us fuse gone) t fr) := by assumption) : vops P E (⟨none, dd, .hload d 1 false x⟩ :: r) K (S L A G) := o_hloadP hx ⟨b, 2, _, t, fr, rfl, hb, rfl⟩ h
theorem s_d3 (h : vops P E r K (S (.set d (ls) L) A G)) (hx : evo L x = some (.pointer (some ⟨b, 3, none⟩)) := by with_unfolding_all rfl) (hb : G b = some (.cells (dc made room nw ls us fuse gone) t fr) := by assumption) : vops P E (⟨none, dd, .hload d 1 false x⟩ :: r) K (S L A G) := o_hloadP hx ⟨b, 3, _, t, fr, rfl, hb, rfl⟩ h
theorem s_d4 (h : vops P E r K (S (.set d (us) L) A G)) (hx : evo L x = some (.pointer (some ⟨b, 4, none⟩)) := by with_unfolding_all rfl) (hb : G b = some (.cells (dc made room nw ls us fuse gone) t fr) := by assumption) : vops P E (⟨none, dd, .hload d 1 false x⟩ :: r) K (S L A G) := o_hloadP hx ⟨b, 4, _, t, fr, rfl, hb, rfl⟩ h
theorem s_d5 (h : vops P E r K (S (.set d (.int .i64 fuse) L) A G)) (hx : evo L x = some (.pointer (some ⟨b, 5, none⟩)) := by with_unfolding_all rfl) (hb : G b = some (.cells (dc made room nw ls us fuse gone) t fr) := by assumption) : vops P E (⟨none, dd, .hload d 1 false x⟩ :: r) K (S L A G) := o_hloadP hx ⟨b, 5, _, t, fr, rfl, hb, rfl⟩ h
theorem s_d6 (h : vops P E r K (S (.set d (.bool gone) L) A G)) (hx : evo L x = some (.pointer (some ⟨b, 6, none⟩)) := by with_unfolding_all rfl) (hb : G b = some (.cells (dc made room nw ls us fuse gone) t fr) := by assumption) : vops P E (⟨none, dd, .hload d 1 false x⟩ :: r) K (S L A G) := o_hloadP hx ⟨b, 6, _, t, fr, rfl, hb, rfl⟩ h
theorem s_hbx {v : Value} (h : vops P E r K (S (.set d v L) A G)) (hx : evo L x = some (pt b) := by with_unfolding_all rfl) (hb : G b = some (bx v t) := by assumption) : vops P E (⟨none, dd, .hload d 1 false x⟩ :: r) K (S L A G) := o_hloadP hx ⟨b, 0, _, t, (0, 0), rfl, hb, rfl⟩ h
theorem o_hboxV {v : Value} (hx : evo L x = some v) (hv : v.cells = #[v]) (h : ∀ c G', G c = none → G.le G' → G' c = some (bx v t) → (∀ i, i ≠ c → G' i = G i) → vops P E r K (S (.set d (pt c) L) A G')) : vops P E (⟨none, dd, .hbox d t x⟩ :: r) K (S L A G) :=
  o_hbox (z := #[v]) hx hv fun c hc => h c _ hc (GH.le_put _ hc) (GH.put_same _ _ _) fun i hi => GH.put_ne _ _ hi
end
theorem frame_fr {Gv H G' : GH} {w w' : World} (hle : Gv.le H) (hw : View H w) (hf : Fr Gv w G' w') : ∃ H', Fr H w H' w' ∧ G'.le H' ∧ (∀ c o, Gv c = none → H c = some o → H' c = some o ∧ G' c = none) := by
  have key : ∀ c o, Gv c = none → H c = some o → w'.heap[c]? = some o ∧ G' c = none := fun c o hn ho => by
    have hlt := hw.lt ho
    exact ⟨(hf.block c hlt hn).trans (hw c o ho), hf.none c hlt hn⟩
  refine ⟨fun c => match G' c with | some o => some o | none => if Gv c = none then H c else none, ⟨hf.os, hf.tape, hf.output, hf.size, fun b hb hn => ?_, fun b hb hn => ?_, fun b o ho => ?_⟩, fun c o hc => ?_, fun c o hn ho => ⟨?_, (key c o hn ho).2⟩⟩
  · exact hf.block b hb (le_none hle hn)
  · have h1 := hf.none b hb (le_none hle hn)
    simp only [h1, le_none hle hn, if_true]; exact hn
  · cases e : G' b with
    | some o' =>
      simp only [e] at ho
      cases ho; exact hf.view b _ e
    | none =>
      simp only [e] at ho
      split at ho
      · rename_i hn
        exact (key b o hn ho).1
      · cases ho
  · simp only [hc]
  · have h1 := (key c o hn ho).2
    simp only [h1, hn, if_true]; exact ho
theorem HY.frame {P : Program} {l : Nat} {args : Array Value} {Gv H : GH} {R : Value → GH → Prop} (hle : Gv.le H) (h : HY P l args Gv R) : HY P l args H fun v H' => ∃ G', R v G' ∧ G'.le H' ∧ (∀ c o, Gv c = none → H c = some o → H' c = some o ∧ G' c = none) := by
  intro w hw
  obtain ⟨fn, tmps, assign, body, h1, h2⟩ := h w (fun b o hb => hw b o (hle b o hb))
  refine ⟨fn, tmps, assign, body, h1, h2.mono ?_⟩
  rintro e w' ⟨v, G', rfl, hf, hR⟩
  obtain ⟨H', f1, f2, f3⟩ := frame_fr hle hw hf
  exact ⟨v, H', rfl, f1, G', hR, f2, f3⟩
end Go.Proofs.Ytbmhdmkmnhaffaa.V
end
section
/- The files of a disk, one behind the other: Names. -/
set_option linter.unusedVariables false
set_option linter.unusedSimpArgs false
-- @pre g_hload s_hloadC
namespace Go.Proofs.Ytbmhdmkmnhaffaa.V
open Go.RowKit Go.ChangeShapes Go.WideShapes
/-- The names of a map, in their order. -/
def namesM (m : AM) : List Nm := (m.map (·.1)).mergeSort leN
theorem namesM_len (m : AM) : (namesM m).length = m.length := by simp [namesM]
theorem namesM_mem {m : AM} {s : Nm} : s ∈ namesM m ↔ s ∈ m.map (·.1) := by simp [namesM]
theorem lk_some {s : Nm} : ∀ {m : AM}, s ∈ m.map (·.1) → ∃ v, lk s m = some v ∧ (s, v) ∈ m
  | (k, u) :: m, h => by
    rw [lk]
    by_cases e : s = k
    · exact ⟨u, by rw [if_pos e], by rw [e]; exact List.mem_cons_self⟩
    · rw [List.map_cons, List.mem_cons] at h
      rcases h with h | h
      · exact absurd h e
      · obtain ⟨v, h1, h2⟩ := lk_some h
        exact ⟨v, by rw [if_neg e]; exact h1, List.mem_cons_of_mem _ h2⟩
/-- All values are slices. -/
def slV (m : AM) : Prop := ∀ p ∈ m, ∃ a n c, p.2 = .slice a n c
/-- What the files' iterator tells. -/
def FileI (m : AM) (k : Nat) (x : List Value) (_ _ : GH) : Prop := ∃ s a n c, (namesM m)[k]? = some s ∧ lk s m = some (.slice a n c) ∧ x = [sv s, .int .i64 n]
theorem namesIt (bk b t : Nat) (o : Obj) (m : AM) (Gi : GH) (hk : Gi bk = some (bx (.map (some b)) t)) (hb : Gi b = some o) (hm : MapO o m) (hs : slV m) (hl : ∀ s ∈ m.map (·.1), s.length ≤ 4096) (hn : m.length ≤ 1000000) :
    IterC Try.prog 44 [pt bk] Gi m.length (FileI m) := by
  refine ⟨fun k x G0 G l o hl hc h => h, ?_⟩
  intro yl J Jx mJ mJx hG hy G h0
  have hG0 := hG 0 G h0
  refine HC.start comp44 rfl ?_; unfold pc44
  have k1 := hG0 _ _ hk
  have k2 := hG0 _ _ hb
  (repeat' (first | (with_reducible refine i_ops ?_; first | (refine g_mv ?_; refine s_mv ?_) | refine o_nil ?_ | (refine g_len ?_; first | refine s_lenB ?_ | refine s_pure ?_) | (refine g_idx ?_; first | (refine s_idxOB ?_; intro p hp hpw) | (refine s_idxB ?_; intro p hp)) | (refine g_pure ?_; first | refine s_pure ?_ | refine s_saddB ?_) | (refine g_hload ?_; first | refine s_hloadC ?_ | refine s_hloadP ?_)) | (with_reducible refine i_vc ?_; first | refine v_seq ?_ | refine v_ops ?_ | (refine g_cond ?_; first | refine s_cond_t ?_ | refine s_cond_f ?_) | refine v_block ?_ | refine v_skip ?_ | refine v_exit ?_ | refine v_ret ?_) | (with_reducible first | refine n_then ?_ | refine r_then ?_ | refine e_then ?_ | refine n_block ?_ | refine r_block ?_ | refine e_block_eq qrf ?_ | refine e_block_ne qrf ?_) | ((with_reducible first | refine s_cond_c ?_ ?_) <;> intro hb <;> rw [hb] <;> (try simp only [decide_eq_true_eq, decide_eq_false_iff_not, beq_iff_eq, bne_iff_ne, beq_eq_false_iff_ne, bne_eq_false_iff_eq, ne_eq, Int.not_lt, Int.not_le, gt_iff_lt, ge_iff_le, Bool.not_eq_true', Bool.not_eq_false'] at hb)) | ((with_reducible first | refine s_ret ?_ | refine s_normal ?_); try simp only [x_tup0, x_tup1, x_tup2, x_tup3, x_tup4, x_tup5, and_true, true_and])))
  refine o_callc qrf (keysO (some b) G) ?_
  rintro _ G1 ⟨bb, t', hbb, rfl, rfl⟩
  have q1 : G.le (G.put bb (bx (.map (some b)) t')) := GH.le_put _ hbb
  have q2 : (G.put bb (bx (.map (some b)) t')) bb = some (bx (.map (some b)) t') := GH.put_same _ _ _
  generalize G.put bb (bx (.map (some b)) t') = G1 at q1 q2 ⊢
  refine o_callc qrf (sortedO bb b t' o m G1 q2 (q1 _ _ k2) hm hl hn) ?_
  rintro w G2 ⟨q3, hw⟩
  have hws := hw.sl
  have hlen : lenS w = m.length := by
    have := Sl.len hws
    rw [List.length_map] at this
    have e := namesM_len m
    unfold namesM at e
    omega
  have hll := Sl.lenL hws
  rw [hlen] at hll
  refine o_pure (vs := [w]) (v := .int .i64 m.length) qrf hll ?_
  (repeat' (first | (with_reducible refine i_ops ?_; first | (refine g_mv ?_; refine s_mv ?_) | refine o_nil ?_ | (refine g_len ?_; first | refine s_lenB ?_ | refine s_pure ?_) | (refine g_idx ?_; first | (refine s_idxOB ?_; intro p hp hpw) | (refine s_idxB ?_; intro p hp)) | (refine g_pure ?_; first | refine s_pure ?_ | refine s_saddB ?_) | (refine g_hload ?_; first | refine s_hloadC ?_ | refine s_hloadP ?_)) | (with_reducible refine i_vc ?_; first | refine v_seq ?_ | refine v_ops ?_ | (refine g_cond ?_; first | refine s_cond_t ?_ | refine s_cond_f ?_) | refine v_block ?_ | refine v_skip ?_ | refine v_exit ?_ | refine v_ret ?_) | (with_reducible first | refine n_then ?_ | refine r_then ?_ | refine e_then ?_ | refine n_block ?_ | refine r_block ?_ | refine e_block_eq qrf ?_ | refine e_block_ne qrf ?_) | ((with_reducible first | refine s_cond_c ?_ ?_) <;> intro hb <;> rw [hb] <;> (try simp only [decide_eq_true_eq, decide_eq_false_iff_not, beq_iff_eq, bne_iff_ne, beq_eq_false_iff_ne, bne_eq_false_iff_eq, ne_eq, Int.not_lt, Int.not_le, gt_iff_lt, ge_iff_le, Bool.not_eq_true', Bool.not_eq_false'] at hb)) | ((with_reducible first | refine s_ret ?_ | refine s_normal ?_); try simp only [x_tup0, x_tup1, x_tup2, x_tup3, x_tup4, x_tup5, and_true, true_and])))
  refine v_loopX (α := Nat × GH × GH) (fun q => q.1 ≤ m.length ∧ J q.1 q.2.2 ∧ q.2.2.le q.2.1 ∧ Sl 1 q.2.1 w ((namesM m).map sv) ∧ ∀ c, blkS w = some c → q.2.2 c = none ∧ ∃ o, q.2.1 c = some o) (fun q => [(0, .func (.yield yl) #[] #[]), (1, pt bk), (7, w), (8, .int .i64 m.length), (9, .int .i64 q.1)]) (fun _ => []) (fun q => q.2.1) (fun q => m.length - q.1) (0, G2, G) ⟨Nat.zero_le _, h0, GH.le_trans q1 q3, hws, fun c hc => ?_⟩ qhs trivial rfl ?_
  · obtain ⟨o', e1, e2⟩ := hw.at_ hc
    exact ⟨le_none q1 e2, o', e1⟩
  rintro ⟨k, H, Hv⟩ s l ⟨i1, i2, i3, i4, i5⟩
  dsimp only at i1 i2 i3 i4 i5
  dsimp only [SL.sets, AL.sets]
  have hH := GH.le_trans (hG k Hv i2) i3
  have hkH := hH _ _ hk
  have hbH := hH _ _ hb
  (repeat' (first | (with_reducible refine i_ops ?_; first | (refine g_mv ?_; refine s_mv ?_) | refine o_nil ?_ | (refine g_len ?_; first | refine s_lenB ?_ | refine s_pure ?_) | (refine g_idx ?_; first | (refine s_idxOB ?_; intro p hp hpw) | (refine s_idxB ?_; intro p hp)) | (refine g_pure ?_; first | refine s_pure ?_ | refine s_saddB ?_) | (refine g_hload ?_; first | refine s_hloadC ?_ | refine s_hloadP ?_)) | (with_reducible refine i_vc ?_; first | refine v_seq ?_ | refine v_ops ?_ | (refine g_cond ?_; first | refine s_cond_t ?_ | refine s_cond_f ?_) | refine v_block ?_ | refine v_skip ?_ | refine v_exit ?_ | refine v_ret ?_) | (with_reducible first | refine n_then ?_ | refine r_then ?_ | refine e_then ?_ | refine n_block ?_ | refine r_block ?_ | refine e_block_eq qrf ?_ | refine e_block_ne qrf ?_) | ((with_reducible first | refine s_cond_c ?_ ?_) <;> intro hb <;> rw [hb] <;> (try simp only [decide_eq_true_eq, decide_eq_false_iff_not, beq_iff_eq, bne_iff_ne, beq_eq_false_iff_ne, bne_eq_false_iff_eq, ne_eq, Int.not_lt, Int.not_le, gt_iff_lt, ge_iff_le, Bool.not_eq_true', Bool.not_eq_false'] at hb)) | ((with_reducible first | refine s_ret ?_ | refine s_normal ?_); try simp only [x_tup0, x_tup1, x_tup2, x_tup3, x_tup4, x_tup5, and_true, true_and])))
  · have hkl : k < (namesM m).length := by rw [namesM_len]; omega
    have hx : ((namesM m).map sv)[Int.toNat (k : Int)]? = some (sv (namesM m)[k]) := by
      rw [Int.toNat_natCast, List.getElem?_map, List.getElem?_eq_getElem hkl]; rfl
    refine o_idxS qrf i4 qrf (by omega) hx ?_
    intro p hp
    (repeat' (first | (with_reducible refine i_ops ?_; first | (refine g_mv ?_; refine s_mv ?_) | refine o_nil ?_ | (refine g_len ?_; first | refine s_lenB ?_ | refine s_pure ?_) | (refine g_idx ?_; first | (refine s_idxOB ?_; intro p hp hpw) | (refine s_idxB ?_; intro p hp)) | (refine g_pure ?_; first | refine s_pure ?_ | refine s_saddB ?_) | (refine g_hload ?_; first | refine s_hloadC ?_ | refine s_hloadP ?_)) | (with_reducible refine i_vc ?_; first | refine v_seq ?_ | refine v_ops ?_ | (refine g_cond ?_; first | refine s_cond_t ?_ | refine s_cond_f ?_) | refine v_block ?_ | refine v_skip ?_ | refine v_exit ?_ | refine v_ret ?_) | (with_reducible first | refine n_then ?_ | refine r_then ?_ | refine e_then ?_ | refine n_block ?_ | refine r_block ?_ | refine e_block_eq qrf ?_ | refine e_block_ne qrf ?_) | ((with_reducible first | refine s_cond_c ?_ ?_) <;> intro hb <;> rw [hb] <;> (try simp only [decide_eq_true_eq, decide_eq_false_iff_not, beq_iff_eq, bne_iff_ne, beq_eq_false_iff_ne, bne_eq_false_iff_eq, ne_eq, Int.not_lt, Int.not_le, gt_iff_lt, ge_iff_le, Bool.not_eq_true', Bool.not_eq_false'] at hb)) | ((with_reducible first | refine s_ret ?_ | refine s_normal ?_); try simp only [x_tup0, x_tup1, x_tup2, x_tup3, x_tup4, x_tup5, and_true, true_and])))
    obtain ⟨v, e1, e2⟩ := lk_some (namesM_mem.1 (List.getElem_mem hkl))
    obtain ⟨a, n, c, rfl⟩ := hs _ e2
    refine o_mlook (s := (namesM m)[k]) qrf qrf hbH hm ?_
    have e3 : lookV false (.slice none 0 0) (lkI (namesM m)[k] m 0) = .slice a n c := by
      have := lkI_lk (namesM m)[k] m 0
      rw [e1] at this
      cases hq : lkI (namesM m)[k] m 0 with
      | none => rw [hq] at this; cases this
      | some r => rw [hq] at this; simpa [lookV] using this
    rw [e3]
    (repeat' (first | (with_reducible refine i_ops ?_; first | (refine g_mv ?_; refine s_mv ?_) | refine o_nil ?_ | (refine g_len ?_; first | refine s_lenB ?_ | refine s_pure ?_) | (refine g_idx ?_; first | (refine s_idxOB ?_; intro p hp hpw) | (refine s_idxB ?_; intro p hp)) | (refine g_pure ?_; first | refine s_pure ?_ | refine s_saddB ?_) | (refine g_hload ?_; first | refine s_hloadC ?_ | refine s_hloadP ?_)) | (with_reducible refine i_vc ?_; first | refine v_seq ?_ | refine v_ops ?_ | (refine g_cond ?_; first | refine s_cond_t ?_ | refine s_cond_f ?_) | refine v_block ?_ | refine v_skip ?_ | refine v_exit ?_ | refine v_ret ?_) | (with_reducible first | refine n_then ?_ | refine r_then ?_ | refine e_then ?_ | refine n_block ?_ | refine r_block ?_ | refine e_block_eq qrf ?_ | refine e_block_ne qrf ?_) | ((with_reducible first | refine s_cond_c ?_ ?_) <;> intro hb <;> rw [hb] <;> (try simp only [decide_eq_true_eq, decide_eq_false_iff_not, beq_iff_eq, bne_iff_ne, beq_eq_false_iff_ne, bne_eq_false_iff_eq, ne_eq, Int.not_lt, Int.not_le, gt_iff_lt, ge_iff_le, Bool.not_eq_true', Bool.not_eq_false'] at hb)) | ((with_reducible first | refine s_ret ?_ | refine s_normal ?_); try simp only [x_tup0, x_tup1, x_tup2, x_tup3, x_tup4, x_tup5, and_true, true_and])))
    refine o_yield qrf qrf (HY.frame i3 (hy k _ Hv Hv (by omega) i2 (GH.le_refl _) ⟨(namesM m)[k], a, n, c, List.getElem?_eq_getElem hkl, e1, rfl⟩)) ?_
    rintro v H2 ⟨G3, hv, f1, f2⟩
    have g4 : Sl 1 H2 w ((namesM m).map sv) := i4.keep fun c hc o ho => (f2 c o (i5 c hc).1 ho).1
    have g5 : ∀ c, blkS w = some c → G3 c = none ∧ ∃ o, H2 c = some o := fun c hc => by
      obtain ⟨j1, o, j2⟩ := i5 c hc
      exact ⟨(f2 c o j1 j2).2, o, (f2 c o j1 j2).1⟩
    rcases hv with ⟨rfl, hJ⟩ | ⟨rfl, hJ⟩
    · (repeat' (first | (with_reducible refine i_ops ?_; first | (refine g_mv ?_; refine s_mv ?_) | refine o_nil ?_ | (refine g_len ?_; first | refine s_lenB ?_ | refine s_pure ?_) | (refine g_idx ?_; first | (refine s_idxOB ?_; intro p hp hpw) | (refine s_idxB ?_; intro p hp)) | (refine g_pure ?_; first | refine s_pure ?_ | refine s_saddB ?_) | (refine g_hload ?_; first | refine s_hloadC ?_ | refine s_hloadP ?_)) | (with_reducible refine i_vc ?_; first | refine v_seq ?_ | refine v_ops ?_ | (refine g_cond ?_; first | refine s_cond_t ?_ | refine s_cond_f ?_) | refine v_block ?_ | refine v_skip ?_ | refine v_exit ?_ | refine v_ret ?_) | (with_reducible first | refine n_then ?_ | refine r_then ?_ | refine e_then ?_ | refine n_block ?_ | refine r_block ?_ | refine e_block_eq qrf ?_ | refine e_block_ne qrf ?_) | ((with_reducible first | refine s_cond_c ?_ ?_) <;> intro hb <;> rw [hb] <;> (try simp only [decide_eq_true_eq, decide_eq_false_iff_not, beq_iff_eq, bne_iff_ne, beq_eq_false_iff_ne, bne_eq_false_iff_eq, ne_eq, Int.not_lt, Int.not_le, gt_iff_lt, ge_iff_le, Bool.not_eq_true', Bool.not_eq_false'] at hb)) | ((with_reducible first | refine s_ret ?_ | refine s_normal ?_); try simp only [x_tup0, x_tup1, x_tup2, x_tup3, x_tup4, x_tup5, and_true, true_and])))
      exact ⟨m.length - (k + 1), by omega, (k + 1, H2, G3), rfl, ⟨by dsimp only; omega, hJ, f1, g4, g5⟩, qhs, trivial, rfl⟩
    · (repeat' (first | (with_reducible refine i_ops ?_; first | (refine g_mv ?_; refine s_mv ?_) | refine o_nil ?_ | (refine g_len ?_; first | refine s_lenB ?_ | refine s_pure ?_) | (refine g_idx ?_; first | (refine s_idxOB ?_; intro p hp hpw) | (refine s_idxB ?_; intro p hp)) | (refine g_pure ?_; first | refine s_pure ?_ | refine s_saddB ?_) | (refine g_hload ?_; first | refine s_hloadC ?_ | refine s_hloadP ?_)) | (with_reducible refine i_vc ?_; first | refine v_seq ?_ | refine v_ops ?_ | (refine g_cond ?_; first | refine s_cond_t ?_ | refine s_cond_f ?_) | refine v_block ?_ | refine v_skip ?_ | refine v_exit ?_ | refine v_ret ?_) | (with_reducible first | refine n_then ?_ | refine r_then ?_ | refine e_then ?_ | refine n_block ?_ | refine r_block ?_ | refine e_block_eq qrf ?_ | refine e_block_ne qrf ?_) | ((with_reducible first | refine s_cond_c ?_ ?_) <;> intro hb <;> rw [hb] <;> (try simp only [decide_eq_true_eq, decide_eq_false_iff_not, beq_iff_eq, bne_iff_ne, beq_eq_false_iff_ne, bne_eq_false_iff_eq, ne_eq, Int.not_lt, Int.not_le, gt_iff_lt, ge_iff_le, Bool.not_eq_true', Bool.not_eq_false'] at hb)) | ((with_reducible first | refine s_ret ?_ | refine s_normal ?_); try simp only [x_tup0, x_tup1, x_tup2, x_tup3, x_tup4, x_tup5, and_true, true_and])))
      exact .inr (mJx _ _ hJ f1)
  · have e : k = m.length := by omega
    subst e
    exact .inl (mJ _ _ _ i2 i3)
end Go.Proofs.Ytbmhdmkmnhaffaa.V
end
section
/- Plain: files by name; what units do to them. -/
set_option linter.unusedVariables false
set_option linter.unusedSimpArgs false
namespace Go.Proofs.Ytbmhdmkmnhaffaa.V
abbrev Bs := List UInt8
abbrev Fis := List (Nm × Bs)
def fget (s : Nm) : Fis → Option Bs
  | [] => none
  | (k, v) :: fs => if s = k then some v else fget s fs
/-- Put in the order of names. -/
def fput (s : Nm) (v : Bs) : Fis → Fis
  | [] => [(s, v)]
  | (k, u) :: fs => if s = k then (s, v) :: fs else if s < k then (s, v) :: (k, u) :: fs else (k, u) :: fput s v fs
def fdel (s : Nm) (fs : Fis) : Fis := fs.filter fun p => decide (p.1 ≠ s)
def FSo (fs : Fis) : Prop := fs.Pairwise fun p q => p.1 < q.1
theorem nlt_irrefl (a : Nm) : ¬a < a := List.lt_irrefl a
theorem fput_mem {s : Nm} {v : Bs} : ∀ {fs : Fis} {p : Nm × Bs}, p ∈ fput s v fs → p = (s, v) ∨ p ∈ fs
  | [], p, h => by
    rw [fput, List.mem_singleton] at h
    exact .inl h
  | (k, u) :: fs, p, h => by
    rw [fput] at h
    split at h
    · rw [List.mem_cons] at h
      rcases h with h | h
      · exact .inl h
      · exact .inr (List.mem_cons_of_mem _ h)
    · split at h
      · rw [List.mem_cons] at h
        exact h
      · rw [List.mem_cons] at h
        rcases h with h | h
        · exact .inr (by rw [h]; exact List.mem_cons_self)
        · rcases fput_mem h with h | h
          · exact .inl h
          · exact .inr (List.mem_cons_of_mem _ h)
theorem fput_so {s : Nm} {v : Bs} : ∀ {fs : Fis}, FSo fs → FSo (fput s v fs)
  | [], _ => List.pairwise_singleton _ _
  | (k, u) :: fs, h => by
    unfold FSo at h
    rw [List.pairwise_cons] at h
    rw [fput]
    split
    · rename_i e
      subst e
      exact List.pairwise_cons.2 h
    · rename_i e
      split
      · rename_i l
        refine List.pairwise_cons.2 ⟨fun q hq => ?_, List.pairwise_cons.2 h⟩
        rw [List.mem_cons] at hq
        rcases hq with rfl | hq
        · exact l
        · exact List.lt_trans l (h.1 q hq)
      · rename_i l
        refine List.pairwise_cons.2 ⟨fun q hq => ?_, fput_so h.2⟩
        rcases fput_mem hq with rfl | hq
        · by_cases g : k < s
          · exact g
          · exact absurd (List.le_antisymm (List.not_lt.1 g) (List.not_lt.1 l)) e
        · exact h.1 q hq
theorem fdel_so {s : Nm} {fs : Fis} (h : FSo fs) : FSo (fdel s fs) := h.filter _
theorem fget_put (s t : Nm) (v : Bs) : ∀ fs : Fis, fget t (fput s v fs) = if t = s then some v else fget t fs
  | [] => by simp [fput, fget]
  | (k, u) :: fs => by
    rw [fput]
    by_cases e : s = k
    · subst e
      rw [if_pos rfl, fget, fget]
      by_cases g : t = s
      · rw [if_pos g, if_pos g]
      · rw [if_neg g, if_neg g, if_neg g]
    · rw [if_neg e]
      split
      · rw [fget]
      · rw [fget, fget, fget_put s t v fs]
        by_cases g : t = k
        · rw [if_pos g, if_pos g, if_neg (fun e' => e (e'.symm.trans g))]
        · rw [if_neg g, if_neg g]
theorem fget_del (s t : Nm) : ∀ fs : Fis, fget t (fdel s fs) = if t = s then none else fget t fs
  | [] => by simp [fdel, fget]
  | (k, u) :: fs => by
    have ih := fget_del s t fs
    unfold fdel at ih ⊢
    rw [List.filter_cons]
    by_cases e : k = s
    · subst e
      rw [if_neg (by simp), ih, fget]
      by_cases g : t = k
      · rw [if_pos g, if_pos g]
      · rw [if_neg g, if_neg g, if_neg g]
    · rw [if_pos (by simpa using e), fget, ih, fget]
      by_cases g : t = k
      · rw [if_pos g, if_pos g, if_neg (fun e' => e (g.symm.trans e'))]
      · rw [if_neg g, if_neg g]
theorem fget_mem {s : Nm} : ∀ {fs : Fis} {v : Bs}, fget s fs = some v → (s, v) ∈ fs
  | (k, u) :: fs, v, h => by
    rw [fget] at h
    split at h
    · rename_i e; subst e; cases h; exact List.mem_cons_self
    · exact List.mem_cons_of_mem _ (fget_mem h)
theorem fget_of {s : Nm} {v : Bs} : ∀ {fs : Fis}, FSo fs → (s, v) ∈ fs → fget s fs = some v
  | (k, u) :: fs, h, hm => by
    unfold FSo at h
    rw [List.pairwise_cons] at h
    rw [fget]
    rw [List.mem_cons] at hm
    rcases hm with hm | hm
    · cases hm; rw [if_pos rfl]
    · rw [if_neg (fun e => ?_), fget_of h.2 hm]
      have := h.1 _ hm
      rw [e] at this
      exact nlt_irrefl _ this
theorem fso_nodup {fs : Fis} (h : FSo fs) : (fs.map (·.1)).Nodup := by
  unfold FSo at h
  exact List.pairwise_map.2 (h.imp fun hlt e => by rw [e] at hlt; exact nlt_irrefl _ hlt)
theorem fmem_iff {s : Nm} {fs : Fis} (h : FSo fs) : s ∈ fs.map (·.1) ↔ ∃ v, fget s fs = some v := by
  constructor
  · intro hm
    obtain ⟨⟨k, v⟩, h1, rfl⟩ := List.mem_map.1 hm
    exact ⟨v, fget_of h h1⟩
  · rintro ⟨v, hv⟩
    exact List.mem_map_of_mem (fget_mem hv)
theorem fput_len {s : Nm} {v : Bs} : ∀ {fs : Fis}, (fput s v fs).length ≤ fs.length + 1
  | [] => by simp [fput]
  | (k, u) :: fs => by
    rw [fput]
    split
    · simp
    · split
      · simp
      · have := fput_len (s := s) (v := v) (fs := fs)
        simp only [List.length_cons]
        omega
theorem fdel_len {s : Nm} {fs : Fis} : (fdel s fs).length ≤ fs.length := List.length_filter_le _ _
/-- A map that holds these files. -/
def MR (I : GH) (m : AM) (fs : Fis) : Prop := ∀ s, (∃ v bs, lk s m = some v ∧ fget s fs = some bs ∧ By I v bs) ∨ (lk s m = none ∧ fget s fs = none)
theorem MR.le {I I' : GH} {m : AM} {fs : Fis} (h : MR I m fs) (hl : I.le I') : MR I' m fs := fun s => by
  rcases h s with ⟨v, bs, h1, h2, h3⟩ | h
  · exact .inl ⟨v, bs, h1, h2, Sl.le h3 hl⟩
  · exact .inr h
theorem MR.empty (I : GH) : MR I [] [] := fun s => .inr ⟨rfl, rfl⟩
theorem MR.put {I : GH} {m : AM} {fs : Fis} (h : MR I m fs) {v : Value} {bs : Bs} (hv : By I v bs) (s : Nm) : MR I (putM s v m) (fput s bs fs) := fun t => by
  rw [lk_put, fget_put]
  by_cases e : t = s
  · rw [if_pos e, if_pos e]
    exact .inl ⟨v, bs, rfl, rfl, hv⟩
  · rw [if_neg e, if_neg e]
    exact h t
theorem MR.del {I : GH} {m : AM} {fs : Fis} (h : MR I m fs) (hn : (m.map (·.1)).Nodup) (s : Nm) : MR I (delM s m) (fdel s fs) := fun t => by
  rw [lk_del s t hn, fget_del]
  by_cases e : t = s
  · rw [if_pos e, if_pos e]
    exact .inr ⟨rfl, rfl⟩
  · rw [if_neg e, if_neg e]
    exact h t
theorem MR.names {I : GH} {m : AM} {fs : Fis} (h : MR I m fs) (hn : (m.map (·.1)).Nodup) (hs : FSo fs) : namesM m = fs.map (·.1) := by
  have hm : ∀ s, s ∈ m.map (·.1) ↔ s ∈ fs.map (·.1) := fun s => by
    rw [fmem_iff hs]
    constructor
    · intro g
      obtain ⟨v, h1, _⟩ := lk_some g
      rcases h s with ⟨v', bs, _, h2, _⟩ | ⟨h2, _⟩
      · exact ⟨bs, h2⟩
      · rw [h1] at h2; cases h2
    · rintro ⟨bs, g⟩
      rcases h s with ⟨v, _, h1, _⟩ | ⟨_, h2⟩
      · exact lk_mem h1
      · rw [g] at h2; cases h2
  have hp : (m.map (·.1)).Perm (fs.map (·.1)) := (List.perm_ext_iff_of_nodup hn (fso_nodup hs)).2 hm
  unfold namesM
  have := Go.mergeSort_of_perm hp
  show List.mergeSort _ leN = _
  rw [this]
  refine List.mergeSort_of_pairwise ?_
  refine List.pairwise_map.2 (hs.imp fun hlt => ?_)
  simp only [decide_eq_true_eq]
  exact List.le_of_lt hlt
theorem MR.slices {I : GH} {m : AM} {fs : Fis} (h : MR I m fs) (hn : (m.map (·.1)).Nodup) : slV m := by
  intro p hp
  have : lk p.1 m = some p.2 := by
    clear h
    induction m with
    | nil => cases hp
    | cons q m ih =>
      obtain ⟨k, u⟩ := q
      rw [List.map_cons, List.nodup_cons] at hn
      rw [List.mem_cons] at hp
      rcases hp with rfl | hp
      · rw [lk, if_pos rfl]
      · have hm := List.mem_map_of_mem (f := Prod.fst) hp
        have hne : ¬p.1 = k := fun e => hn.1 (e ▸ hm)
        rw [lk, if_neg hne]
        exact ih hn.2 hp
  rcases h p.1 with ⟨v, bs, h1, _, h3⟩ | ⟨h1, _⟩
  · rw [this] at h1
    cases h1
    exact h3.shape
  · rw [this] at h1; cases h1
theorem MR.len {I : GH} {m : AM} {fs : Fis} (h : MR I m fs) (hn : (m.map (·.1)).Nodup) (hs : FSo fs) : m.length = fs.length := by
  have := congrArg List.length (h.names hn hs)
  rwa [namesM_len, List.length_map] at this
end Go.Proofs.Ytbmhdmkmnhaffaa.V
end
section
/- Is a text a file's name? Both answers. -/
set_option linter.unusedVariables false
set_option linter.unusedSimpArgs false
-- @pre g_hload s_hloadC
-- @extra s_seq0 s_lenSB
namespace Go.Proofs.Ytbmhdmkmnhaffaa.V
open Go.RowKit Go.ChangeShapes Go.WideShapes
def okC (c : UInt8) : Bool := decide ((97 ≤ c.toNat ∧ c.toNat ≤ 122) ∨ (48 ≤ c.toNat ∧ c.toNat ≤ 57) ∨ c.toNat = 46)
def nameOk (s : Nm) : Bool := decide (1 ≤ s.length ∧ s.length ≤ 16) && s.all okC
section
variable {P : Program} {E : Env} {K : St → Prop} {r : List Stp} {dd : Option Nat} {L : SL} {A : AL} {G : GH}
theorem s_seq0 {d : Nat} {x : Operand} {s : Nm} (h : vops P E r K (S (.set d (.bool (decide (s = []))) L) A G)) (hx : evo L x = some (sv s) := by with_unfolding_all rfl) : vops P E (⟨none, dd, .pure d (.bin .eql) [x, .const (.string ⟨#[]⟩)]⟩ :: r) K (S L A G) := by
  refine o_pure (vs := [sv s, .string ⟨#[]⟩]) (by simp only [evs, hx]; rfl) ?_ h
  have := x_seqlB s []
  rw [show strB [] = ⟨#[]⟩ from rfl] at this
  rw [this]
  congr 2
  rw [Bool.eq_iff_iff, beq_iff_eq, decide_eq_true_eq]
theorem s_lenSB {d : Nat} {x : Operand} {s : Nm} (h : vops P E r K (S (.set d (.int .i64 s.length) L) A G)) (hx : evo L x = some (sv s) := by with_unfolding_all rfl) : vops P E (⟨none, dd, .pure d .lenS [x]⟩ :: r) K (S L A G) :=
  o_pure (vs := [sv s]) (by simp only [evs, hx]) (x_lenSB s) h
theorem o_s2bB {d : Nat} {e : TypeId} {x : Operand} {s : Nm} (hx : evo L x = some (sv s)) (hs : s.length ≤ 9223372036854775807) (h : ∀ w G', G.le G' → Own 1 G G' w (s.map bv) → vops P E r K (S (.set d w L) A G')) : vops P E (⟨none, dd, .s2b d e x⟩ :: r) K (S L A G) := by
  refine o_s2b hx hs fun b c hb h1 h2 => h _ _ (GH.le_put _ hb) (.inr ⟨b, List.replicate (c - s.length) (bv 0), hb, ?_⟩)
  have hsz : (strB s).size = s.length := rfl
  rw [hsz] at h1
  have e1 : ((strB s).data.map (fun b : UInt8 => Value.int .u8 b.toNat) ++ Array.replicate (c - (strB s).size) (Value.int .u8 0)).toList = s.map bv ++ List.replicate (c - s.length) (bv 0) := by
    rw [hsz]
    simp [strB]
  have e2 : ((strB s).data.map (fun b : UInt8 => Value.int .u8 b.toNat) ++ Array.replicate (c - (strB s).size) (Value.int .u8 0)).size = c := by
    rw [← Array.length_toList, e1]
    simp
    omega
  refine ⟨0, s.length, c, _, e, (c, c + 1), rfl, GH.put_same _ _ _, h1, h2, ?_, .inr (by show 0 + c * 1 ≤ c; omega), ?_, by simp⟩
  · rw [e2]; omega
  · rw [show 0 + c * 1 = ((strB s).data.map (fun b : UInt8 => Value.int .u8 b.toNat) ++ Array.replicate (c - (strB s).size) (Value.int .u8 0)).size by rw [e2]; omega, Array.extract_size]
    exact e1
end
theorem bad69 (c : UInt8) (G : GH) : HC Try.prog 69 #[bv c] G fun v G' => v = .bool (!okC c) ∧ G' = G := by
  refine HC.start comp69 rfl ?_; unfold pc69
  (repeat' (first | (with_reducible refine i_ops ?_; first | (refine g_mv ?_; refine s_mv ?_) | refine o_nil ?_ | (refine g_some ?_; first | refine s_g_t ?_ | refine s_g_f ?_ | refine s_g_f' ?_ | refine s_g_u ?_) | (refine g_pick ?_; first | refine s_pick_t ?_ | refine s_pick_f ?_) | (refine g_len ?_; first | refine s_lenB ?_ | refine s_pure ?_) | (refine g_idx ?_; first | (refine s_idxOB ?_; intro p hp hpw) | (refine s_idxB ?_; intro p hp)) | (refine g_pure ?_; first | refine s_seq0 ?_ | refine s_lenSB ?_ | refine s_pure ?_ | refine s_saddB ?_) | (refine g_hload ?_; first | refine s_hloadC ?_ | refine s_hloadP ?_)) | (with_reducible refine i_vc ?_; first | refine v_seq ?_ | refine v_ops ?_ | (refine g_cond ?_; first | refine s_cond_t ?_ | refine s_cond_f ?_) | refine v_block ?_ | refine v_skip ?_ | refine v_exit ?_ | refine v_ret ?_) | (with_reducible first | refine n_then ?_ | refine r_then ?_ | refine e_then ?_ | refine n_block ?_ | refine r_block ?_ | refine e_block_eq qrf ?_ | refine e_block_ne qrf ?_) | ((with_reducible first | refine s_g_c ?_ ?_ | refine s_cond_c ?_ ?_) <;> intro hb <;> rw [hb] <;> (try simp only [decide_eq_true_eq, decide_eq_false_iff_not, beq_iff_eq, bne_iff_ne, beq_eq_false_iff_ne, bne_eq_false_iff_eq, ne_eq, Int.not_lt, Int.not_le, gt_iff_lt, ge_iff_le, Bool.not_eq_true', Bool.not_eq_false'] at hb)) | ((with_reducible first | refine s_ret ?_ | refine s_normal ?_); try simp only [x_tup0, x_tup1, x_tup2, x_tup3, x_tup4, x_tup5, and_true, true_and])))
  all_goals (congr 1; rw [Bool.eq_iff_iff]; simp [okC]; omega)
theorem take_all {bs : List UInt8} {i : Nat} (h : i < bs.length) : (bs.take (i + 1)).all okC = ((bs.take i).all okC && okC (bs.getD i 0)) := by
  rw [List.take_succ_eq_append_getElem h, List.all_append, List.getD_eq_getElem?_getD, List.getElem?_eq_getElem h]
  simp
theorem idxF (u : Value) (bs : List UInt8) (G : GH) (hu : By G u bs) (hl : bs.length ≤ 1000) : HC Try.prog 76 #[u, .func (.func 69) #[] #[]] G fun v G' => (∃ j : Int, v = .int .i64 j ∧ (decide (0 ≤ j)) = !bs.all okC) ∧ G' = G := by
  obtain ⟨a, n, c, rfl⟩ := hu.shape
  refine HC.start comp76 rfl ?_; unfold pc76
  (repeat' (first | (with_reducible refine i_ops ?_; first | (refine g_mv ?_; refine s_mv ?_) | refine o_nil ?_ | (refine g_some ?_; first | refine s_g_t ?_ | refine s_g_f ?_ | refine s_g_f' ?_ | refine s_g_u ?_) | (refine g_pick ?_; first | refine s_pick_t ?_ | refine s_pick_f ?_) | (refine g_len ?_; first | refine s_lenB ?_ | refine s_pure ?_) | (refine g_idx ?_; first | (refine s_idxOB ?_; intro p hp hpw) | (refine s_idxB ?_; intro p hp)) | (refine g_pure ?_; first | refine s_seq0 ?_ | refine s_lenSB ?_ | refine s_pure ?_ | refine s_saddB ?_) | (refine g_hload ?_; first | refine s_hloadC ?_ | refine s_hloadP ?_)) | (with_reducible refine i_vc ?_; first | refine v_seq ?_ | refine v_ops ?_ | (refine g_cond ?_; first | refine s_cond_t ?_ | refine s_cond_f ?_) | refine v_block ?_ | refine v_skip ?_ | refine v_exit ?_ | refine v_ret ?_) | (with_reducible first | refine n_then ?_ | refine r_then ?_ | refine e_then ?_ | refine n_block ?_ | refine r_block ?_ | refine e_block_eq qrf ?_ | refine e_block_ne qrf ?_) | ((with_reducible first | refine s_g_c ?_ ?_ | refine s_cond_c ?_ ?_) <;> intro hb <;> rw [hb] <;> (try simp only [decide_eq_true_eq, decide_eq_false_iff_not, beq_iff_eq, bne_iff_ne, beq_eq_false_iff_ne, bne_eq_false_iff_eq, ne_eq, Int.not_lt, Int.not_le, gt_iff_lt, ge_iff_le, Bool.not_eq_true', Bool.not_eq_false'] at hb)) | ((with_reducible first | refine s_ret ?_ | refine s_normal ?_); try simp only [x_tup0, x_tup1, x_tup2, x_tup3, x_tup4, x_tup5, and_true, true_and])))
  refine v_loopX (α := Nat) (fun i => i ≤ bs.length ∧ (bs.take i).all okC = true) (fun i => [(0, .slice a n c), (1, .func (.func 69) #[] #[]), (4, .int .i64 0), (7, .int .i64 bs.length), (8, .int .i64 i)]) (fun _ => []) (fun _ => G) (fun i => bs.length - i) 0 ⟨Nat.zero_le _, rfl⟩ qhs trivial rfl ?_
  rintro i s l ⟨i1, i2⟩
  dsimp only [SL.sets, AL.sets]
  (repeat' (first | (with_reducible refine i_ops ?_; first | (refine g_mv ?_; refine s_mv ?_) | refine o_nil ?_ | (refine g_some ?_; first | refine s_g_t ?_ | refine s_g_f ?_ | refine s_g_f' ?_ | refine s_g_u ?_) | (refine g_pick ?_; first | refine s_pick_t ?_ | refine s_pick_f ?_) | (refine g_len ?_; first | refine s_lenB ?_ | refine s_pure ?_) | (refine g_idx ?_; first | (refine s_idxOB ?_; intro p hp hpw) | (refine s_idxB ?_; intro p hp)) | (refine g_pure ?_; first | refine s_seq0 ?_ | refine s_lenSB ?_ | refine s_pure ?_ | refine s_saddB ?_) | (refine g_hload ?_; first | refine s_hloadC ?_ | refine s_hloadP ?_)) | (with_reducible refine i_vc ?_; first | refine v_seq ?_ | refine v_ops ?_ | (refine g_cond ?_; first | refine s_cond_t ?_ | refine s_cond_f ?_) | refine v_block ?_ | refine v_skip ?_ | refine v_exit ?_ | refine v_ret ?_) | (with_reducible first | refine n_then ?_ | refine r_then ?_ | refine e_then ?_ | refine n_block ?_ | refine r_block ?_ | refine e_block_eq qrf ?_ | refine e_block_ne qrf ?_) | ((with_reducible first | refine s_g_c ?_ ?_ | refine s_cond_c ?_ ?_) <;> intro hb <;> rw [hb] <;> (try simp only [decide_eq_true_eq, decide_eq_false_iff_not, beq_iff_eq, bne_iff_ne, beq_eq_false_iff_ne, bne_eq_false_iff_eq, ne_eq, Int.not_lt, Int.not_le, gt_iff_lt, ge_iff_le, Bool.not_eq_true', Bool.not_eq_false'] at hb)) | ((with_reducible first | refine s_ret ?_ | refine s_normal ?_); try simp only [x_tup0, x_tup1, x_tup2, x_tup3, x_tup4, x_tup5, and_true, true_and])))
  · refine o_callv qrf qrf (by kernel_rfl) (by simp) (bad69 (bs.getD i 0) G) ?_
    rintro _ _ ⟨rfl, rfl⟩
    have e := take_all (bs := bs) (i := i) (by omega)
    rw [i2, Bool.true_and] at e
    (repeat' (first | (with_reducible refine i_ops ?_; first | (refine g_mv ?_; refine s_mv ?_) | refine o_nil ?_ | (refine g_some ?_; first | refine s_g_t ?_ | refine s_g_f ?_ | refine s_g_f' ?_ | refine s_g_u ?_) | (refine g_pick ?_; first | refine s_pick_t ?_ | refine s_pick_f ?_) | (refine g_len ?_; first | refine s_lenB ?_ | refine s_pure ?_) | (refine g_idx ?_; first | (refine s_idxOB ?_; intro p hp hpw) | (refine s_idxB ?_; intro p hp)) | (refine g_pure ?_; first | refine s_seq0 ?_ | refine s_lenSB ?_ | refine s_pure ?_ | refine s_saddB ?_) | (refine g_hload ?_; first | refine s_hloadC ?_ | refine s_hloadP ?_)) | (with_reducible refine i_vc ?_; first | refine v_seq ?_ | refine v_ops ?_ | (refine g_cond ?_; first | refine s_cond_t ?_ | refine s_cond_f ?_) | refine v_block ?_ | refine v_skip ?_ | refine v_exit ?_ | refine v_ret ?_) | (with_reducible first | refine n_then ?_ | refine r_then ?_ | refine e_then ?_ | refine n_block ?_ | refine r_block ?_ | refine e_block_eq qrf ?_ | refine e_block_ne qrf ?_) | ((with_reducible first | refine s_g_c ?_ ?_ | refine s_cond_c ?_ ?_) <;> intro hb <;> rw [hb] <;> (try simp only [decide_eq_true_eq, decide_eq_false_iff_not, beq_iff_eq, bne_iff_ne, beq_eq_false_iff_ne, bne_eq_false_iff_eq, ne_eq, Int.not_lt, Int.not_le, gt_iff_lt, ge_iff_le, Bool.not_eq_true', Bool.not_eq_false'] at hb)) | ((with_reducible first | refine s_ret ?_ | refine s_normal ?_); try simp only [x_tup0, x_tup1, x_tup2, x_tup3, x_tup4, x_tup5, and_true, true_and])))
    · refine ⟨i, rfl, ?_⟩
      have h0 : okC (bs.getD i 0) = false := by simpa using hb
      have : bs.all okC = false := by
        rw [← List.take_append_drop (i + 1) bs, List.all_append, e, h0]; rfl
      rw [this, decide_eq_true (by omega)]; rfl
    · have h0 : okC (bs.getD i 0) = true := by simpa using hb
      exact ⟨bs.length - (i + 1), by omega, i + 1, rfl, ⟨by omega, by rw [e, h0]⟩, qhs, trivial, rfl⟩
  · refine ⟨-1, rfl, ?_⟩
    have : i = bs.length := by omega
    rw [this, List.take_length] at i2
    rw [i2]; rfl
theorem containsF (u : Value) (bs : List UInt8) (G : GH) (hu : By G u bs) (hl : bs.length ≤ 1000) : HC Try.prog 68 #[u, .func (.func 69) #[] #[]] G fun v G' => v = .bool (!bs.all okC) ∧ G' = G := by
  refine HC.start comp68 rfl ?_; unfold pc68
  (repeat' (first | (with_reducible refine i_ops ?_; first | (refine g_mv ?_; refine s_mv ?_) | refine o_nil ?_ | (refine g_some ?_; first | refine s_g_t ?_ | refine s_g_f ?_ | refine s_g_f' ?_ | refine s_g_u ?_) | (refine g_pick ?_; first | refine s_pick_t ?_ | refine s_pick_f ?_) | (refine g_len ?_; first | refine s_lenB ?_ | refine s_pure ?_) | (refine g_idx ?_; first | (refine s_idxOB ?_; intro p hp hpw) | (refine s_idxB ?_; intro p hp)) | (refine g_pure ?_; first | refine s_seq0 ?_ | refine s_lenSB ?_ | refine s_pure ?_ | refine s_saddB ?_) | (refine g_hload ?_; first | refine s_hloadC ?_ | refine s_hloadP ?_)) | (with_reducible refine i_vc ?_; first | refine v_seq ?_ | refine v_ops ?_ | (refine g_cond ?_; first | refine s_cond_t ?_ | refine s_cond_f ?_) | refine v_block ?_ | refine v_skip ?_ | refine v_exit ?_ | refine v_ret ?_) | (with_reducible first | refine n_then ?_ | refine r_then ?_ | refine e_then ?_ | refine n_block ?_ | refine r_block ?_ | refine e_block_eq qrf ?_ | refine e_block_ne qrf ?_) | ((with_reducible first | refine s_g_c ?_ ?_ | refine s_cond_c ?_ ?_) <;> intro hb <;> rw [hb] <;> (try simp only [decide_eq_true_eq, decide_eq_false_iff_not, beq_iff_eq, bne_iff_ne, beq_eq_false_iff_ne, bne_eq_false_iff_eq, ne_eq, Int.not_lt, Int.not_le, gt_iff_lt, ge_iff_le, Bool.not_eq_true', Bool.not_eq_false'] at hb)) | ((with_reducible first | refine s_ret ?_ | refine s_normal ?_); try simp only [x_tup0, x_tup1, x_tup2, x_tup3, x_tup4, x_tup5, and_true, true_and])))
  refine o_callc qrf (idxF u bs G hu hl) ?_
  rintro _ _ ⟨⟨j, rfl, hj⟩, rfl⟩
  (repeat' (first | (with_reducible refine i_ops ?_; first | (refine g_mv ?_; refine s_mv ?_) | refine o_nil ?_ | (refine g_some ?_; first | refine s_g_t ?_ | refine s_g_f ?_ | refine s_g_f' ?_ | refine s_g_u ?_) | (refine g_pick ?_; first | refine s_pick_t ?_ | refine s_pick_f ?_) | (refine g_len ?_; first | refine s_lenB ?_ | refine s_pure ?_) | (refine g_idx ?_; first | (refine s_idxOB ?_; intro p hp hpw) | (refine s_idxB ?_; intro p hp)) | (refine g_pure ?_; first | refine s_seq0 ?_ | refine s_lenSB ?_ | refine s_pure ?_ | refine s_saddB ?_) | (refine g_hload ?_; first | refine s_hloadC ?_ | refine s_hloadP ?_)) | (with_reducible refine i_vc ?_; first | refine v_seq ?_ | refine v_ops ?_ | (refine g_cond ?_; first | refine s_cond_t ?_ | refine s_cond_f ?_) | refine v_block ?_ | refine v_skip ?_ | refine v_exit ?_ | refine v_ret ?_) | (with_reducible first | refine n_then ?_ | refine r_then ?_ | refine e_then ?_ | refine n_block ?_ | refine r_block ?_ | refine e_block_eq qrf ?_ | refine e_block_ne qrf ?_) | ((with_reducible first | refine s_g_c ?_ ?_ | refine s_cond_c ?_ ?_) <;> intro hb <;> rw [hb] <;> (try simp only [decide_eq_true_eq, decide_eq_false_iff_not, beq_iff_eq, bne_iff_ne, beq_eq_false_iff_ne, bne_eq_false_iff_eq, ne_eq, Int.not_lt, Int.not_le, gt_iff_lt, ge_iff_le, Bool.not_eq_true', Bool.not_eq_false'] at hb)) | ((with_reducible first | refine s_ret ?_ | refine s_normal ?_); try simp only [x_tup0, x_tup1, x_tup2, x_tup3, x_tup4, x_tup5, and_true, true_and])))
  exact congrArg Value.bool hj
theorem namedF (s : Nm) (G : GH) (hs : s.length ≤ 4611686018427387904) : HC Try.prog 49 #[sv s] G fun v G' => v = .bool (nameOk s) ∧ G.le G' := by
  refine HC.start comp49 rfl ?_; unfold pc49
  (repeat' (first | (with_reducible refine i_ops ?_; first | (refine g_mv ?_; refine s_mv ?_) | refine o_nil ?_ | (refine g_some ?_; first | refine s_g_t ?_ | refine s_g_f ?_ | refine s_g_f' ?_ | refine s_g_u ?_) | (refine g_pick ?_; first | refine s_pick_t ?_ | refine s_pick_f ?_) | (refine g_len ?_; first | refine s_lenB ?_ | refine s_pure ?_) | (refine g_idx ?_; first | (refine s_idxOB ?_; intro p hp hpw) | (refine s_idxB ?_; intro p hp)) | (refine g_pure ?_; first | refine s_seq0 ?_ | refine s_lenSB ?_ | refine s_pure ?_ | refine s_saddB ?_) | (refine g_hload ?_; first | refine s_hloadC ?_ | refine s_hloadP ?_)) | (with_reducible refine i_vc ?_; first | refine v_seq ?_ | refine v_ops ?_ | (refine g_cond ?_; first | refine s_cond_t ?_ | refine s_cond_f ?_) | refine v_block ?_ | refine v_skip ?_ | refine v_exit ?_ | refine v_ret ?_) | (with_reducible first | refine n_then ?_ | refine r_then ?_ | refine e_then ?_ | refine n_block ?_ | refine r_block ?_ | refine e_block_eq qrf ?_ | refine e_block_ne qrf ?_) | ((with_reducible first | refine s_g_c ?_ ?_ | refine s_cond_c ?_ ?_) <;> intro hb <;> rw [hb] <;> (try simp only [decide_eq_true_eq, decide_eq_false_iff_not, beq_iff_eq, bne_iff_ne, beq_eq_false_iff_ne, bne_eq_false_iff_eq, ne_eq, Int.not_lt, Int.not_le, gt_iff_lt, ge_iff_le, Bool.not_eq_true', Bool.not_eq_false'] at hb)) | ((with_reducible first | refine s_ret ?_ | refine s_normal ?_); try simp only [x_tup0, x_tup1, x_tup2, x_tup3, x_tup4, x_tup5, and_true, true_and])))
  · have e : nameOk s = false := by
      subst hb; rfl
    exact ⟨by rw [e], GH.le_refl _⟩
  · have e : nameOk s = false := by
      unfold nameOk
      rw [decide_eq_false (fun g => by omega)]; rfl
    exact ⟨by rw [e], GH.le_refl _⟩
  · have h2 : 1 ≤ s.length := by
      rcases s with _ | ⟨x, s⟩
      · rename_i h; exact absurd rfl h
      · simp
    refine o_s2bB qrf (by omega) ?_
    intro w G1 q1 hw
    have c1 := containsF w s G1 hw.sl (by omega)
    (repeat' (first | (with_reducible refine i_ops ?_; first | (refine g_mv ?_; refine s_mv ?_) | refine o_nil ?_ | (refine g_some ?_; first | refine s_g_t ?_ | refine s_g_f ?_ | refine s_g_f' ?_ | refine s_g_u ?_) | (refine g_pick ?_; first | refine s_pick_t ?_ | refine s_pick_f ?_) | (refine g_len ?_; first | refine s_lenB ?_ | refine s_pure ?_) | (refine g_idx ?_; first | (refine s_idxOB ?_; intro p hp hpw) | (refine s_idxB ?_; intro p hp)) | (refine g_pure ?_; first | refine s_seq0 ?_ | refine s_lenSB ?_ | refine s_pure ?_ | refine s_saddB ?_) | (refine g_hload ?_; first | refine s_hloadC ?_ | refine s_hloadP ?_) | refine o_callp qrf (by first | exact c1) ?_ | (refine o_callg qrf (by first | exact c1) ?_; intro G' hle)) | (with_reducible refine i_vc ?_; first | refine v_seq ?_ | refine v_ops ?_ | (refine g_cond ?_; first | refine s_cond_t ?_ | refine s_cond_f ?_) | refine v_block ?_ | refine v_skip ?_ | refine v_exit ?_ | refine v_ret ?_) | (with_reducible first | refine n_then ?_ | refine r_then ?_ | refine e_then ?_ | refine n_block ?_ | refine r_block ?_ | refine e_block_eq qrf ?_ | refine e_block_ne qrf ?_) | ((with_reducible first | refine s_g_c ?_ ?_ | refine s_cond_c ?_ ?_) <;> intro hb <;> rw [hb] <;> (try simp only [decide_eq_true_eq, decide_eq_false_iff_not, beq_iff_eq, bne_iff_ne, beq_eq_false_iff_ne, bne_eq_false_iff_eq, ne_eq, Int.not_lt, Int.not_le, gt_iff_lt, ge_iff_le, Bool.not_eq_true', Bool.not_eq_false'] at hb)) | ((with_reducible first | refine s_ret ?_ | refine s_normal ?_); try simp only [x_tup0, x_tup1, x_tup2, x_tup3, x_tup4, x_tup5, and_true, true_and])))
    refine ⟨?_, q1⟩
    unfold nameOk
    rw [decide_eq_true ⟨h2, by omega⟩]
    simp
end Go.Proofs.Ytbmhdmkmnhaffaa.V
end
section
/- Plain: units, a disk's state, what calls do. -/
set_option linter.unusedVariables false
set_option linter.unusedSimpArgs false
namespace Go.Proofs.Ytbmhdmkmnhaffaa.V
/-- What has happened since the last Sync, with how many units it is. -/
inductive AU where
  | app (s : Nm) (bs : Bs) (many : Nat)
  | repl (s s' : Nm)
  | rem (s : Nm)
  | cut (s : Nm) (n : Nat)
def AU.many : AU → Nat
  | .app _ _ k => k
  | _ => 1
def fg (s : Nm) (fs : Fis) : Bs := (fget s fs).getD []
/-- Files behind the first k units of it. -/
def AU.ap (u : AU) (k : Nat) (fs : Fis) : Fis := match u with
  | .app s bs _ => fput s (fg s fs ++ bs.take (k - 1)) fs
  | .repl s s' => fput s' (fg s fs) (fdel s fs)
  | .rem s => fdel s fs
  | .cut s n => fput s ((fg s fs).take n) fs
/-- The same, with so many units. -/
def AU.to (u : AU) (k : Nat) : AU := match u with
  | .app s bs _ => .app s bs k
  | u => u
/-- May it happen? -/
def AU.ok (u : AU) (fs : Fis) : Prop := match u with
  | .app _ bs k => 1 ≤ k ∧ k ≤ bs.length + 1
  | .cut s n => n ≤ (fg s fs).length
  | _ => True
/-- Files behind units, of all of which so many are done. -/
def apN : List AU → Nat → Fis → Fis
  | [], _, fs => fs
  | u :: us, left, fs => if left = 0 then fs else apN us (left - min left u.many) (u.ap (min left u.many) fs)
def sumU : List AU → Nat
  | [] => 0
  | u :: us => u.many + sumU us
def usF (fs : Fis) : Nat := (fs.map fun p => p.2.length).sum
/-- Files that a disk may have. -/
structure Fine (N : Nat) (fs : Fis) : Prop where
  so : FSo fs
  len : fs.length ≤ N
  us : usF fs ≤ 1048576
  nm : ∀ p ∈ fs, nameOk p.1 = true
/-- They may happen, one behind the other. -/
def okUs (N : Nat) : List AU → Fis → Prop
  | [], _ => True
  | u :: us, fs => u.ok fs ∧ Fine N (u.ap u.many fs) ∧ okUs N us (u.ap u.many fs)
theorem AU.many_pos {u : AU} {fs : Fis} (h : u.ok fs) : 1 ≤ u.many := by
  cases u with
  | app s bs k => exact h.1
  | _ => exact Nat.le_refl 1
theorem apN_zero (us : List AU) (fs : Fis) : apN us 0 fs = fs := by
  cases us with
  | nil => rfl
  | cons u us => rw [apN, if_pos rfl]
theorem apN_all {N : Nat} : ∀ {us : List AU} {fs : Fis}, okUs N us fs → ∀ {v : AU}, apN (us ++ [v]) (sumU us + v.many) fs = v.ap v.many (apN us (sumU us) fs) ∨ v.many = 0
  | [], fs, _, v => by
    by_cases h : v.many = 0
    · exact .inr h
    · left
      show apN [v] (0 + v.many) fs = _
      rw [Nat.zero_add]
      show (if v.many = 0 then fs else apN [] (v.many - min v.many v.many) (v.ap (min v.many v.many) fs)) = _
      rw [if_neg h, Nat.min_self]
      rfl
  | u :: us, fs, h, v => by
    have hp := AU.many_pos h.1
    have e1 : min (u.many + sumU us + v.many) u.many = u.many := by omega
    have e2 : min (u.many + sumU us) u.many = u.many := by omega
    show apN (u :: (us ++ [v])) (u.many + sumU us + v.many) fs = v.ap v.many (apN (u :: us) (u.many + sumU us) fs) ∨ _
    rw [apN, if_neg (by omega), apN, if_neg (by omega), e1, e2, show u.many + sumU us + v.many - u.many = sumU us + v.many by omega, show u.many + sumU us - u.many = sumU us by omega]
    exact apN_all h.2.2
theorem sumU_app (us vs : List AU) : sumU (us ++ vs) = sumU us + sumU vs := by
  induction us with
  | nil => simp [sumU]
  | cons u us ih => simp only [List.cons_append, sumU, ih]; omega
theorem okUs_app {N : Nat} : ∀ {us : List AU} {fs : Fis} {v : AU}, okUs N us fs → v.ok (apN us (sumU us) fs) → Fine N (v.ap v.many (apN us (sumU us) fs)) → okUs N (us ++ [v]) fs
  | [], fs, v, _, h, hf => ⟨h, hf, trivial⟩
  | u :: us, fs, v, h, g, hf => by
    have hp := AU.many_pos h.1
    have e2 : min (u.many + sumU us) u.many = u.many := by omega
    have : apN (u :: us) (u.many + sumU us) fs = apN us (sumU us) (u.ap u.many fs) := by
      rw [apN, if_neg (by omega), e2, show u.many + sumU us - u.many = sumU us by omega]
    have e3 : apN (u :: us) (sumU (u :: us)) fs = apN us (sumU us) (u.ap u.many fs) := this
    rw [e3] at g hf
    exact ⟨h.1, h.2.1, okUs_app h.2.2 g hf⟩
/-- A disk. -/
structure AD where
  room : Int
  now : Fis
  lasts : Fis
  units : List AU
  fuse : Option Nat
  gone : Bool
def AD.used (A : AD) : Nat := usF A.now
structure AD.Ok (N : Nat) (A : AD) : Prop where
  now : A.now = apN A.units (sumU A.units) A.lasts
  us : okUs N A.units A.lasts
  lf : Fine N A.lasts
  nf : Fine N A.now
  un : A.units.length ≤ N
  r0 : 0 ≤ A.room
  r1 : A.room ≤ 1048576
/-- How many of some units are done, and the disk behind that. -/
def AD.burn (A : AD) (many : Nat) : Nat := match A.fuse with
  | none => many
  | some f => min many f
def AD.burnt (A : AD) (many : Nat) : AD := match A.fuse with
  | none => A
  | some f => { A with fuse := some (f - min many f), gone := decide (min many f < many) }
def AD.err (A : AD) : Int := if A.gone then 232 else 0
def AD.there (A : AD) (s : Nm) : Int := if A.gone then 232 else if !nameOk s then 231 else if (fget s A.now).isSome then 0 else 70
/-- Something is done, as far as the power lasts. -/
def AD.does (A : AD) (u : AU) : AD :=
  let k := A.burn u.many
  let B := A.burnt u.many
  if 0 < k then { B with now := (u.to k).ap k A.now, units := A.units ++ [u.to k] } else B
def AD.appE (A : AD) (s : Nm) (bs : Bs) : Int := if A.gone then 232 else if !nameOk s then 231 else if A.room < A.used + bs.length then 230 else 0
def AD.append (A : AD) (s : Nm) (bs : Bs) : AD × Int := if A.appE s bs = 0 then (A.does (.app s bs (1 + bs.length)), (A.does (.app s bs (1 + bs.length))).err) else (A, A.appE s bs)
def AD.replE (A : AD) (s s' : Nm) : Int := if A.gone then 232 else if !nameOk s || !nameOk s' then 231 else if (fget s A.now).isSome then 0 else 70
def AD.replace (A : AD) (s s' : Nm) : AD × Int := if A.replE s s' = 0 then (A.does (.repl s s'), (A.does (.repl s s')).err) else (A, A.replE s s')
def AD.remove (A : AD) (s : Nm) : AD × Int := if A.there s = 0 then (A.does (.rem s), (A.does (.rem s)).err) else (A, A.there s)
def AD.cutE (A : AD) (s : Nm) (n : Int) : Int := if A.there s = 0 then (if n < 0 ∨ (fg s A.now).length < n then 2 else 0) else A.there s
def AD.cut (A : AD) (s : Nm) (n : Int) : AD × Int := if A.cutE s n = 0 then (A.does (.cut s n.toNat), (A.does (.cut s n.toNat)).err) else (A, A.cutE s n)
def AD.sync (A : AD) : AD × Int := if A.gone then (A, 232) else if A.burn 1 = 0 then (A.burnt 1, 232) else ({ A.burnt 1 with lasts := A.now, units := [] }, 0)
def AD.crash (A : AD) (keep : Int) : AD × Nat :=
  let k := (max 0 (min keep (sumU A.units))).toNat
  ({ A with now := apN A.units k A.lasts, lasts := apN A.units k A.lasts, units := [], fuse := none, gone := false }, k)
def AD.new (room : Int) : AD := ⟨room, [], [], [], none, false⟩
end Go.Proofs.Ytbmhdmkmnhaffaa.V
end
section
/- Plain: calls keep a disk's bounds. -/
set_option linter.unusedVariables false
set_option linter.unusedSimpArgs false
namespace Go.Proofs.Ytbmhdmkmnhaffaa.V
theorem Fine.mono {N M : Nat} {fs : Fis} (h : Fine N fs) (hm : N ≤ M) : Fine M fs := ⟨h.so, Nat.le_trans h.len hm, h.us, h.nm⟩
theorem Fine.nil (N : Nat) : Fine N [] := ⟨List.Pairwise.nil, Nat.zero_le _, by decide, fun p hp => by cases hp⟩
theorem okUs_mono {N M : Nat} (hm : N ≤ M) : ∀ {us : List AU} {fs : Fis}, okUs N us fs → okUs M us fs
  | [], _, _ => trivial
  | u :: us, fs, h => ⟨h.1, h.2.1.mono hm, okUs_mono hm h.2.2⟩
theorem usF_put {s : Nm} {v : Bs} : ∀ {fs : Fis}, FSo fs → usF (fput s v fs) + (fg s fs).length = usF fs + v.length
  | [], _ => by simp [fput, usF, fg, fget]
  | (k, u) :: fs, h => by
    unfold FSo at h
    rw [List.pairwise_cons] at h
    rw [fput]
    by_cases e : s = k
    · subst e
      rw [if_pos rfl]
      simp [usF, fg, fget]
      omega
    · rw [if_neg e]
      by_cases l : s < k
      · rw [if_pos l]
        have hn : fget s ((k, u) :: fs) = none := by
          cases hc : fget s ((k, u) :: fs) with
          | none => rfl
          | some w =>
            have hm := fget_mem hc
            rw [List.mem_cons] at hm
            rcases hm with hm | hm
            · cases hm; exact absurd rfl e
            · exact absurd (List.lt_trans l (h.1 _ hm)) (nlt_irrefl _)
        simp only [fg, hn, usF, List.map_cons, List.sum_cons, Option.getD_none, List.length_nil]
        omega
      · rw [if_neg l]
        have ih := usF_put (s := s) (v := v) h.2
        have e2 : fg s ((k, u) :: fs) = fg s fs := by unfold fg; rw [fget, if_neg e]
        rw [e2]
        unfold usF at ih ⊢
        simp only [List.map_cons, List.sum_cons]
        omega
theorem usF_del {s : Nm} : ∀ {fs : Fis}, FSo fs → usF (fdel s fs) + (fg s fs).length = usF fs
  | [], _ => by simp [fdel, usF, fg, fget]
  | (k, u) :: fs, h => by
    unfold FSo at h
    rw [List.pairwise_cons] at h
    have ih := usF_del (s := s) h.2
    by_cases e : s = k
    · subst e
      have hn : fg s fs = [] := by
        unfold fg
        cases hc : fget s fs with
        | none => rfl
        | some w => exact absurd (h.1 _ (fget_mem hc)) (nlt_irrefl _)
      have e1 : fdel s ((s, u) :: fs) = fdel s fs := by unfold fdel; rw [List.filter_cons, if_neg (by simp)]
      have e2 : fg s ((s, u) :: fs) = u := by unfold fg; rw [fget, if_pos rfl]; rfl
      rw [e1, e2]
      rw [hn] at ih
      unfold usF at ih ⊢
      simp only [List.map_cons, List.sum_cons, List.length_nil] at ih ⊢
      omega
    · have e1 : fdel s ((k, u) :: fs) = (k, u) :: fdel s fs := by unfold fdel; rw [List.filter_cons, if_pos (by simpa using fun e' => e e'.symm)]
      have e2 : fg s ((k, u) :: fs) = fg s fs := by unfold fg; rw [fget, if_neg e]
      rw [e1, e2]
      unfold usF at ih ⊢
      simp only [List.map_cons, List.sum_cons]
      omega
theorem fg_le {s : Nm} {fs : Fis} (h : FSo fs) : (fg s fs).length ≤ usF fs := by
  have := usF_del (s := s) h; omega
theorem fdel_nm {s : Nm} {fs : Fis} {p : Nm × Bs} (h : p ∈ fdel s fs) : p ∈ fs := (List.mem_filter.1 h).1
/-- Bytes laid at a file's end. -/
theorem fine_app {N : Nat} {fs : Fis} {s : Nm} {bs : Bs} (h : Fine N fs) (hs : nameOk s = true) (hu : usF fs + bs.length ≤ 1048576) : Fine (N + 1) (fput s (fg s fs ++ bs) fs) := by
  refine ⟨fput_so h.so, Nat.le_trans fput_len (Nat.succ_le_succ h.len), ?_, fun p hp => ?_⟩
  · have := usF_put (s := s) (v := fg s fs ++ bs) h.so
    rw [List.length_append] at this
    omega
  · rcases fput_mem hp with rfl | hp
    · exact hs
    · exact h.nm p hp
theorem fine_put {N : Nat} {fs : Fis} {s : Nm} {v : Bs} (h : Fine N fs) (hs : nameOk s = true) (hu : usF fs + v.length ≤ 1048576 + (fg s fs).length) : Fine (N + 1) (fput s v fs) := by
  refine ⟨fput_so h.so, Nat.le_trans fput_len (Nat.succ_le_succ h.len), ?_, fun p hp => ?_⟩
  · have := usF_put (s := s) (v := v) h.so
    omega
  · rcases fput_mem hp with rfl | hp
    · exact hs
    · exact h.nm p hp
theorem fine_del {N : Nat} {fs : Fis} (h : Fine N fs) (s : Nm) : Fine N (fdel s fs) := by
  refine ⟨fdel_so h.so, Nat.le_trans fdel_len h.len, ?_, fun p hp => h.nm p (fdel_nm hp)⟩
  have := usF_del (s := s) h.so
  have := h.us
  omega
theorem fine_repl {N : Nat} {fs : Fis} (h : Fine N fs) (s s' : Nm) (hs : nameOk s' = true) : Fine (N + 1) (fput s' (fg s fs) (fdel s fs)) := by
  refine fine_put (fine_del h s) hs ?_
  have := usF_del (s := s) h.so
  have := h.us
  omega
theorem fine_cut {N : Nat} {fs : Fis} (h : Fine N fs) (s : Nm) (n : Nat) (hs : nameOk s = true) : Fine (N + 1) (fput s ((fg s fs).take n) fs) := by
  refine fine_put h hs ?_
  have := h.us
  rw [List.length_take]
  omega
theorem fput_keys {s : Nm} {v v' : Bs} : ∀ {fs : Fis}, (fput s v fs).map (·.1) = (fput s v' fs).map (·.1)
  | [] => rfl
  | (k, u) :: fs => by
    rw [fput, fput]
    split
    · rfl
    · split
      · rfl
      · simp only [List.map_cons]; rw [fput_keys]
/-- A part of what is appended. -/
theorem fine_part {N : Nat} {fs : Fis} {u : AU} {k : Nat} (hs : FSo fs) (h : Fine N (u.ap u.many fs)) (h0 : 1 ≤ k) (h1 : k ≤ u.many) : Fine N (u.ap k fs) := by
  cases u with
  | app s bs m =>
    have hk : (fput s (fg s fs ++ bs.take (k - 1)) fs).map (·.1) = (fput s (fg s fs ++ bs.take (m - 1)) fs).map (·.1) := fput_keys
    have hl := congrArg List.length hk
    rw [List.length_map, List.length_map] at hl
    refine ⟨fput_so hs, ?_, ?_, fun p hp => ?_⟩
    · exact Nat.le_trans (Nat.le_of_eq hl) h.len
    · have e1 := usF_put (s := s) (v := fg s fs ++ bs.take (k - 1)) hs
      have e2 := usF_put (s := s) (v := fg s fs ++ bs.take (m - 1)) hs
      have e3 : usF (fput s (fg s fs ++ bs.take (m - 1)) fs) ≤ 1048576 := h.us
      have h1' : k ≤ m := h1
      simp only [List.length_append, List.length_take] at e1 e2
      show usF (fput s (fg s fs ++ bs.take (k - 1)) fs) ≤ 1048576
      omega
    · have hm := List.mem_map_of_mem (f := Prod.fst) hp
      have hm' : p.1 ∈ (fput s (fg s fs ++ bs.take (m - 1)) fs).map (·.1) := hk ▸ hm
      obtain ⟨q, hq, e⟩ := List.mem_map.1 hm'
      rw [← e]
      exact h.nm q hq
  | repl s s' => exact h
  | rem s => exact h
  | cut s n => exact h
/-- Files behind a beginning of the units. -/
theorem fine_apN {N : Nat} : ∀ {us : List AU} {k : Nat} {fs : Fis}, okUs N us fs → Fine N fs → Fine N (apN us k fs)
  | [], _, _, _, h => h
  | u :: us, k, fs, ho, h => by
    rw [apN]
    split
    · exact h
    · rename_i hk
      have hp := AU.many_pos ho.1
      by_cases hm : u.many ≤ k
      · rw [Nat.min_eq_right hm]
        exact fine_apN ho.2.2 ho.2.1
      · have e : min k u.many = k := by omega
        rw [e, Nat.sub_self, apN_zero]
        exact fine_part h.so ho.2.1 (by omega) (by omega)
theorem AD.Ok.mono {N M : Nat} {A : AD} (h : A.Ok N) (hm : N ≤ M) : A.Ok M := ⟨h.now, okUs_mono hm h.us, h.lf.mono hm, h.nf.mono hm, Nat.le_trans h.un hm, h.r0, h.r1⟩
theorem AD.Ok.burnt {N : Nat} {A : AD} (h : A.Ok N) (k : Nat) : (A.burnt k).Ok N := by
  unfold AD.burnt
  split
  · exact h
  · exact ⟨h.now, h.us, h.lf, h.nf, h.un, h.r0, h.r1⟩
theorem AD.burnt_now {A : AD} {k : Nat} : (A.burnt k).now = A.now ∧ (A.burnt k).lasts = A.lasts ∧ (A.burnt k).units = A.units ∧ (A.burnt k).room = A.room := by
  unfold AD.burnt
  split <;> exact ⟨rfl, rfl, rfl, rfl⟩
theorem AD.burn_le {A : AD} {k : Nat} : A.burn k ≤ k := by
  unfold AD.burn
  split <;> omega
/-- One more unit. -/
theorem AD.Ok.add {N : Nat} {A : AD} (h : A.Ok N) {v : AU} (hv : v.ok A.now) (hf : Fine (N + 1) (v.ap v.many A.now)) {fu : Option Nat} {g : Bool} : (⟨A.room, v.ap v.many A.now, A.lasts, A.units ++ [v], fu, g⟩ : AD).Ok (N + 1) := by
  have hn := h.now
  refine ⟨?_, ?_, h.lf.mono (Nat.le_succ _), hf, ?_, h.r0, h.r1⟩
  · show v.ap v.many A.now = apN (A.units ++ [v]) (sumU (A.units ++ [v])) A.lasts
    rw [sumU_app]
    have hp := AU.many_pos hv
    rcases apN_all h.us (v := v) with e | e
    · show _ = apN _ (sumU A.units + (v.many + 0)) _
      rw [Nat.add_zero, e, hn]
    · omega
  · exact okUs_app (okUs_mono (Nat.le_succ _) h.us) (by rw [← hn]; exact hv) (by rw [← hn]; exact hf)
  · show (A.units ++ [v]).length ≤ N + 1
    rw [List.length_append]
    have := h.un
    simp only [List.length_cons, List.length_nil]
    omega
/-- Something is done. -/
theorem AD.Ok.does {N : Nat} {A : AD} (h : A.Ok N) {u : AU} (hm : ∀ k, 1 ≤ k → k ≤ u.many → (u.to k).ok A.now ∧ (u.to k).many = k) (hf : Fine (N + 1) (u.ap u.many A.now)) : (A.does u).Ok (N + 1) := by
  unfold AD.does
  obtain ⟨b1, b2, b3, b4⟩ := AD.burnt_now (A := A) (k := u.many)
  have hk := AD.burn_le (A := A) (k := u.many)
  dsimp only
  split
  · rename_i h0
    obtain ⟨m1, m2⟩ := hm _ h0 hk
    have hap : ∀ j fs, (u.to (A.burn u.many)).ap j fs = u.ap j fs := fun j fs => by cases u <;> rfl
    have := h.add m1 (fu := (A.burnt u.many).fuse) (g := (A.burnt u.many).gone) (by rw [m2, hap]; exact fine_part h.nf.so hf h0 hk)
    rw [m2] at this
    rw [← b2, ← b4] at this
    exact this
  · exact (h.burnt _).mono (Nat.le_succ _)
theorem nameOk_len {s : Nm} (h : nameOk s = true) : s.length ≤ 16 := by
  unfold nameOk at h
  simp only [Bool.and_eq_true, decide_eq_true_eq] at h
  omega
theorem AD.Ok.append {N : Nat} {A : AD} (h : A.Ok N) (s : Nm) (bs : Bs) : (A.append s bs).1.Ok (N + 1) := by
  unfold AD.append
  split
  · rename_i h0
    unfold AD.appE at h0
    split at h0
    · cases h0
    · split at h0
      · cases h0
      · rename_i hn
        split at h0
        · cases h0
        · rename_i hr
          have hs : nameOk s = true := by simpa using hn
          have hr1 := h.r1
          have hu : usF A.now + bs.length ≤ 1048576 := by unfold AD.used at hr; omega
          refine h.does (fun k h1 h2 => ⟨⟨h1, by have : k ≤ 1 + bs.length := h2; omega⟩, rfl⟩) ?_
          show Fine (N + 1) (fput s (fg s A.now ++ bs.take (1 + bs.length - 1)) A.now)
          rw [List.take_of_length_le (by omega)]
          exact fine_app h.nf hs hu
  · exact h.mono (Nat.le_succ _)
theorem AD.Ok.replace {N : Nat} {A : AD} (h : A.Ok N) (s s' : Nm) : (A.replace s s').1.Ok (N + 1) := by
  unfold AD.replace
  split
  · rename_i h0
    unfold AD.replE at h0
    split at h0
    · cases h0
    · split at h0
      · cases h0
      · rename_i hn
        have hs : nameOk s' = true := (by simp only [Bool.or_eq_true, Bool.not_eq_true', not_or] at hn; simpa using hn.2)
        refine h.does (fun k h1 h2 => ⟨trivial, ?_⟩) (fine_repl h.nf s s' hs)
        have : k ≤ 1 := h2
        show 1 = k
        omega
  · exact h.mono (Nat.le_succ _)
theorem AD.there0 {A : AD} {s : Nm} (h : A.there s = 0) : A.gone = false ∧ nameOk s = true ∧ (fget s A.now).isSome = true := by
  unfold AD.there at h
  split at h
  · cases h
  · rename_i hg
    split at h
    · cases h
    · rename_i hn
      split at h
      · rename_i hs
        exact ⟨by simpa using hg, by simpa using hn, hs⟩
      · cases h
theorem AD.Ok.remove {N : Nat} {A : AD} (h : A.Ok N) (s : Nm) : (A.remove s).1.Ok (N + 1) := by
  unfold AD.remove
  split
  · refine h.does (fun k h1 h2 => ⟨trivial, ?_⟩) ((fine_del h.nf s).mono (Nat.le_succ _))
    have : k ≤ 1 := h2
    show 1 = k
    omega
  · exact h.mono (Nat.le_succ _)
theorem AD.Ok.cut {N : Nat} {A : AD} (h : A.Ok N) (s : Nm) (n : Int) : (A.cut s n).1.Ok (N + 1) := by
  unfold AD.cut
  split
  · rename_i h0
    unfold AD.cutE at h0
    split at h0
    · rename_i ht
      split at h0
      · cases h0
      · rename_i hc
        have hs := (AD.there0 ht).2.1
        refine h.does (fun k h1 h2 => ⟨?_, ?_⟩) (fine_cut h.nf s n.toNat hs)
        · show n.toNat ≤ (fg s A.now).length
          omega
        · have : k ≤ 1 := h2
          show 1 = k
          omega
    · rename_i ht
      exact absurd h0 ht
  · exact h.mono (Nat.le_succ _)
theorem AD.Ok.sync {N : Nat} {A : AD} (h : A.Ok N) : A.sync.1.Ok N := by
  unfold AD.sync
  obtain ⟨b1, b2, b3, b4⟩ := AD.burnt_now (A := A) (k := 1)
  split
  · exact h
  · split
    · exact h.burnt _
    · have hb := h.burnt 1
      exact ⟨b1, trivial, h.nf, hb.nf, Nat.zero_le _, hb.r0, hb.r1⟩
theorem AD.Ok.crash {N : Nat} {A : AD} (h : A.Ok N) (keep : Int) : (A.crash keep).1.Ok N :=
  have hf := fine_apN (k := (max 0 (min keep (sumU A.units))).toNat) h.us h.lf
  ⟨rfl, trivial, hf, hf, Nat.zero_le _, h.r0, h.r1⟩
theorem AD.Ok.new {room : Int} (h0 : 0 ≤ room) (h1 : room ≤ 1048576) (N : Nat) : (AD.new room).Ok N := ⟨rfl, trivial, Fine.nil N, Fine.nil N, Nat.zero_le _, h0, h1⟩
end Go.Proofs.Ytbmhdmkmnhaffaa.V
end
section
/- slices.Grow of nothing, slices.Concat. -/
set_option linter.unusedSimpArgs false
set_option linter.unusedVariables false
namespace Go.Proofs.Ytbmhdmkmnhaffaa.V
open Go.RowKit Go.ChangeShapes Go.WideShapes
theorem grow_nil (n : Int) (G : GH) (h0 : 0 ≤ n) (h1 : n ≤ 211106232532992) : HC Try.prog 70 #[.slice none 0 0, .int .i64 n] G fun v G' => G.le G' ∧ Own 1 G G' v [] := by
  refine HC.start comp70 rfl ?_; unfold pc70
  (repeat' (first | (with_reducible refine i_ops ?_; first | (refine g_mv ?_; refine s_mv ?_) | refine o_nil ?_ | (refine g_len ?_; first | refine s_lenB ?_ | refine s_pure ?_) | (refine g_idx ?_; first | (refine s_idxOB ?_; intro p hp hpw) | (refine s_idxB ?_; intro p hp)) | (refine g_slc ?_; ((first | refine s_slcB ?_ | refine s_slcB01 ?_ | refine s_slcB10 ?_); intro us hus hbs)) | (refine g_pure ?_; first | refine s_pure ?_ | refine s_saddB ?_) | (refine g_hload ?_; refine s_hloadP ?_)) | (with_reducible refine i_vc ?_; first | refine v_seq ?_ | refine v_ops ?_ | (refine g_cond ?_; first | refine s_cond_t ?_ | refine s_cond_f ?_) | refine v_block ?_ | refine v_skip ?_ | refine v_exit ?_ | refine v_ret ?_) | (with_reducible first | refine n_then ?_ | refine r_then ?_ | refine e_then ?_ | refine n_block ?_ | refine r_block ?_ | refine e_block_eq qrf ?_ | refine e_block_ne qrf ?_) | ((with_reducible first | refine s_cond_c ?_ ?_) <;> intro hb <;> rw [hb] <;> (try simp only [decide_eq_true_eq, decide_eq_false_iff_not, beq_iff_eq, bne_iff_ne, beq_eq_false_iff_ne, bne_eq_false_iff_eq, ne_eq, Int.not_lt, Int.not_le, gt_iff_lt, ge_iff_le, Bool.not_eq_true', Bool.not_eq_false'] at hb)) | ((with_reducible first | refine s_ret ?_ | refine s_normal ?_); try simp only [x_tup0, x_tup1, x_tup2, x_tup3, x_tup4, x_tup5, and_true, true_and])))
  · exfalso; omega
  · refine o_pure (v := .slice none 0 0) qrf rfl ?_
    (repeat' (first | (with_reducible refine i_ops ?_; first | (refine g_mv ?_; refine s_mv ?_) | refine o_nil ?_ | (refine g_len ?_; first | refine s_lenB ?_ | refine s_pure ?_) | (refine g_idx ?_; first | (refine s_idxOB ?_; intro p hp hpw) | (refine s_idxB ?_; intro p hp)) | (refine g_slc ?_; ((first | refine s_slcB ?_ | refine s_slcB01 ?_ | refine s_slcB10 ?_); intro us hus hbs)) | (refine g_pure ?_; first | refine s_pure ?_ | refine s_saddB ?_) | (refine g_hload ?_; refine s_hloadP ?_)) | (with_reducible refine i_vc ?_; first | refine v_seq ?_ | refine v_ops ?_ | (refine g_cond ?_; first | refine s_cond_t ?_ | refine s_cond_f ?_) | refine v_block ?_ | refine v_skip ?_ | refine v_exit ?_ | refine v_ret ?_) | (with_reducible first | refine n_then ?_ | refine r_then ?_ | refine e_then ?_ | refine n_block ?_ | refine r_block ?_ | refine e_block_eq qrf ?_ | refine e_block_ne qrf ?_) | ((with_reducible first | refine s_cond_c ?_ ?_) <;> intro hb <;> rw [hb] <;> (try simp only [decide_eq_true_eq, decide_eq_false_iff_not, beq_iff_eq, bne_iff_ne, beq_eq_false_iff_ne, bne_eq_false_iff_eq, ne_eq, Int.not_lt, Int.not_le, gt_iff_lt, ge_iff_le, Bool.not_eq_true', Bool.not_eq_false'] at hb)) | ((with_reducible first | refine s_ret ?_ | refine s_normal ?_); try simp only [x_tup0, x_tup1, x_tup2, x_tup3, x_tup4, x_tup5, and_true, true_and])))
    refine o_growz0 qrf qrf (by omega) rfl ⟨by omega, by omega⟩ (GH.le_refl _) ?_
    intro u G1 zs hle ho hl
    (repeat' (first | (with_reducible refine i_ops ?_; first | (refine g_mv ?_; refine s_mv ?_) | refine o_nil ?_ | (refine g_len ?_; first | refine s_lenB ?_ | refine s_pure ?_) | (refine g_idx ?_; first | (refine s_idxOB ?_; intro p hp hpw) | (refine s_idxB ?_; intro p hp)) | (refine g_slc ?_; ((first | refine s_slcB ?_ | refine s_slcB01 ?_ | refine s_slcB10 ?_); intro us hus hbs)) | (refine g_pure ?_; first | refine s_pure ?_ | refine s_saddB ?_) | (refine g_hload ?_; refine s_hloadP ?_)) | (with_reducible refine i_vc ?_; first | refine v_seq ?_ | refine v_ops ?_ | (refine g_cond ?_; first | refine s_cond_t ?_ | refine s_cond_f ?_) | refine v_block ?_ | refine v_skip ?_ | refine v_exit ?_ | refine v_ret ?_) | (with_reducible first | refine n_then ?_ | refine r_then ?_ | refine e_then ?_ | refine n_block ?_ | refine r_block ?_ | refine e_block_eq qrf ?_ | refine e_block_ne qrf ?_) | ((with_reducible first | refine s_cond_c ?_ ?_) <;> intro hb <;> rw [hb] <;> (try simp only [decide_eq_true_eq, decide_eq_false_iff_not, beq_iff_eq, bne_iff_ne, beq_eq_false_iff_ne, bne_eq_false_iff_eq, ne_eq, Int.not_lt, Int.not_le, gt_iff_lt, ge_iff_le, Bool.not_eq_true', Bool.not_eq_false'] at hb)) | ((with_reducible first | refine s_ret ?_ | refine s_normal ?_); try simp only [x_tup0, x_tup1, x_tup2, x_tup3, x_tup4, x_tup5, and_true, true_and])))
    refine o_slcO (j := 0) qrf ho qrf (by omega) (by omega) ?_
    intro u' ho' _ _
    (repeat' (first | (with_reducible refine i_ops ?_; first | (refine g_mv ?_; refine s_mv ?_) | refine o_nil ?_ | (refine g_len ?_; first | refine s_lenB ?_ | refine s_pure ?_) | (refine g_idx ?_; first | (refine s_idxOB ?_; intro p hp hpw) | (refine s_idxB ?_; intro p hp)) | (refine g_slc ?_; ((first | refine s_slcB ?_ | refine s_slcB01 ?_ | refine s_slcB10 ?_); intro us hus hbs)) | (refine g_pure ?_; first | refine s_pure ?_ | refine s_saddB ?_) | (refine g_hload ?_; refine s_hloadP ?_)) | (with_reducible refine i_vc ?_; first | refine v_seq ?_ | refine v_ops ?_ | (refine g_cond ?_; first | refine s_cond_t ?_ | refine s_cond_f ?_) | refine v_block ?_ | refine v_skip ?_ | refine v_exit ?_ | refine v_ret ?_) | (with_reducible first | refine n_then ?_ | refine r_then ?_ | refine e_then ?_ | refine n_block ?_ | refine r_block ?_ | refine e_block_eq qrf ?_ | refine e_block_ne qrf ?_) | ((with_reducible first | refine s_cond_c ?_ ?_) <;> intro hb <;> rw [hb] <;> (try simp only [decide_eq_true_eq, decide_eq_false_iff_not, beq_iff_eq, bne_iff_ne, beq_eq_false_iff_ne, bne_eq_false_iff_eq, ne_eq, Int.not_lt, Int.not_le, gt_iff_lt, ge_iff_le, Bool.not_eq_true', Bool.not_eq_false'] at hb)) | ((with_reducible first | refine s_ret ?_ | refine s_normal ?_); try simp only [x_tup0, x_tup1, x_tup2, x_tup3, x_tup4, x_tup5, and_true, true_and])))
    exact ⟨hle, by simpa using ho'⟩
  · exact ⟨GH.le_refl _, .inl ⟨rfl, rfl⟩⟩
/-- A slice of slices of bytes. -/
def Parts (G : GH) (u : Value) (us : List Value) (ps : List (List UInt8)) : Prop := Sl 1 G u us ∧ us.length = ps.length ∧ ∀ i (h : i < ps.length), ∃ w, us[i]? = some w ∧ By G w ps[i]
theorem Parts.le {G G' : GH} {u : Value} {us : List Value} {ps : List (List UInt8)} (h : Parts G u us ps) (hl : G.le G') : Parts G' u us ps :=
  ⟨h.1.le hl, h.2.1, fun i hi => let ⟨w, e, k⟩ := h.2.2 i hi; ⟨w, e, Sl.le k hl⟩⟩
theorem flat_take {ps : List (List UInt8)} {i : Nat} (h : i < ps.length) : (ps.take (i + 1)).flatten = (ps.take i).flatten ++ ps[i] := by
  rw [List.take_succ_eq_append_getElem h, List.flatten_append]; simp
theorem flat_len (ps : List (List UInt8)) (i : Nat) : (ps.take i).flatten.length ≤ ps.flatten.length := by
  have : ps.flatten = (ps.take i).flatten ++ (ps.drop i).flatten := by rw [← List.flatten_append, List.take_append_drop]
  rw [this, List.length_append]; omega
theorem concat (u : Value) (us : List Value) (ps : List (List UInt8)) (G : GH) (h : Parts G u us ps) (hs : ps.flatten.length ≤ 211106232532992) : HC Try.prog 50 #[u] G fun v G' => G.le G' ∧ Own 1 G G' v (ps.flatten.map bv) := by
  obtain ⟨hu, hn, hw⟩ := h
  have hlen : lenS u = ps.length := by have := hu.len; omega
  have hl1 := hu.len_le
  refine HC.start comp50 rfl ?_; unfold pc50
  (repeat' (first | (with_reducible refine i_ops ?_; first | (refine g_mv ?_; refine s_mv ?_) | refine o_nil ?_ | (refine g_len ?_; first | refine s_lenB ?_ | refine s_pure ?_) | (refine g_idx ?_; first | (refine s_idxOB ?_; intro p hp hpw) | (refine s_idxB ?_; intro p hp)) | (refine g_slc ?_; ((first | refine s_slcB ?_ | refine s_slcB01 ?_ | refine s_slcB10 ?_); intro us hus hbs)) | (refine g_pure ?_; first | refine s_pure ?_ | refine s_saddB ?_) | (refine g_hload ?_; refine s_hloadP ?_)) | (with_reducible refine i_vc ?_; first | refine v_seq ?_ | refine v_ops ?_ | (refine g_cond ?_; first | refine s_cond_t ?_ | refine s_cond_f ?_) | refine v_block ?_ | refine v_skip ?_ | refine v_exit ?_ | refine v_ret ?_) | (with_reducible first | refine n_then ?_ | refine r_then ?_ | refine e_then ?_ | refine n_block ?_ | refine r_block ?_ | refine e_block_eq qrf ?_ | refine e_block_ne qrf ?_) | ((with_reducible first | refine s_cond_c ?_ ?_) <;> intro hb <;> rw [hb] <;> (try simp only [decide_eq_true_eq, decide_eq_false_iff_not, beq_iff_eq, bne_iff_ne, beq_eq_false_iff_ne, bne_eq_false_iff_eq, ne_eq, Int.not_lt, Int.not_le, gt_iff_lt, ge_iff_le, Bool.not_eq_true', Bool.not_eq_false'] at hb)) | ((with_reducible first | refine s_ret ?_ | refine s_normal ?_); try simp only [x_tup0, x_tup1, x_tup2, x_tup3, x_tup4, x_tup5, and_true, true_and])))
  refine o_lenS qrf hu ?_
  rw [hlen]
  (repeat' (first | (with_reducible refine i_ops ?_; first | (refine g_mv ?_; refine s_mv ?_) | refine o_nil ?_ | (refine g_len ?_; first | refine s_lenB ?_ | refine s_pure ?_) | (refine g_idx ?_; first | (refine s_idxOB ?_; intro p hp hpw) | (refine s_idxB ?_; intro p hp)) | (refine g_slc ?_; ((first | refine s_slcB ?_ | refine s_slcB01 ?_ | refine s_slcB10 ?_); intro us hus hbs)) | (refine g_pure ?_; first | refine s_pure ?_ | refine s_saddB ?_) | (refine g_hload ?_; refine s_hloadP ?_)) | (with_reducible refine i_vc ?_; first | refine v_seq ?_ | refine v_ops ?_ | (refine g_cond ?_; first | refine s_cond_t ?_ | refine s_cond_f ?_) | refine v_block ?_ | refine v_skip ?_ | refine v_exit ?_ | refine v_ret ?_) | (with_reducible first | refine n_then ?_ | refine r_then ?_ | refine e_then ?_ | refine n_block ?_ | refine r_block ?_ | refine e_block_eq qrf ?_ | refine e_block_ne qrf ?_) | ((with_reducible first | refine s_cond_c ?_ ?_) <;> intro hb <;> rw [hb] <;> (try simp only [decide_eq_true_eq, decide_eq_false_iff_not, beq_iff_eq, bne_iff_ne, beq_eq_false_iff_ne, bne_eq_false_iff_eq, ne_eq, Int.not_lt, Int.not_le, gt_iff_lt, ge_iff_le, Bool.not_eq_true', Bool.not_eq_false'] at hb)) | ((with_reducible first | refine s_ret ?_ | refine s_normal ?_); try simp only [x_tup0, x_tup1, x_tup2, x_tup3, x_tup4, x_tup5, and_true, true_and])))
  refine v_loopX (α := Nat) (fun i => i ≤ ps.length) (fun i => [(0, u), (3, .int .i64 (ps.take i).flatten.length), (9, u), (10, .int .i64 ps.length), (11, .int .i64 i)]) (fun _ => []) (fun _ => G) (fun i => ps.length - i) 0
    (Nat.zero_le _) qhs trivial rfl ?_
  rintro i s ll k1
  dsimp only [SL.sets, AL.sets]
  have b1 := flat_len ps i
  (repeat' (first | (with_reducible refine i_ops ?_; first | (refine g_mv ?_; refine s_mv ?_) | refine o_nil ?_ | (refine g_len ?_; first | refine s_lenB ?_ | refine s_pure ?_) | (refine g_idx ?_; first | (refine s_idxOB ?_; intro p hp hpw) | (refine s_idxB ?_; intro p hp)) | (refine g_slc ?_; ((first | refine s_slcB ?_ | refine s_slcB01 ?_ | refine s_slcB10 ?_); intro us hus hbs)) | (refine g_pure ?_; first | refine s_pure ?_ | refine s_saddB ?_) | (refine g_hload ?_; refine s_hloadP ?_)) | (with_reducible refine i_vc ?_; first | refine v_seq ?_ | refine v_ops ?_ | (refine g_cond ?_; first | refine s_cond_t ?_ | refine s_cond_f ?_) | refine v_block ?_ | refine v_skip ?_ | refine v_exit ?_ | refine v_ret ?_) | (with_reducible first | refine n_then ?_ | refine r_then ?_ | refine e_then ?_ | refine n_block ?_ | refine r_block ?_ | refine e_block_eq qrf ?_ | refine e_block_ne qrf ?_) | ((with_reducible first | refine s_cond_c ?_ ?_) <;> intro hb <;> rw [hb] <;> (try simp only [decide_eq_true_eq, decide_eq_false_iff_not, beq_iff_eq, bne_iff_ne, beq_eq_false_iff_ne, bne_eq_false_iff_eq, ne_eq, Int.not_lt, Int.not_le, gt_iff_lt, ge_iff_le, Bool.not_eq_true', Bool.not_eq_false'] at hb)) | ((with_reducible first | refine s_ret ?_ | refine s_normal ?_); try simp only [x_tup0, x_tup1, x_tup2, x_tup3, x_tup4, x_tup5, and_true, true_and])))
  · have hi : i < ps.length := by omega
    obtain ⟨w, ew, hw1⟩ := hw i hi
    have b2 := flat_len ps (i + 1)
    rw [flat_take hi, List.length_append] at b2
    refine o_idxS qrf hu qrf (by omega) (v := w) (by simpa using ew) ?_
    intro p hp
    (repeat' (first | (with_reducible refine i_ops ?_; first | (refine g_mv ?_; refine s_mv ?_) | refine o_nil ?_ | (refine g_len ?_; first | refine s_lenB ?_ | refine s_pure ?_) | (refine g_idx ?_; first | (refine s_idxOB ?_; intro p hp hpw) | (refine s_idxB ?_; intro p hp)) | (refine g_slc ?_; ((first | refine s_slcB ?_ | refine s_slcB01 ?_ | refine s_slcB10 ?_); intro us hus hbs)) | (refine g_pure ?_; first | refine s_pure ?_ | refine s_saddB ?_) | (refine g_hload ?_; refine s_hloadP ?_)) | (with_reducible refine i_vc ?_; first | refine v_seq ?_ | refine v_ops ?_ | (refine g_cond ?_; first | refine s_cond_t ?_ | refine s_cond_f ?_) | refine v_block ?_ | refine v_skip ?_ | refine v_exit ?_ | refine v_ret ?_) | (with_reducible first | refine n_then ?_ | refine r_then ?_ | refine e_then ?_ | refine n_block ?_ | refine r_block ?_ | refine e_block_eq qrf ?_ | refine e_block_ne qrf ?_) | ((with_reducible first | refine s_cond_c ?_ ?_) <;> intro hb <;> rw [hb] <;> (try simp only [decide_eq_true_eq, decide_eq_false_iff_not, beq_iff_eq, bne_iff_ne, beq_eq_false_iff_ne, bne_eq_false_iff_eq, ne_eq, Int.not_lt, Int.not_le, gt_iff_lt, ge_iff_le, Bool.not_eq_true', Bool.not_eq_false'] at hb)) | ((with_reducible first | refine s_ret ?_ | refine s_normal ?_); try simp only [x_tup0, x_tup1, x_tup2, x_tup3, x_tup4, x_tup5, and_true, true_and])))
    · exfalso; omega
    · refine ⟨ps.length - (i + 1), by omega, i + 1, rfl, hi, ?_, trivial, rfl⟩
      rw [flat_take hi, List.length_append, Int.natCast_add]
      exact qhs
  · have hi : i = ps.length := by omega
    subst hi
    rw [List.take_length]
    refine o_callc qrf (grow_nil _ G (by omega) (by omega)) ?_
    rintro v G1 ⟨hle1, ho1⟩
    (repeat' (first | (with_reducible refine i_ops ?_; first | (refine g_mv ?_; refine s_mv ?_) | refine o_nil ?_ | (refine g_len ?_; first | refine s_lenB ?_ | refine s_pure ?_) | (refine g_idx ?_; first | (refine s_idxOB ?_; intro p hp hpw) | (refine s_idxB ?_; intro p hp)) | (refine g_slc ?_; ((first | refine s_slcB ?_ | refine s_slcB01 ?_ | refine s_slcB10 ?_); intro us hus hbs)) | (refine g_pure ?_; first | refine s_pure ?_ | refine s_saddB ?_) | (refine g_hload ?_; refine s_hloadP ?_)) | (with_reducible refine i_vc ?_; first | refine v_seq ?_ | refine v_ops ?_ | (refine g_cond ?_; first | refine s_cond_t ?_ | refine s_cond_f ?_) | refine v_block ?_ | refine v_skip ?_ | refine v_exit ?_ | refine v_ret ?_) | (with_reducible first | refine n_then ?_ | refine r_then ?_ | refine e_then ?_ | refine n_block ?_ | refine r_block ?_ | refine e_block_eq qrf ?_ | refine e_block_ne qrf ?_) | ((with_reducible first | refine s_cond_c ?_ ?_) <;> intro hb <;> rw [hb] <;> (try simp only [decide_eq_true_eq, decide_eq_false_iff_not, beq_iff_eq, bne_iff_ne, beq_eq_false_iff_ne, bne_eq_false_iff_eq, ne_eq, Int.not_lt, Int.not_le, gt_iff_lt, ge_iff_le, Bool.not_eq_true', Bool.not_eq_false'] at hb)) | ((with_reducible first | refine s_ret ?_ | refine s_normal ?_); try simp only [x_tup0, x_tup1, x_tup2, x_tup3, x_tup4, x_tup5, and_true, true_and])))
    refine o_lenS qrf (hu.le hle1) ?_
    rw [hlen]
    (repeat' (first | (with_reducible refine i_ops ?_; first | (refine g_mv ?_; refine s_mv ?_) | refine o_nil ?_ | (refine g_len ?_; first | refine s_lenB ?_ | refine s_pure ?_) | (refine g_idx ?_; first | (refine s_idxOB ?_; intro p hp hpw) | (refine s_idxB ?_; intro p hp)) | (refine g_slc ?_; ((first | refine s_slcB ?_ | refine s_slcB01 ?_ | refine s_slcB10 ?_); intro us hus hbs)) | (refine g_pure ?_; first | refine s_pure ?_ | refine s_saddB ?_) | (refine g_hload ?_; refine s_hloadP ?_)) | (with_reducible refine i_vc ?_; first | refine v_seq ?_ | refine v_ops ?_ | (refine g_cond ?_; first | refine s_cond_t ?_ | refine s_cond_f ?_) | refine v_block ?_ | refine v_skip ?_ | refine v_exit ?_ | refine v_ret ?_) | (with_reducible first | refine n_then ?_ | refine r_then ?_ | refine e_then ?_ | refine n_block ?_ | refine r_block ?_ | refine e_block_eq qrf ?_ | refine e_block_ne qrf ?_) | ((with_reducible first | refine s_cond_c ?_ ?_) <;> intro hb <;> rw [hb] <;> (try simp only [decide_eq_true_eq, decide_eq_false_iff_not, beq_iff_eq, bne_iff_ne, beq_eq_false_iff_ne, bne_eq_false_iff_eq, ne_eq, Int.not_lt, Int.not_le, gt_iff_lt, ge_iff_le, Bool.not_eq_true', Bool.not_eq_false'] at hb)) | ((with_reducible first | refine s_ret ?_ | refine s_normal ?_); try simp only [x_tup0, x_tup1, x_tup2, x_tup3, x_tup4, x_tup5, and_true, true_and])))
    refine v_loopX (α := Nat × Value × GH) (fun x => x.1 ≤ ps.length ∧ G.le x.2.2 ∧ Own 1 G x.2.2 x.2.1 ((ps.take x.1).flatten.map bv)) (fun x => [(6, x.2.1), (25, u), (26, .int .i64 ps.length), (27, .int .i64 x.1)]) (fun _ => []) (fun x => x.2.2) (fun x => ps.length - x.1) (0, v, G1)
      ⟨Nat.zero_le _, hle1, ho1⟩ qhs trivial rfl ?_
    rintro ⟨i, v, G1⟩ s2 ll2 ⟨k1, k2, k3⟩
    dsimp only at k1 k2 k3
    dsimp only [SL.sets, AL.sets]
    (repeat' (first | (with_reducible refine i_ops ?_; first | (refine g_mv ?_; refine s_mv ?_) | refine o_nil ?_ | (refine g_len ?_; first | refine s_lenB ?_ | refine s_pure ?_) | (refine g_idx ?_; first | (refine s_idxOB ?_; intro p hp hpw) | (refine s_idxB ?_; intro p hp)) | (refine g_slc ?_; ((first | refine s_slcB ?_ | refine s_slcB01 ?_ | refine s_slcB10 ?_); intro us hus hbs)) | (refine g_pure ?_; first | refine s_pure ?_ | refine s_saddB ?_) | (refine g_hload ?_; refine s_hloadP ?_)) | (with_reducible refine i_vc ?_; first | refine v_seq ?_ | refine v_ops ?_ | (refine g_cond ?_; first | refine s_cond_t ?_ | refine s_cond_f ?_) | refine v_block ?_ | refine v_skip ?_ | refine v_exit ?_ | refine v_ret ?_) | (with_reducible first | refine n_then ?_ | refine r_then ?_ | refine e_then ?_ | refine n_block ?_ | refine r_block ?_ | refine e_block_eq qrf ?_ | refine e_block_ne qrf ?_) | ((with_reducible first | refine s_cond_c ?_ ?_) <;> intro hb <;> rw [hb] <;> (try simp only [decide_eq_true_eq, decide_eq_false_iff_not, beq_iff_eq, bne_iff_ne, beq_eq_false_iff_ne, bne_eq_false_iff_eq, ne_eq, Int.not_lt, Int.not_le, gt_iff_lt, ge_iff_le, Bool.not_eq_true', Bool.not_eq_false'] at hb)) | ((with_reducible first | refine s_ret ?_ | refine s_normal ?_); try simp only [x_tup0, x_tup1, x_tup2, x_tup3, x_tup4, x_tup5, and_true, true_and])))
    · have hi : i < ps.length := by omega
      obtain ⟨w, ew, hw1⟩ := hw i hi
      have b2 := flat_len ps (i + 1)
      rw [flat_take hi, List.length_append] at b2
      refine o_idxS qrf (hu.le k2) qrf (by omega) (v := w) (by simpa using ew) ?_
      intro p hp
      (repeat' (first | (with_reducible refine i_ops ?_; first | (refine g_mv ?_; refine s_mv ?_) | refine o_nil ?_ | (refine g_len ?_; first | refine s_lenB ?_ | refine s_pure ?_) | (refine g_idx ?_; first | (refine s_idxOB ?_; intro p hp hpw) | (refine s_idxB ?_; intro p hp)) | (refine g_slc ?_; ((first | refine s_slcB ?_ | refine s_slcB01 ?_ | refine s_slcB10 ?_); intro us hus hbs)) | (refine g_pure ?_; first | refine s_pure ?_ | refine s_saddB ?_) | (refine g_hload ?_; refine s_hloadP ?_)) | (with_reducible refine i_vc ?_; first | refine v_seq ?_ | refine v_ops ?_ | (refine g_cond ?_; first | refine s_cond_t ?_ | refine s_cond_f ?_) | refine v_block ?_ | refine v_skip ?_ | refine v_exit ?_ | refine v_ret ?_) | (with_reducible first | refine n_then ?_ | refine r_then ?_ | refine e_then ?_ | refine n_block ?_ | refine r_block ?_ | refine e_block_eq qrf ?_ | refine e_block_ne qrf ?_) | ((with_reducible first | refine s_cond_c ?_ ?_) <;> intro hb <;> rw [hb] <;> (try simp only [decide_eq_true_eq, decide_eq_false_iff_not, beq_iff_eq, bne_iff_ne, beq_eq_false_iff_ne, bne_eq_false_iff_eq, ne_eq, Int.not_lt, Int.not_le, gt_iff_lt, ge_iff_le, Bool.not_eq_true', Bool.not_eq_false'] at hb)) | ((with_reducible first | refine s_ret ?_ | refine s_normal ?_); try simp only [x_tup0, x_tup1, x_tup2, x_tup3, x_tup4, x_tup5, and_true, true_and])))
      have hvl : By G1 v ((ps.take i).flatten) := k3.sl
      have hwl : By G1 w ps[i] := Sl.le hw1 k2
      refine o_appendO qrf qrf k3 hwl (cells1_bytes _) rfl k2 (by rw [By.len hvl, By.len hwl]; omega) ?_
      intro v2 G3 q1 q2 q3 q4 q5
      (repeat' (first | (with_reducible refine i_ops ?_; first | (refine g_mv ?_; refine s_mv ?_) | refine o_nil ?_ | (refine g_len ?_; first | refine s_lenB ?_ | refine s_pure ?_) | (refine g_idx ?_; first | (refine s_idxOB ?_; intro p hp hpw) | (refine s_idxB ?_; intro p hp)) | (refine g_slc ?_; ((first | refine s_slcB ?_ | refine s_slcB01 ?_ | refine s_slcB10 ?_); intro us hus hbs)) | (refine g_pure ?_; first | refine s_pure ?_ | refine s_saddB ?_) | (refine g_hload ?_; refine s_hloadP ?_)) | (with_reducible refine i_vc ?_; first | refine v_seq ?_ | refine v_ops ?_ | (refine g_cond ?_; first | refine s_cond_t ?_ | refine s_cond_f ?_) | refine v_block ?_ | refine v_skip ?_ | refine v_exit ?_ | refine v_ret ?_) | (with_reducible first | refine n_then ?_ | refine r_then ?_ | refine e_then ?_ | refine n_block ?_ | refine r_block ?_ | refine e_block_eq qrf ?_ | refine e_block_ne qrf ?_) | ((with_reducible first | refine s_cond_c ?_ ?_) <;> intro hb <;> rw [hb] <;> (try simp only [decide_eq_true_eq, decide_eq_false_iff_not, beq_iff_eq, bne_iff_ne, beq_eq_false_iff_ne, bne_eq_false_iff_eq, ne_eq, Int.not_lt, Int.not_le, gt_iff_lt, ge_iff_le, Bool.not_eq_true', Bool.not_eq_false'] at hb)) | ((with_reducible first | refine s_ret ?_ | refine s_normal ?_); try simp only [x_tup0, x_tup1, x_tup2, x_tup3, x_tup4, x_tup5, and_true, true_and])))
      refine ⟨ps.length - (i + 1), by omega, (i + 1, v2, G3), rfl, ⟨hi, q1, ?_⟩, qhs, trivial, rfl⟩
      rw [flat_take hi, List.map_append]; exact q2
    · have hi : i = ps.length := by omega
      subst hi
      rw [List.take_length] at k3
      exact ⟨k2, k3⟩
end Go.Proofs.Ytbmhdmkmnhaffaa.V
end
section
/- Regions that draw, of which the reads see less than there is. -/
set_option linter.unusedSimpArgs false
set_option linter.unusedVariables false
namespace Go.Proofs.Ytbmhdmkmnhaffaa.V
open Go.RowKit
section
variable {P : Program} {E : Env} {K : St → Prop} {L : SL} {A : AL} {G Gs : GH} {Ls : List Nat}
theorem pvT_swap {o : POp} {s : Nat → Value} {l : Nat → Array Value} {H : GH} {K1 K2 : St → Prop} (hp : pvT P E Gs Ls o ⟨s, l, Gs⟩ K1) (hk : ∀ st', st'.G = Gs → K1 st' → K2 ⟨st'.s, st'.l, H⟩) : pvT P E Gs Ls o ⟨s, l, H⟩ K2 := by
  cases o with
  | pure d f xs => obtain ⟨v, h1, h2⟩ := hp; exact ⟨v, h1, hk _ rfl h2⟩
  | lmove d s => exact hk _ rfl hp
  | lfield d s o => obtain ⟨p, h1, h2⟩ := hp; exact ⟨p, h1, hk _ rfl h2⟩
  | lindex d s len n i => obtain ⟨p, k, j, h1, h2, h3, h4⟩ := hp; exact ⟨p, k, j, h1, h2, h3, hk _ rfl h4⟩
  | lload d k s n g => obtain ⟨h0, p, v, h1, h2, h3⟩ := hp; exact ⟨h0, p, v, h1, h2, hk _ rfl h3⟩
  | hload d n g x => obtain ⟨b, q, cs, e, fr, v, h1, h2, h3, h4⟩ := hp; exact ⟨b, q, cs, e, fr, v, h1, h2, h3, hk _ rfl h4⟩
  | b2s d x => obtain ⟨xs, h1, h2⟩ := hp; exact ⟨xs, h1, hk _ rfl h2⟩
  | _ => exact hp.elim
def backK (P : Program) (E : Env) (Gs : GH) (Ls : List Nat) (K : St → Prop) (pl : Plan) (H : GH) (st : St) : Prop := vplan P E Gs Ls K pl ⟨st.s, st.l, H⟩
theorem k_back {pl : Plan} {H : GH} (h : vplan P E Gs Ls K pl (S L A H)) : backK P E Gs Ls K pl H (S L A G) := h
theorem pre_soundG {H : GH} : ∀ {pl : Plan} {x : List Stp × Plan} {s : Nat → Value} {l : Nat → Array Value}, pre Ls pl = some x → vops P E x.1 (backK P E Gs Ls K x.2 H) ⟨s, l, Gs⟩ → vplan P E Gs Ls K pl ⟨s, l, H⟩
  | .done, x, s, l, h, hv => by cases h; exact hv
  | .alt _ _ _ _, x, s, l, h, hv => by cases h; exact hv
  | .no, x, s, l, h, hv => by cases h; exact hv
  | .take i q rest, x, s, l, h, hv => by
    unfold pre at h
    cases ht : takeable Ls q.p with
    | false => rw [ht] at h; cases h
    | true =>
      rw [ht] at h
      cases hl : pre Ls rest with
      | none => rw [hl] at h; cases h
      | some x' =>
        obtain ⟨l', p'⟩ := x'
        rw [hl] at h; cases h
        simp only [vplan]
        simp only [vops] at hv
        have go : ∀ st' : St, st'.G = Gs → vops P E l' (backK P E Gs Ls K p' H) st' → vplan P E Gs Ls K rest ⟨st'.s, st'.l, H⟩ := by
          intro st' hst' hv'
          obtain ⟨s', l2, G'⟩ := st'
          change G' = Gs at hst'
          rw [hst'] at hv'
          exact pre_soundG hl hv'
        have step : pv P E q.p ⟨s, l, Gs⟩ (vops P E l' (backK P E Gs Ls K p' H)) → pvT P E Gs Ls q.p ⟨s, l, H⟩ (vplan P E Gs Ls K rest) := by
          intro hp
          exact pvT_swap (pvT_of_pv ht rfl hp) fun st' h1 h2 => go st' h1 h2.1
        cases hg : q.g with
        | none =>
          rw [hg] at hv
          simp only [gW, cond_true]
          exact step hv
        | some y =>
          obtain ⟨t, b⟩ := y
          rw [hg] at hv
          simp only [gW]
          cases hb : isB (s t) b with
          | true =>
            simp only [hb, cond_true] at hv ⊢
            exact step hv
          | false =>
            simp only [hb, cond_false] at hv ⊢
            exact go _ rfl hv
/-- The reads that may be done first, in what is sure to stay. -/
theorem p_preG {pl pl' : Plan} {s : Stp} {l : List Stp} (h : pre Ls pl = some (s :: l, pl')) (hv : vops P E (s :: l) (backK P E Gs Ls K pl' G) (S L A Gs)) : vplan P E Gs Ls K pl (S L A G) := pre_soundG h hv
theorem v_drawG {Q : Exit → St → Prop} {pl : Plan} (Gs : GH) (hG : Gs.le G) (h : vplan P E Gs Ls (Q .normal) pl (S L A G)) : vc P E (.draw Ls pl) Q (S L A G) := ⟨Gs, hG, h⟩
end
end Go.Proofs.Ytbmhdmkmnhaffaa.V
end
