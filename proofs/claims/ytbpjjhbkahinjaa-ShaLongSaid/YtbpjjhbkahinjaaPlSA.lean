/- The digest's words: plain. -/
import Derived.Test.YtbpjjhbkahinjaaPlCY
set_option linter.unusedSimpArgs false
set_option linter.unusedVariables false
namespace Go.Proofs.Ytbpjjhbkahinjaa.V
def rot (x : W32) (n : Nat) : W32 := x >>> n ||| x <<< (32 - n)
def sg0 (x : W32) : W32 := rot x 7 ^^^ rot x 18 ^^^ x >>> 3
def sg1 (x : W32) : W32 := rot x 17 ^^^ rot x 19 ^^^ x >>> 10
abbrev gw (v : List W32) (i : Nat) : W32 := v.getD i 0#32
def tP (v : List W32) (k w : W32) : W32 := gw v 7 + (rot (gw v 4) 6 ^^^ rot (gw v 4) 11 ^^^ rot (gw v 4) 25) + (gw v 4 &&& gw v 5 ^^^ ~~~(gw v 4) &&& gw v 6) + k + w
def tQ (v : List W32) : W32 := (rot (gw v 0) 2 ^^^ rot (gw v 0) 13 ^^^ rot (gw v 0) 22) + (gw v 0 &&& gw v 1 ^^^ gw v 0 &&& gw v 2 ^^^ gw v 1 &&& gw v 2)
def rnd (v : List W32) (k w : W32) : List W32 := [tP v k w + tQ v, gw v 0, gw v 1, gw v 2, gw v 3 + tP v k w, gw v 4, gw v 5, gw v 6]
def KK : List W32 := [1116352408, 1899447441, 3049323471, 3921009573, 961987163, 1508970993, 2453635748, 2870763221, 3624381080, 310598401, 607225278, 1426881987, 1925078388, 2162078206, 2614888103, 3248222580, 3835390401, 4022224774, 264347078, 604807628, 770255983, 1249150122, 1555081692, 1996064986, 2554220882, 2821834349, 2952996808, 3210313671, 3336571891, 3584528711, 113926993, 338241895, 666307205, 773529912, 1294757372, 1396182291, 1695183700, 1986661051, 2177026350, 2456956037, 2730485921, 2820302411, 3259730800, 3345764771, 3516065817, 3600352804, 4094571909, 275423344, 430227734, 506948616, 659060556, 883997877, 958139571, 1322822218, 1537002063, 1747873779, 1955562222, 2024104815, 2227730452, 2361852424, 2428436474, 2756734187, 3204031479, 3329325298]
def H0 : List W32 := [1779033703, 3144134277, 1013904242, 2773480762, 1359893119, 2600822924, 528734635, 1541459225]
def by4 (b : List UInt8) (t : Nat) : Nat := (b.getD (4 * t) 0).toNat * 16777216 + (b.getD (4 * t + 1) 0).toNat * 65536 + (b.getD (4 * t + 2) 0).toNat * 256 + (b.getD (4 * t + 3) 0).toNat
def w16 (b : List UInt8) (t : Nat) : W32 := BitVec.ofNat 32 (by4 b t)
/-- The first t words. -/
def sch (b : List UInt8) : Nat → List W32
  | 0 => []
  | t + 1 => sch b t ++ [if t < 16 then w16 b t else gw (sch b t) (t - 16) + sg0 (gw (sch b t) (t - 15)) + gw (sch b t) (t - 7) + sg1 (gw (sch b t) (t - 2))]
theorem sch_len (b : List UInt8) : ∀ t, (sch b t).length = t
  | 0 => rfl
  | t + 1 => by rw [sch, List.length_append, sch_len b t]; rfl
theorem sch_lo (b : List UInt8) {t : Nat} (h : t < 16) : sch b (t + 1) = sch b t ++ [w16 b t] := by rw [sch, if_pos h]
theorem sch_hi (b : List UInt8) {t : Nat} (h : ¬ t < 16) : sch b (t + 1) = sch b t ++ [gw (sch b t) (t - 16) + sg0 (gw (sch b t) (t - 15)) + gw (sch b t) (t - 7) + sg1 (gw (sch b t) (t - 2))] := by rw [sch, if_neg h]
def rnds (v : List W32) (W : List W32) : Nat → List W32
  | 0 => v
  | t + 1 => rnd (rnds v W t) (gw KK t) (gw W t)
theorem rnds_len {v W : List W32} (h : v.length = 8) : ∀ t, (rnds v W t).length = 8
  | 0 => h
  | t + 1 => rfl
/-- What a block makes of the eight words. -/
def compr (h : List W32) (b : List UInt8) : List W32 := (List.range 8).map fun i => gw h i + gw (rnds h (sch b 64) 64) i
theorem compr_len (h : List W32) (b : List UInt8) : (compr h b).length = 8 := by simp [compr]
/-- The words behind so many blocks. -/
def hs (m : List UInt8) : Nat → List W32
  | 0 => H0
  | k + 1 => compr (hs m k) ((m.drop (64 * k)).take 64)
theorem hs_len (m : List UInt8) : ∀ k, (hs m k).length = 8
  | 0 => rfl
  | k + 1 => compr_len _ _
theorem gw_app {L R : List W32} {i : Nat} (h : i < L.length) : gw (L ++ R) i = gw L i := by
  simp [gw, List.getD_eq_getElem?_getD, List.getElem?_append_left h]
/-- A row that is filled from the front. -/
def fil (L : List W32) : List W32 := L ++ List.replicate (64 - L.length) 0#32
theorem fil_len {L : List W32} (h : L.length ≤ 64) : (fil L).length = 64 := by simp [fil]; omega
theorem fil_at {L : List W32} {i : Nat} (h : i < L.length) : gw (fil L) i = gw L i := gw_app h
theorem fil_set {L : List W32} (h : L.length < 64) (v : W32) : (fil L).set L.length v = fil (L ++ [v]) := by
  unfold fil
  rw [List.set_append_right _ _ (Nat.le_refl _), Nat.sub_self, show 64 - L.length = (64 - (L ++ [v]).length) + 1 by simp; omega, List.replicate_succ, List.set_cons_zero, List.append_assoc]; rfl
theorem fil_all {L : List W32} (h : L.length = 64) : fil L = L := by unfold fil; rw [h]; simp
theorem or_add {X Y : Nat} (m i : Nat) (hm : 2 ^ i = m) (hX : X % m = 0) (hY : Y < m) : X ||| Y = X + Y := by
  subst hm
  have e : X = 2 ^ i * (X / 2 ^ i) := (Nat.mul_div_cancel' (Nat.dvd_of_mod_eq_zero hX)).symm
  rw [e]; exact (Nat.two_pow_add_eq_or_of_lt hY _).symm
theorem w_shl {a b c d : Nat} (ha : a < 256) (hb : b < 256) (hc : c < 256) (hd : d < 256) : BitVec.ofNat 32 a <<< 24 ||| BitVec.ofNat 32 b <<< 16 ||| BitVec.ofNat 32 c <<< 8 ||| BitVec.ofNat 32 d = BitVec.ofNat 32 (a * 16777216 + b * 65536 + c * 256 + d) := by
  apply BitVec.eq_of_toNat_eq
  simp only [BitVec.toNat_or, BitVec.toNat_shiftLeft, BitVec.toNat_ofNat, Nat.shiftLeft_eq]
  rw [Nat.mod_eq_of_lt (show a < 2 ^ 32 by omega), Nat.mod_eq_of_lt (show b < 2 ^ 32 by omega), Nat.mod_eq_of_lt (show c < 2 ^ 32 by omega), Nat.mod_eq_of_lt (show d < 2 ^ 32 by omega)]
  rw [Nat.mod_eq_of_lt (show a * 2 ^ 24 < 2 ^ 32 by omega), Nat.mod_eq_of_lt (show b * 2 ^ 16 < 2 ^ 32 by omega), Nat.mod_eq_of_lt (show c * 2 ^ 8 < 2 ^ 32 by omega)]
  rw [or_add (X := a * 2 ^ 24) (Y := b * 2 ^ 16) 16777216 24 (by decide) (by omega) (by omega), or_add (X := a * 2 ^ 24 + b * 2 ^ 16) (Y := c * 2 ^ 8) 65536 16 (by decide) (by omega) (by omega), or_add (X := a * 2 ^ 24 + b * 2 ^ 16 + c * 2 ^ 8) (Y := d) 256 8 (by decide) (by omega) (by omega), Nat.mod_eq_of_lt (by omega)]
end Go.Proofs.Ytbpjjhbkahinjaa.V
