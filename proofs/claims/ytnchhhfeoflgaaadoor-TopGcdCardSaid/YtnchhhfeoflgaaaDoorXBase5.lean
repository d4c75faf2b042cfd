/- What the rows of this seat rest on, part 5: an abstract machine for the model, proved sound, and the functions that the statements reach. No conditions. -/
import Derived.Test.YtnchhhfeoflgaaaDoorXBase4
set_option linter.unusedVariables false
set_option linter.unusedSimpArgs false
set_option linter.unnecessarySimpa false
set_option linter.unusedSectionVars false
section
/- What arith's functions answer, in whole numbers: quotients, common divisors, sums of lists. -/
namespace Go.Abs
open Go.Proofs Go.Dig
/-- Quotient and rest of two numbers, by amounts. -/
theorem split_vals {x y : Int} (hx : x.natAbs < Lim) (hy : y.natAbs < Lim) (h0 : y ≠ 0) :
    okB 4294967296 (splitQ (lb 4294967296 x) (lb 4294967296 y)) = true ∧ few (splitQ (lb 4294967296 x) (lb 4294967296 y)) = true ∧ val 4294967296 (splitQ (lb 4294967296 x) (lb 4294967296 y)) = az x / az y ∧
    okB 4294967296 (splitR (lb 4294967296 x) (lb 4294967296 y)) = true ∧ few (splitR (lb 4294967296 x) (lb 4294967296 y)) = true ∧ val 4294967296 (splitR (lb 4294967296 x) (lb 4294967296 y)) = az x % az y := by
  have lx := lb_length hx
  have ly := lb_length hy
  have ax := az_nonneg x
  have ay : 0 < az y := by unfold az; omega
  have vx := val_lt W_pos (okW_lb x)
  have vy := val_lt W_pos (okW_lb y)
  rw [val_lb] at vx vy
  have q0 : 0 ≤ az x / az y := Int.ediv_nonneg ax (by omega)
  have r0 := Int.emod_nonneg (az x) (show az y ≠ 0 by omega)
  have r1 := Int.emod_lt_of_pos (az x) ay
  unfold splitQ splitR
  rw [val_lb, val_lb]
  by_cases hlt : az x < az y
  · rw [decide_eq_true hlt]
    simp only [cond_true]
    refine ⟨rfl, few_iff.2 (by simp), ?_, okW_lb x, fewW hx, ?_⟩
    · rw [Int.ediv_eq_zero_of_lt ax hlt]; rfl
    · rw [val_lb, Int.emod_eq_of_lt ax hlt]
  · rw [decide_eq_false hlt]
    simp only [cond_false]
    refine ⟨?_, ?_, ?_, digN_ok W_pos _ _, few_iff.2 (by rw [digN_length]; omega), val_digN W_pos _ _ r0 (by omega)⟩
    · cases ((lb 4294967296 y).length == 1) with
      | true => exact limbs_ok W_pos _
      | false => exact digN_ok W_pos _ _
    · have hq : az x / az y < 4294967296 ^ (lb 4294967296 x).length := Int.lt_of_le_of_lt (Int.ediv_le_self _ ax) vx
      cases ((lb 4294967296 y).length == 1) with
      | true => exact few_iff.2 (by have := limbs_length W_two q0 hq; simp only [cond_true]; omega)
      | false => exact few_iff.2 (by simp only [cond_false]; rw [digN_length]; omega)
    · cases hb : ((lb 4294967296 y).length == 1) with
      | true => exact limbs_val W_two q0
      | false =>
        refine val_digN W_pos _ _ q0 ?_
        have hyn : lb 4294967296 y ≠ [] := fun h => h0 ((lb_nil W_two).1 h)
        have hyl : 0 < (lb 4294967296 y).length := List.length_pos_iff.2 hyn
        have hge := last_ge W_two (okW_lb y) (lb_last _ _) hyn
        rw [val_lb] at hge
        have hxl : (lb 4294967296 y).length ≤ (lb 4294967296 x).length := lb_len_le (by omega)
        refine Int.ediv_lt_of_lt_mul ay ?_
        have e : (4294967296 : Int) ^ ((lb 4294967296 x).length) = 4294967296 ^ ((lb 4294967296 y).length - 1) * 4294967296 ^ ((lb 4294967296 x).length - (lb 4294967296 y).length + 1) := by
          rw [← Int.pow_add]; congr 1; omega
        have := Int.mul_le_mul_of_nonneg_right hge (show (0 : Int) ≤ 4294967296 ^ ((lb 4294967296 x).length - (lb 4294967296 y).length + 1) from Int.pow_nonneg (by decide))
        have hk : az x < az y * 4294967296 ^ ((lb 4294967296 x).length - (lb 4294967296 y).length + 1) := Int.lt_of_lt_of_le (by rw [← e]; exact vx) this
        rw [Int.mul_comm]
        exact hk
theorem div_of {x y q r : Int} (h : r + y * q = x) (hr : (0 < y ∧ 0 ≤ r ∧ r < y) ∨ (y < 0 ∧ y < r ∧ r ≤ 0)) : dq x y = q ∧ dr x y = r := by
  unfold dq dr
  rcases hr with ⟨h1, h2, h3⟩ | ⟨h1, h2, h3⟩
  · rw [if_neg (by omega), if_neg (by omega)]
    exact (Int.fdiv_fmod_unique h1).2 ⟨h, h2, h3⟩
  · rw [if_neg (by omega), if_neg (by omega)]
    exact (Int.fdiv_fmod_unique' h1).2 ⟨h, h2, h3⟩
theorem nat_le_of_lt {a b : Int} {L : Nat} (h : a.natAbs ≤ b.natAbs) (hb : b.natAbs < L) : a.natAbs < L := Nat.lt_of_le_of_lt h hb
theorem meets_div : Meets Tryd.prog 11 ansDiv := by
  refine meets_fn (orc_ok (l := Div.ans) ⟨meets_norm, meets_sign, meets_splitMag, meets_plus, meets_from, trivial⟩) Tryd.f11 Tryd.func11 (by kernel_rfl) (fun args r h => ?_)
  unfold ansDiv at h
  split at h
  · rename_i s l t m
    simp only [Option.some.injEq, Prod.mk.injEq, Bool.and_eq_true] at h
    obtain ⟨⟨h, k⟩, rfl⟩ := h
    refine ⟨rfl, _, noTab_all, (Div.rest _ _ _ _).trans ?_⟩
    rw [k]
    obtain ⟨x, rfl, rfl, hx⟩ := (cn_iff W_two).1 h
    obtain ⟨y, rfl, rfl, hy⟩ := (cn_iff W_two).1 k
    rw [num_lbW, num_lbW]
    by_cases h0 : y = 0
    · subst h0
      have : (cmpZ 0 0 == 0) = true := rfl
      rw [this]
      simp only [cond_true, dq, dr, dc, if_true]
      rfl
    · obtain ⟨q1, q2, q3, r1, r2, r3⟩ := split_vals hx hy h0
      have hc : (cmpZ y 0 == 0) = false := by
        rw [beq_eq_false_iff_ne]; unfold cmpZ
        split
        · omega
        · split <;> omega
      have ay : 0 < az y := by unfold az; omega
      have lx := lb_length hx
      have m0 := Int.emod_nonneg (az x) (show az y ≠ 0 by omega)
      have m1 := Int.emod_lt_of_pos (az x) ay
      have d0 : 0 ≤ az x / az y := Int.ediv_nonneg (az_nonneg x) (by omega)
      have d1 : az x / az y ≤ az x := Int.ediv_le_self _ (az_nonneg x)
      have hde := Int.emod_add_mul_ediv (az x) (az y)
      have hR := num_of (s := sg x) r3
      have hQ := num_of (s := (!sg x == sg y)) q3
      have hxx : az x = x.natAbs := rfl
      have hyy : az y = y.natAbs := rfl
      have sR : (num 4294967296 (sg x) (splitR (lb 4294967296 x) (lb 4294967296 y))).natAbs < Lim := by
        refine nat_le_of_lt ?_ hy
        rw [hR]; cases sg x <;> simp only [cond_true, cond_false] <;> omega
      have sQ : (num 4294967296 (!sg x == sg y) (splitQ (lb 4294967296 x) (lb 4294967296 y))).natAbs < Lim := by
        refine nat_le_of_lt ?_ hx
        rw [hQ]; cases (!sg x == sg y) <;> simp only [cond_true, cond_false] <;> omega
      rw [hc, clW hx, clW hy, val_lb, decide_eq_true ay, decide_eq_true (show (lb 4294967296 x).length ≤ 50000 by omega), q1, q2, r1, r2, N_eq, N_eq, cnW, cnW, decide_eq_true sR, decide_eq_true sQ]
      have hc0 : (cmpZ (num 4294967296 (sg x) (splitR (lb 4294967296 x) (lb 4294967296 y))) 0 != 0) = decide (num 4294967296 (sg x) (splitR (lb 4294967296 x) (lb 4294967296 y)) ≠ 0) := by
        rw [Bool.eq_iff_iff, bne_iff_ne, decide_eq_true_eq]; unfold cmpZ
        split
        · constructor <;> intro <;> omega
        · split
          · constructor <;> intro <;> omega
          · constructor <;> intro <;> omega
      rw [hc0, hR, hQ]
      simp only [Bool.and_self, Bool.and_true, Bool.true_and, cond_true, cond_false, dc, if_neg h0]
      generalize hA : az x / az y = A at *
      generalize hB : az x % az y = B at *
      rcases sg_cases x with ⟨a1, a2, a3⟩ | ⟨a1, a2, a3⟩ <;> rcases sg_cases y with ⟨b1, b2, b3⟩ | ⟨b1, b2, b3⟩ <;> rw [a1, b1] <;> rw [a3, b3] at hde <;> rw [b3] at m1 <;> by_cases hB0 : B = 0
      all_goals simp only [beq_self_eq_true, Bool.true_beq, Bool.false_beq, Bool.not_true, Bool.not_false, cond_true, cond_false, Bool.not_eq_true', ne_eq]
      · obtain ⟨u1, u2⟩ := div_of (x := x) (y := y) (q := A) (r := -B) (by rw [Int.neg_mul] at hde; omega) (by omega)
        rw [u1, u2, hB0]; simp
      · obtain ⟨u1, u2⟩ := div_of (x := x) (y := y) (q := A) (r := -B) (by rw [Int.neg_mul] at hde; omega) (by omega)
        rw [u1, u2, decide_eq_true (by omega)]; simp
      · obtain ⟨u1, u2⟩ := div_of (x := x) (y := y) (q := -A) (r := -B) (by rw [Int.mul_neg]; omega) (by omega)
        rw [u1, u2, hB0]; simp
      · obtain ⟨u1, u2⟩ := div_of (x := x) (y := y) (q := -A + -1) (r := -B + y) (by rw [Int.mul_add, Int.mul_neg, Int.mul_neg, Int.mul_one]; omega) (by omega)
        rw [u1, u2, decide_eq_true (by omega)]; simp
      · obtain ⟨u1, u2⟩ := div_of (x := x) (y := y) (q := -A) (r := B) (by rw [Int.neg_mul] at hde; rw [Int.mul_neg]; omega) (by omega)
        rw [u1, u2, hB0]; simp
      · obtain ⟨u1, u2⟩ := div_of (x := x) (y := y) (q := -A + -1) (r := B + y) (by rw [Int.neg_mul] at hde; rw [Int.mul_add, Int.mul_neg, Int.mul_neg, Int.mul_one]; omega) (by omega)
        rw [u1, u2, decide_eq_true (by omega)]; simp
      · obtain ⟨u1, u2⟩ := div_of (x := x) (y := y) (q := A) (r := B) hde (by omega)
        rw [u1, u2, hB0]; simp
      · obtain ⟨u1, u2⟩ := div_of (x := x) (y := y) (q := A) (r := B) hde (by omega)
        rw [u1, u2, decide_eq_true (by omega)]; simp
  · cases h
namespace Gcd
theorem loop (s : Bool) (l : List Int) (t : Bool) (m : List Int) (x y : Nat) (hx : x < Lim) (hy : y < Lim) :
    ∃ e S1, Ends T orc L0 D0 (st0 s l t m (sg x) (lb 4294967296 x) (sg y) (lb 4294967296 y)) e S1 ∧ (e = .exit 0 ∧ ∃ b k, S1 = st0 s l t m (sg (Nat.gcd x y : Nat)) (lb 4294967296 (Nat.gcd x y : Nat)) b k) := by
  refine loop_inv2 (fun (a b : Nat) => st0 s l t m (sg a) (lb 4294967296 a) (sg b) (lb 4294967296 b)) (fun a b => a < Lim ∧ b < Lim ∧ Nat.gcd a b = Nat.gcd x y) (fun a b => b)
    (fun e S1 => e = .exit 0 ∧ ∃ b k, S1 = st0 s l t m (sg (Nat.gcd x y : Nat)) (lb 4294967296 (Nat.gcd x y : Nat)) b k) isL0 ?_ x y ⟨hx, hy, rfl⟩
  intro a b ⟨ha, hb, hg⟩
  refine ⟨noTab, noTab_all, lands_of (round0 ..) ?_⟩
  have sa : ((a : Int)).natAbs < Lim := by rw [Int.natAbs_natCast]; exact ha
  have sb : ((b : Int)).natAbs < Lim := by rw [Int.natAbs_natCast]; exact hb
  rw [cnW, decide_eq_true sb, num_lbW]
  simp only [cond_true]
  by_cases h0 : b = 0
  · subst h0
    have : (cmpZ ((0 : Nat) : Int) 0 != 0) = false := rfl
    rw [this]
    simp only [cond_false, lands_some, Turns2]
    rw [← hg, Nat.gcd_zero_right]
    exact ⟨trivial, _, _, rfl⟩
  · have hc : (cmpZ (b : Int) 0 != 0) = true := by
      rw [bne_iff_ne]; unfold cmpZ; rw [if_neg (by omega), if_pos (by omega)]; decide
    obtain ⟨q1, q2, q3, r1, r2, r3⟩ := split_vals sa sb (by omega)
    have lx := lb_length sa
    have eb : az (b : Int) = (b : Int) := rfl
    have ea : az (a : Int) = (a : Int) := rfl
    have hR := num_of (s := false) r3
    rw [ea, eb] at hR
    rw [hc, clW sa, clW sb, val_lb, eb, decide_eq_true (show (0 : Int) < (b : Int) by omega), decide_eq_true (show (lb 4294967296 (a : Int)).length ≤ 50000 by omega), r1, r2, hR]
    simp only [Bool.and_self, cond_true, cond_false, lands_some, Turns2]
    refine ⟨b, a % b, by rw [Int.natCast_emod], ⟨hb, Nat.lt_of_le_of_lt (Nat.mod_le a b) ha, ?_⟩, Nat.mod_lt _ (by omega)⟩
    rw [← hg, Nat.gcd_comm b, ← Nat.gcd_rec, Nat.gcd_comm]
end Gcd
theorem meets_gcd : Meets Tryd.prog 10 ansGcd := by
  refine meets_fn (orc_ok (l := Gcd.ans) ⟨meets_norm, meets_abs, meets_sign, meets_splitMag, trivial⟩) Tryd.f10 Tryd.func10 (by kernel_rfl) (fun args r h => ?_)
  unfold ansGcd at h
  split at h
  · rename_i s l t m
    simp only [Option.some.injEq, Prod.mk.injEq, Bool.and_eq_true] at h
    obtain ⟨⟨h, k⟩, rfl⟩ := h
    obtain ⟨x, hs, hl, hx⟩ := (cn_iff W_two).1 h
    obtain ⟨y, ht, hm, hy⟩ := (cn_iff W_two).1 k
    obtain ⟨e1, S1, hE1, rfl, b, q, rfl⟩ := Gcd.loop s l t m x.natAbs y.natAbs hx hy
    have nx : num 4294967296 s l = x := by rw [hs, hl]; exact num_lbW x
    have ny : num 4294967296 t m = y := by rw [ht, hm]; exact num_lbW y
    refine ⟨rfl, _, tabOf_all _, (Gcd.rest s l t m (sg (Nat.gcd x.natAbs y.natAbs : Nat)) (lb 4294967296 (Nat.gcd x.natAbs y.natAbs : Nat)) b q).trans ?_⟩
    have sx : sg ((x.natAbs : Nat) : Int) = false := decide_eq_false (by omega)
    have sy : sg ((y.natAbs : Nat) : Int) = false := decide_eq_false (by omega)
    rw [sx, sy] at hE1
    rw [h, k, nx, ny]
    have e := cdec_true hE1
    unfold az
    rw [e]
    rfl
  · cases h
end Go.Abs
end
section
/- What arith.Text and arith.Small answer. -/
namespace Go.Abs
open Go.Proofs Go.Dig
/-- A number's digits, cut at a place. -/
theorem limbs_split {B : Int} (hB : 2 ≤ B) {v : Int} (h0 : 0 ≤ v) (k : Nat) (h : 0 < v / B ^ k) : limbs B v = digN B k v ++ limbs B (v / B ^ k) := by
  have hq : 0 ≤ v / B ^ k := by omega
  have hn : limbs B (v / B ^ k) ≠ [] := fun hc => by have := (limbs_nil hB hq).1 hc; omega
  have ok : okB B (digN B k v ++ limbs B (v / B ^ k)) = true := okB_app (digN_ok (by omega) _ _) (limbs_ok (by omega) _)
  have hl : (digN B k v ++ limbs B (v / B ^ k)).getLast? ≠ some 0 := by
    rw [List.getLast?_append]
    cases hg : (limbs B (v / B ^ k)).getLast? with
    | none => exact absurd (List.getLast?_eq_none_iff.1 hg) hn
    | some d =>
      intro h
      simp at h
      exact limbs_last B (v / B ^ k) (by rw [hg, h])
  have hp : (0 : Int) < B ^ k := Int.pow_pos (by omega)
  have hv : val B (digN B k v ++ limbs B (v / B ^ k)) = v := by
    rw [val_append, digN_length, limbs_val hB hq]
    have h1 : digN B k v = digN B k (v % B ^ k) := by
      have : ∀ (k : Nat) (v w : Int), digN B k (v + B ^ k * w) = digN B k v := by
        intro k
        induction k with
        | zero => intro v w; rfl
        | succ k ih =>
          intro v w
          simp only [digN]
          have e : B ^ (k + 1) * w = B * (B ^ k * w) := by rw [Int.pow_succ, Int.mul_comm (B ^ k) B, Int.mul_assoc]
          rw [e, Int.add_mul_emod_self_left, Int.add_mul_ediv_left _ _ (by omega), ih]
      have h2 := this k (v % B ^ k) (v / B ^ k)
      rw [Int.emod_add_mul_ediv] at h2
      exact h2
    rw [h1, val_digN (by omega) _ _ (Int.emod_nonneg _ (by omega)) (Int.emod_lt_of_pos _ hp), Int.emod_add_mul_ediv]
  have := limbs_self hB ok hl
  rw [hv] at this
  exact this
theorem digN_emod {B : Int} (hB : 0 < B) (k : Nat) (v : Int) : digN B k (v % B ^ k) = digN B k v := by
  have : ∀ (k : Nat) (v w : Int), digN B k (v + B ^ k * w) = digN B k v := by
    intro k
    induction k with
    | zero => intro v w; rfl
    | succ k ih =>
      intro v w
      simp only [digN]
      have e : B ^ (k + 1) * w = B * (B ^ k * w) := by rw [Int.pow_succ, Int.mul_comm (B ^ k) B, Int.mul_assoc]
      rw [e, Int.add_mul_emod_self_left, Int.add_mul_ediv_left _ _ (by omega), ih]
  have h2 := this k (v % B ^ k) (v / B ^ k)
  rw [Int.emod_add_mul_ediv] at h2
  exact h2.symm
def asc (l : List Int) : List Int := l.map (· + 48)
theorem asc_len (l : List Int) : (asc l).length = l.length := List.length_map ..
theorem asc_app (l m : List Int) : asc (l ++ m) = asc l ++ asc m := List.map_append ..
namespace Text
/-- The digits of a piece, behind what was found. -/
theorem inner (s : Bool) (l : List Int) (v : Int) (l3 : List Int) (hv : 0 ≤ v) (h3 : l3.length ≤ 100000) :
    ∃ e S1, Ends T orc L1 D1 (st1 s l (limbs 4294967296 v) (v % 1000000000) 0 l3) e S1 ∧ (e = .exit 2 ∧ ∃ x k, S1 = st1 s l (limbs 4294967296 v) x k (l3 ++ asc (if 0 < v / 1000000000 then digN 10 9 v else limbs 10 v))) := by
  have hq : 0 ≤ v / 1000000000 := by omega
  have hvl : val 4294967296 (limbs 4294967296 v) = v := limbs_val W_two hv
  have hnl : ((limbs 4294967296 (v / 1000000000)).length : Int) > 0 ↔ 0 < v / 1000000000 := by
    have := limbs_nil W_two hq
    constructor
    · intro h
      refine Int.lt_of_not_ge (fun hc => ?_)
      have : v / 1000000000 = 0 := by omega
      rw [this] at h
      simp [limbs, digN, strip] at h
    · intro h
      have : limbs 4294967296 (v / 1000000000) ≠ [] := fun hc => by have := this.1 hc; omega
      have := List.length_pos_iff.2 this
      omega
  obtain ⟨r, hr⟩ : ∃ r, v % 1000000000 = r := ⟨_, rfl⟩
  rw [hr]
  refine loop_inv3 (fun x (k : Nat) l4 => st1 s l (limbs 4294967296 v) x k l4) (fun x k l4 => k ≤ 9 ∧ x = r / 10 ^ k ∧ l4 = l3 ++ asc (digN 10 k r) ∧ (0 < v / 1000000000 ∨ k = 0 ∨ 0 < r / 10 ^ (k - 1))) (fun x k l4 => 9 - k)
    (fun e S1 => e = .exit 2 ∧ ∃ x k, S1 = st1 s l (limbs 4294967296 v) x k (l3 ++ asc (if 0 < v / 1000000000 then digN 10 9 v else limbs 10 v))) isL1 ?_ r 0 l3 ?_
  · intro x k l4 ⟨k1, k2, k3, k4⟩
    refine ⟨noTab, noTab_all, lands_of (round1 ..) ?_⟩
    rw [hvl]
    have hp : (0 : Int) < 10 ^ k := Int.pow_pos (by decide)
    have hx0 : 0 ≤ x := by rw [k2]; exact Int.ediv_nonneg (by omega) (by omega)
    have hx1 : x ≤ r := by rw [k2]; exact Int.ediv_le_self _ (by omega)
    have em : x.tmod 10 = x % 10 := Int.tmod_eq_emod_of_nonneg hx0
    have ed : x.tdiv 10 = x / 10 := Int.tdiv_eq_ediv_of_nonneg hx0
    have ew : IntKind.u8.wrap (IntKind.u32.wrap (48 + x.tmod 10)) = x % 10 + 48 := by
      rw [em, wu32 (by omega) (by omega), IntWalk.u8_in _ ⟨by omega, by omega⟩]; omega
    have ed2 : IntKind.u32.wrap (x.tdiv 10) = x / 10 := by rw [ed, wu32 (by omega) (by omega)]
    have hlen : (l4 ++ [x % 10 + 48]).length * 1 ≤ 140737488355328 := by
      rw [List.length_append, k3, List.length_append, asc_len, digN_length, List.length_singleton]; omega
    have next : k < 9 → 0 < x ∨ 0 < v / 1000000000 → k + 1 ≤ 9 ∧ x / 10 = r / 10 ^ (k + 1) ∧ l4 ++ [x % 10 + 48] = l3 ++ asc (digN 10 (k + 1) r) ∧ (0 < v / 1000000000 ∨ k + 1 = 0 ∨ 0 < r / 10 ^ (k + 1 - 1)) := by
      intro hk hor
      refine ⟨by omega, ?_, ?_, ?_⟩
      · rw [k2, Int.pow_succ, Int.ediv_ediv_of_nonneg (by omega)]
      · rw [k3, digN_succ (by decide), asc_app, List.append_assoc, k2]; rfl
      · rw [Nat.add_sub_cancel, ← k2]; omega
    have fin : (0 < v / 1000000000 → k = 9) → (¬ 0 < v / 1000000000 → x = 0) → l4 = l3 ++ asc (if 0 < v / 1000000000 then digN 10 9 v else limbs 10 v) := by
      intro f1 f2
      rw [k3]
      by_cases hb : 0 < v / 1000000000
      · rw [if_pos hb, f1 hb, ← hr]
        have := digN_emod (B := 10) (by decide) 9 v
        rw [show (10 : Int) ^ 9 = 1000000000 from rfl] at this
        rw [this]
      · rw [if_neg hb]
        have hvr : r = v := by omega
        have hx := f2 hb
        rw [hvr] at k2 k4 ⊢
        have hlt : v < 10 ^ k := by
          refine Int.not_le.1 (fun hc => ?_)
          have : 1 ≤ v / 10 ^ k := (Int.le_ediv_iff_mul_le hp).2 (by omega)
          omega
        rw [← limbs_of (by decide) hv hlt, strip_of_last]
        rcases k4 with k4 | k4 | k4
        · exact absurd k4 hb
        · rw [k4]; simp [digN]
        · cases k with
          | zero => simp [digN]
          | succ k =>
            rw [digN_succ (by decide), List.getLast?_append]
            rw [Nat.add_sub_cancel] at k4
            have : v / 10 ^ k < 10 := by
              have hp2 : (0 : Int) < 10 ^ k := Int.pow_pos (by decide)
              refine Int.ediv_lt_of_lt_mul hp2 ?_
              rw [Int.mul_comm, ← Int.pow_succ]; exact hlt
            have : v / 10 ^ k % 10 ≠ 0 := by omega
            simpa using this
    rw [ew, ed2]
    by_cases hk : k < 9
    · rw [decide_eq_true (show (k : Int) < 9 by omega), decide_eq_true hlen, wi_succ (show k < 4611686018427387904 by omega)]
      by_cases hb : 0 < v / 1000000000
      · rw [decide_eq_true (hnl.2 hb)]
        simp only [Bool.and_self, cond_true, lands_some, Turns3]
        exact ⟨_, k + 1, _, rfl, next hk (.inr hb), by omega⟩
      · rw [decide_eq_false (fun h => hb (hnl.1 h))]
        by_cases hx : x > 0
        · rw [decide_eq_true hx]
          simp only [Bool.and_self, cond_true, cond_false, lands_some, Turns3]
          exact ⟨_, k + 1, _, rfl, next hk (.inl hx), by omega⟩
        · rw [decide_eq_false hx]
          simp only [cond_true, cond_false, lands_some, Turns3]
          exact ⟨trivial, _, _, by rw [fin (fun h => absurd h hb) (fun _ => by omega)]⟩
    · rw [decide_eq_false (show ¬ (k : Int) < 9 by omega)]
      simp only [cond_false, lands_some, Turns3]
      have h9 : k = 9 := by omega
      have hx0 : x = 0 := by
        rw [k2, h9, show (10 : Int) ^ 9 = 1000000000 from rfl]
        omega
      exact ⟨trivial, _, _, by rw [fin (fun _ => h9) (fun _ => hx0)]⟩
  · exact ⟨by omega, by simp, by simp [digN, asc], .inr (.inl rfl)⟩
theorem outer (s : Bool) (l : List Int) (V : Int) (hV : 0 ≤ V) (hd : (limbs 10 V).length ≤ 20000) (hl : l = limbs 4294967296 V) (hlen : (limbs 4294967296 V).length ≤ 10000) :
    ∃ e S1, Ends T orc L0 D0 (st0 s l l []) e S1 ∧ (e = .exit 0 ∧ ∃ m, S1 = st0 s l m (asc (limbs 10 V))) := by
  have key := loop_inv2 (T := T) (orc := orc) (L := L0) (D := D0) (fun (v : Int) l3 => st0 s l (limbs 4294967296 v) l3) (fun v l3 => 0 ≤ v ∧ v ≤ V ∧ ∃ ds, l3 = asc ds ∧ ds ++ limbs 10 v = limbs 10 V) (fun v l3 => v.toNat)
    (fun e S1 => e = .exit 0 ∧ ∃ m, S1 = st0 s l m (asc (limbs 10 V))) isL0 ?_ V [] ⟨hV, Int.le_refl _, [], rfl, rfl⟩
  · rw [← hl] at key; exact key
  · intro v l3 ⟨v0, v1, ds, hds, hap⟩
    have hdl : ds.length ≤ 20000 := by
      have := congrArg List.length hap
      rw [List.length_append] at this
      omega
    have hvl : val 4294967296 (limbs 4294967296 v) = v := limbs_val W_two v0
    by_cases hv : v = 0
    · subst hv
      refine ⟨_, tabOf_all _, lands_of (round0 s l _ l3 [] 0 0) ?_⟩
      have e0 : limbs 4294967296 0 = [] := rfl
      have e1 : limbs 10 0 = [] := rfl
      rw [e0]
      simp only [List.length_nil, lands_bif, lands_some, lands_none, Turns1, Turns2, Turns3, Turns4, Turns5, Turns6, Turns7, Turns8, eq_bif, Option.some.injEq, reduceCtorEq, cond_true, cond_false, Bool.eq_false_iff, ne_eq, inB_iff, decide_eq_true_eq, Bool.and_eq_true, Bool.or_eq_true, Bool.not_eq_true', beq_iff_eq, bne_iff_ne, true_and, and_true, true_implies, implies_true, not_true_eq_false, not_false_eq_true, false_implies, few_iff]
      refine ⟨fun h => absurd h (by decide), fun _ => ⟨[], ?_⟩⟩
      rw [e1, List.append_nil] at hap
      rw [← hap, hds]
    · obtain ⟨e1, S1, hE1, rfl, x, k, rfl⟩ := inner s l v l3 v0 (by rw [hds, asc_len]; omega)
      refine ⟨_, tabOf_all _, lands_of (round0 s l _ l3 (l3 ++ asc (if 0 < v / 1000000000 then digN 10 9 v else limbs 10 v)) x k) ?_⟩
      have hne : limbs 4294967296 v ≠ [] := fun h => hv ((limbs_nil W_two v0).1 h)
      have hpos := List.length_pos_iff.2 hne
      have hfew : few (limbs 4294967296 v) = true := by
        refine few_iff.2 ?_
        have := limbs_length W_two v0 (n := (limbs 4294967296 V).length) (by
          have := val_lt W_pos (limbs_ok W_pos V)
          rw [limbs_val W_two hV] at this
          omega)
        omega
      rw [hvl, hfew, limbs_ok W_pos, decide_eq_true (show ((limbs 4294967296 v).length : Int) > 0 by omega), cdec_true hE1]
      simp only [Bool.and_self, cond_true, lands_some, Turns2]
      refine ⟨v / 1000000000, _, rfl, ⟨by omega, by omega, ds ++ (if 0 < v / 1000000000 then digN 10 9 v else limbs 10 v), by rw [hds, asc_app], ?_⟩, by omega⟩
      rw [← hap, List.append_assoc]
      congr 1
      by_cases hb : 0 < v / 1000000000
      · rw [if_pos hb]
        exact (limbs_split (by decide) v0 9 hb).symm
      · rw [if_neg hb, show v / 1000000000 = 0 by omega]
        exact List.append_nil _
/-- A row turned about in its place. -/
def Turned (L : List Int) (i : Nat) (l : List Int) : Prop := l.length = L.length ∧ ∀ k, k < L.length → l.getD k 0 = if k < i ∨ L.length < i + k + 1 then L.getD (L.length - 1 - k) 0 else L.getD k 0
theorem turned_next {L l : List Int} {i : Nat} (h : Turned L i l) (hi : i + i + 1 < L.length) : Turned L (i + 1) ((l.set i (l.getD (L.length - 1 - i) 0)).set (L.length - 1 - i) (l.getD i 0)) := by
  obtain ⟨h1, h2⟩ := h
  refine ⟨by simp [h1], fun k hk => ?_⟩
  by_cases e1 : k = L.length - 1 - i
  · subst e1
    rw [getD_set_self (by rw [List.length_set]; omega), h2 i (by omega), if_neg (by omega), if_pos (by omega)]
    congr 1; omega
  · rw [getD_set_ne (Ne.symm e1)]
    by_cases e2 : k = i
    · subst e2
      rw [getD_set_self (by omega), h2 _ (by omega), if_neg (by omega), if_pos (by omega)]
    · rw [getD_set_ne (Ne.symm e2), h2 k hk]
      by_cases e3 : k < i ∨ L.length < i + k + 1
      · rw [if_pos e3, if_pos (by omega)]
      · rw [if_neg e3, if_neg (by omega)]
theorem turned_end {L l : List Int} {i : Nat} (h : Turned L i l) (hi : L.length ≤ i + i + 1) : l = L.reverse := by
  obtain ⟨h1, h2⟩ := h
  apply List.ext_getElem (by simp [h1])
  intro k q1 q2
  have := h2 k (by omega)
  rw [getD_at q1] at this
  rw [this, List.getElem_reverse]
  by_cases e : k < i ∨ L.length < i + k + 1
  · rw [if_pos e, getD_at (by omega)]
  · rw [if_neg e, getD_at (by omega)]
    congr 1; omega
theorem turned_zero (L : List Int) : Turned L 0 L := ⟨rfl, fun k hk => by rw [if_neg (by omega)]⟩
theorem turn (s : Bool) (l m l7 : List Int) (L : List Int) (hL : L.length ≤ 100000) :
    ∃ e S1, Ends T orc L2 D2 (st2 s l m 0 ((L.length : Int) - 1) l7 L) e S1 ∧ (e = .exit 4 ∧ ∃ x y, S1 = st2 s l m x y l7 L.reverse) := by
  refine loop_inv2 (fun (i : Nat) l8 => st2 s l m i ((L.length : Int) - 1 - i) l7 l8) (fun i l8 => Turned L i l8 ∧ i ≤ L.length) (fun i l8 => L.length - i)
    (fun e S1 => e = .exit 4 ∧ ∃ x y, S1 = st2 s l m x y l7 L.reverse) isL2 ?_ 0 L ⟨turned_zero L, by omega⟩ |> fun h => by simpa using h
  intro i l8 ⟨h, hi⟩
  refine ⟨noTab, noTab_all, lands_of (round2 ..) ?_⟩
  have hl := h.1
  by_cases hc : i + i + 1 < L.length
  · have e1 : ((L.length : Int) - 1 - i) = ((L.length - 1 - i : Nat) : Int) := by omega
    have e2 : IntKind.i64.wrap (((L.length - 1 - i : Nat) : Int) - 1) = (L.length : Int) - 1 - ((i + 1 : Nat) : Int) := by rw [w64 (by omega) (by omega)]; omega
    rw [e1, e2, wi_succ (show i < 4611686018427387904 by omega), decide_eq_true (show (i : Int) < ((L.length - 1 - i : Nat) : Int) by omega)]
    simp only [lands_bif, lands_some, lands_none, Turns1, Turns2, Turns3, Turns4, Turns5, Turns6, Turns7, Turns8, eq_bif, Option.some.injEq, reduceCtorEq, cond_true, cond_false, Bool.eq_false_iff, ne_eq, inB_iff, decide_eq_true_eq, Bool.and_eq_true, Bool.or_eq_true, Bool.not_eq_true', beq_iff_eq, bne_iff_ne, true_and, and_true, true_implies, implies_true, not_true_eq_false, not_false_eq_true, false_implies, few_iff, List.length_set]
    simp only [rd_toNat, Int.toNat_natCast]
    repeat' (first | apply And.intro | intro _)
    all_goals try omega
    exact ⟨i + 1, _, rfl, ⟨turned_next h hc, by omega⟩, by omega⟩
  · rw [decide_eq_false (show ¬ (i : Int) < ((L.length : Int) - 1 - i) by omega)]
    simp only [cond_false, lands_some, Turns2]
    exact ⟨trivial, _, _, by rw [turned_end h (by omega)]⟩
theorem turna (s : Bool) (l m l7 : List Int) (L : List Int) (hL : L.length ≤ 100000) :
    ∃ e S1, Ends T orc L2a D2a (st2a s l m 0 ((L.length : Int) - 1) l7 L) e S1 ∧ (e = .exit 4 ∧ ∃ x y, S1 = st2a s l m x y l7 L.reverse) := by
  refine loop_inv2 (fun (i : Nat) l8 => st2a s l m i ((L.length : Int) - 1 - i) l7 l8) (fun i l8 => Turned L i l8 ∧ i ≤ L.length) (fun i l8 => L.length - i)
    (fun e S1 => e = .exit 4 ∧ ∃ x y, S1 = st2a s l m x y l7 L.reverse) isL2a ?_ 0 L ⟨turned_zero L, by omega⟩ |> fun h => by simpa using h
  intro i l8 ⟨h, hi⟩
  refine ⟨noTab, noTab_all, lands_of (round2a ..) ?_⟩
  have hl := h.1
  by_cases hc : i + i + 1 < L.length
  · have e1 : ((L.length : Int) - 1 - i) = ((L.length - 1 - i : Nat) : Int) := by omega
    have e2 : IntKind.i64.wrap (((L.length - 1 - i : Nat) : Int) - 1) = (L.length : Int) - 1 - ((i + 1 : Nat) : Int) := by rw [w64 (by omega) (by omega)]; omega
    rw [e1, e2, wi_succ (show i < 4611686018427387904 by omega), decide_eq_true (show (i : Int) < ((L.length - 1 - i : Nat) : Int) by omega)]
    simp only [lands_bif, lands_some, lands_none, Turns1, Turns2, Turns3, Turns4, Turns5, Turns6, Turns7, Turns8, eq_bif, Option.some.injEq, reduceCtorEq, cond_true, cond_false, Bool.eq_false_iff, ne_eq, inB_iff, decide_eq_true_eq, Bool.and_eq_true, Bool.or_eq_true, Bool.not_eq_true', beq_iff_eq, bne_iff_ne, true_and, and_true, true_implies, implies_true, not_true_eq_false, not_false_eq_true, false_implies, few_iff, List.length_set]
    simp only [rd_toNat, Int.toNat_natCast]
    repeat' (first | apply And.intro | intro _)
    all_goals try omega
    exact ⟨i + 1, _, rfl, ⟨turned_next h hc, by omega⟩, by omega⟩
  · rw [decide_eq_false (show ¬ (i : Int) < ((L.length : Int) - 1 - i) by omega)]
    simp only [cond_false, lands_some, Turns2]
    exact ⟨trivial, _, _, by rw [turned_end h (by omega)]⟩
end Text
theorem asc_dig (l : List Int) : (asc l).reverse = dig l := by
  unfold asc dig
  rw [List.map_reverse]
theorem small_digits {z : Int} (h : z.natAbs < Lim) : (limbs 10 (az z)).length ≤ 10000 := lb10_length h
theorem meets_text : Meets Tryd.prog 5 ansText := by
  refine meets_fn (orc_ok (l := Text.ans) ⟨meets_part, trivial⟩) Tryd.f5 Tryd.func5 (by kernel_rfl) (fun args r h => ?_)
  unfold ansText at h
  split at h
  · rename_i s l
    simp only [Option.some.injEq, Prod.mk.injEq] at h
    obtain ⟨h, rfl⟩ := h
    obtain ⟨z, hs, hl, hz⟩ := (cn_iff W_two).1 h
    have nz : num 4294967296 s l = z := by rw [hs, hl]; exact num_lbW z
    rw [nz]
    refine ⟨rfl, ?_⟩
    by_cases h0 : z = 0
    · refine ⟨_, tabOf_all _, (Text.rest s l [] [] [] 0 0 [] 0 0).trans ?_⟩
      rw [hl, h0]
      have : (((lb 4294967296 0).length : Int) == 0) = true := rfl
      have ht : txt 0 = ⟨#[48]⟩ := by kernel_rfl
      rw [this, cond_true, ht]
    · have hn : lb 4294967296 z ≠ [] := fun h => h0 ((lb_nil W_two).1 h)
      have hlz : l = limbs 4294967296 (az z) := hl
      have hlp : 0 < l.length := by rw [hl]; exact List.length_pos_iff.2 hn
      have hd := small_digits hz
      have hlw : (limbs 4294967296 (az z)).length ≤ 1100 := lb_length hz
      obtain ⟨e1, S1, hE1, rfl, m, rfl⟩ := Text.outer s l (az z) (az_nonneg z) (by omega) hlz (by omega)
      have hne : ((l.length : Int) == 0) = false := by rw [beq_eq_false_iff_ne]; omega
      have htx : txtL z = (if z < 0 then [45] else []) ++ dig (limbs 10 (az z)) := by unfold txtL; rw [if_neg h0]; rfl
      have hal : (asc (limbs 10 (az z))).length ≤ 10000 := by rw [asc_len]; exact hd
      by_cases hneg : z < 0
      · have hs1 : s = true := by rw [hs]; exact decide_eq_true hneg
        obtain ⟨e2, S2, hE2, rfl, x, y, rfl⟩ := Text.turn s l m (asc (limbs 10 (az z))) (asc (limbs 10 (az z)) ++ [45]) (by rw [List.length_append, List.length_singleton]; omega)
        refine ⟨_, tabOf_all _, (Text.rest s l [] m (asc (limbs 10 (az z))) 0 0 ((asc (limbs 10 (az z)) ++ [45]).reverse) x y).trans ?_⟩
        have hw : IntKind.i64.wrap (((asc (limbs 10 (az z)) ++ [45]).length : Int) - 1) = ((asc (limbs 10 (az z)) ++ [45]).length : Int) - 1 := by
          rw [w64 (by omega) (by rw [List.length_append, List.length_singleton]; omega)]
        have hlen : ((asc (limbs 10 (az z)) ++ [45]).length * 1 ≤ 140737488355328) := by rw [List.length_append, List.length_singleton]; omega
        rw [hne, cdec_true hE1, hw, cdec_true hE2, decide_eq_true hlen]
        have ht : (asc (limbs 10 (az z)) ++ [45]).reverse = txtL z := by rw [htx, if_pos hneg, List.reverse_append, asc_dig]; rfl
        rw [ht, hs1]
        rfl
      · have hs1 : s = false := by rw [hs]; exact decide_eq_false hneg
        obtain ⟨e2, S2, hE2, rfl, x, y, rfl⟩ := Text.turna s l m (asc (limbs 10 (az z))) (asc (limbs 10 (az z))) (by omega)
        refine ⟨_, tabOf_all _, (Text.rest s l ((asc (limbs 10 (az z))).reverse) m (asc (limbs 10 (az z))) x y [] 0 0).trans ?_⟩
        have hw : IntKind.i64.wrap (((asc (limbs 10 (az z))).length : Int) - 1) = ((asc (limbs 10 (az z))).length : Int) - 1 := by
          rw [w64 (by omega) (by omega)]
        rw [hne, cdec_true hE1, hw, cdec_true hE2]
        have ht : (asc (limbs 10 (az z))).reverse = txtL z := by rw [htx, if_neg hneg, asc_dig]; rfl
        rw [ht, hs1]
        rfl
  · cases h
end Go.Abs
end
section
/- Walking by exact values: what the law of the circles needs of the graph and of whole numbers. -/
namespace Go.Gr
open Go.Abs (WTo tyAt ty_slice T_ok aggB Runs Rep RepL Meets AV Res R)
open Go.Proofs
open Go.Euf (E3 Par Fo Inv)
theorem sum_one : ∀ N : Nat, (List.replicate N 1).sum = N
  | 0 => rfl
  | N + 1 => by rw [List.replicate_succ, List.sum_cons, sum_one N]; omega
/-- A chain without equations, as a merge finds it. -/
theorem CH.gi {N : Nat} {S : GS} (h : CH N S) {E : Nat → Nat → Prop} (hE : ∀ i, E i i) {A : Nat} (hA : N + (N + 1) * N ≤ A) : GI N E A S (fun z => z) (fun r => if r + 1 < N then [r + 1] else []) (fun r => if r + 1 < N then some (r + 1) else none) [] := by
  have hc := cnt_le N (fun z => z)
  have hm : (N + 1) * cnt N (fun z => z) ≤ (N + 1) * N := Nat.mul_le_mul_left _ hc
  have hcl : S.cls.length = N := by have := congrArg List.length h.cls; simpa using this
  exact ⟨Euf.start N E hE, ⟨h.nl, h.nS⟩, by rw [h.par]; exact Par.start N, ⟨_, by rw [h.edges]; exact Fo.start N _⟩, hcl, by rw [h.cls, sum_one]; exact Nat.le_refl _, h.usl, h.uses, h.sgn, by rw [h.sgl]; omega, h.tab⟩
theorem cong_mod (d : Nat) : Cong (fun i j => i % d = j % d) :=
  ⟨fun i j h => by show (i + 1) % d = (j + 1) % d; rw [Nat.add_mod, h, ← Nat.add_mod], fun i j h => h.symm, fun i j k h h' => h.trans h'⟩
/-- What may be read that no chunk holds. -/
def Free (w : World) (L : Loc → Ch) : Nat → Prop := fun k => k < w.heap.size ∧ ∀ l, (L l).blk ≠ some k
section
variable {w0 w w' : World} {B : Nat → Prop} {L L' : Loc → Ch}
theorem Hp.meets (H : Hp w0 B w L) {g : Nat} {A : List AV → Option (Bool × Res)} (hm : Meets P g A) {args : List AV} {x : AV} (hA : A args = some (true, .val x)) {vs : List Value} (ha : RepL (Free w L) w args vs) :
    Runs P g vs w (fun v w' => Stp w w' none ∧ Hp w0 B w' L ∧ Rep (Free w' L) w' x v) := by
  obtain ⟨fn, h1, h2, h3, h4⟩ := hm args _ hA (Free w L) w vs (fun k h => h.1) ha
  refine ⟨fn, h1, h2, h3, h4.mono fun e W' ⟨v, he, hw, F', hu, hv⟩ => ⟨v, he, ?_⟩⟩
  have s : Stp w W' none := ⟨hw.os, hw.tape, hw.output, hw.size, fun b hb _ => hw.block b hb (by omega)⟩
  refine ⟨s, H.grow s, hv.mono (fun k hk => ⟨hu.lt k hk, fun l hl => ?_⟩) (fun k hk => rfl)⟩
  rcases hu.new k hk with h5 | h5
  · exact h5.2 l hl
  · have := H.lt hl; omega
theorem Rep.on {x : AV} {v : Value} (h : Rep (Free w L) w x v) {q : Option Nat} (s : Stp w w' q) (hq : q = none ∨ ∃ l, (L l).blk = q) (hL : ∀ l b, (L' l).blk = some b → (∃ l', (L l').blk = some b) ∨ w.heap.size ≤ b) : Rep (Free w' L') w' x v := by
  refine h.mono (fun k hk => ⟨Nat.lt_of_lt_of_le hk.1 s.size, fun l hl => ?_⟩) (fun k hk => s.same k hk.1 ?_)
  · rintro rfl
    rcases hq with hq | ⟨l, hl⟩
    · cases hq
    · exact hk.2 l hl
  · rcases hL l k hl with ⟨l', h1⟩ | h1
    · exact hk.2 l' h1
    · have := hk.1; omega
theorem Rep.on0 {x : AV} {v : Value} (h : Rep (Free w L) w x v) (s : Stp w w' none) : Rep (Free w' L) w' x v := Rep.on h s (.inl rfl) (fun l b hb => .inl ⟨l, hb⟩)
theorem Rep.drew {x : AV} {v : Value} (h : Rep (Free w L) w x v) : Rep (Free w.drew L) w.drew x v := Rep.on0 h ⟨rfl, rfl, rfl, Nat.le_refl _, fun _ _ _ => rfl⟩
/-- All is as it was, up to what is new. -/
theorem Hp.fresh {tb : Obj} (H : Hp w (fun b => b = 0) w' L) (h0 : w.heap[0]? = some tb) (ht : L .t = .raw 0 tb) : WTo (fun b => w.heap.size ≤ b) w w' := by
  refine ⟨H.to.os, H.to.tape, H.to.output, H.to.size, fun k hk hn => ?_⟩
  by_cases hk0 : k = 0
  · subst hk0
    have := H.ok .t
    rw [ht] at this
    exact (show w'.heap[0]? = some tb from this).trans h0.symm
  · refine H.to.block k hk ?_
    rintro (h | h)
    · exact hk0 h
    · exact hn h
end
section
variable {w : World} {ρ : Operand → Value} {o : Oper}
theorem x_max {ty : Nat} {x y z : Operand} (ho : o.op = .call { callee := .builtin .max, args := #[x, y, z], argTypes := #[ty, ty, ty] }) {a b c : Nat} (hx : ρ x = .int .i64 (a : Int)) (hy : ρ y = .int .i64 (b : Int)) (hz : ρ z = .int .i64 (c : Int)) {M : Nat} (hM : max (max a b) c = M) : (execOp ρ o).run P w = .ok (.value (.int .i64 (M : Int))) w := by
  obtain ⟨cs, hcs⟩ := Abs.run_call_builtin (P := P) (ρ := ρ) (w := w) ho
  rw [hcs]
  have e : (if (c : Int) > (if (b : Int) > (a : Int) then (b : Int) else (a : Int)) then (c : Int) else (if (b : Int) > (a : Int) then (b : Int) else (a : Int))) = (M : Int) := by
    subst hM
    split <;> split <;> omega
  simp [Go.builtin, Builtin.max_, Builtin.max2, hx, hy, hz, ← e]
theorem x_seq {ty ty' : Nat} {x y : Operand} (ho : o.op = .binOp .eql ty x y ty') {s : ByteArray} (hx : ρ x = .string s) (hy : ρ y = .string s) : (execOp ρ o).run P w = .ok (.value (.bool true)) w := by
  have hg : ∀ w : World, (eqGuard .eql ty x y (ρ x) (ρ y)).run P w = .ok () w := by intro w; rw [hx, hy]; simp [eqGuard]
  simp only [execOp, ho, Sem.run_bind, hg, Result.andThen_ok]
  rw [hx, hy]
  simp [binOp, Op.stringOp]
theorem run_beq (d ty : Nat) (hu : P.underlying ty = some .bool) (a : Bool) : (Op.equalIn (d + 1) ty (.bool a) (.bool a)).run P w = .ok true w := by
  simp [Op.equalIn, Abs.run_underlying' hu]
theorem x_beq {ty ty' : Nat} (hu : P.underlying ty = some .bool) {x y : Operand} (ho : o.op = .binOp .eql ty x y ty') {a b : Bool} (hx : ρ x = .bool a) (hy : ρ y = .bool b) (hab : a = b) : (execOp ρ o).run P w = .ok (.value (.bool true)) w := by
  subst hab
  have hg : ∀ w : World, (eqGuard .eql ty x y (ρ x) (ρ y)).run P w = .ok () w := by intro w; rw [hx, hy]; simp [eqGuard]
  have he : (Op.equal ty (.bool a) (.bool a)).run P w = .ok true w := run_beq 9999 ty hu a
  simp only [execOp, ho, Sem.run_bind, hg, Result.andThen_ok]
  rw [hx, hy]
  simp [binOp, he]
end
/-- The law: who is named at last tells whether the rest is nought. -/
theorem law_gcd {L n m k : Nat} {us : Nat → List Nat} {sg : Nat → Option Nat} {rt : Nat → Nat} (h : Inv L (fun i j => i % Nat.gcd n m = j % Nat.gcd n m) rt us sg []) (hn : n < L) (hm : m < L) (hk : k < L) (h1 : rt n = rt 0) (h2 : rt m = rt 0) (hn1 : 1 ≤ n) :
    decide (rt k = rt 0) = (Abs.cmpZ (Abs.dr (k : Int) (Abs.gz (n : Int) (m : Int))) 0 == 0) := by
  have hg : Abs.gz (n : Int) (m : Int) = ((Nat.gcd n m : Nat) : Int) := rfl
  have hpos : 0 < Nat.gcd n m := Nat.gcd_pos_of_pos_left _ hn1
  have hz : Abs.dr (k : Int) (Abs.gz (n : Int) (m : Int)) = ((k % Nat.gcd n m : Nat) : Int) := by
    rw [hg]
    unfold Abs.dr
    rw [if_neg (by omega), Int.fmod_eq_emod_of_nonneg _ (by omega)]
    exact (Int.natCast_emod _ _).symm
  rw [hz]
  have hk2 := Euf.kgcd h hn hm hk h1 h2
  generalize k % Nat.gcd n m = r at *
  unfold Abs.cmpZ
  by_cases hr : r = 0
  · rw [decide_eq_true (hk2.2 hr), hr]; rfl
  · rw [decide_eq_false (fun h => hr (hk2.1 h)), if_neg (by omega), if_pos (by omega)]; rfl
theorem pow_big (n : Nat) (h : 21 ≤ n) : 1000000000000000000000 ≤ 10 ^ n := Nat.le_trans (by decide : 1000000000000000000000 ≤ 10 ^ 21) (Nat.pow_le_pow_right (by decide) h)
theorem lim_big : 1000000000000000000000 ≤ Abs.Lim := by
  unfold Abs.Lim
  exact pow_big 10000 (by decide)
theorem cn_R {z : Int} (hz : z.natAbs < 1000000000000000000000) : Abs.cn 4294967296 (Abs.sg z) (Abs.lb 4294967296 z) = true := by
  rw [Abs.cnW]
  exact decide_eq_true (Nat.lt_of_lt_of_le hz lim_big)
end Go.Gr
end
section
/- Walking by exact values: calls with a graph named beforehand; regions with several next ones; what stays through a step. -/
namespace Go.Gr
open Go.Abs (WTo tyAt ty_slice T_ok aggB Runs Rep RepL Meets AV Res R)
open Go.Proofs
open Go.Euf (E3 Par Fo Inv)
/-- The chain's row: each term's number. -/
def rg (N : Nat) : List Int := (List.range N).map fun z : Nat => (z : Int)
theorem rg_at {N i : Nat} (h : i < N) : (rg N)[i]? = some (i : Int) := by
  unfold rg
  rw [List.getElem?_map, List.getElem?_range h]; rfl
theorem rg_succ (N : Nat) : ints (rg N) ++ [.int .i64 (N : Int)] = ints (rg (N + 1)) := by
  unfold rg ints
  rw [List.range_succ, List.map_append, List.map_append]; rfl
section
variable {w0 w w' : World} {B : Nat → Prop} {L L' : Loc → Ch} {S : GS} {gb : Nat} {tb : Obj}
theorem Hp.retS {S' : GS} {c0 c1 : Ch} (H : Hp w0 B w (LX S c0 c1)) (K : Hp w (ownG S) w' (lay S')) : Hp w0 B w' (upd (lay S') (.x 0) c0) :=
  ((H.retG (LX_g S c0 c1) K).drop (.x 1)).eq (loc_cases rfl rfl rfl rfl rfl rfl rfl rfl rfl (fun _ => rfl) (fun _ => rfl) (fun _ => rfl) (fun _ => rfl) rfl rfl rfl rfl (fun _ => rfl) rfl)
theorem Hp.retS0 {S' : GS} {c0 : Ch} (H : Hp w0 B w (upd (lay S) (.x 0) c0)) (K : Hp w (ownG S) w' (lay S')) : Hp w0 B w' (upd (lay S') (.x 0) c0) :=
  (H.retG (LX0_g S c0) K).eq (loc_cases rfl rfl rfl rfl rfl rfl rfl rfl rfl (fun _ => rfl) (fun _ => rfl) (fun _ => rfl) (fun _ => rfl) rfl rfl rfl rfl (fun _ => rfl) rfl)
theorem runs_node0g (H : Hp w B w (lay S)) {N : Nat} (hC : CH N S) (hN0 : N = 0) (hg : S.gb = gb ∧ S.tb = tb) {v : Value} (har : RowOk w v 0 1 (ints [])) : Runs P 7 [.pointer (some ⟨gb, 0, none⟩), .string fA, v] w (fun u w' => u = .tuple #[.int .i64 ((N : Nat) : Int), .int .i64 0] ∧ ∃ S2 : GS, CH (N + 1) S2 ∧ (S2.gb = gb ∧ S2.tb = tb) ∧ Hp w B w' (lay S2)) := by
  obtain ⟨rfl, rfl⟩ := hg
  obtain ⟨fn, h1, h2, h3, h4⟩ := runs_node0 H hC hN0 har
  exact ⟨fn, h1, h2, h3, h4.mono fun e w' ⟨v, he, hu, S2, i1, i2, i3, i4⟩ => ⟨v, he, hu, S2, i1, ⟨i2, i3⟩, i4⟩⟩
theorem runs_nodeSg (H : Hp w B w (lay S)) {N i : Nat} (hC : CH N S) (hNi : N = i + 1) (hN : N ≤ 1000) (hg : S.gb = gb ∧ S.tb = tb) {v : Value} (har : RowOk w v 1 1 (ints [(i : Int)])) : Runs P 7 [.pointer (some ⟨gb, 0, none⟩), .string fF, v] w (fun u w' => u = .tuple #[.int .i64 ((N : Nat) : Int), .int .i64 0] ∧ ∃ S2 : GS, CH (N + 1) S2 ∧ (S2.gb = gb ∧ S2.tb = tb) ∧ Hp w B w' (lay S2)) := by
  obtain ⟨rfl, rfl⟩ := hg
  obtain ⟨fn, h1, h2, h3, h4⟩ := runs_nodeS H hC hNi hN har
  exact ⟨fn, h1, h2, h3, h4.mono fun e w' ⟨v, he, hu, S2, i1, i2, i3, i4⟩ => ⟨v, he, hu, S2, i1, ⟨i2, i3⟩, i4⟩⟩
theorem runs_equalg (H : Hp w B w (lay S)) {Ln A : Nat} {E : Nat → Nat → Prop} (hE : Cong E) {rt : Nat → Nat} {us : Nat → List Nat} {sg : Nat → Option Nat} (hG : GI Ln E A S rt us sg []) (hL : Ln ≤ 1000) (hA1 : A ≤ 100000000) {a b : Nat} (ha : a < Ln) (hb : b < Ln) (hab : E a b) {ne : Nat} (hne : S.ne = ne) (hne1 : ne ≤ 10) (hg : S.gb = gb ∧ S.tb = tb) :
    Runs P 8 [.pointer (some ⟨gb, 0, none⟩), .int .i64 (a : Int), .int .i64 (b : Int)] w (fun v w' => v = .tuple #[.int .i64 (ne : Int), .int .i64 0] ∧ ∃ (S2 : GS) (rt2 : Nat → Nat) (us2 : Nat → List Nat) (sg2 : Nat → Option Nat), GI Ln E A S2 rt2 us2 sg2 [] ∧ (S2.gb = gb ∧ S2.tb = tb) ∧ S2.ne = ne + 1 ∧ rt2 a = rt2 b ∧ (∀ c d, rt c = rt d → rt2 c = rt2 d) ∧ Hp w B w' (lay S2)) := by
  obtain ⟨rfl, rfl⟩ := hg
  subst hne
  obtain ⟨fn, h1, h2, h3, h4⟩ := runs_equal H hE hG hL hA1 ha hb hab hne1
  exact ⟨fn, h1, h2, h3, h4.mono fun e w' ⟨v, he, S2, rt2, us2, sg2, i1, ⟨i2, i3, i4⟩, i5, i6, i7, i8⟩ => ⟨v, he, i7, S2, rt2, us2, sg2, i1, ⟨i2, i4⟩, i3, i5, i6, i8⟩⟩
theorem runs_sameg (H : Hp w B w (lay S)) {Ln : Nat} {rt : Nat → Nat} (hnl : S.nodes.length = Ln) (hp : Par Ln rt S.par) {a b : Nat} (ha : a < Ln) (hb : b < Ln) (hg : S.gb = gb ∧ S.tb = tb) : Runs P 9 [.pointer (some ⟨gb, 0, none⟩), .int .i64 (a : Int), .int .i64 (b : Int)] w (fun v w' => v = .tuple #[.bool (decide (rt a = rt b)), .int .i64 0] ∧ Hp w B w' (lay S)) := by
  obtain ⟨rfl, rfl⟩ := hg
  exact runs_same H hnl hp ha hb
/-- A step begun anew: what is of the world's own now. -/
theorem Hp.self (H : Hp w0 B w L) : Hp w (fun b => ∃ l, (L l).blk = some b) w L := H.begin (fun _ => true) (fun l => rfl)
theorem Hp.back (H : Hp w0 B w L) (K : Hp w (fun b => ∃ l, (L l).blk = some b) w' L') : Hp w0 B w' L' := (H.call (L1 := L) (fun _ => true) (fun l => rfl) K (fun l h => by cases h)).eq (fun l => rfl)
theorem Rep.thru {x : AV} {v : Value} (h : Rep (Free w L) w x v) (K : Hp w (fun b => ∃ l, (L l).blk = some b) w' L') : Rep (Free w' L') w' x v := by
  refine h.mono (fun k hk => ⟨Nat.lt_of_lt_of_le hk.1 K.to.size, fun l hl => ?_⟩) (fun k hk => K.to.block k hk.1 ?_)
  · rintro (⟨l, hl⟩ | h2)
    · exact hk.2 l hl
    · have := hk.1; omega
  · rcases K.own l k hl with ⟨l', h1⟩ | h1
    · exact hk.2 l' h1
    · have := hk.1; omega
theorem repL1 {F : Nat → Prop} {a : AV} {v : Value} (h : Rep F w a v) : RepL F w [a] [v] := ⟨rfl, fun i a v h1 h2 => by cases i with | zero => cases h1; cases h2; exact h | succ i => cases h1⟩
theorem repL2 {F : Nat → Prop} {a a2 : AV} {v v2 : Value} (h : Rep F w a v) (k : Rep F w a2 v2) : RepL F w [a, a2] [v, v2] := ⟨rfl, fun i a v h1 h2 => by
  cases i with
  | zero => cases h1; cases h2; exact h
  | succ i => cases i with
    | zero => cases h1; cases h2; exact k
    | succ i => cases h1⟩
/-- A number's value: a sign, a row. -/
theorem rep_R {F : Nat → Prop} {z : Int} {v : Value} (h : Rep F w (R z) v) : ∃ s, v = .agg #[.bool (Abs.sg z), s] ∧ s.oneCell' = true := by
  cases h with
  | agg _ vs hl h1 h =>
    have h2 : vs.size = 2 := hl.symm
    obtain ⟨a, b, rfl⟩ : ∃ a b, vs = #[a, b] := by
      rcases vs with ⟨l⟩
      match l, h2 with
      | [a, b], _ => exact ⟨a, b, rfl⟩
    have e0 := h 0 _ _ rfl rfl
    cases e0
    exact ⟨b, rfl, h1 b (by simp)⟩
theorem rep_three {F : Nat → Prop} {x y : AV} {c : Int} {v : Value} (h : Rep F w (.tup [x, y, .int .i64 c]) v) : ∃ q r, v = .tuple #[q, r, .int .i64 c] ∧ Rep F w x q ∧ Rep F w y r := by
  cases h with
  | tup _ vs hl h =>
    have h2 : vs.size = 3 := hl.symm
    obtain ⟨a, b, d, rfl⟩ : ∃ a b d, vs = #[a, b, d] := by
      rcases vs with ⟨l⟩
      match l, h2 with
      | [a, b, d], _ => exact ⟨a, b, d, rfl⟩
    have e2 := h 2 _ _ rfl rfl
    cases e2
    exact ⟨a, b, rfl, h 0 _ _ rfl rfl, h 1 _ _ rfl rfl⟩
theorem rep_str {F : Nat → Prop} {s : ByteArray} {v : Value} (h : Rep F w (.str s) v) : v = .string s := by cases h; rfl
theorem rep_int {F : Nat → Prop} {k : IntKind} {n : Int} {v : Value} (h : Rep F w (.int k n) v) : v = .int k n := by cases h; rfl
end
section
variable {P : Program} {n : Nat} {ops : Array Oper} {Q : QT} {S : World → Prop}
/-- One operation of such a region, whatever comes behind it. -/
def WOp (P : Program) (n : Nat) (ops : Array Oper) (Q : QT) (S : World → Prop) (i : Nat) (K : Fn → World → Prop) (f : Fn) (w : World) : Prop :=
  ∀ a, Fr n f a → wpOp P ops (QF n Q) i (fun a' w' => S w' ∧ ∃ f', Fr n f' a' ∧ K f' w') a w
theorem WH.branch {fuel : Nat} {listed : Array Bool} {r : List Nat} {f : Fn} {w : World} (hr : Region.ready .any ops listed = r) (hne : r ≠ []) (h : ∀ i ∈ r, WOp P n ops Q S i (WH P n ops Q S fuel (listed.setIfInBounds i true)) f w) : WH P n ops Q S (fuel + 1) listed f w :=
  fun a ha => wpAnyH_all hr hne (fun i hi => wpOp_mono (fun a' w' ⟨h1, f', h2, h3⟩ => ⟨h1, h3 a' h2⟩) (h i hi a ha))
theorem WOp.mono {i : Nat} {K K' : Fn → World → Prop} {f : Fn} {w : World} (hK : ∀ f w, K f w → K' f w) (h : WOp P n ops Q S i K f w) : WOp P n ops Q S i K' f w :=
  fun a ha => wpOp_mono (fun a' w' ⟨h1, f', h2, h3⟩ => ⟨h1, f', h2, hK f' w' h3⟩) (h a ha)
theorem WOp.val {i : Nat} {o : Oper} {K : Fn → World → Prop} {f : Fn} {w : World} (hi : ops[i]? = some o) (hg : o.guard = none) {d : Nat} (hdd : o.dst = some d) (hd : Nat.blt d n = true) {v : Value} {w' : World} (hx : (execOp (evf f) o).run P w = .ok (.value v) w') (h : S w' ∧ K (up f d v) w') : WOp P n ops Q S i K f w := by
  intro a ha
  have hput := ha.put (d := o.dst) (dOk_lt (by rw [hdd]; exact hd)) v
  unfold wpOp
  rw [hi]
  simp only
  rw [wanted_none hg, if_pos rfl]
  refine .inl ?_
  unfold Oper.wp
  rw [ha.eval, hx]
  refine ⟨h.1, _, ?_, h.2⟩
  rw [hdd] at hput ⊢
  exact hput
theorem WOp.call {i : Nat} {o : Oper} {K : Fn → World → Prop} {f : Fn} {w : World} (hi : ops[i]? = some o) (hg : o.guard = none) {d : Nat} (hdd : o.dst = some d) (hd : Nat.blt d n = true) {c : Call} {g : Nat} (ho : o.op = .call c) (hc : c.callee = .value (.func g)) {R : Value → World → Prop} (hrn : Runs P g (c.args.toList.map (evf f)) w R)
    (h : ∀ v w', R v w' → S w' ∧ K (up f d v) w') : WOp P n ops Q S i K f w := by
  intro a ha
  unfold wpOp
  rw [hi]
  simp only
  rw [wanted_none hg, if_pos rfl]
  refine .inl (Abs.run_call (R := R) ho hc (f := g) (caps := #[]) rfl ?_ (fun v w' hv => ⟨(h v w' hv).1, _, ?_, (h v w' hv).2⟩))
  · have : (c.args.map a.eval).toList ++ (#[] : Array Value).toList = c.args.toList.map (evf f) := by simp [ha.eval]
    rw [this]
    exact hrn
  · have hput := ha.put (d := o.dst) (dOk_lt (by rw [hdd]; exact hd)) v
    rw [hdd] at hput ⊢
    exact hput
/-- Two calls, what is read off the second, and two variables, in whatever order: which of the region's operations are done. -/
def lst (p : Nat) (a b : Bool) : Array Bool := #[true, Nat.ble 1 p, true, Nat.ble 2 p, Nat.ble 3 p, Nat.ble 3 p, Nat.ble 3 p, Nat.ble 3 p, a, b, false, false, false]
def rdy (p : Nat) (a b : Bool) : List Nat := (match p with | 0 => [1] | 1 => [3] | _ => []) ++ ((bif a then [] else [8]) ++ (bif b then [] else [9]))
def rdyB (ops : Array Oper) : Bool := [0, 1, 3].all fun p => [false, true].all fun a => [false, true].all fun b => decide (p = 3 ∧ a = true ∧ b = true) || Region.ready .any ops (lst p a b) == rdy p a b
theorem rdyB_at (h : rdyB ops = true) {p : Nat} (hp : p = 0 ∨ p = 1 ∨ p = 3) {a b : Bool} (hn : ¬ (p = 3 ∧ a = true ∧ b = true)) : Region.ready .any ops (lst p a b) = rdy p a b := by
  unfold rdyB at h
  rw [List.all_eq_true] at h
  have h1 := h p (by rcases hp with rfl | rfl | rfl <;> simp)
  rw [List.all_eq_true] at h1
  have h2 := h1 a (by cases a <;> simp)
  rw [List.all_eq_true] at h2
  have h3 := h2 b (by cases b <;> simp)
  rw [Bool.or_eq_true, decide_eq_true_eq, beq_iff_eq] at h3
  exact h3.resolve_left hn
theorem WH.allocs (J : Nat → Bool → Bool → Fn → World → Prop) (k : Nat) {listed : Array Bool} {f : Fn} {w : World} (hl : listed = lst 0 false false) (hr : rdyB ops = true)
    (h1 : ∀ a b f w, J 0 a b f w → WOp P n ops Q S 1 (J 1 a b) f w) (h3 : ∀ a b f w, J 1 a b f w → WOp P n ops Q S 3 (J 2 a b) f w)
    (h4 : ∀ a b f w k, J 2 a b f w → (∀ f', J 3 a b f' w → WH P n ops Q S k (lst 3 a b) f' w) → WH P n ops Q S (k + 4) (lst 2 a b) f w)
    (h8 : ∀ p b f w, J p false b f w → WOp P n ops Q S 8 (J p true b) f w) (h9 : ∀ p a f w, J p a false f w → WOp P n ops Q S 9 (J p a true) f w)
    (fin : ∀ f w, J 3 true true f w → WH P n ops Q S k (lst 3 true true) f w) (h : J 0 false false f w) : WH P n ops Q S (k + 8) listed f w := by
  subst hl
  have one : ∀ {p i : Nat} {a b : Bool} {fuel : Nat} {f : Fn} {w : World} {K : Fn → World → Prop}, rdy p a b = [i] → (p = 0 ∨ p = 1 ∨ p = 3) → ¬ (p = 3 ∧ a = true ∧ b = true) → WOp P n ops Q S i K f w → (∀ f w, K f w → WH P n ops Q S fuel ((lst p a b).setIfInBounds i true) f w) → WH P n ops Q S (fuel + 1) (lst p a b) f w :=
    fun {p i a b fuel f w K} he hp hn hw hK => WH.branch ((rdyB_at hr hp hn).trans he) (by simp) (fun j hj => by obtain rfl := List.mem_singleton.1 hj; exact hw.mono hK)
  have g3TT := fin
  have g3TF : ∀ f w, J 3 true false f w → WH P n ops Q S (k + 1) (lst 3 true false) f w := fun f w h => one (i := 9) rfl (by simp) (by simp) (h9 _ _ _ _ h) g3TT
  have g3FT : ∀ f w, J 3 false true f w → WH P n ops Q S (k + 1) (lst 3 false true) f w := fun f w h => one (i := 8) rfl (by simp) (by simp) (h8 _ _ _ _ h) g3TT
  have g3FF : ∀ f w, J 3 false false f w → WH P n ops Q S (k + 2) (lst 3 false false) f w := fun f w h => WH.branch (r := [8, 9]) (rdyB_at hr (by simp) (by simp)) (by simp) (fun j hj => by
    rcases List.mem_cons.1 hj with rfl | hj
    · exact (h8 _ _ _ _ h).mono g3TF
    · obtain rfl := List.mem_singleton.1 hj
      exact (h9 _ _ _ _ h).mono g3FT)
  have g2TT : ∀ f w, J 2 true true f w → WH P n ops Q S (k + 4) (lst 2 true true) f w := fun f w h => h4 _ _ _ _ _ h (fun f' h' => g3TT f' w h')
  have g2TF : ∀ f w, J 2 true false f w → WH P n ops Q S (k + 1 + 4) (lst 2 true false) f w := fun f w h => h4 _ _ _ _ _ h (fun f' h' => g3TF f' w h')
  have g2FT : ∀ f w, J 2 false true f w → WH P n ops Q S (k + 1 + 4) (lst 2 false true) f w := fun f w h => h4 _ _ _ _ _ h (fun f' h' => g3FT f' w h')
  have g2FF : ∀ f w, J 2 false false f w → WH P n ops Q S (k + 2 + 4) (lst 2 false false) f w := fun f w h => h4 _ _ _ _ _ h (fun f' h' => g3FF f' w h')
  have g1TT : ∀ f w, J 1 true true f w → WH P n ops Q S (k + 5) (lst 1 true true) f w := fun f w h => one (i := 3) rfl (by simp) (by simp) (h3 _ _ _ _ h) g2TT
  have g1TF : ∀ f w, J 1 true false f w → WH P n ops Q S (k + 6) (lst 1 true false) f w := fun f w h => WH.branch (r := [3, 9]) (rdyB_at hr (by simp) (by simp)) (by simp) (fun j hj => by
    rcases List.mem_cons.1 hj with rfl | hj
    · exact (h3 _ _ _ _ h).mono g2TF
    · obtain rfl := List.mem_singleton.1 hj
      exact (h9 _ _ _ _ h).mono g1TT)
  have g1FT : ∀ f w, J 1 false true f w → WH P n ops Q S (k + 6) (lst 1 false true) f w := fun f w h => WH.branch (r := [3, 8]) (rdyB_at hr (by simp) (by simp)) (by simp) (fun j hj => by
    rcases List.mem_cons.1 hj with rfl | hj
    · exact (h3 _ _ _ _ h).mono g2FT
    · obtain rfl := List.mem_singleton.1 hj
      exact (h8 _ _ _ _ h).mono g1TT)
  have g1FF : ∀ f w, J 1 false false f w → WH P n ops Q S (k + 7) (lst 1 false false) f w := fun f w h => WH.branch (r := [3, 8, 9]) (rdyB_at hr (by simp) (by simp)) (by simp) (fun j hj => by
    rcases List.mem_cons.1 hj with rfl | hj
    · exact (h3 _ _ _ _ h).mono g2FF
    · rcases List.mem_cons.1 hj with rfl | hj
      · exact (h8 _ _ _ _ h).mono g1TF
      · obtain rfl := List.mem_singleton.1 hj
        exact (h9 _ _ _ _ h).mono g1FT)
  have g0TT : ∀ f w, J 0 true true f w → WH P n ops Q S (k + 6) (lst 0 true true) f w := fun f w h => one (i := 1) rfl (by simp) (by simp) (h1 _ _ _ _ h) g1TT
  have g0TF : ∀ f w, J 0 true false f w → WH P n ops Q S (k + 7) (lst 0 true false) f w := fun f w h => WH.branch (r := [1, 9]) (rdyB_at hr (by simp) (by simp)) (by simp) (fun j hj => by
    rcases List.mem_cons.1 hj with rfl | hj
    · exact (h1 _ _ _ _ h).mono g1TF
    · obtain rfl := List.mem_singleton.1 hj
      exact (h9 _ _ _ _ h).mono g0TT)
  have g0FT : ∀ f w, J 0 false true f w → WH P n ops Q S (k + 7) (lst 0 false true) f w := fun f w h => WH.branch (r := [1, 8]) (rdyB_at hr (by simp) (by simp)) (by simp) (fun j hj => by
    rcases List.mem_cons.1 hj with rfl | hj
    · exact (h1 _ _ _ _ h).mono g1FT
    · obtain rfl := List.mem_singleton.1 hj
      exact (h8 _ _ _ _ h).mono g0TT)
  exact WH.branch (r := [1, 8, 9]) (rdyB_at hr (by simp) (by simp)) (by simp) (fun j hj => by
    rcases List.mem_cons.1 hj with rfl | hj
    · exact (h1 _ _ _ _ h).mono g1FF
    · rcases List.mem_cons.1 hj with rfl | hj
      · exact (h8 _ _ _ _ h).mono g0TF
      · obtain rfl := List.mem_singleton.1 hj
        exact (h9 _ _ _ _ h).mono g0FT)
end
theorem At.up {d : Nat} {v : Value} : ∀ {l : List (Nat × Value)} {f : Fn}, (l.all fun p => !(Nat.beq p.1 d)) = true → At f l → At (Gr.up f d v) l
  | [], f, _, _ => trivial
  | p :: l, f, h, ⟨h1, h2⟩ => by
    rw [List.all_cons, Bool.and_eq_true, Bool.not_eq_true'] at h
    refine ⟨?_, At.up h.2 h2⟩
    unfold Gr.up
    rw [h.1, cond_false]
    exact h1
theorem zero24 : (P.info? 24).bind (·.zero) = some (.agg #[.bool false, .slice none 0 0]) := by kernel_rfl
/-- What holds among a division's steps: the divisor's variable, the numbers, the two variables for what comes out. -/
structure JD (w0 : World) (B : Nat → Prop) (tb : Obj) (bd : Nat) (dv : List Value) (zk zg : Int) (sl : List (Nat × Value)) (p : Nat) (a b : Bool) (f : Fn) (w : World) : Prop where
  ex : ∃ L, Hp w0 B w L ∧ L .t = .raw 0 tb ∧ L (.x 0) = .var bd dv ∧
    (a = true → ∃ b8 u v, f 20 = .pointer (some ⟨b8, 0, none⟩) ∧ L (.x 1) = .var b8 [u, v]) ∧ (a = false → L (.x 1) = .no) ∧
    (b = true → ∃ b9 u v, f 21 = .pointer (some ⟨b9, 0, none⟩) ∧ L (.x 2) = .var b9 [u, v]) ∧ (b = false → L (.x 2) = .no) ∧
    Rep (Free w L) w (R zg) (f 131) ∧ (1 ≤ p → Rep (Free w L) w (R zk) (f 130)) ∧
    (2 ≤ p → ∃ q r, f 132 = .tuple #[q, r, .int .i64 (Abs.dc zg)] ∧ Rep (Free w L) w (R (Abs.dq zk zg)) q ∧ Rep (Free w L) w (R (Abs.dr zk zg)) r ∧ (3 ≤ p → f 133 = q ∧ f 134 = r ∧ f 135 = .int .i64 (Abs.dc zg)))
  keep : At f sl
section
variable {w0 : World} {B : Nat → Prop} {tb : Obj} {bd : Nat} {dv : List Value} {zk zg : Int} {sl : List (Nat × Value)} {p : Nat} {a b : Bool} {f : Fn} {w : World}
theorem JD.a8 (h : JD w0 B tb bd dv zk zg sl p false b f w) (hs : (sl.all fun p => !(Nat.beq p.1 20)) = true) : ∃ L, L (.x 1) = .no ∧ Hp w0 B w L ∧ ∀ w' u v, Hp w (fun b => ∃ l, (L l).blk = some b) w' (upd L (.x 1) (.var w.heap.size [u, v])) → (Ch.var bd dv).ok w' ∧ JD w0 B tb bd dv zk zg sl p true b (up f 20 (.pointer (some ⟨w.heap.size, 0, none⟩))) w' := by
  obtain ⟨⟨L, H, hT, h0, _, hx1, hx2, hx3, r1, r2, r3⟩, hat⟩ := h
  refine ⟨L, hx1 rfl, H, fun w' u v K => ⟨?_, ⟨_, H.back K, hT, h0, fun _ => ⟨_, u, v, rfl, rfl⟩, (fun hc => by cases hc), hx2, hx3, Rep.thru r1 K, fun hp => Rep.thru (r2 hp) K, fun hp => ?_⟩, hat.up hs⟩⟩
  · have := K.ok (.x 0)
    rw [upd_ne _ _ (by simp), h0] at this
    exact this
  · obtain ⟨q, r, i1, i2, i3, i4⟩ := r3 hp
    exact ⟨q, r, i1, Rep.thru i2 K, Rep.thru i3 K, i4⟩
theorem JD.a9 (h : JD w0 B tb bd dv zk zg sl p a false f w) (hs : (sl.all fun p => !(Nat.beq p.1 21)) = true) : ∃ L, L (.x 2) = .no ∧ Hp w0 B w L ∧ ∀ w' u v, Hp w (fun b => ∃ l, (L l).blk = some b) w' (upd L (.x 2) (.var w.heap.size [u, v])) → (Ch.var bd dv).ok w' ∧ JD w0 B tb bd dv zk zg sl p a true (up f 21 (.pointer (some ⟨w.heap.size, 0, none⟩))) w' := by
  obtain ⟨⟨L, H, hT, h0, hx0, hx1, _, hx3, r1, r2, r3⟩, hat⟩ := h
  refine ⟨L, hx3 rfl, H, fun w' u v K => ⟨?_, ⟨_, H.back K, hT, h0, hx0, hx1, fun _ => ⟨_, u, v, rfl, rfl⟩, (fun hc => by cases hc), Rep.thru r1 K, fun hp => Rep.thru (r2 hp) K, fun hp => ?_⟩, hat.up hs⟩⟩
  · have := K.ok (.x 0)
    rw [upd_ne _ _ (by simp), h0] at this
    exact this
  · obtain ⟨q, r, i1, i2, i3, i4⟩ := r3 hp
    exact ⟨q, r, i1, Rep.thru i2 K, Rep.thru i3 K, i4⟩
theorem JD.c1 (h : JD w0 B tb bd dv zk zg sl 0 a b f w) (hs : (sl.all fun p => !(Nat.beq p.1 130)) = true) : ∃ L, Hp w0 B w L ∧ ∀ w' v, Stp w w' none → Rep (Free w' L) w' (R zk) v → (Ch.var bd dv).ok w' ∧ JD w0 B tb bd dv zk zg sl 1 a b (up f 130 v) w' := by
  obtain ⟨⟨L, H, hT, h0, hx0, hx1, hx2, hx3, r1, r2, r3⟩, hat⟩ := h
  refine ⟨L, H, fun w' v s hv => ?_⟩
  have H' := H.grow s
  have h1 := H'.ok (.x 0)
  rw [h0] at h1
  exact ⟨h1, ⟨L, H', hT, h0, hx0, hx1, hx2, hx3, Rep.on0 r1 s, fun _ => hv, fun hp => by omega⟩, hat.up hs⟩
theorem JD.c3 (h : JD w0 B tb bd dv zk zg sl 1 a b f w) (hs : (sl.all fun p => !(Nat.beq p.1 132)) = true) : ∃ L, Hp w0 B w L ∧ Rep (Free w L) w (R zk) (f 130) ∧ Rep (Free w L) w (R zg) (f 131) ∧ ∀ w' v, Stp w w' none → Rep (Free w' L) w' (.tup [R (Abs.dq zk zg), R (Abs.dr zk zg), .int .i64 (Abs.dc zg)]) v → (Ch.var bd dv).ok w' ∧ JD w0 B tb bd dv zk zg sl 2 a b (up f 132 v) w' := by
  obtain ⟨⟨L, H, hT, h0, hx0, hx1, hx2, hx3, r1, r2, r3⟩, hat⟩ := h
  refine ⟨L, H, r2 (Nat.le_refl _), r1, fun w' v s hv => ?_⟩
  have H' := H.grow s
  have h1 := H'.ok (.x 0)
  rw [h0] at h1
  obtain ⟨q, r, rfl, i1, i2⟩ := rep_three hv
  exact ⟨h1, ⟨L, H', hT, h0, hx0, hx1, hx2, hx3, Rep.on0 r1 s, fun _ => Rep.on0 (r2 (Nat.le_refl _)) s, fun _ => ⟨q, r, rfl, i1, i2, fun hp => by omega⟩⟩, hat.up hs⟩
theorem JD.t4 (h : JD w0 B tb bd dv zk zg sl 2 a b f w) (hs : (sl.all fun p => !(Nat.beq p.1 128) && !(Nat.beq p.1 133) && !(Nat.beq p.1 134) && !(Nat.beq p.1 135)) = true) : ∃ q r, f 132 = .tuple #[q, r, .int .i64 (Abs.dc zg)] ∧ (Ch.var bd dv).ok w ∧ JD w0 B tb bd dv zk zg sl 3 a b (up (up (up (up f 128 (.tuple #[q, r, .int .i64 (Abs.dc zg)])) 133 q) 134 r) 135 (.int .i64 (Abs.dc zg))) w := by
  obtain ⟨⟨L, H, hT, h0, hx0, hx1, hx2, hx3, r1, r2, r3⟩, hat⟩ := h
  obtain ⟨q, r, i1, i2, i3, _⟩ := r3 (Nat.le_refl _)
  have h1 := H.ok (.x 0)
  rw [h0] at h1
  have hs' : ∀ d, d = 128 ∨ d = 133 ∨ d = 134 ∨ d = 135 → (sl.all fun p => !(Nat.beq p.1 d)) = true := fun d hd => by
    rw [List.all_eq_true] at hs ⊢
    intro x hx
    have := hs x hx
    simp only [Bool.and_eq_true] at this
    rcases hd with rfl | rfl | rfl | rfl
    · exact this.1.1.1
    · exact this.1.1.2
    · exact this.1.2
    · exact this.2
  refine ⟨q, r, i1, h1, ⟨L, H, hT, h0, hx0, hx1, hx2, hx3, r1, fun _ => r2 (by omega), fun _ => ⟨q, r, i1, i2, i3, fun _ => ⟨rfl, rfl, rfl⟩⟩⟩, ?_⟩
  exact (((hat.up (hs' 128 (by simp))).up (hs' 133 (by simp))).up (hs' 134 (by simp))).up (hs' 135 (by simp))
theorem JD.fin (h : JD w0 B tb bd dv zk zg sl 3 true true f w) : ∃ L b8 b9 u8 v8 u9 v9 q r, Hp w0 B w L ∧ L .t = .raw 0 tb ∧ L (.x 0) = .var bd dv ∧ L (.x 1) = .var b8 [u8, v8] ∧ L (.x 2) = .var b9 [u9, v9] ∧ Rep (Free w L) w (R (Abs.dq zk zg)) q ∧ Rep (Free w L) w (R (Abs.dr zk zg)) r ∧
    At f ((20, .pointer (some ⟨b8, 0, none⟩)) :: (21, .pointer (some ⟨b9, 0, none⟩)) :: (133, q) :: (134, r) :: (135, .int .i64 (Abs.dc zg)) :: sl) := by
  obtain ⟨⟨L, H, hT, h0, hx0, hx1, hx2, hx3, r1, r2, r3⟩, hat⟩ := h
  obtain ⟨q, r, i1, i2, i3, i4⟩ := r3 (by omega)
  obtain ⟨e1, e2, e3⟩ := i4 (Nat.le_refl _)
  obtain ⟨b8, u8, v8, j1, j2⟩ := hx0 rfl
  obtain ⟨b9, u9, v9, j3, j4⟩ := hx2 rfl
  exact ⟨L, b8, b9, u8, v8, u9, v9, q, r, H, hT, h0, j2, j4, i2, i3, j1, j3, e1, e2, e3, hat⟩
end
section
open Go.Abs (ansFrom ansText ansGcd ansDiv ansSign i64B gz dq dr dc cmpZ num_lbW)
theorem from_ans {n : Int} (h : i64B n = true) : ansFrom [.int .i64 n] = some (true, .val (R n)) := by
  show some (i64B n, _) = _
  rw [h]
theorem i64_nat {n : Nat} (h : n ≤ 1000000) : i64B (n : Int) = true := by
  unfold Abs.i64B
  rw [Bool.and_eq_true, decide_eq_true_eq, decide_eq_true_eq]
  omega
theorem cn_nat {n : Nat} (h : n ≤ 1000000) : Abs.cn 4294967296 (Abs.sg (n : Int)) (Abs.lb 4294967296 (n : Int)) = true := cn_R (by omega)
theorem text7 : ansText [R 7] = some (true, .val (.str ⟨#[55]⟩)) := by
  show some (Abs.cn 4294967296 (Abs.sg 7) (Abs.lb 4294967296 7), Res.val (.str (Abs.txt (Abs.num 4294967296 (Abs.sg 7) (Abs.lb 4294967296 7))))) = _
  rw [num_lbW, cn_R (by decide)]
  have : Abs.txt 7 = ⟨#[55]⟩ := by decide +kernel
  rw [this]
theorem gcd_ans {n m : Nat} (hn : n ≤ 1000000) (hm : m ≤ 1000000) : ansGcd [R (n : Int), R (m : Int)] = some (true, .val (R (gz (n : Int) (m : Int)))) := by
  show some (Abs.cn 4294967296 (Abs.sg (n : Int)) (Abs.lb 4294967296 (n : Int)) && Abs.cn 4294967296 (Abs.sg (m : Int)) (Abs.lb 4294967296 (m : Int)), Res.val (R (gz (Abs.num 4294967296 (Abs.sg (n : Int)) (Abs.lb 4294967296 (n : Int))) (Abs.num 4294967296 (Abs.sg (m : Int)) (Abs.lb 4294967296 (m : Int)))))) = _
  rw [num_lbW, num_lbW, cn_nat hn, cn_nat hm]
  rfl
theorem gz_nat (n m : Nat) : gz (n : Int) (m : Int) = ((Nat.gcd n m : Nat) : Int) := rfl
theorem gz_le {n m : Nat} (hn : 1 ≤ n) : Nat.gcd n m ≤ n := Nat.gcd_le_left _ hn
theorem dr_nat {n m k : Nat} (hn : 1 ≤ n) : dr (k : Int) (gz (n : Int) (m : Int)) = ((k % Nat.gcd n m : Nat) : Int) := by
  have hpos : 0 < Nat.gcd n m := Nat.gcd_pos_of_pos_left _ hn
  rw [gz_nat]
  unfold Abs.dr
  rw [if_neg (by omega), Int.fmod_eq_emod_of_nonneg _ (by omega)]
  exact (Int.natCast_emod _ _).symm
theorem dc_nat {n m : Nat} (hn : 1 ≤ n) : dc (gz (n : Int) (m : Int)) = 0 := by
  have hpos : 0 < Nat.gcd n m := Nat.gcd_pos_of_pos_left _ hn
  rw [gz_nat]
  unfold Abs.dc
  rw [if_neg (by omega)]
theorem div_ans {n m k : Nat} (hn : 1 ≤ n) (hn2 : n ≤ 1000000) (hk : k ≤ 1000000) : ansDiv [R (k : Int), R (gz (n : Int) (m : Int))] = some (true, .val (.tup [R (dq (k : Int) (gz (n : Int) (m : Int))), R (dr (k : Int) (gz (n : Int) (m : Int))), .int .i64 (dc (gz (n : Int) (m : Int)))])) := by
  have hg := gz_le (m := m) hn
  have hc : Abs.cn 4294967296 (Abs.sg (gz (n : Int) (m : Int))) (Abs.lb 4294967296 (gz (n : Int) (m : Int))) = true := by rw [gz_nat]; exact cn_nat (by omega)
  generalize gz (n : Int) (m : Int) = g at *
  show some (Abs.cn 4294967296 (Abs.sg (k : Int)) (Abs.lb 4294967296 (k : Int)) && Abs.cn 4294967296 (Abs.sg g) (Abs.lb 4294967296 g), Res.val (.tup [R (dq (Abs.num 4294967296 (Abs.sg (k : Int)) (Abs.lb 4294967296 (k : Int))) (Abs.num 4294967296 (Abs.sg g) (Abs.lb 4294967296 g))), R (dr (Abs.num 4294967296 (Abs.sg (k : Int)) (Abs.lb 4294967296 (k : Int))) (Abs.num 4294967296 (Abs.sg g) (Abs.lb 4294967296 g))), .int .i64 (dc (Abs.num 4294967296 (Abs.sg g) (Abs.lb 4294967296 g)))])) = _
  rw [num_lbW, num_lbW, cn_nat hk, hc]
  rfl
theorem sign_ans {n m k : Nat} (hn : 1 ≤ n) (hk : k ≤ 1000000) : ansSign [R (dr (k : Int) (gz (n : Int) (m : Int)))] = some (true, .val (.int .i64 (cmpZ (dr (k : Int) (gz (n : Int) (m : Int))) 0))) := by
  have hle := Nat.mod_le k (Nat.gcd n m)
  have hc : Abs.cn 4294967296 (Abs.sg (dr (k : Int) (gz (n : Int) (m : Int)))) (Abs.lb 4294967296 (dr (k : Int) (gz (n : Int) (m : Int)))) = true := by rw [dr_nat hn]; exact cn_nat (by omega)
  generalize dr (k : Int) (gz (n : Int) (m : Int)) = z at *
  show some (Abs.cn 4294967296 (Abs.sg z) (Abs.lb 4294967296 z), Res.val (.int .i64 (cmpZ (Abs.num 4294967296 (Abs.sg z) (Abs.lb 4294967296 z)) 0))) = _
  rw [num_lbW, hc]
end
section
variable {n : Nat} {ops : Array Oper} {Q : QT} {S : World → Prop} {w0 w : World} {B : Nat → Prop} {L : Loc → Ch} {f : Fn} {i : Nat} {o : Oper}
theorem Hp.bare {Sg : GS} {c : Ch} {tb : Obj} (H : Hp w0 B w (upd (lay Sg) (.x 0) c)) (htb : Sg.tb = tb) : Hp w0 B w (upd (fun _ => .no) .t (.raw 0 tb)) := by
  refine H.sub id (fun l => ?_) (fun l l' b _ _ h => h)
  by_cases hl : l = .t
  · subst hl
    right
    show Ch.raw 0 tb = Ch.raw 0 Sg.tb
    rw [htb]
  · left
    exact upd_ne _ _ hl
theorem WOp.alloc {K : Fn → World → Prop} (hi : ops[i]? = some o) (hg : o.guard = none) {d : Nat} (hdd : o.dst = some d) (hd : Nat.blt d n = true) (ho : o.op = .alloc 24) (H : Hp w0 B w L) {l : Loc} (hl : L l = .no)
    (h : ∀ w', Hp w (fun b => ∃ l, (L l).blk = some b) w' (upd L l (.var w.heap.size [.bool false, .slice none 0 0])) → S w' ∧ K (up f d (.pointer (some ⟨w.heap.size, 0, none⟩))) w') : WOp P n ops Q S i K f w := by
  obtain ⟨ti, hti, hz⟩ := Option.bind_eq_some_iff.1 zero24
  obtain ⟨w', e1, e2⟩ := h_alloc (ρ := evf f) H.self hl ho hti hz
  exact WOp.val hi hg hdd hd e1 (h w' e2)
theorem WH.storeVH {fuel : Nat} {listed : Array Bool} (H : Hp w0 B w L) {l : Loc} {b : Nat} {xs : List Value} (hl : L l = .var b xs) (hr : Region.ready .any ops listed = [i]) (hi : ops[i]? = some o) (hg : o.guard = none) (hd : o.dst = none) {t : Nat} {x y : Operand} (ho : o.op = .store t x y) {k : Nat} (hx : evf f x = .pointer (some ⟨b, k, none⟩)) {ys : List Value} (hy : (evf f y).cells.toList = ys) (hti : (P.info? t).map (·.size) = some ys.length) (hk : k + ys.length ≤ xs.length) (h1 : ∀ u ∈ ys, u.oneCell' = true)
    (h : ∀ w', Hp w (fun b => ∃ l, (L l).blk = some b) w' (upd L l (.var b (xs.take k ++ (ys ++ xs.drop (k + ys.length))))) → S w' ∧ WH P n ops Q S fuel (listed.setIfInBounds i true) f w') : WH P n ops Q S (fuel + 1) listed f w := by
  obtain ⟨ti, hti, hsz⟩ := Option.map_eq_some_iff.1 hti
  obtain ⟨w', e1, e2⟩ := h_storeV (ρ := evf f) H.self hl ho hx hti hy hsz.symm hk h1
  exact WH.oneSkip hr hi hg hd e1 (h w' e2).1 (h w' e2).2
end
end Go.Gr
end
section
/- Walking by exact values: the law of the circles. -/
set_option maxRecDepth 10000
namespace Go.Gr
open Go.Abs (WTo tyAt ty_slice T_ok aggB Runs Rep RepL Meets AV Res R)
open Go.Proofs
open Go.Euf (E3 Par)
theorem hp_start {w : World} {tb : Obj} (h0 : w.heap[0]? = some tb) : Hp w (fun b => b = 0) w (upd (fun _ => .no) .t (.raw 0 tb)) := by
  refine ⟨fun l => ?_, fun l l' b h1 h2 => ?_, fun l b h => ?_, .refl _ w⟩
  · unfold upd
    split
    · exact h0
    · trivial
  · unfold upd at h1 h2
    split at h1
    · split at h2
      · rename_i e1 e2; rw [e1, e2]
      · cases h2
    · cases h1
  · unfold upd at h
    split at h
    · cases h; exact .inl rfl
    · cases h
theorem runs_top {w : World} (ht : Tab w) (zn zm zk : Int) : Runs P 3 [.int .i64 zn, .int .i64 zm, .int .i64 zk] w (fun v w' => v = .bool true ∧ WTo (fun b => w.heap.size ≤ b) w w') := by
  obtain ⟨tb, h0, htb⟩ := tabO_of ht
  have H : Hp w (fun b => b = 0) w (upd (fun _ => .no) .t (.raw 0 tb)) := hp_start h0
  refine runs_of Tryd.func3 (by kernel_rfl) rfl rfl ?_
  refine WC.seq (WC.region ?_)
  refine WL.vald rfl rfl rfl (v := (.bool (false))) (x_assign rfl rfl) ?_
  refine WL.nil (WC.seqM (fun F W => w = W ∧ ¬ (zn < 1 ∨ zm < 1 ∨ zk < 0 ∨ zn > 60 ∨ zm > 60 ∨ zk > 120) ∧ At F [(0, .int .i64 zn), (1, .int .i64 zm), (2, .int .i64 zk)]) (WC.seqM (fun F W => w = W ∧ At F [(0, .int .i64 zn), (1, .int .i64 zm), (2, .int .i64 zk), (44, .bool (decide (zn < 1 ∨ zm < 1 ∨ zk < 0 ∨ zn > 60 ∨ zm > 60 ∨ zk > 120)))]) (WC.region ?_) ?_) ?_)
  · skip
    by_cases c0 : zn < 1
    · skip
      refine WL.vald rfl rfl rfl (v := (.int .i64 (zn))) (x_move rfl rfl) ?_
      refine WL.vald rfl rfl rfl (v := (.bool (true))) (x_arithb (z := true) rfl rfl rfl rfl (decide_eq_true c0)) ?_
      refine WL.vald rfl rfl rfl (v := (.bool (true))) (x_move rfl rfl) ?_
      refine WL.gskipd rfl rfl rfl rfl rfl rfl ?_
      refine WL.gskipd rfl rfl rfl rfl rfl rfl ?_
      refine WL.vald rfl rfl rfl (v := (.bool (true))) (x_pick rfl rfl rfl) ?_
      refine WL.vald rfl rfl rfl (v := (.bool (true))) (x_move rfl rfl) ?_
      refine WL.gskipd rfl rfl rfl rfl rfl rfl ?_
      refine WL.gskipd rfl rfl rfl rfl rfl rfl ?_
      refine WL.vald rfl rfl rfl (v := (.bool (true))) (x_pick rfl rfl rfl) ?_
      refine WL.vald rfl rfl rfl (v := (.bool (true))) (x_move rfl rfl) ?_
      refine WL.gskipd rfl rfl rfl rfl rfl rfl ?_
      refine WL.gskipd rfl rfl rfl rfl rfl rfl ?_
      refine WL.vald rfl rfl rfl (v := (.bool (true))) (x_pick rfl rfl rfl) ?_
      refine WL.vald rfl rfl rfl (v := (.bool (true))) (x_move rfl rfl) ?_
      refine WL.gskipd rfl rfl rfl rfl rfl rfl ?_
      refine WL.gskipd rfl rfl rfl rfl rfl rfl ?_
      refine WL.vald rfl rfl rfl (v := (.bool (true))) (x_pick rfl rfl rfl) ?_
      refine WL.vald rfl rfl rfl (v := (.bool (true))) (x_move rfl rfl) ?_
      refine WL.gskipd rfl rfl rfl rfl rfl rfl ?_
      refine WL.gskipd rfl rfl rfl rfl rfl rfl ?_
      refine WL.vald rfl rfl rfl (v := (.bool (true))) (x_pick rfl rfl rfl) ?_
      exact WL.nil ⟨rfl, rfl, rfl, rfl, by show Value.bool true = _; rw [decide_eq_true (by omega)], trivial⟩
    · skip
      by_cases c1 : zm < 1
      · skip
        refine WL.vald rfl rfl rfl (v := (.int .i64 (zn))) (x_move rfl rfl) ?_
        refine WL.vald rfl rfl rfl (v := (.bool (false))) (x_arithb (z := false) rfl rfl rfl rfl (decide_eq_false c0)) ?_
        refine WL.vald rfl rfl rfl (v := (.bool (false))) (x_move rfl rfl) ?_
        refine WL.gvald rfl rfl rfl rfl rfl rfl (v := (.int .i64 (zm))) (x_move rfl rfl) ?_
        refine WL.gvald rfl rfl rfl rfl rfl rfl (v := (.bool (true))) (x_arithb (z := true) rfl rfl rfl rfl (decide_eq_true c1)) ?_
        refine WL.vald rfl rfl rfl (v := (.bool (true))) (x_pick rfl rfl rfl) ?_
        refine WL.vald rfl rfl rfl (v := (.bool (true))) (x_move rfl rfl) ?_
        refine WL.gskipd rfl rfl rfl rfl rfl rfl ?_
        refine WL.gskipd rfl rfl rfl rfl rfl rfl ?_
        refine WL.vald rfl rfl rfl (v := (.bool (true))) (x_pick rfl rfl rfl) ?_
        refine WL.vald rfl rfl rfl (v := (.bool (true))) (x_move rfl rfl) ?_
        refine WL.gskipd rfl rfl rfl rfl rfl rfl ?_
        refine WL.gskipd rfl rfl rfl rfl rfl rfl ?_
        refine WL.vald rfl rfl rfl (v := (.bool (true))) (x_pick rfl rfl rfl) ?_
        refine WL.vald rfl rfl rfl (v := (.bool (true))) (x_move rfl rfl) ?_
        refine WL.gskipd rfl rfl rfl rfl rfl rfl ?_
        refine WL.gskipd rfl rfl rfl rfl rfl rfl ?_
        refine WL.vald rfl rfl rfl (v := (.bool (true))) (x_pick rfl rfl rfl) ?_
        refine WL.vald rfl rfl rfl (v := (.bool (true))) (x_move rfl rfl) ?_
        refine WL.gskipd rfl rfl rfl rfl rfl rfl ?_
        refine WL.gskipd rfl rfl rfl rfl rfl rfl ?_
        refine WL.vald rfl rfl rfl (v := (.bool (true))) (x_pick rfl rfl rfl) ?_
        exact WL.nil ⟨rfl, rfl, rfl, rfl, by show Value.bool true = _; rw [decide_eq_true (by omega)], trivial⟩
      · skip
        by_cases c2 : zk < 0
        · skip
          refine WL.vald rfl rfl rfl (v := (.int .i64 (zn))) (x_move rfl rfl) ?_
          refine WL.vald rfl rfl rfl (v := (.bool (false))) (x_arithb (z := false) rfl rfl rfl rfl (decide_eq_false c0)) ?_
          refine WL.vald rfl rfl rfl (v := (.bool (false))) (x_move rfl rfl) ?_
          refine WL.gvald rfl rfl rfl rfl rfl rfl (v := (.int .i64 (zm))) (x_move rfl rfl) ?_
          refine WL.gvald rfl rfl rfl rfl rfl rfl (v := (.bool (false))) (x_arithb (z := false) rfl rfl rfl rfl (decide_eq_false c1)) ?_
          refine WL.vald rfl rfl rfl (v := (.bool (false))) (x_pick rfl rfl rfl) ?_
          refine WL.vald rfl rfl rfl (v := (.bool (false))) (x_move rfl rfl) ?_
          refine WL.gvald rfl rfl rfl rfl rfl rfl (v := (.int .i64 (zk))) (x_move rfl rfl) ?_
          refine WL.gvald rfl rfl rfl rfl rfl rfl (v := (.bool (true))) (x_arithb (z := true) rfl rfl rfl rfl (decide_eq_true c2)) ?_
          refine WL.vald rfl rfl rfl (v := (.bool (true))) (x_pick rfl rfl rfl) ?_
          refine WL.vald rfl rfl rfl (v := (.bool (true))) (x_move rfl rfl) ?_
          refine WL.gskipd rfl rfl rfl rfl rfl rfl ?_
          refine WL.gskipd rfl rfl rfl rfl rfl rfl ?_
          refine WL.vald rfl rfl rfl (v := (.bool (true))) (x_pick rfl rfl rfl) ?_
          refine WL.vald rfl rfl rfl (v := (.bool (true))) (x_move rfl rfl) ?_
          refine WL.gskipd rfl rfl rfl rfl rfl rfl ?_
          refine WL.gskipd rfl rfl rfl rfl rfl rfl ?_
          refine WL.vald rfl rfl rfl (v := (.bool (true))) (x_pick rfl rfl rfl) ?_
          refine WL.vald rfl rfl rfl (v := (.bool (true))) (x_move rfl rfl) ?_
          refine WL.gskipd rfl rfl rfl rfl rfl rfl ?_
          refine WL.gskipd rfl rfl rfl rfl rfl rfl ?_
          refine WL.vald rfl rfl rfl (v := (.bool (true))) (x_pick rfl rfl rfl) ?_
          exact WL.nil ⟨rfl, rfl, rfl, rfl, by show Value.bool true = _; rw [decide_eq_true (by omega)], trivial⟩
        · skip
          by_cases c3 : zn > 60
          · skip
            refine WL.vald rfl rfl rfl (v := (.int .i64 (zn))) (x_move rfl rfl) ?_
            refine WL.vald rfl rfl rfl (v := (.bool (false))) (x_arithb (z := false) rfl rfl rfl rfl (decide_eq_false c0)) ?_
            refine WL.vald rfl rfl rfl (v := (.bool (false))) (x_move rfl rfl) ?_
            refine WL.gvald rfl rfl rfl rfl rfl rfl (v := (.int .i64 (zm))) (x_move rfl rfl) ?_
            refine WL.gvald rfl rfl rfl rfl rfl rfl (v := (.bool (false))) (x_arithb (z := false) rfl rfl rfl rfl (decide_eq_false c1)) ?_
            refine WL.vald rfl rfl rfl (v := (.bool (false))) (x_pick rfl rfl rfl) ?_
            refine WL.vald rfl rfl rfl (v := (.bool (false))) (x_move rfl rfl) ?_
            refine WL.gvald rfl rfl rfl rfl rfl rfl (v := (.int .i64 (zk))) (x_move rfl rfl) ?_
            refine WL.gvald rfl rfl rfl rfl rfl rfl (v := (.bool (false))) (x_arithb (z := false) rfl rfl rfl rfl (decide_eq_false c2)) ?_
            refine WL.vald rfl rfl rfl (v := (.bool (false))) (x_pick rfl rfl rfl) ?_
            refine WL.vald rfl rfl rfl (v := (.bool (false))) (x_move rfl rfl) ?_
            refine WL.gvald rfl rfl rfl rfl rfl rfl (v := (.int .i64 (zn))) (x_move rfl rfl) ?_
            refine WL.gvald rfl rfl rfl rfl rfl rfl (v := (.bool (true))) (x_arithb (z := true) rfl rfl rfl rfl (decide_eq_true c3)) ?_
            refine WL.vald rfl rfl rfl (v := (.bool (true))) (x_pick rfl rfl rfl) ?_
            refine WL.vald rfl rfl rfl (v := (.bool (true))) (x_move rfl rfl) ?_
            refine WL.gskipd rfl rfl rfl rfl rfl rfl ?_
            refine WL.gskipd rfl rfl rfl rfl rfl rfl ?_
            refine WL.vald rfl rfl rfl (v := (.bool (true))) (x_pick rfl rfl rfl) ?_
            refine WL.vald rfl rfl rfl (v := (.bool (true))) (x_move rfl rfl) ?_
            refine WL.gskipd rfl rfl rfl rfl rfl rfl ?_
            refine WL.gskipd rfl rfl rfl rfl rfl rfl ?_
            refine WL.vald rfl rfl rfl (v := (.bool (true))) (x_pick rfl rfl rfl) ?_
            exact WL.nil ⟨rfl, rfl, rfl, rfl, by show Value.bool true = _; rw [decide_eq_true (by omega)], trivial⟩
          · skip
            by_cases c4 : zm > 60
            · skip
              refine WL.vald rfl rfl rfl (v := (.int .i64 (zn))) (x_move rfl rfl) ?_
              refine WL.vald rfl rfl rfl (v := (.bool (false))) (x_arithb (z := false) rfl rfl rfl rfl (decide_eq_false c0)) ?_
              refine WL.vald rfl rfl rfl (v := (.bool (false))) (x_move rfl rfl) ?_
              refine WL.gvald rfl rfl rfl rfl rfl rfl (v := (.int .i64 (zm))) (x_move rfl rfl) ?_
              refine WL.gvald rfl rfl rfl rfl rfl rfl (v := (.bool (false))) (x_arithb (z := false) rfl rfl rfl rfl (decide_eq_false c1)) ?_
              refine WL.vald rfl rfl rfl (v := (.bool (false))) (x_pick rfl rfl rfl) ?_
              refine WL.vald rfl rfl rfl (v := (.bool (false))) (x_move rfl rfl) ?_
              refine WL.gvald rfl rfl rfl rfl rfl rfl (v := (.int .i64 (zk))) (x_move rfl rfl) ?_
              refine WL.gvald rfl rfl rfl rfl rfl rfl (v := (.bool (false))) (x_arithb (z := false) rfl rfl rfl rfl (decide_eq_false c2)) ?_
              refine WL.vald rfl rfl rfl (v := (.bool (false))) (x_pick rfl rfl rfl) ?_
              refine WL.vald rfl rfl rfl (v := (.bool (false))) (x_move rfl rfl) ?_
              refine WL.gvald rfl rfl rfl rfl rfl rfl (v := (.int .i64 (zn))) (x_move rfl rfl) ?_
              refine WL.gvald rfl rfl rfl rfl rfl rfl (v := (.bool (false))) (x_arithb (z := false) rfl rfl rfl rfl (decide_eq_false c3)) ?_
              refine WL.vald rfl rfl rfl (v := (.bool (false))) (x_pick rfl rfl rfl) ?_
              refine WL.vald rfl rfl rfl (v := (.bool (false))) (x_move rfl rfl) ?_
              refine WL.gvald rfl rfl rfl rfl rfl rfl (v := (.int .i64 (zm))) (x_move rfl rfl) ?_
              refine WL.gvald rfl rfl rfl rfl rfl rfl (v := (.bool (true))) (x_arithb (z := true) rfl rfl rfl rfl (decide_eq_true c4)) ?_
              refine WL.vald rfl rfl rfl (v := (.bool (true))) (x_pick rfl rfl rfl) ?_
              refine WL.vald rfl rfl rfl (v := (.bool (true))) (x_move rfl rfl) ?_
              refine WL.gskipd rfl rfl rfl rfl rfl rfl ?_
              refine WL.gskipd rfl rfl rfl rfl rfl rfl ?_
              refine WL.vald rfl rfl rfl (v := (.bool (true))) (x_pick rfl rfl rfl) ?_
              exact WL.nil ⟨rfl, rfl, rfl, rfl, by show Value.bool true = _; rw [decide_eq_true (by omega)], trivial⟩
            · skip
              by_cases c5 : zk > 120
              · skip
                refine WL.vald rfl rfl rfl (v := (.int .i64 (zn))) (x_move rfl rfl) ?_
                refine WL.vald rfl rfl rfl (v := (.bool (false))) (x_arithb (z := false) rfl rfl rfl rfl (decide_eq_false c0)) ?_
                refine WL.vald rfl rfl rfl (v := (.bool (false))) (x_move rfl rfl) ?_
                refine WL.gvald rfl rfl rfl rfl rfl rfl (v := (.int .i64 (zm))) (x_move rfl rfl) ?_
                refine WL.gvald rfl rfl rfl rfl rfl rfl (v := (.bool (false))) (x_arithb (z := false) rfl rfl rfl rfl (decide_eq_false c1)) ?_
                refine WL.vald rfl rfl rfl (v := (.bool (false))) (x_pick rfl rfl rfl) ?_
                refine WL.vald rfl rfl rfl (v := (.bool (false))) (x_move rfl rfl) ?_
                refine WL.gvald rfl rfl rfl rfl rfl rfl (v := (.int .i64 (zk))) (x_move rfl rfl) ?_
                refine WL.gvald rfl rfl rfl rfl rfl rfl (v := (.bool (false))) (x_arithb (z := false) rfl rfl rfl rfl (decide_eq_false c2)) ?_
                refine WL.vald rfl rfl rfl (v := (.bool (false))) (x_pick rfl rfl rfl) ?_
                refine WL.vald rfl rfl rfl (v := (.bool (false))) (x_move rfl rfl) ?_
                refine WL.gvald rfl rfl rfl rfl rfl rfl (v := (.int .i64 (zn))) (x_move rfl rfl) ?_
                refine WL.gvald rfl rfl rfl rfl rfl rfl (v := (.bool (false))) (x_arithb (z := false) rfl rfl rfl rfl (decide_eq_false c3)) ?_
                refine WL.vald rfl rfl rfl (v := (.bool (false))) (x_pick rfl rfl rfl) ?_
                refine WL.vald rfl rfl rfl (v := (.bool (false))) (x_move rfl rfl) ?_
                refine WL.gvald rfl rfl rfl rfl rfl rfl (v := (.int .i64 (zm))) (x_move rfl rfl) ?_
                refine WL.gvald rfl rfl rfl rfl rfl rfl (v := (.bool (false))) (x_arithb (z := false) rfl rfl rfl rfl (decide_eq_false c4)) ?_
                refine WL.vald rfl rfl rfl (v := (.bool (false))) (x_pick rfl rfl rfl) ?_
                refine WL.vald rfl rfl rfl (v := (.bool (false))) (x_move rfl rfl) ?_
                refine WL.gvald rfl rfl rfl rfl rfl rfl (v := (.int .i64 (zk))) (x_move rfl rfl) ?_
                refine WL.gvald rfl rfl rfl rfl rfl rfl (v := (.bool (true))) (x_arithb (z := true) rfl rfl rfl rfl (decide_eq_true c5)) ?_
                refine WL.vald rfl rfl rfl (v := (.bool (true))) (x_pick rfl rfl rfl) ?_
                exact WL.nil ⟨rfl, rfl, rfl, rfl, by show Value.bool true = _; rw [decide_eq_true (by omega)], trivial⟩
              · skip
                refine WL.vald rfl rfl rfl (v := (.int .i64 (zn))) (x_move rfl rfl) ?_
                refine WL.vald rfl rfl rfl (v := (.bool (false))) (x_arithb (z := false) rfl rfl rfl rfl (decide_eq_false c0)) ?_
                refine WL.vald rfl rfl rfl (v := (.bool (false))) (x_move rfl rfl) ?_
                refine WL.gvald rfl rfl rfl rfl rfl rfl (v := (.int .i64 (zm))) (x_move rfl rfl) ?_
                refine WL.gvald rfl rfl rfl rfl rfl rfl (v := (.bool (false))) (x_arithb (z := false) rfl rfl rfl rfl (decide_eq_false c1)) ?_
                refine WL.vald rfl rfl rfl (v := (.bool (false))) (x_pick rfl rfl rfl) ?_
                refine WL.vald rfl rfl rfl (v := (.bool (false))) (x_move rfl rfl) ?_
                refine WL.gvald rfl rfl rfl rfl rfl rfl (v := (.int .i64 (zk))) (x_move rfl rfl) ?_
                refine WL.gvald rfl rfl rfl rfl rfl rfl (v := (.bool (false))) (x_arithb (z := false) rfl rfl rfl rfl (decide_eq_false c2)) ?_
                refine WL.vald rfl rfl rfl (v := (.bool (false))) (x_pick rfl rfl rfl) ?_
                refine WL.vald rfl rfl rfl (v := (.bool (false))) (x_move rfl rfl) ?_
                refine WL.gvald rfl rfl rfl rfl rfl rfl (v := (.int .i64 (zn))) (x_move rfl rfl) ?_
                refine WL.gvald rfl rfl rfl rfl rfl rfl (v := (.bool (false))) (x_arithb (z := false) rfl rfl rfl rfl (decide_eq_false c3)) ?_
                refine WL.vald rfl rfl rfl (v := (.bool (false))) (x_pick rfl rfl rfl) ?_
                refine WL.vald rfl rfl rfl (v := (.bool (false))) (x_move rfl rfl) ?_
                refine WL.gvald rfl rfl rfl rfl rfl rfl (v := (.int .i64 (zm))) (x_move rfl rfl) ?_
                refine WL.gvald rfl rfl rfl rfl rfl rfl (v := (.bool (false))) (x_arithb (z := false) rfl rfl rfl rfl (decide_eq_false c4)) ?_
                refine WL.vald rfl rfl rfl (v := (.bool (false))) (x_pick rfl rfl rfl) ?_
                refine WL.vald rfl rfl rfl (v := (.bool (false))) (x_move rfl rfl) ?_
                refine WL.gvald rfl rfl rfl rfl rfl rfl (v := (.int .i64 (zk))) (x_move rfl rfl) ?_
                refine WL.gvald rfl rfl rfl rfl rfl rfl (v := (.bool (false))) (x_arithb (z := false) rfl rfl rfl rfl (decide_eq_false c5)) ?_
                refine WL.vald rfl rfl rfl (v := (.bool (false))) (x_pick rfl rfl rfl) ?_
                exact WL.nil ⟨rfl, rfl, rfl, rfl, by show Value.bool false = _; rw [decide_eq_false (by omega)], trivial⟩
  · rintro F W ⟨rfl, hF⟩
    obtain ⟨F, rfl⟩ := hF.ex
    refine WC.cond (t := decide (zn < 1 ∨ zm < 1 ∨ zk < 0 ∨ zn > 60 ∨ zm > 60 ∨ zk > 120)) rfl (fun ho => ?_) (fun ho => WC.skip ⟨rfl, of_decide_eq_false ho, rfl, rfl, rfl, trivial⟩)
    refine WC.seq (WC.region ?_)
    refine WL.calld rfl rfl rfl rfl rfl (H.meets Abs.meets_from (from_ans (n := 7) rfl) (repL1 (.int _ _))) ?_
    rintro v1 w1 ⟨s1, H1, q1⟩
    refine WL.calld rfl rfl rfl rfl rfl (H1.meets Abs.meets_text text7 (repL1 q1)) ?_
    rintro v2 w2 ⟨s2, H2, q2⟩
    obtain rfl := rep_str q2
    refine WL.vald rfl rfl rfl (v := (.bool (true))) (x_seq rfl rfl rfl) ?_
    refine WL.vald rfl rfl rfl (v := (.bool (true))) (x_move rfl rfl) ?_
    refine WL.gcalld rfl rfl rfl rfl rfl rfl rfl rfl (runs_new htb H2) ?_
    rintro _ w3 ⟨S, rfl, hC, hTB, H3⟩
    refine WL.gvald rfl rfl rfl rfl rfl rfl (v := (.bool (true))) (x_ptrNe rfl (by kernel_rfl) rfl rfl) ?_
    refine WL.vald rfl rfl rfl (v := (.bool (true))) (x_pick rfl rfl rfl) ?_
    refine WL.vald rfl rfl rfl (v := (.bool (true))) (x_assign rfl rfl) ?_
    exact WL.nil (WC.ret ⟨.inr rfl, [.bool true], rfl, rfl, H3.fresh h0 (by show Ch.raw 0 S.tb = _; rw [hTB])⟩)
  · rintro F W ⟨rfl, hin, hF⟩
    obtain ⟨F, rfl⟩ := hF.ex
    obtain ⟨n, rfl⟩ : ∃ n : Nat, zn = (n : Int) := ⟨zn.toNat, by omega⟩
    obtain ⟨m, rfl⟩ : ∃ m : Nat, zm = (m : Int) := ⟨zm.toNat, by omega⟩
    obtain ⟨k, rfl⟩ : ∃ k : Nat, zk = (k : Int) := ⟨zk.toNat, by omega⟩
    have hn1 : 1 ≤ n := by omega
    have hm1 : 1 ≤ m := by omega
    obtain ⟨M, hM⟩ : ∃ M, max (max n m) k = M := ⟨_, rfl⟩
    have hnM : n ≤ M := by omega
    have hmM : m ≤ M := by omega
    have hkM : k ≤ M := by omega
    have hM2 : M ≤ 120 := by omega
    clear hin hF
    refine WC.seq (WC.region ?_)
    refine WL.calld rfl rfl rfl rfl rfl (runs_new htb H) ?_
    rintro v1 w1 ⟨S, hv1, hC, hTB, H1⟩
    obtain ⟨gb, hgb⟩ : ∃ gb, S.gb = gb := ⟨_, rfl⟩
    rw [hgb] at hv1
    subst hv1
    refine WL.vald rfl rfl rfl (v := (.pointer (some ⟨gb, 0, none⟩))) (x_assign rfl rfl) ?_
    refine WL.nil (WC.seq (WC.seq (WC.region ?_)))
    refine WL.vald rfl rfl rfl (v := (.pointer (some ⟨gb, 0, none⟩))) (x_move rfl rfl) ?_
    refine WL.vald rfl rfl rfl (v := (.bool (false))) (x_ptrEq rfl (by kernel_rfl) rfl rfl) ?_
    refine WL.nil (WC.condF rfl (WC.skip (WC.seq (WC.region ?_))))
    refine WL.vald rfl rfl rfl (v := (.pointer (some ⟨gb, 0, none⟩))) (x_move rfl rfl) ?_
    refine WL.calld rfl rfl rfl rfl rfl (runs_node0g (H1.begG (fun _ _ => rfl)) hC rfl ⟨hgb, hTB⟩ RowOk.nil) ?_
    rintro _ w2 ⟨rfl, S2, hC2, hg2, K2⟩
    have H2 := H1.retL K2
    refine WL.vald rfl rfl rfl (v := (.tuple #[(.int .i64 (((0 : Nat) : Int))), (.int .i64 (0))])) (x_move rfl rfl) ?_
    refine WL.vald rfl rfl rfl (v := (.int .i64 (((0 : Nat) : Int)))) (x_extract rfl rfl rfl) ?_
    refine WL.vald rfl rfl rfl (v := (.int .i64 (0))) (x_extract rfl rfl rfl) ?_
    refine WL.vald rfl rfl rfl (v := (.int .i64 (((0 : Nat) : Int)))) (x_assign rfl rfl) ?_
    refine WL.vald rfl rfl rfl (v := (.int .i64 (0))) (x_assign rfl rfl) ?_
    refine WL.nil (WC.seq (WC.region ?_))
    refine WL.vald rfl rfl rfl (v := (.int .i64 (((0 : Nat) : Int)))) (x_move rfl rfl) ?_
    refine WL.litH H2 (.x 0) rfl rfl rfl rfl (t := 32) rfl rfl rfl rfl rfl rfl (xs := [.int .i64 ((0 : Nat) : Int)]) rfl (cells_one rfl) (one_cons rfl one_nil) ?_
    intro w3 H3
    refine WL.vald rfl rfl rfl (v := (.slice (some ⟨w2.heap.size, 0, none⟩) 1 1)) (x_assign rfl rfl) ?_
    refine WL.nil (WC.seqM (fun F W => ∃ (S : GS) (cv : Value), CH (M + 1) S ∧ (S.gb = gb ∧ S.tb = tb) ∧ At F [(0, .int .i64 (n : Int)), (1, .int .i64 (m : Int)), (2, .int .i64 (k : Int)), (7, .pointer (some ⟨gb, 0, none⟩)), (9, .int .i64 0), (10, cv)] ∧ Hp w (fun b => b = 0) W (upd (lay S) (.x 0) (.row cv (M + 1) 1 (ints (rg (M + 1)))))) (WC.block (WC.loop (fun j F W => ∃ (N : Nat) (S : GS) (cv : Value), j = M + 1 - N ∧ 1 ≤ N ∧ N ≤ M + 1 ∧ CH N S ∧ (S.gb = gb ∧ S.tb = tb) ∧ At F [(0, .int .i64 (n : Int)), (1, .int .i64 (m : Int)), (2, .int .i64 (k : Int)), (7, .pointer (some ⟨gb, 0, none⟩)), (9, .int .i64 0), (10, cv)] ∧ Hp w (fun b => b = 0) W (upd (lay S) (.x 0) (.row cv N 1 (ints (rg N))))) (m := M + 1 - 1) ⟨1, S2, _, rfl, by omega, by omega, hC2, hg2, ⟨rfl, rfl, rfl, rfl, rfl, rfl, trivial⟩, H3⟩ ?_)) ?_)
    · rintro j F W ⟨N, S, cv, rfl, hN1, hN2, hC, hg, hF, H4⟩
      obtain ⟨F, rfl⟩ := hF.ex
      obtain ⟨i, rfl⟩ : ∃ i, N = i + 1 := ⟨N - 1, by omega⟩
      refine WC.seq (WC.seq (WC.region ?_))
      refine WL.vald rfl rfl rfl (v := (cv)) (x_move rfl rfl) ?_
      refine WL.vald rfl rfl rfl (v := (.int .i64 (((i + 1 : Nat) : Int)))) (x_lenR rfl rfl ((H4.row (l := .x 0) rfl)) rfl) ?_
      refine WL.vald rfl rfl rfl (v := (.int .i64 ((n : Int)))) (x_move rfl rfl) ?_
      refine WL.vald rfl rfl rfl (v := (.int .i64 ((m : Int)))) (x_move rfl rfl) ?_
      refine WL.vald rfl rfl rfl (v := (.int .i64 ((k : Int)))) (x_move rfl rfl) ?_
      refine WL.vald rfl rfl rfl (v := (.int .i64 ((M : Int)))) (x_max rfl rfl rfl rfl hM) ?_
      refine WL.vald rfl rfl rfl (v := (.bool (decide (((i + 1 : Nat) : Int) ≤ (M : Int))))) (x_arith rfl rfl rfl (av := .bool (decide (((i + 1 : Nat) : Int) ≤ (M : Int)))) rfl) ?_
      refine WL.nil (WC.cond (t := decide (((i + 1 : Nat) : Int) ≤ (M : Int))) rfl (fun hlt => ?_) (fun hlt => ?_))
      · have hlt := of_decide_eq_true hlt
        refine WC.skip (WC.block (WC.seq (WC.region ?_)))
        refine WL.vald rfl rfl rfl (v := (.pointer (some ⟨gb, 0, none⟩))) (x_move rfl rfl) ?_
        refine WL.vald rfl rfl rfl (v := (cv)) (x_move rfl rfl) ?_
        refine WL.vald rfl rfl rfl (v := (cv)) (x_move rfl rfl) ?_
        refine WL.vald rfl rfl rfl (v := (.int .i64 (((i + 1 : Nat) : Int)))) (x_lenR rfl rfl ((H4.row (l := .x 0) rfl)) rfl) ?_
        refine WL.vald rfl rfl rfl (v := (.int .i64 ((i : Int)))) (x_arithw (z := (i : Int)) rfl rfl rfl rfl (by rw [IntKind.wrap_i64]; omega)) ?_
        refine WL.vald rfl rfl rfl (v := (.pointer (some (adr (cv) (i * 1))))) (x_index (i := i) rfl rfl ((H4.row (l := .x 0) rfl)) rfl rfl (by omega)) ?_
        refine WL.vald rfl rfl rfl (v := (.int .i64 ((i : Int)))) (x_load rfl rfl (by kernel_rfl) (RowOk.cell ((H4.row (l := .x 0) rfl)) (ints_at (rg_at (by omega))))) ?_
        refine WL.litH H4 (.x 1) rfl rfl rfl rfl (t := 32) rfl rfl rfl rfl rfl rfl (xs := [.int .i64 (i : Int)]) rfl (cells_one rfl) (one_cons rfl one_nil) ?_
        intro w5 H5
        refine WL.calld rfl rfl rfl rfl rfl (runs_nodeSg (H5.begG (LX_g _ _ _)) hC rfl (by omega) hg (H5.row (l := .x 1) rfl)) ?_
        rintro _ w6 ⟨rfl, S6, hC6, hg6, K6⟩
        have H6 := H5.retS K6
        refine WL.vald rfl rfl rfl (v := (.tuple #[(.int .i64 (((i + 1 : Nat) : Int))), (.int .i64 (0))])) (x_move rfl rfl) ?_
        refine WL.vald rfl rfl rfl (v := (.int .i64 (((i + 1 : Nat) : Int)))) (x_extract rfl rfl rfl) ?_
        refine WL.vald rfl rfl rfl (v := (.int .i64 (0))) (x_extract rfl rfl rfl) ?_
        refine WL.vald rfl rfl rfl (v := (.int .i64 (((i + 1 : Nat) : Int)))) (x_assign rfl rfl) ?_
        refine WL.vald rfl rfl rfl (v := (.int .i64 (0))) (x_assign rfl rfl) ?_
        refine WL.nil (WC.seq (WC.seq (WC.region ?_)))
        refine WL.vald rfl rfl rfl (v := (.int .i64 (0))) (x_move rfl rfl) ?_
        refine WL.vald rfl rfl rfl (v := (.bool (false))) (x_arithb (z := false) rfl rfl rfl rfl (rfl)) ?_
        refine WL.nil (WC.condF rfl (WC.skip (WC.region ?_)))
        refine WL.vald rfl rfl rfl (v := (cv)) (x_move rfl rfl) ?_
        refine WL.vald rfl rfl rfl (v := (.int .i64 (((i + 1 : Nat) : Int)))) (x_move rfl rfl) ?_
        refine WL.litH H6 (.x 1) rfl rfl rfl rfl (t := 32) rfl rfl rfl rfl rfl rfl (xs := [.int .i64 ((i + 1 : Nat) : Int)]) rfl (cells_one rfl) (one_cons rfl one_nil) ?_
        intro w7 H7
        refine WL.appendH H7 (l := .x 0) rfl rfl rfl rfl (t := 32) rfl rfl rfl rfl rfl ((H7.row (l := .x 1) rfl).src (t := 32) rfl) (by omega) ?_
        intro cv2 w8 H8
        refine WL.vald rfl rfl rfl (v := (cv2)) (x_assign rfl rfl) ?_
        have H9 := (H8.drop (.x 1)).eq (L' := upd (lay S6) (.x 0) (.row cv2 (i + 1 + 1) 1 (ints (rg (i + 1)) ++ [.int .i64 ((i + 1 : Nat) : Int)]))) (loc_cases rfl rfl rfl rfl rfl rfl rfl rfl rfl (fun _ => rfl) (fun _ => rfl) (fun _ => rfl) (fun _ => rfl) rfl rfl rfl rfl (fun _ => rfl) rfl)
        rw [rg_succ] at H9
        exact WL.nil ⟨M + 1 - (i + 1 + 1), by omega, i + 1 + 1, S6, cv2, rfl, by omega, by omega, hC6, hg6, ⟨rfl, rfl, rfl, rfl, rfl, rfl, trivial⟩, H9⟩
      · have hlt := of_decide_eq_false hlt
        obtain rfl : i = M := by omega
        exact WC.exit ⟨S, cv, hC, hg, ⟨rfl, rfl, rfl, rfl, rfl, rfl, trivial⟩, H4⟩
    rintro F W ⟨S, cv, hC, hg, hF, HA⟩
    obtain ⟨F, rfl⟩ := hF.ex
    clear hF
    have hG := hC.gi (E := fun i j => i % Nat.gcd n m = j % Nat.gcd n m) (fun _ => rfl) (A := 100000) (by have : (M + 1 + 1) * (M + 1) ≤ 122 * 121 := Nat.mul_le_mul (by omega) (by omega); omega)
    have hnm : n % Nat.gcd n m = 0 % Nat.gcd n m := by rw [Nat.zero_mod]; exact Nat.mod_eq_zero_of_dvd (Nat.gcd_dvd_left n m)
    have hmm : 0 % Nat.gcd n m = m % Nat.gcd n m := by rw [Nat.zero_mod]; exact (Nat.mod_eq_zero_of_dvd (Nat.gcd_dvd_right n m)).symm
    refine (WC.seq (WC.anyk 14 (fun u => (Ch.row cv (M + 1) 1 (ints (rg (M + 1)))).ok u) mixedP rfl ?_))
    have HAd := HA.drew
    refine WH.taked (i := 0) (by kernel_rfl) rfl rfl rfl rfl (by kernel_rfl) (by kernel_rfl) (fun c f w h => noPanic h) (v := (.pointer (some ⟨gb, 0, none⟩))) (fun w hS => x_move rfl rfl) (HAd.ok (.x 0)) ?_
    refine WH.taked (i := 1) (by kernel_rfl) rfl rfl rfl rfl (by kernel_rfl) (by kernel_rfl) (fun c f w h => noPanic h) (v := (cv)) (fun w hS => x_move rfl rfl) (HAd.ok (.x 0)) ?_
    refine WH.taked (i := 2) (by kernel_rfl) rfl rfl rfl rfl (by kernel_rfl) (by kernel_rfl) (fun c f w h => noPanic h) (v := (.int .i64 ((n : Int)))) (fun w hS => x_move rfl rfl) (HAd.ok (.x 0)) ?_
    refine WH.taked (i := 3) (by kernel_rfl) rfl rfl rfl rfl (by kernel_rfl) (by kernel_rfl) (fun c f w h => noPanic h) (v := (.pointer (some (adr (cv) (n * 1))))) (fun w hS => x_index (i := n) rfl rfl (hS) rfl rfl (by omega)) (HAd.ok (.x 0)) ?_
    refine WH.taked (i := 4) (by kernel_rfl) rfl rfl rfl rfl (by kernel_rfl) (by kernel_rfl) (fun c f w h => noPanic h) (v := (.int .i64 ((n : Int)))) (fun w hS => x_load rfl rfl (by kernel_rfl) (RowOk.cell (hS) (ints_at (rg_at (by omega))))) (HAd.ok (.x 0)) ?_
    refine WH.taked (i := 5) (by kernel_rfl) rfl rfl rfl rfl (by kernel_rfl) (by kernel_rfl) (fun c f w h => noPanic h) (v := (cv)) (fun w hS => x_move rfl rfl) (HAd.ok (.x 0)) ?_
    refine WH.taked (i := 6) (by kernel_rfl) rfl rfl rfl rfl (by kernel_rfl) (by kernel_rfl) (fun c f w h => noPanic h) (v := (.pointer (some (adr (cv) (0 * 1))))) (fun w hS => x_index (i := 0) rfl rfl (hS) rfl rfl (by omega)) (HAd.ok (.x 0)) ?_
    refine WH.taked (i := 7) (by kernel_rfl) rfl rfl rfl rfl (by kernel_rfl) (by kernel_rfl) (fun c f w h => noPanic h) (v := (.int .i64 (((0 : Nat) : Int)))) (fun w hS => x_load rfl rfl (by kernel_rfl) (RowOk.cell (hS) (ints_at (rg_at (by omega))))) (HAd.ok (.x 0)) ?_
    refine WH.oneCalld (i := 8) (by kernel_rfl) rfl rfl rfl rfl rfl rfl (runs_equalg (HAd.begG (LX0_g _ _)) (cong_mod _) hG (by omega) (by omega) (a := n) (b := 0) (by omega) (by omega) hnm (ne := 0) hC.ne (by omega) hg) ?_
    rintro _ w1 ⟨rfl, S1, rt1, us1, sg1, hG1, hg1, hne1, hab1, hmo1, K1⟩
    have HB := HAd.retS0 K1
    refine ⟨HB.ok (.x 0), ?_⟩
    refine WH.taked (i := 9) (by kernel_rfl) rfl rfl rfl rfl (by kernel_rfl) (by kernel_rfl) (fun c f w h => noPanic h) (v := (.tuple #[(.int .i64 (((0 : Nat) : Int))), (.int .i64 (0))])) (fun w hS => x_move rfl rfl) (HB.ok (.x 0)) ?_
    refine WH.taked (i := 10) (by kernel_rfl) rfl rfl rfl rfl (by kernel_rfl) (by kernel_rfl) (fun c f w h => noPanic h) (v := (.int .i64 (((0 : Nat) : Int)))) (fun w hS => x_extract rfl rfl rfl) (HB.ok (.x 0)) ?_
    refine WH.taked (i := 11) (by kernel_rfl) rfl rfl rfl rfl (by kernel_rfl) (by kernel_rfl) (fun c f w h => noPanic h) (v := (.int .i64 (0))) (fun w hS => x_extract rfl rfl rfl) (HB.ok (.x 0)) ?_
    refine WH.taked (i := 12) (by kernel_rfl) rfl rfl rfl rfl (by kernel_rfl) (by kernel_rfl) (fun c f w h => noPanic h) (v := (.int .i64 (((0 : Nat) : Int)))) (fun w hS => x_assign rfl rfl) (HB.ok (.x 0)) ?_
    refine WH.taked (i := 13) (by kernel_rfl) rfl rfl rfl rfl (by kernel_rfl) (by kernel_rfl) (fun c f w h => noPanic h) (v := (.int .i64 (0))) (fun w hS => x_assign rfl rfl) (HB.ok (.x 0)) ?_
    refine WH.done (by kernel_rfl) (WC.seq (WC.anyk 14 (fun u => (Ch.row cv (M + 1) 1 (ints (rg (M + 1)))).ok u) mixedP rfl ?_))
    have HBd := HB.drew
    refine WH.taked (i := 0) (by kernel_rfl) rfl rfl rfl rfl (by kernel_rfl) (by kernel_rfl) (fun c f w h => noPanic h) (v := (.pointer (some ⟨gb, 0, none⟩))) (fun w hS => x_move rfl rfl) (HBd.ok (.x 0)) ?_
    refine WH.taked (i := 1) (by kernel_rfl) rfl rfl rfl rfl (by kernel_rfl) (by kernel_rfl) (fun c f w h => noPanic h) (v := (cv)) (fun w hS => x_move rfl rfl) (HBd.ok (.x 0)) ?_
    refine WH.taked (i := 2) (by kernel_rfl) rfl rfl rfl rfl (by kernel_rfl) (by kernel_rfl) (fun c f w h => noPanic h) (v := (.pointer (some (adr (cv) (0 * 1))))) (fun w hS => x_index (i := 0) rfl rfl (hS) rfl rfl (by omega)) (HBd.ok (.x 0)) ?_
    refine WH.taked (i := 3) (by kernel_rfl) rfl rfl rfl rfl (by kernel_rfl) (by kernel_rfl) (fun c f w h => noPanic h) (v := (.int .i64 (((0 : Nat) : Int)))) (fun w hS => x_load rfl rfl (by kernel_rfl) (RowOk.cell (hS) (ints_at (rg_at (by omega))))) (HBd.ok (.x 0)) ?_
    refine WH.taked (i := 4) (by kernel_rfl) rfl rfl rfl rfl (by kernel_rfl) (by kernel_rfl) (fun c f w h => noPanic h) (v := (cv)) (fun w hS => x_move rfl rfl) (HBd.ok (.x 0)) ?_
    refine WH.taked (i := 5) (by kernel_rfl) rfl rfl rfl rfl (by kernel_rfl) (by kernel_rfl) (fun c f w h => noPanic h) (v := (.int .i64 ((m : Int)))) (fun w hS => x_move rfl rfl) (HBd.ok (.x 0)) ?_
    refine WH.taked (i := 6) (by kernel_rfl) rfl rfl rfl rfl (by kernel_rfl) (by kernel_rfl) (fun c f w h => noPanic h) (v := (.pointer (some (adr (cv) (m * 1))))) (fun w hS => x_index (i := m) rfl rfl (hS) rfl rfl (by omega)) (HBd.ok (.x 0)) ?_
    refine WH.taked (i := 7) (by kernel_rfl) rfl rfl rfl rfl (by kernel_rfl) (by kernel_rfl) (fun c f w h => noPanic h) (v := (.int .i64 ((m : Int)))) (fun w hS => x_load rfl rfl (by kernel_rfl) (RowOk.cell (hS) (ints_at (rg_at (by omega))))) (HBd.ok (.x 0)) ?_
    refine WH.oneCalld (i := 8) (by kernel_rfl) rfl rfl rfl rfl rfl rfl (runs_equalg (HBd.begG (LX0_g _ _)) (cong_mod _) hG1 (by omega) (by omega) (a := 0) (b := m) (by omega) (by omega) hmm (ne := 1) hne1 (by omega) hg1) ?_
    rintro _ w2 ⟨rfl, S2, rt2, us2, sg2, hG2, hg2, hne2, hab2, hmo2, K2⟩
    have HC := HBd.retS0 K2
    refine ⟨HC.ok (.x 0), ?_⟩
    refine WH.taked (i := 9) (by kernel_rfl) rfl rfl rfl rfl (by kernel_rfl) (by kernel_rfl) (fun c f w h => noPanic h) (v := (.tuple #[(.int .i64 (((1 : Nat) : Int))), (.int .i64 (0))])) (fun w hS => x_move rfl rfl) (HC.ok (.x 0)) ?_
    refine WH.taked (i := 10) (by kernel_rfl) rfl rfl rfl rfl (by kernel_rfl) (by kernel_rfl) (fun c f w h => noPanic h) (v := (.int .i64 (((1 : Nat) : Int)))) (fun w hS => x_extract rfl rfl rfl) (HC.ok (.x 0)) ?_
    refine WH.taked (i := 11) (by kernel_rfl) rfl rfl rfl rfl (by kernel_rfl) (by kernel_rfl) (fun c f w h => noPanic h) (v := (.int .i64 (0))) (fun w hS => x_extract rfl rfl rfl) (HC.ok (.x 0)) ?_
    refine WH.taked (i := 12) (by kernel_rfl) rfl rfl rfl rfl (by kernel_rfl) (by kernel_rfl) (fun c f w h => noPanic h) (v := (.int .i64 (((1 : Nat) : Int)))) (fun w hS => x_assign rfl rfl) (HC.ok (.x 0)) ?_
    refine WH.taked (i := 13) (by kernel_rfl) rfl rfl rfl rfl (by kernel_rfl) (by kernel_rfl) (fun c f w h => noPanic h) (v := (.int .i64 (0))) (fun w hS => x_assign rfl rfl) (HC.ok (.x 0)) ?_
    refine WH.done (by kernel_rfl) (WC.seq (WC.anyk 14 (fun u => (Ch.row cv (M + 1) 1 (ints (rg (M + 1)))).ok u) mixedP rfl ?_))
    have HCd := HC.drew
    refine WH.taked (i := 0) (by kernel_rfl) rfl rfl rfl rfl (by kernel_rfl) (by kernel_rfl) (fun c f w h => noPanic h) (v := (.pointer (some ⟨gb, 0, none⟩))) (fun w hS => x_move rfl rfl) (HCd.ok (.x 0)) ?_
    refine WH.taked (i := 1) (by kernel_rfl) rfl rfl rfl rfl (by kernel_rfl) (by kernel_rfl) (fun c f w h => noPanic h) (v := (cv)) (fun w hS => x_move rfl rfl) (HCd.ok (.x 0)) ?_
    refine WH.taked (i := 2) (by kernel_rfl) rfl rfl rfl rfl (by kernel_rfl) (by kernel_rfl) (fun c f w h => noPanic h) (v := (.int .i64 ((k : Int)))) (fun w hS => x_move rfl rfl) (HCd.ok (.x 0)) ?_
    refine WH.taked (i := 3) (by kernel_rfl) rfl rfl rfl rfl (by kernel_rfl) (by kernel_rfl) (fun c f w h => noPanic h) (v := (.pointer (some (adr (cv) (k * 1))))) (fun w hS => x_index (i := k) rfl rfl (hS) rfl rfl (by omega)) (HCd.ok (.x 0)) ?_
    refine WH.taked (i := 4) (by kernel_rfl) rfl rfl rfl rfl (by kernel_rfl) (by kernel_rfl) (fun c f w h => noPanic h) (v := (.int .i64 ((k : Int)))) (fun w hS => x_load rfl rfl (by kernel_rfl) (RowOk.cell (hS) (ints_at (rg_at (by omega))))) (HCd.ok (.x 0)) ?_
    refine WH.taked (i := 5) (by kernel_rfl) rfl rfl rfl rfl (by kernel_rfl) (by kernel_rfl) (fun c f w h => noPanic h) (v := (cv)) (fun w hS => x_move rfl rfl) (HCd.ok (.x 0)) ?_
    refine WH.taked (i := 6) (by kernel_rfl) rfl rfl rfl rfl (by kernel_rfl) (by kernel_rfl) (fun c f w h => noPanic h) (v := (.pointer (some (adr (cv) (0 * 1))))) (fun w hS => x_index (i := 0) rfl rfl (hS) rfl rfl (by omega)) (HCd.ok (.x 0)) ?_
    refine WH.taked (i := 7) (by kernel_rfl) rfl rfl rfl rfl (by kernel_rfl) (by kernel_rfl) (fun c f w h => noPanic h) (v := (.int .i64 (((0 : Nat) : Int)))) (fun w hS => x_load rfl rfl (by kernel_rfl) (RowOk.cell (hS) (ints_at (rg_at (by omega))))) (HCd.ok (.x 0)) ?_
    refine WH.oneCalld (i := 8) (by kernel_rfl) rfl rfl rfl rfl rfl rfl (runs_sameg (HCd.begG (LX0_g _ _)) hG2.chn.1 hG2.par (a := k) (b := 0) (by omega) (by omega) hg2) ?_
    rintro _ w3 ⟨rfl, K3⟩
    have HD := HCd.retS0 K3
    refine ⟨HD.ok (.x 0), ?_⟩
    refine WH.taked (i := 9) (by kernel_rfl) rfl rfl rfl rfl (by kernel_rfl) (by kernel_rfl) (fun c f w h => noPanic h) (v := (.tuple #[(.bool (decide (rt2 k = rt2 0))), (.int .i64 (0))])) (fun w hS => x_move rfl rfl) (HD.ok (.x 0)) ?_
    refine WH.taked (i := 10) (by kernel_rfl) rfl rfl rfl rfl (by kernel_rfl) (by kernel_rfl) (fun c f w h => noPanic h) (v := (.bool (decide (rt2 k = rt2 0)))) (fun w hS => x_extract rfl rfl rfl) (HD.ok (.x 0)) ?_
    refine WH.taked (i := 11) (by kernel_rfl) rfl rfl rfl rfl (by kernel_rfl) (by kernel_rfl) (fun c f w h => noPanic h) (v := (.int .i64 (0))) (fun w hS => x_extract rfl rfl rfl) (HD.ok (.x 0)) ?_
    refine WH.taked (i := 12) (by kernel_rfl) rfl rfl rfl rfl (by kernel_rfl) (by kernel_rfl) (fun c f w h => noPanic h) (v := (.bool (decide (rt2 k = rt2 0)))) (fun w hS => x_assign rfl rfl) (HD.ok (.x 0)) ?_
    refine WH.taked (i := 13) (by kernel_rfl) rfl rfl rfl rfl (by kernel_rfl) (by kernel_rfl) (fun c f w h => noPanic h) (v := (.int .i64 (0))) (fun w hS => x_assign rfl rfl) (HD.ok (.x 0)) ?_
    refine WH.done (by kernel_rfl) (WC.seq (WC.region ?_))
    have hlaw := law_gcd hG2.inv (by omega) (by omega) (by omega) (hmo2 _ _ hab1) hab2.symm hn1 (k := k)
    have HS := HD.bare hg2.2
    refine WL.vald rfl rfl rfl (v := (.int .i64 ((n : Int)))) (x_move rfl rfl) ?_
    refine WL.calld rfl rfl rfl rfl rfl (HS.meets Abs.meets_from (from_ans (i64_nat (by omega))) (repL1 (.int _ _))) ?_
    rintro v4 w4 ⟨s4, H4, q4⟩
    refine WL.vald rfl rfl rfl (v := (.int .i64 ((m : Int)))) (x_move rfl rfl) ?_
    refine WL.calld rfl rfl rfl rfl rfl (H4.meets Abs.meets_from (from_ans (i64_nat (by omega))) (repL1 (.int _ _))) ?_
    rintro v5 w5 ⟨s5, H5, q5⟩
    replace q4 := Rep.on0 q4 s5
    refine WL.calld rfl rfl rfl rfl rfl (H5.meets Abs.meets_gcd (gcd_ans (by omega) (by omega)) (repL2 q4 q5)) ?_
    rintro v6 w6 ⟨s6, H6, q6⟩
    obtain ⟨sl, rfl, hsl⟩ := rep_R q6
    refine WL.allocH H6.self (.x 0) rfl rfl rfl rfl rfl zero24 ?_
    intro w7 K7
    have H7 := H6.back K7
    have q7 := Rep.thru q6 K7
    refine WL.storeVH H7.self (l := .x 0) rfl rfl rfl rfl (k := 0) rfl (ys := [.bool (Abs.sg (Abs.gz (n : Int) (m : Int))), sl]) rfl (by kernel_rfl) (Nat.le_of_ble_eq_true rfl) (one_cons rfl (one_cons hsl one_nil)) ?_
    intro w8 K8
    have H8 := H7.back K8
    have q8 := Rep.thru q7 K8
    refine WL.nil (WC.seq (WC.anyk 13 (fun u => (Ch.var w6.heap.size [.bool (Abs.sg (Abs.gz (n : Int) (m : Int))), sl]).ok u) mixedP rfl ?_))
    have H8d := H8.drew
    have hv8 : (Ch.var w6.heap.size [.bool (Abs.sg (Abs.gz (n : Int) (m : Int))), sl]).ok w8.drew := H8d.ok (.x 0)
    have q8d := Rep.drew q8
    refine WH.taked (i := 0) (by kernel_rfl) rfl rfl rfl rfl (by kernel_rfl) (by kernel_rfl) (fun c f w h => noPanic h) (v := (.int .i64 ((k : Int)))) (fun w hS => x_move rfl rfl) hv8 ?_
    refine WH.taked (i := 2) (by kernel_rfl) rfl rfl rfl rfl (by kernel_rfl) (by kernel_rfl) (fun c f w h => noPanic h) (v := (.agg (List.toArray [.bool (Abs.sg (Abs.gz (n : Int) (m : Int))), sl]))) (fun w hS => x_loadS rfl rfl (by kernel_rfl) (vs := [.bool (Abs.sg (Abs.gz (n : Int) (m : Int))), sl]) (by kernel_rfl) (var_cells hS)) hv8 ?_
    refine WH.allocs (JD w (fun b => b = 0) tb w6.heap.size [.bool (Abs.sg (Abs.gz (n : Int) (m : Int))), sl] (k : Int) (Abs.gz (n : Int) (m : Int)) [(129, .int .i64 (k : Int)), (9, .int .i64 0), (14, .int .i64 0), (16, .int .i64 0), (17, .bool (decide (rt2 k = rt2 0))), (18, .int .i64 0)]) 3 rfl (by kernel_rfl) ?_ ?_ ?_ ?_ ?_ ?_ ?_
    · intro a b f wz hJ
      obtain ⟨L, H, hk⟩ := hJ.c1 rfl
      have hr : Runs P 4 [f 129] wz (fun v w' => Stp wz w' none ∧ Hp w (fun b => b = 0) w' L ∧ Rep (Free w' L) w' (R (k : Int)) v) := by rw [hJ.keep.1]; exact H.meets Abs.meets_from (from_ans (i64_nat (by omega))) (repL1 (.int _ _))
      exact WOp.call rfl rfl rfl rfl rfl rfl hr (fun v w' hv => hk w' v hv.1 hv.2.2)
    · intro a b f wz hJ
      obtain ⟨L, H, r1, r2, hk⟩ := hJ.c3 rfl
      exact WOp.call rfl rfl rfl rfl rfl rfl (H.meets Abs.meets_div (div_ans hn1 (by omega) (by omega)) (repL2 r1 r2)) (fun v w' hv => hk w' v hv.1 hv.2.2)
    · intro a b f wz j hJ hK
      obtain ⟨q, r, e1, hS, hJ3⟩ := hJ.t4 rfl
      cases a <;> cases b <;>
      (refine WH.taked (i := 4) (by kernel_rfl) rfl rfl rfl rfl (by kernel_rfl) (by kernel_rfl) (fun c f w h => noPanic h) (v := (.tuple #[q, r, .int .i64 (Abs.dc (Abs.gz (n : Int) (m : Int)))])) (fun w hS => x_move (x := .tmp 132) rfl e1) hS ?_;
       refine WH.taked (i := 5) (by kernel_rfl) rfl rfl rfl rfl (by kernel_rfl) (by kernel_rfl) (fun c f w h => noPanic h) (v := q) (fun w hS => x_extract rfl rfl rfl) hS ?_;
       refine WH.taked (i := 6) (by kernel_rfl) rfl rfl rfl rfl (by kernel_rfl) (by kernel_rfl) (fun c f w h => noPanic h) (v := r) (fun w hS => x_extract rfl rfl rfl) hS ?_;
       refine WH.taked (i := 7) (by kernel_rfl) rfl rfl rfl rfl (by kernel_rfl) (by kernel_rfl) (fun c f w h => noPanic h) (v := .int .i64 (Abs.dc (Abs.gz (n : Int) (m : Int)))) (fun w hS => x_extract rfl rfl rfl) hS ?_;
       exact hK _ hJ3)
    · intro p b f wz hJ
      obtain ⟨L, hx, H, hk⟩ := hJ.a8 rfl
      exact WOp.alloc rfl rfl rfl rfl rfl H hx (fun w' K => hk w' _ _ K)
    · intro p a f wz hJ
      obtain ⟨L, hx, H, hk⟩ := hJ.a9 rfl
      exact WOp.alloc rfl rfl rfl rfl rfl H hx (fun w' K => hk w' _ _ K)
    · intro f w9 hJ
      obtain ⟨L, b8, b9, u8, v8, u9, v9, q, r, H9, hT, hL0, hL1, hL2, rq, rr, hF⟩ := hJ.fin
      obtain ⟨s1, rfl, o1⟩ := rep_R rq
      obtain ⟨s2, rfl, o2⟩ := rep_R rr
      rw [dc_nat hn1] at hF
      obtain ⟨F, rfl⟩ := hF.ex
      clear hF hJ
      refine WH.storeVH (i := 10) H9 hL1 (by kernel_rfl) rfl rfl rfl rfl (k := 0) rfl (ys := [.bool (Abs.sg (Abs.dq (k : Int) (Abs.gz (n : Int) (m : Int)))), s1]) rfl (by kernel_rfl) (Nat.le_of_ble_eq_true rfl) (one_cons rfl (one_cons o1 one_nil)) ?_
      intro w10 K10
      have H10 := H9.back K10
      have r10 := Rep.thru rr K10
      refine ⟨by have := H10.ok (.x 0); rw [upd_ne _ _ (by simp), hL0] at this; exact this, ?_⟩
      have hL2b : upd L (.x 1) (.var b8 (([u8, v8] : List Value).take 0 ++ ([.bool (Abs.sg (Abs.dq (k : Int) (Abs.gz (n : Int) (m : Int)))), s1] ++ ([u8, v8] : List Value).drop (0 + [Value.bool (Abs.sg (Abs.dq (k : Int) (Abs.gz (n : Int) (m : Int)))), s1].length)))) (.x 2) = .var b9 [u9, v9] := hL2
      refine WH.storeVH (i := 11) H10 hL2b (by kernel_rfl) rfl rfl rfl rfl (k := 0) rfl (ys := [.bool (Abs.sg (Abs.dr (k : Int) (Abs.gz (n : Int) (m : Int)))), s2]) rfl (by kernel_rfl) (Nat.le_of_ble_eq_true rfl) (one_cons rfl (one_cons o2 one_nil)) ?_
      intro w11 K11
      have H11 := H10.back K11
      have r11 := Rep.thru r10 K11
      have hx0 : (Ch.var w6.heap.size [.bool (Abs.sg (Abs.gz (n : Int) (m : Int))), sl]).ok w11 := by have := H11.ok (.x 0); rw [upd_ne _ _ (by simp), upd_ne _ _ (by simp), hL0] at this; exact this
      refine ⟨hx0, ?_⟩
      have hv9 : (Ch.var b9 [.bool (Abs.sg (Abs.dr (k : Int) (Abs.gz (n : Int) (m : Int)))), s2]).ok w11 := H11.ok (.x 2)
      refine WH.taked (i := 12) (by kernel_rfl) rfl rfl rfl rfl (by kernel_rfl) (by kernel_rfl) (fun c f w h => noPanic h) (v := (.int .i64 (0))) (fun w hS => x_assign rfl rfl) hx0 ?_
      refine WH.done (by kernel_rfl) (WC.seq (WC.region ?_))
      refine WL.vald rfl rfl rfl (v := (.int .i64 (0))) (x_move rfl rfl) ?_
      refine WL.vald rfl rfl rfl (v := (.bool (true))) (x_arithb (z := true) rfl rfl rfl rfl (rfl)) ?_
      refine WL.vald rfl rfl rfl (v := (.bool (true))) (x_move rfl rfl) ?_
      refine WL.gvald rfl rfl rfl rfl rfl rfl (v := (.int .i64 (0))) (x_move rfl rfl) ?_
      refine WL.gvald rfl rfl rfl rfl rfl rfl (v := (.bool (true))) (x_arithb (z := true) rfl rfl rfl rfl (rfl)) ?_
      refine WL.vald rfl rfl rfl (v := (.bool (true))) (x_pick rfl rfl rfl) ?_
      refine WL.vald rfl rfl rfl (v := (.bool (true))) (x_move rfl rfl) ?_
      refine WL.gvald rfl rfl rfl rfl rfl rfl (v := (.int .i64 (0))) (x_move rfl rfl) ?_
      refine WL.gvald rfl rfl rfl rfl rfl rfl (v := (.bool (true))) (x_arithb (z := true) rfl rfl rfl rfl (rfl)) ?_
      refine WL.vald rfl rfl rfl (v := (.bool (true))) (x_pick rfl rfl rfl) ?_
      refine WL.vald rfl rfl rfl (v := (.bool (true))) (x_move rfl rfl) ?_
      refine WL.gvald rfl rfl rfl rfl rfl rfl (v := (.int .i64 (0))) (x_move rfl rfl) ?_
      refine WL.gvald rfl rfl rfl rfl rfl rfl (v := (.bool (true))) (x_arithb (z := true) rfl rfl rfl rfl (rfl)) ?_
      refine WL.vald rfl rfl rfl (v := (.bool (true))) (x_pick rfl rfl rfl) ?_
      refine WL.vald rfl rfl rfl (v := (.bool (true))) (x_move rfl rfl) ?_
      refine WL.gvald rfl rfl rfl rfl rfl rfl (v := (.int .i64 (0))) (x_move rfl rfl) ?_
      refine WL.gvald rfl rfl rfl rfl rfl rfl (v := (.bool (true))) (x_arithb (z := true) rfl rfl rfl rfl (rfl)) ?_
      refine WL.vald rfl rfl rfl (v := (.bool (true))) (x_pick rfl rfl rfl) ?_
      refine WL.vald rfl rfl rfl (v := (.bool (true))) (x_move rfl rfl) ?_
      refine WL.gvald rfl rfl rfl rfl rfl rfl (v := (.bool (decide (rt2 k = rt2 0)))) (x_move rfl rfl) ?_
      refine WL.gvald rfl rfl rfl rfl rfl rfl (v := (.agg (List.toArray [.bool (Abs.sg (Abs.dr (k : Int) (Abs.gz (n : Int) (m : Int)))), s2]))) (x_loadS rfl rfl (by kernel_rfl) (vs := [.bool (Abs.sg (Abs.dr (k : Int) (Abs.gz (n : Int) (m : Int)))), s2]) (by kernel_rfl) (var_cells hv9)) ?_
      refine WL.gcalld rfl rfl rfl rfl rfl rfl rfl rfl (H11.meets Abs.meets_sign (sign_ans hn1 (by omega)) (repL1 r11)) ?_
      rintro v12 w12 ⟨s12, H12, q12⟩
      obtain rfl := rep_int q12
      refine WL.gvald rfl rfl rfl rfl rfl rfl (v := (.bool ((Abs.cmpZ (Abs.dr (k : Int) (Abs.gz (n : Int) (m : Int))) 0) == (0)))) (x_arith (a := Abs.cmpZ (Abs.dr (k : Int) (Abs.gz (n : Int) (m : Int))) 0) (b := 0) rfl rfl rfl (av := .bool ((Abs.cmpZ (Abs.dr (k : Int) (Abs.gz (n : Int) (m : Int))) 0) == (0))) rfl) ?_
      refine WL.gvald rfl rfl rfl rfl rfl rfl (v := (.bool (true))) (x_beq (by kernel_rfl) rfl rfl rfl hlaw) ?_
      refine WL.vald rfl rfl rfl (v := (.bool (true))) (x_pick rfl rfl rfl) ?_
      refine WL.vald rfl rfl rfl (v := (.bool (true))) (x_assign rfl rfl) ?_
      exact WL.nil (WC.ret ⟨.inr rfl, [.bool true], rfl, rfl, H12.fresh h0 hT⟩)
    · exact ⟨⟨_, H8d, rfl, rfl, (fun h => by cases h), fun _ => rfl, (fun h => by cases h), fun _ => rfl, q8d, (fun h => by omega), (fun h => by omega)⟩, ⟨rfl, rfl, rfl, rfl, rfl, rfl, trivial⟩⟩
end Go.Gr
end
