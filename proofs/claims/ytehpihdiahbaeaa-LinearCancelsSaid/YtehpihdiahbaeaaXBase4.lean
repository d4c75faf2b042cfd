/- What the rows of this seat rest on, part 4: an abstract machine for the model, proved sound, and the functions that the statements reach. No conditions. -/
import Derived.Test.YtehpihdiahbaeaaXBase3
set_option linter.unusedVariables false
set_option linter.unusedSimpArgs false
set_option linter.unnecessarySimpa false
set_option linter.unusedSectionVars false
section
/- What arith.digit answers. -/
namespace Go.Abs
open Go.Proofs Go.Dig
namespace Digit
/-- What is asked of the row, the divisor and the place. -/
structure Pre (u v : List Int) (j n : Nat) : Prop where
  ou : okB 4294967296 u = true
  ov : okB 4294967296 v = true
  lu : u.length ≤ 100000
  hn : v.length = n + 2
  hj : j + (n + 3) ≤ u.length
  top : 2147483648 ≤ v.getD (n + 1) 0
  lt : val 4294967296 (seg u j (n + 3)) < 4294967296 * val 4294967296 v
abbrev U (u : List Int) (j n : Nat) : Int := val 4294967296 (seg u j (n + 3))
abbrev V (v : List Int) : Int := val 4294967296 v
abbrev tp (u : List Int) (j n : Nat) : Int := u.getD (j + (n + 2)) 0 * 4294967296 + u.getD (j + (n + 1)) 0
section
variable {u v : List Int} {j n : Nat}
theorem Pre.V_eq (h : Pre u v j n) : V v = val 4294967296 (v.take n) + 4294967296 ^ n * (v.getD n 0 + 4294967296 * v.getD (n + 1) 0) := val_top2 _ _ h.hn
theorem Pre.U_eq (h : Pre u v j n) : U u j n = val 4294967296 ((seg u j (n + 3)).take n) + 4294967296 ^ n * (u.getD (j + n) 0 + 4294967296 * tp u j n) := by
  unfold U tp
  rw [val_top3 4294967296 (seg u j (n + 3)) (seg_length h.hj), seg_getD u (by omega : n < n + 3), seg_getD u (by omega : n + 1 < n + 3), seg_getD u (by omega : n + 2 < n + 3)]
theorem Pre.V_lo (h : Pre u v j n) : 0 ≤ val 4294967296 (v.take n) ∧ val 4294967296 (v.take n) < 4294967296 ^ n := by
  have h1 := val_lt W_pos (okB_take h.ov n)
  rw [List.length_take, Nat.min_eq_left (by have := h.hn; omega)] at h1
  exact ⟨val_nonneg W_pos (okB_take h.ov n), h1⟩
theorem Pre.U_lo (h : Pre u v j n) : 0 ≤ val 4294967296 ((seg u j (n + 3)).take n) ∧ val 4294967296 ((seg u j (n + 3)).take n) < 4294967296 ^ n := by
  have ok := okB_take (okB_seg h.ou j (n + 3)) n
  have h1 := val_lt W_pos ok
  rw [List.length_take, seg_length h.hj, Nat.min_eq_left (by omega)] at h1
  exact ⟨val_nonneg W_pos ok, h1⟩
theorem pow_pos1 (n : Nat) : (1 : Int) ≤ 4294967296 ^ n := by
  have : (0 : Int) < 4294967296 ^ n := Int.pow_pos (by decide)
  omega
theorem Pre.V_pos (h : Pre u v j n) : 0 < V v := by
  rw [h.V_eq]
  have h1 := h.V_lo.1
  have h2 := h.top
  have h3 := (getD_ok W_pos h.ov n).1
  have := Int.mul_pos (show (0 : Int) < 4294967296 ^ n by have := pow_pos1 n; omega) (show 0 < v.getD n 0 + 4294967296 * v.getD (n + 1) 0 by omega)
  omega
theorem Pre.q_le (h : Pre u v j n) : 0 ≤ U u j n / V v ∧ U u j n / V v * V v ≤ U u j n ∧ U u j n < (U u j n / V v + 1) * V v := by
  have h0 : 0 ≤ U u j n := val_nonneg W_pos (okB_seg h.ou _ _)
  have h1 := h.V_pos
  refine ⟨Int.ediv_nonneg h0 (by omega), Int.ediv_mul_le _ (by omega), ?_⟩
  exact Int.lt_mul_of_ediv_lt h1 (by omega)
theorem Pre.q_lt (h : Pre u v j n) : U u j n / V v < 4294967296 := Int.ediv_lt_of_lt_mul h.V_pos h.lt
/-- The guess as it goes down. -/
def InvG (u v : List Int) (j n : Nat) (g r : Int) : Prop :=
  0 ≤ g ∧ g ≤ 4294967297 ∧ g * v.getD (n + 1) 0 + r = tp u j n ∧ 0 ≤ r ∧ r < 4294967296 ∧ U u j n / V v ≤ g
def PostG (u v : List Int) (j n : Nat) (g : Int) : Prop := 0 ≤ g ∧ g < 4294967296 ∧ U u j n / V v ≤ g ∧ g * V v < U u j n + V v
theorem Pre.dec (h : Pre u v j n) {g r : Int} (hI : InvG u v j n g r) (hg : U u j n / V v ≤ g - 1) :
    (r + v.getD (n + 1) 0 < 4294967296 → InvG u v j n (g - 1) (r + v.getD (n + 1) 0)) ∧ (4294967296 ≤ r + v.getD (n + 1) 0 → PostG u v j n (g - 1)) := by
  obtain ⟨g0, g1, g2, g3, g4, g5⟩ := hI
  have ht := h.top
  have hv1 := getD_ok W_pos h.ov (n + 1)
  have e : (g - 1) * v.getD (n + 1) 0 + (r + v.getD (n + 1) 0) = tp u j n := by rw [Int.sub_mul, Int.one_mul]; omega
  have hq := h.q_le.1
  refine ⟨fun hr => ⟨by omega, by omega, e, by omega, hr, hg⟩, fun hr => ?_⟩
  have hle := KnuthD.le_break (pow_pos1 n) W_pos (show 0 ≤ g - 1 by omega) (by omega) e hr h.V_eq h.V_lo.2 (getD_ok W_pos h.ov n).2 h.U_eq h.U_lo.1 (getD_ok W_pos h.ou (j + n)).1
  have hV := h.V_pos
  refine ⟨by omega, ?_, hg, by omega⟩
  refine Int.not_le.1 (fun hge => ?_)
  have h1 : 4294967296 * V v ≤ (g - 1) * V v := Int.mul_le_mul_of_nonneg_right hge (by omega)
  have h2 : U u j n < 4294967296 * V v := h.lt
  omega
theorem Pre.ix (h : Pre u v j n) : IntKind.i64.wrap ((j : Int) + ((n + 2 : Nat) : Int)) = ((j + (n + 2) : Nat) : Int) ∧ IntKind.i64.wrap (((j + (n + 2) : Nat) : Int) - 1) = ((j + (n + 1) : Nat) : Int) ∧ IntKind.i64.wrap (((j + (n + 2) : Nat) : Int) - 2) = ((j + n : Nat) : Int) ∧ IntKind.i64.wrap (((n + 2 : Nat) : Int) - 1) = ((n + 1 : Nat) : Int) ∧ IntKind.i64.wrap (((n + 2 : Nat) : Int) - 2) = (n : Int) := by
  have h1 := h.hj
  have h2 := h.lu
  refine ⟨?_, ?_, ?_, ?_, ?_⟩ <;> rw [w64 (by omega) (by omega)] <;> omega
theorem guess (h : Pre u v j n) (g r : Int) (hI : InvG u v j n g r) :
    ∃ e S1, Ends T orc L0 D0 (st0 v j (n + 2 : Nat) u g r) e S1 ∧ (e = .exit 0 ∧ ∃ g r, S1 = st0 v j (n + 2 : Nat) u g r ∧ PostG u v j n g) := by
  refine loop_inv2 (fun g r => st0 v j (n + 2 : Nat) u g r) (fun g r => InvG u v j n g r) (fun g r => g.toNat)
    (fun e S1 => e = .exit 0 ∧ ∃ g r, S1 = st0 v j (n + 2 : Nat) u g r ∧ PostG u v j n g) isL0 ?_ g r hI
  intro g r hI
  obtain ⟨g0, g1, g2, g3, g4, g5⟩ := id hI
  have hq := h.q_le.1
  have hql := h.q_lt
  have hv1 := getD_ok W_pos h.ov (n + 1)
  have hv2 := getD_ok W_pos h.ov n
  have hu2 := getD_ok W_pos h.ou (j + n)
  have ht := h.top
  have hn := h.hn
  have hj := h.hj
  obtain ⟨i1, i2, i3, i4, i5⟩ := h.ix
  have hA := KnuthD.ge_first (pow_pos1 n) W_pos hq h.q_le.2.1 h.V_eq h.V_lo.1 h.U_eq h.U_lo.2
  refine ⟨noTab, noTab_all, lands_of (round0 ..) ?_⟩
  have eo : IntKind.u64.wrap ((BitVec.ofInt 64 (IntKind.u64.wrap (r * 2 ^ 32)) ||| BitVec.ofInt 64 (IntKind.u64.wrap (rd u ((j + n : Nat) : Int)))).toNat : Int) = r * 4294967296 + u.getD (j + n) 0 := by
    rw [rd_toNat, Int.toNat_natCast, wu64 hu2.1 (by omega), wu64 (n := r * 2 ^ 32) (by omega) (by omega), or64' 32 hu2.1 (by omega) ⟨r, g3, by rw [Int.mul_comm]⟩ (by omega)]
    omega
  have e1 : IntKind.u64.wrap (rd v ((n + 1 : Nat) : Int)) = v.getD (n + 1) 0 := by rw [rd_toNat, Int.toNat_natCast, wu64 hv1.1 (by omega)]
  have e2 : IntKind.u64.wrap (rd v (n : Int)) = v.getD n 0 := by rw [rd_toNat, Int.toNat_natCast, wu64 hv2.1 (by omega)]
  simp only [lands_bif, lands_some, lands_none, Turns1, Turns2, Turns3, Turns4, Turns5, Turns6, Turns7, Turns8, eq_bif, Option.some.injEq, reduceCtorEq, cond_true, cond_false, Bool.eq_false_iff, ne_eq, inB_iff, decide_eq_true_eq, Bool.and_eq_true, Bool.or_eq_true, Bool.not_eq_true', beq_iff_eq, bne_iff_ne, true_and, and_true, true_implies, implies_true, not_true_eq_false, not_false_eq_true, false_implies, few_iff, i1, i2, i3, i4, i5, eo, e1, e2]
  have er : IntKind.u64.wrap (r + v.getD (n + 1) 0) = r + v.getD (n + 1) 0 := wu64 (by omega) (by omega)
  rw [er]
  have down : U u j n / V v ≤ g - 1 → (4294967296 ≤ r + v.getD (n + 1) 0 → ∃ g1 r1, st0 v j (n + 2 : Nat) u (IntKind.u64.wrap (g - 1)) (r + v.getD (n + 1) 0) = st0 v j (n + 2 : Nat) u g1 r1 ∧ PostG u v j n g1) ∧ (¬ 4294967296 ≤ r + v.getD (n + 1) 0 → ∃ u0 u1, st0 v j (n + 2 : Nat) u (IntKind.u64.wrap (g - 1)) (r + v.getD (n + 1) 0) = st0 v j (n + 2 : Nat) u u0 u1 ∧ InvG u v j n u0 u1 ∧ u0.toNat < g.toNat) := by
    intro hd
    obtain ⟨d1, d2⟩ := h.dec hI hd
    rw [wu64 (n := g - 1) (by omega) (by omega)]
    exact ⟨fun hr => ⟨_, _, rfl, d2 hr⟩, fun hr => ⟨_, _, rfl, d1 (by omega), by omega⟩⟩
  refine ⟨fun hg => ⟨fun _ => ?_, fun hx => hx (by omega)⟩, fun hg => ⟨fun _ => ⟨fun _ => ⟨fun hc => ⟨fun _ => ?_, fun hx => hx (by omega)⟩, fun hc => ?_⟩, fun hx => hx (by omega)⟩, fun hx => hx (by omega)⟩⟩
  · exact down (by omega)
  · have hm := mul_lt_W ⟨g0, by omega⟩ hv2
    rw [wu64 hm.1 (by omega)] at hc
    exact down (KnuthD.ge_step W_pos (by omega) hv2.1 g2 hc hA)
  · have hm := mul_lt_W ⟨g0, by omega⟩ hv2
    rw [wu64 hm.1 (by omega)] at hc
    refine ⟨_, _, rfl, g0, by omega, g5, ?_⟩
    exact KnuthD.le_exit (pow_pos1 n) W_pos g0 (by omega) g2 (by omega) (by omega) hv2.1 h.V_eq h.V_lo.1 h.V_lo.2 h.U_eq h.U_lo.1
/-- The row while it is made less. -/
def InvS (u v : List Int) (j n : Nat) (g : Int) (c b : Int) (i : Nat) (l : List Int) : Prop :=
  i ≤ n + 2 ∧ l.length = u.length ∧ okB 4294967296 l = true ∧ l.take j = u.take j ∧ l.drop (j + (n + 3)) = u.drop (j + (n + 3)) ∧ 0 ≤ c ∧ c < 4294967296 ∧ 0 ≤ b ∧ b ≤ 1 ∧
  val 4294967296 l = val 4294967296 u - 4294967296 ^ j * (g * val 4294967296 (v.take i)) + 4294967296 ^ (i + j) * (c + b)
theorem step_sub (A Q P L g w c b x y d c' b' lo Pk : Int) (h : L = A - Q * (g * w) + P * (c + b)) (hP : P = Q * Pk) (hlo : c + g * y = lo + 4294967296 * c') (hd : x - lo - b = d - 4294967296 * b') :
    L + P * (d - x) = A - Q * (g * (w + Pk * y)) + P * 4294967296 * (c' + b') := by
  have : d = x - lo - b + 4294967296 * b' := by omega
  have h2 : lo = c + g * y - 4294967296 * c' := by omega
  subst this
  subst h2
  subst hP
  grind
theorem set_same {l : List Int} {i m : Nat} {d : Int} (j : Nat) (h1 : j ≤ i) (h2 : i < j + m) : (l.set i d).take j = l.take j ∧ (l.set i d).drop (j + m) = l.drop (j + m) :=
  ⟨List.take_set_of_le h1, List.drop_set_of_lt h2⟩
theorem subLoop (h : Pre u v j n) (g r : Int) (hg : 0 ≤ g ∧ g < 4294967296) :
    ∃ e S1, Ends T orc L1 D1 (st1 v j (n + 2 : Nat) u g r 0 0 0 u) e S1 ∧ (e = .exit 2 ∧ ∃ c b x l, S1 = st1 v j (n + 2 : Nat) u g r c b x l ∧ InvS u v j n g c b (n + 2) l) := by
  refine loop_inv4 (fun c b (i : Nat) l => st1 v j (n + 2 : Nat) u g r c b i l) (fun c b i l => InvS u v j n g c b i l) (fun c b i l => n + 2 - i)
    (fun e S1 => e = .exit 2 ∧ ∃ c b x l, S1 = st1 v j (n + 2 : Nat) u g r c b x l ∧ InvS u v j n g c b (n + 2) l) isL1 ?_ 0 0 0 u ?_
  · intro c b i l hI
    obtain ⟨h1, h2, h3, h4, h5, h6, h7, h8, h9, h10⟩ := id hI
    have hn := h.hn
    have hj := h.hj
    have hlu := h.lu
    have hx := getD_ok W_pos h3 (i + j)
    have hy := getD_ok W_pos h.ov i
    have hp := mul_lt_W hg hy
    have ei : IntKind.i64.wrap ((i : Int) + (j : Int)) = ((i + j : Nat) : Int) := by rw [w64 (by omega) (by omega)]; omega
    refine ⟨noTab, noTab_all, lands_of (round1 ..) ?_⟩
    have e1 : IntKind.u64.wrap (c + IntKind.u64.wrap (g * IntKind.u64.wrap (rd v (i : Int)))) = c + g * v.getD i 0 := by
      rw [rd_toNat, Int.toNat_natCast, wu64 hy.1 (by omega), wu64 hp.1 (by omega), wu64 (by omega) (by omega)]
    rw [e1, ei]
    obtain ⟨t, ht⟩ : ∃ t, c + g * v.getD i 0 = t := ⟨_, rfl⟩
    rw [ht]
    simp only [lands_bif, lands_some, lands_none, Turns1, Turns2, Turns3, Turns4, Turns5, Turns6, Turns7, Turns8, eq_bif, Option.some.injEq, reduceCtorEq, cond_true, cond_false, Bool.eq_false_iff, ne_eq, inB_iff, decide_eq_true_eq, Bool.and_eq_true, Bool.or_eq_true, Bool.not_eq_true', beq_iff_eq, bne_iff_ne, true_and, and_true, true_implies, implies_true, not_true_eq_false, not_false_eq_true, false_implies, few_iff, LessMag.b2i_lt, wi_succ (show i < 4611686018427387904 by omega)]
    simp only [rd_toNat, Int.toNat_natCast, fdiv32, wu32_mod]
    repeat' (first | apply And.intro | intro _)
    all_goals try omega
    · obtain ⟨k1, k2⟩ := set_same (l := l) (d := (l.getD (i + j) 0 - t % 4294967296 - b) % 4294967296) j (show j ≤ i + j by omega) (show i + j < j + (n + 3) by omega)
      refine ⟨_, _, i + 1, _, rfl, ⟨by omega, by rw [List.length_set]; exact h2, okB_set h3 (by omega), k1.trans h4, k2.trans h5, by omega, by omega, by split <;> omega, by split <;> omega, ?_⟩, by omega⟩
      rw [val_set _ _ _ _ (by omega), val_take_succ, show i + 1 + j = i + j + 1 by omega, Int.pow_succ]
      exact step_sub _ _ _ _ _ _ _ _ _ _ _ _ _ (t % 4294967296) (4294967296 ^ i) h10 (by rw [Int.pow_add, Int.mul_comm]) (by omega) (by split <;> omega)
    · obtain rfl : i = n + 2 := by omega
      exact ⟨_, _, _, _, rfl, hI⟩
  · exact ⟨by omega, rfl, h.ou, rfl, rfl, by omega, by omega, by omega, by omega, by simp [val]⟩
/-- The row while the divisor is put back. -/
def InvA (u v : List Int) (j n : Nat) (A : Int) (b : Int) (i : Nat) (l : List Int) : Prop :=
  i ≤ n + 2 ∧ l.length = u.length ∧ okB 4294967296 l = true ∧ l.take j = u.take j ∧ l.drop (j + (n + 3)) = u.drop (j + (n + 3)) ∧ 0 ≤ b ∧ b ≤ 1 ∧
  val 4294967296 l = A + 4294967296 ^ j * val 4294967296 (v.take i) - 4294967296 ^ (i + j) * b
theorem step_add (A Q P L w b x y d b' Pk : Int) (h : L = A + Q * w - P * b) (hP : P = Q * Pk) (hd : x + y + b = d + 4294967296 * b') :
    L + P * (d - x) = A + Q * (w + Pk * y) - P * 4294967296 * b' := by
  have : d = x + y + b - 4294967296 * b' := by omega
  subst this
  subst hP
  grind
theorem b2i_le (x y : Int) : b2i (decide (x ≤ y)) = if x ≤ y then 1 else 0 := by
  unfold b2i; by_cases h : x ≤ y <;> simp [h]
theorem addLoop (h : Pre u v j n) (x2 x3 x7 x8 x9 : Int) (l1 l2 : List Int) (A : Int) (hl : l2.length = u.length) (ol : okB 4294967296 l2 = true) (ht : l2.take j = u.take j) (hd : l2.drop (j + (n + 3)) = u.drop (j + (n + 3))) (hA : val 4294967296 l2 = A) :
    ∃ e S1, Ends T orc L2 D2 (st2 v j (n + 2 : Nat) u x2 x3 x7 l1 x8 0 x9 0 l2) e S1 ∧ (e = .exit 4 ∧ ∃ b x l, S1 = st2 v j (n + 2 : Nat) u x2 x3 x7 l1 x8 b x9 x l ∧ InvA u v j n A b (n + 2) l) := by
  refine loop_inv3 (fun b (i : Nat) l => st2 v j (n + 2 : Nat) u x2 x3 x7 l1 x8 b x9 i l) (fun b i l => InvA u v j n A b i l) (fun b i l => n + 2 - i)
    (fun e S1 => e = .exit 4 ∧ ∃ b x l, S1 = st2 v j (n + 2 : Nat) u x2 x3 x7 l1 x8 b x9 x l ∧ InvA u v j n A b (n + 2) l) isL2 ?_ 0 0 l2 ?_
  · intro b i l hI
    obtain ⟨h1, h2, h3, h4, h5, h6, h7, h8⟩ := id hI
    have hn := h.hn
    have hj := h.hj
    have hlu := h.lu
    have hx := getD_ok W_pos h3 (i + j)
    have hy := getD_ok W_pos h.ov i
    have ei : IntKind.i64.wrap ((i : Int) + (j : Int)) = ((i + j : Nat) : Int) := by rw [w64 (by omega) (by omega)]; omega
    refine ⟨noTab, noTab_all, lands_of (round2 ..) ?_⟩
    rw [ei]
    simp only [lands_bif, lands_some, lands_none, Turns1, Turns2, Turns3, Turns4, Turns5, Turns6, Turns7, Turns8, eq_bif, Option.some.injEq, reduceCtorEq, cond_true, cond_false, Bool.eq_false_iff, ne_eq, inB_iff, decide_eq_true_eq, Bool.and_eq_true, Bool.or_eq_true, Bool.not_eq_true', beq_iff_eq, bne_iff_ne, true_and, and_true, true_implies, implies_true, not_true_eq_false, not_false_eq_true, false_implies, few_iff, b2i_le, wi_succ (show i < 4611686018427387904 by omega)]
    simp only [rd_toNat, Int.toNat_natCast]
    repeat' (first | apply And.intro | intro _)
    all_goals try omega
    · obtain ⟨k1, k2⟩ := set_same (l := l) (d := (l.getD (i + j) 0 + v.getD i 0 + b) % 4294967296) j (show j ≤ i + j by omega) (show i + j < j + (n + 3) by omega)
      refine ⟨_, i + 1, _, rfl, ⟨by omega, by rw [List.length_set]; exact h2, okB_set h3 (by omega), k1.trans h4, k2.trans h5, by split <;> omega, by split <;> omega, ?_⟩, by omega⟩
      rw [val_set _ _ _ _ (by omega), val_take_succ, show i + 1 + j = i + j + 1 by omega, Int.pow_succ]
      exact step_add _ _ _ _ _ _ _ _ _ _ (4294967296 ^ i) h8 (by rw [Int.pow_add, Int.mul_comm]) (by split <;> omega)
    · obtain rfl : i = n + 2 := by omega
      exact ⟨_, _, _, rfl, hI⟩
  · exact ⟨by omega, hl, ol, ht, hd, by omega, by omega, by simp [val, hA]⟩
theorem Pre.pre_j (h : Pre u v j n) : (0 : Int) < 4294967296 ^ j := Int.pow_pos (by decide)
/-- What a row that differs in the segment alone comes to. -/
theorem Pre.seg_of (h : Pre u v j n) {l : List Int} (hl : l.length = u.length) (ht : l.take j = u.take j) (hd : l.drop (j + (n + 3)) = u.drop (j + (n + 3))) {x : Int} (hx : val 4294967296 l = val 4294967296 u + 4294967296 ^ j * x) : val 4294967296 (seg l j (n + 3)) = U u j n + x := by
  have h1 : val 4294967296 u = val 4294967296 (u.take j) + 4294967296 ^ j * U u j n + 4294967296 ^ (j + (n + 3)) * val 4294967296 (u.drop (j + (n + 3))) := seg_val 4294967296 u j (n + 3) h.hj
  have h2 := seg_val 4294967296 l j (n + 3) (by have := h.hj; omega)
  rw [ht, hd] at h2
  have h3 : 4294967296 ^ j * val 4294967296 (seg l j (n + 3)) = 4294967296 ^ j * (U u j n + x) := by
    rw [Int.mul_add]; omega
  exact Int.eq_of_mul_eq_mul_left (by have := h.pre_j; omega) h3
theorem Pre.row (h : Pre u v j n) {l : List Int} (hl : l.length = u.length) (ol : okB 4294967296 l = true) (ht : l.take j = u.take j) (hd : l.drop (j + (n + 3)) = u.drop (j + (n + 3))) (hs : val 4294967296 (seg l j (n + 3)) = U u j n % V v) : l = digU u v j := by
  have hV := h.V_pos
  have hn := h.hn
  have hj := h.hj
  have e : l = l.take j ++ (seg l j (n + 3) ++ l.drop (j + (n + 3))) := by
    unfold seg
    rw [← List.drop_drop, List.take_append_drop, List.take_append_drop]
  rw [e, ht, hd]
  unfold digU
  rw [hn, show n + 2 + 1 = n + 3 by omega, show j + (n + 2) + 1 = j + (n + 3) by omega, List.append_assoc]
  congr 2
  exact dig_eq W_pos (okB_seg ol _ _) (seg_length (by omega)) hs
theorem finish (h : Pre u v j n) : ∃ tab, (∀ C, TabOk T orc tab C) ∧ runTM T orc tab Try.f101 [.ints .u32 u, .ints .u32 v, .int .i64 j, .int .i64 (n + 2 : Nat)] = some (.gave (.ints .u32 (digU u v j)) (.int .u32 (digQ u v j))) := by
  have hn := h.hn
  have hj := h.hj
  have hlu := h.lu
  obtain ⟨i1, i2, i3, i4, i5⟩ := h.ix
  have hv1 := getD_ok W_pos h.ov (n + 1)
  have hu1 := getD_ok W_pos h.ou (j + (n + 1))
  have hu0 := getD_ok W_pos h.ou (j + (n + 2))
  have htop := h.top
  obtain ⟨q0, q1, q2⟩ := h.q_le
  have hql := h.q_lt
  have hV := h.V_pos
  have hmul := mul_lt_W hu0 (show (0 : Int) ≤ 4294967295 ∧ (4294967295 : Int) < 4294967296 by omega)
  have htp0 : 0 ≤ tp u j n := by unfold tp; omega
  have htp1 : tp u j n ≤ 18446744073709551615 := by unfold tp; omega
  -- the first guess
  have hguess : InvG u v j n (tp u j n / v.getD (n + 1) 0) (tp u j n % v.getD (n + 1) 0) := by
    have hA := KnuthD.ge_first (pow_pos1 n) W_pos q0 q1 h.V_eq h.V_lo.1 h.U_eq h.U_lo.2
    have hB := KnuthD.ge_init W_pos q0 (getD_ok W_pos h.ov n).1 (getD_ok W_pos h.ou (j + n)).2 hA
    have hr0 := Int.emod_nonneg (tp u j n) (show v.getD (n + 1) 0 ≠ 0 by omega)
    have hr1 := Int.emod_lt_of_pos (tp u j n) (show 0 < v.getD (n + 1) 0 by omega)
    have hde := Int.emod_add_mul_ediv (tp u j n) (v.getD (n + 1) 0)
    rw [Int.mul_comm] at hde
    refine ⟨Int.ediv_nonneg htp0 (by omega), ?_, by omega, hr0, by omega, (Int.le_ediv_iff_mul_le (by omega)).2 hB⟩
    -- the segment's highest digit isn't above the divisor's
    have hs0 : u.getD (j + (n + 2)) 0 ≤ v.getD (n + 1) 0 := by
      refine Int.not_lt.1 (fun hlt => ?_)
      have e1 := h.U_eq
      have e2 := h.V_eq
      have e3 := h.lt
      have e4 := h.V_lo.2
      have e5 := h.U_lo.1
      have p1 := pow_pos1 n
      have v2 := getD_ok W_pos h.ov n
      have u2 := getD_ok W_pos h.ou (j + n)
      have e3 : U u j n < 4294967296 * V v := e3
      have k1 : 4294967296 ^ n * (v.getD n 0 + 1) ≤ 4294967296 ^ n * 4294967296 := Int.mul_le_mul_of_nonneg_left (by omega) (by omega)
      have k2 : 4294967296 ^ n * (4294967296 * (v.getD (n + 1) 0 + 1)) ≤ 4294967296 ^ n * tp u j n := Int.mul_le_mul_of_nonneg_left (by unfold tp; omega) (by omega)
      have k3 : 0 ≤ 4294967296 ^ n * u.getD (j + n) 0 := Int.mul_nonneg (by omega) u2.1
      have k4 : V v = val 4294967296 (v.take n) + 4294967296 ^ n * v.getD n 0 + 4294967296 * (4294967296 ^ n * v.getD (n + 1) 0) := by rw [e2]; grind
      have k5 : U u j n = val 4294967296 ((seg u j (n + 3)).take n) + 4294967296 ^ n * u.getD (j + n) 0 + 4294967296 * (4294967296 ^ n * tp u j n) := by rw [e1]; grind
      have k6 : 4294967296 ^ n * (4294967296 * (v.getD (n + 1) 0 + 1)) = 4294967296 * (4294967296 ^ n * v.getD (n + 1) 0) + 4294967296 ^ n * 4294967296 := by grind
      rw [Int.mul_add, Int.mul_one] at k1
      omega
    have : tp u j n / v.getD (n + 1) 0 < 4294967298 := by
      refine Int.ediv_lt_of_lt_mul (by omega) ?_
      have : tp u j n ≤ v.getD (n + 1) 0 * 4294967296 + 4294967295 := by
        unfold tp
        have := Int.mul_le_mul_of_nonneg_right hs0 (show (0 : Int) ≤ 4294967296 by decide)
        omega
      omega
    omega
  obtain ⟨e1, S1, hE1, rfl, g, r, rfl, g0, g1, g2, g3⟩ := guess h _ _ hguess
  obtain ⟨e2, S2, hE2, rfl, c, b, x, l, rfl, hS⟩ := subLoop h g r ⟨g0, g1⟩
  obtain ⟨_, s2, s3, s4, s5, s6, s7, s8, s9, s10⟩ := hS
  have ett : IntKind.u64.wrap ((BitVec.ofInt 64 (IntKind.u64.wrap (IntKind.u64.wrap (rd u ((j + (n + 2) : Nat) : Int)) * 2 ^ 32)) ||| BitVec.ofInt 64 (IntKind.u64.wrap (rd u ((j + (n + 1) : Nat) : Int)))).toNat : Int) = tp u j n := by
    rw [rd_toNat, rd_toNat, Int.toNat_natCast, Int.toNat_natCast, wu64 hu0.1 (by omega), wu64 hu1.1 (by omega), wu64 (n := u.getD (j + (n + 2)) 0 * 2 ^ 32) (by omega) (by omega), or64' 32 hu1.1 (by omega) ⟨_, hu0.1, Int.mul_comm _ _⟩ (by omega)]
    unfold tp
    omega
  have ev1 : IntKind.u64.wrap (rd v ((n + 1 : Nat) : Int)) = v.getD (n + 1) 0 := by rw [rd_toNat, Int.toNat_natCast, wu64 hv1.1 (by omega)]
  have etd : (tp u j n).tdiv (v.getD (n + 1) 0) = tp u j n / v.getD (n + 1) 0 := Int.tdiv_eq_ediv_of_nonneg htp0
  have etm : (tp u j n).tmod (v.getD (n + 1) 0) = tp u j n % v.getD (n + 1) 0 := Int.tmod_eq_emod_of_nonneg htp0
  have hgd0 : 0 ≤ tp u j n / v.getD (n + 1) 0 := hguess.1
  have hgd1 := hguess.2.1
  have hx := getD_ok W_pos s3 (j + (n + 2))
  -- the last place
  obtain ⟨d, hd⟩ : ∃ d, (l.getD (j + (n + 2)) 0 - c - b) % 4294967296 = d := ⟨_, rfl⟩
  have hd0 : 0 ≤ d ∧ d < 4294967296 := by omega
  obtain ⟨k1, k2⟩ := set_same (l := l) (d := d) j (show j ≤ j + (n + 2) by omega) (show j + (n + 2) < j + (n + 3) by omega)
  have hlen : (l.set (j + (n + 2)) d).length = u.length := by rw [List.length_set]; exact s2
  have hok : okB 4294967296 (l.set (j + (n + 2)) d) = true := okB_set s3 hd0
  rw [List.take_of_length_le (by omega)] at s10
  have hgv : 4294967296 ^ j * (g * val 4294967296 v) = 4294967296 ^ j * (g * V v) := rfl
  have hval : ∀ b' : Int, l.getD (j + (n + 2)) 0 - c - b = d - 4294967296 * b' → val 4294967296 (l.set (j + (n + 2)) d) = val 4294967296 u + 4294967296 ^ j * (- (g * V v) + 4294967296 ^ (n + 3) * b') := by
    intro b' hb'
    rw [val_set _ _ _ _ (by omega), s10, show n + 2 + j = j + (n + 2) by omega]
    have e1 : (4294967296 : Int) ^ j * (-(g * V v) + 4294967296 ^ (n + 3) * b') = - (4294967296 ^ j * (g * V v)) + 4294967296 ^ (j + (n + 2)) * (4294967296 * b') := by
      have ea : (4294967296 : Int) ^ (j + (n + 2)) = 4294967296 ^ j * 4294967296 ^ (n + 2) := Int.pow_add ..
      have eb : (4294967296 : Int) ^ (n + 3) = 4294967296 ^ (n + 2) * 4294967296 := Int.pow_succ ..
      rw [ea, eb]; grind
    have e2 : d - l.getD (j + (n + 2)) 0 = 4294967296 * b' - (c + b) := by omega
    rw [e1, e2, Int.mul_sub]
    omega
  have hseg0 := val_nonneg W_pos (okB_seg hok j (n + 3))
  have hseg1 := val_lt W_pos (okB_seg hok j (n + 3))
  rw [seg_length (by omega)] at hseg1
  have hgen : ∀ l3 x12 x13, ∃ tab, (∀ C, TabOk T orc tab C) ∧ runTM T orc tab Try.f101 [.ints .u32 u, .ints .u32 v, .int .i64 j, .int .i64 (n + 2 : Nat)] =
      (bif b2i (decide (l.getD (j + (n + 2)) 0 < c + b)) == 0 then some (.gave (.ints .u32 (l.set (j + (n + 2)) d)) (.int .u32 g)) else (bif cdec (Ends T orc L2 D2 (st2 v j (n + 2 : Nat) u g r c l b 0 x 0 (l.set (j + (n + 2)) d)) (.exit 4) (st2 v j (n + 2 : Nat) u g r c l b x12 x x13 l3)) then (bif inB ((j + (n + 2) : Nat) : Int) l3.length then some (.gave (.ints .u32 (l3.set (j + (n + 2)) (IntKind.u32.wrap (l3.getD (j + (n + 2)) 0 + x12)))) (.int .u32 (IntKind.u32.wrap (IntKind.u64.wrap (g - 1))))) else none) else none)) := by
    intro l3 x12 x13
    refine ⟨_, tabOf_all _, (rest u v j (n + 2 : Nat) l3 x12 g r c l b x x13).trans ?_⟩
    rw [i1, i2, i4, ett, ev1, etd, etm, wu64 hgd0 (by omega), cdec_true hE1, cdec_true hE2, wu32 g0 (by omega), wu32 s6 (by omega)]
    have c1 : inB ((j + (n + 2) : Nat) : Int) u.length = true := inB_iff.2 (by omega)
    have c2 : inB ((j + (n + 1) : Nat) : Int) u.length = true := inB_iff.2 (by omega)
    have c3 : inB ((n + 1 : Nat) : Int) v.length = true := inB_iff.2 (by omega)
    have c4 : (!decide (v.getD (n + 1) 0 = 0)) = true := by rw [Bool.not_eq_true', decide_eq_false_iff_not]; omega
    have c5 : inB ((j + (n + 2) : Nat) : Int) l.length = true := inB_iff.2 (by omega)
    have e1 : rd l ((j + (n + 2) : Nat) : Int) = l.getD (j + (n + 2)) 0 := by rw [rd_toNat, Int.toNat_natCast]
    have c6 : (decide (0 ≤ l.getD (j + (n + 2)) 0) && decide (l.getD (j + (n + 2)) 0 < 4294967296) && decide (0 ≤ c) && decide (c < 4294967296) && decide (0 ≤ b) && decide (b ≤ 1)) = true := by
      simp only [Bool.and_eq_true, decide_eq_true_eq]; omega
    have e2 : rd l3 ((j + (n + 2) : Nat) : Int) = l3.getD (j + (n + 2)) 0 := by rw [rd_toNat, Int.toNat_natCast]
    simp only [c1, c2, c3, c4, c5, e1, c6, cond_true, Int.toNat_natCast, hd, e2]
    cases inB ((j + (n + 2) : Nat) : Int) l3.length <;> rfl
  by_cases hb : l.getD (j + (n + 2)) 0 < c + b
  · -- one too many
    have hv := hval 1 (by omega)
    have hs := h.seg_of hlen (k1.trans s4) (k2.trans s5) hv
    rw [Int.mul_one] at hs
    have hgq : g = U u j n / V v + 1 := by
      have h1 : U u j n < g * V v := by omega
      have h2 : ¬ g ≤ U u j n / V v := fun hle => by
        have := Int.mul_le_mul_of_nonneg_right hle (show 0 ≤ V v by omega)
        omega
      have h3 : ¬ U u j n / V v + 2 ≤ g := fun hle => by
        have := Int.mul_le_mul_of_nonneg_right hle (show 0 ≤ V v by omega)
        rw [Int.add_mul] at this
        rw [Int.add_mul] at q2
        omega
      omega
    obtain ⟨e3, S3, hE3, rfl, b3, x3, l3, rfl, _, a2, a3, a4, a5, a6, a7, a8⟩ := addLoop h g r c b x l (l.set (j + (n + 2)) d) _ hlen hok (k1.trans s4) (k2.trans s5) rfl
    obtain ⟨tab, htab, hrun⟩ := hgen l3 b3 x3
    refine ⟨tab, htab, hrun.trans ?_⟩
    have hne : (b2i (decide (l.getD (j + (n + 2)) 0 < c + b)) == 0) = false := by rw [LessMag.b2i_lt, if_pos hb]; rfl
    rw [bF hne, bT (cdec_true hE3), bT (inB_iff.2 (by omega))]
    have hy := getD_ok W_pos a3 (j + (n + 2))
    obtain ⟨d3, hd3⟩ : ∃ d3, IntKind.u32.wrap (l3.getD (j + (n + 2)) 0 + b3) = d3 := ⟨_, rfl⟩
    rw [hd3]
    rw [wu32_mod] at hd3
    have hd30 : 0 ≤ d3 ∧ d3 < 4294967296 := by omega
    obtain ⟨m1, m2⟩ := set_same (l := l3) (d := d3) j (show j ≤ j + (n + 2) by omega) (show j + (n + 2) < j + (n + 3) by omega)
    have hlen3 : (l3.set (j + (n + 2)) d3).length = u.length := by rw [List.length_set]; exact a2
    have hok3 : okB 4294967296 (l3.set (j + (n + 2)) d3) = true := okB_set a3 hd30
    rw [List.take_of_length_le (by omega)] at a8
    have hval3 : ∀ o : Int, l3.getD (j + (n + 2)) 0 + b3 = d3 + 4294967296 * o → val 4294967296 (l3.set (j + (n + 2)) d3) = val 4294967296 u + 4294967296 ^ j * (- (g * V v) + V v + 4294967296 ^ (n + 3) * (1 - o)) := by
      intro o ho
      rw [val_set _ _ _ _ (by omega), a8, hv, show n + 2 + j = j + (n + 2) by omega]
      have e1 : d3 - l3.getD (j + (n + 2)) 0 = b3 - 4294967296 * o := by omega
      have e2 : (4294967296 : Int) ^ (j + (n + 2)) = 4294967296 ^ j * 4294967296 ^ (n + 2) := Int.pow_add ..
      have e3 : (4294967296 : Int) ^ (n + 3) = 4294967296 ^ (n + 2) * 4294967296 := Int.pow_succ ..
      rw [e1, e2, e3]
      generalize (4294967296 : Int) ^ j = P
      generalize (4294967296 : Int) ^ (n + 2) = Q
      show _ + P * V v - _ + _ = _
      generalize V v = VV
      grind
    have hmod : U u j n - g * V v + V v = U u j n % V v := by
      have := Int.emod_add_mul_ediv (U u j n) (V v)
      rw [hgq, Int.add_mul, Int.mul_comm (U u j n / V v)]
      omega
    have hm0 := Int.emod_nonneg (U u j n) (show V v ≠ 0 by omega)
    have hs3 : val 4294967296 (seg (l3.set (j + (n + 2)) d3) j (n + 3)) = U u j n % V v := by
      have hr1 := val_lt W_pos (okB_seg hok3 j (n + 3))
      rw [seg_length (by omega)] at hr1
      by_cases ho : l3.getD (j + (n + 2)) 0 + b3 < 4294967296
      · have := h.seg_of hlen3 (m1.trans a4) (m2.trans a5) (hval3 0 (by omega))
        rw [Int.sub_zero, Int.mul_one] at this
        omega
      · have := h.seg_of hlen3 (m1.trans a4) (m2.trans a5) (hval3 1 (by omega))
        rw [Int.sub_self, Int.mul_zero] at this
        omega
    rw [h.row hlen3 hok3 (m1.trans a4) (m2.trans a5) hs3, wu64 (by omega) (by omega), wu32 (by omega) (by omega)]
    unfold digQ
    rw [hn, show n + 2 + 1 = n + 3 by omega]
    have : g - 1 = val 4294967296 (seg u j (n + 3)) / val 4294967296 v := by
      have : U u j n / V v = val 4294967296 (seg u j (n + 3)) / val 4294967296 v := rfl
      omega
    rw [this]
  · obtain ⟨tab, htab, hrun⟩ := hgen [] 0 0
    refine ⟨tab, htab, hrun.trans ?_⟩
    have hne : (b2i (decide (l.getD (j + (n + 2)) 0 < c + b)) == 0) = true := by rw [LessMag.b2i_lt, if_neg hb]; rfl
    rw [bT hne]
    have hs := h.seg_of hlen (k1.trans s4) (k2.trans s5) (hval 0 (by omega))
    rw [Int.mul_zero, Int.add_zero] at hs
    have hgq : g = U u j n / V v := by
      have h1 : ¬ U u j n / V v + 1 ≤ g := fun hle => by
        have := Int.mul_le_mul_of_nonneg_right hle (show 0 ≤ V v by omega)
        omega
      omega
    have hs3 : val 4294967296 (seg (l.set (j + (n + 2)) d) j (n + 3)) = U u j n % V v := by
      have := Int.emod_add_mul_ediv (U u j n) (V v)
      rw [hs, hgq, Int.mul_comm (U u j n / V v)]
      omega
    rw [h.row hlen hok (k1.trans s4) (k2.trans s5) hs3]
    unfold digQ
    rw [hn, show n + 2 + 1 = n + 3 by omega, hgq]
end
end Digit
theorem meets_digit : Meets Try.prog 101 ansDigit := by
  refine meets_runM T_ok (orc_ok (l := Digit.ans) ⟨meets_sub32, meets_add32, trivial⟩) mixed (fn := Try.f101) Try.func101 (by kernel_rfl) (fun args r h => ?_) (fun row rest x y h => ?_)
  · unfold ansDigit at h
    split at h <;> simp only [Option.some.injEq, Prod.mk.injEq, reduceCtorEq] at h
    · exact ⟨_, _, h.2.symm⟩
    · exact ⟨_, _, h.2.symm⟩
  · unfold ansDigit at h
    split at h
    · rename_i heq; cases heq
    · rename_i u v j n heq
      cases heq
      simp only [Option.some.injEq, Prod.mk.injEq, Res.gave.injEq, digOk, Bool.and_eq_true, few_iff, decide_eq_true_eq] at h
      obtain ⟨⟨⟨⟨⟨⟨⟨⟨⟨⟨hu, hv⟩, ou⟩, ov⟩, hj⟩, hn⟩, hn2⟩, hjl⟩, htop⟩, hlt⟩, rfl, rfl⟩ := h
      obtain ⟨j, rfl⟩ := Int.eq_ofNat_of_zero_le hj
      obtain ⟨k, hk⟩ : ∃ k, v.length = k + 2 := ⟨v.length - 2, by omega⟩
      rw [Int.toNat_natCast] at hjl hlt
      have hp : Digit.Pre u v j k := ⟨ou, ov, hu, hk, by omega, by rw [hk] at htop; exact htop, by rw [hk] at hlt; exact hlt⟩
      obtain ⟨tab, h1, h2⟩ := Digit.finish hp
      rw [hn, hk, Int.toNat_natCast]
      exact runM_tab (h1 _) h2
    · cases h
end Go.Abs
end
section
/- What arith.splitMag answers. -/
namespace Go.Abs
open Go.Proofs Go.Dig
theorem cmpZ_lt (x y : Int) : cmpZ x y < 0 ↔ x < y := by
  unfold cmpZ; split
  · omega
  · split <;> omega
theorem digU_length {u v : List Int} {j : Nat} (h : j + v.length + 1 ≤ u.length) : (digU u v j).length = u.length := by
  unfold digU
  rw [List.length_append, List.length_append, List.length_take, digN_length, List.length_drop]
  omega
namespace SplitMag
/-- What stands there while the digits are found. -/
structure Pre (v : List Int) (A : Int) (lu m : Nat) : Prop where
  ov : okB 4294967296 v = true
  hv : 2 ≤ v.length
  top : 2147483648 ≤ v.getD (v.length - 1) 0
  hlu : lu = m + v.length + 1
  few : lu ≤ 100000
def Inv (v : List Int) (A : Int) (lu m : Nat) (i : Nat) (l q : List Int) : Prop :=
  i ≤ m + 1 ∧ l.length = lu ∧ okB 4294967296 l = true ∧ q.length = m + 1 ∧ okB 4294967296 (q.drop i) = true ∧
  A = val 4294967296 l + val 4294967296 v * (4294967296 ^ i * val 4294967296 (q.drop i)) ∧ val 4294967296 l < val 4294967296 v * 4294967296 ^ i
section
variable {v : List Int} {A : Int} {lu m : Nat}
theorem Pre.V_pos (h : Pre v A lu m) : 0 < val 4294967296 v := by
  have h1 := last_ge W_two h.ov (fun h0 => by
    have h2 := h.top
    have h3 := h.hv
    rw [List.getLast?_eq_getElem?] at h0
    rw [List.getD_eq_getElem?_getD, h0] at h2
    simp at h2) (fun h0 => by have := h.hv; rw [h0] at this; simp at this)
  have := Int.pow_pos (n := 4294967296) (m := v.length - 1) (by decide)
  omega
theorem Pre.next (h : Pre v A lu m) {j : Nat} {l q : List Int} (hI : Inv v A lu m (j + 1) l q) :
    digOk l v j v.length = true ∧ (digU l v j).length = l.length ∧ Inv v A lu m j (digU l v j) (q.set j (digQ l v j)) := by
  obtain ⟨h1, h2, h3, h4, h5, h6, h7⟩ := hI
  have hV := h.V_pos
  have hlu := h.hlu
  have hf := h.few
  have hv2 := h.hv
  have hs := seg_val 4294967296 l j (v.length + 1) (by omega)
  have hp : (0 : Int) < 4294967296 ^ j := Int.pow_pos (by decide)
  have n1 := val_nonneg W_pos (okB_take h3 j)
  have n2 := val_nonneg W_pos (okB_seg h3 j (v.length + 1))
  have n3 := val_nonneg W_pos (okB_drop h3 (j + (v.length + 1)))
  have n4 := val_lt W_pos (okB_take h3 j)
  rw [List.length_take, Nat.min_eq_left (by omega)] at n4
  have n5 := val_lt W_pos h.ov
  have hp2 : (0 : Int) < 4294967296 ^ (j + (v.length + 1)) := Int.pow_pos (by decide)
  have e1 : val 4294967296 v * 4294967296 ^ (j + 1) = 4294967296 ^ j * (4294967296 * val 4294967296 v) := by rw [Int.pow_succ]; grind
  rw [e1] at h7
  generalize hsg : val 4294967296 (seg l j (v.length + 1)) = S at *
  generalize hVV : val 4294967296 v = V at *
  -- nothing stands above
  have hdrop : val 4294967296 (l.drop (j + (v.length + 1))) = 0 := by
    refine Int.le_antisymm (Int.not_lt.1 (fun hgt => ?_)) n3
    have k1 : 4294967296 ^ (j + (v.length + 1)) * 1 ≤ 4294967296 ^ (j + (v.length + 1)) * val 4294967296 (l.drop (j + (v.length + 1))) := Int.mul_le_mul_of_nonneg_left (by omega) (by omega)
    have k2 : (4294967296 : Int) ^ j * (4294967296 * V) ≤ 4294967296 ^ j * (4294967296 * 4294967296 ^ v.length) := Int.mul_le_mul_of_nonneg_left (Int.mul_le_mul_of_nonneg_left (by omega) (by decide)) (by omega)
    have k3 : (4294967296 : Int) ^ (j + (v.length + 1)) = 4294967296 ^ j * (4294967296 * 4294967296 ^ v.length) := by rw [Int.pow_add, Int.pow_succ, Int.mul_comm (4294967296 ^ v.length)]
    have k4 : 0 ≤ 4294967296 ^ j * S := Int.mul_nonneg (by omega) n2
    omega
  rw [hdrop, Int.mul_zero, Int.add_zero] at hs
  have hlt : S < 4294967296 * V := by
    refine Int.not_le.1 (fun hge => ?_)
    have := Int.mul_le_mul_of_nonneg_left hge (show (0 : Int) ≤ 4294967296 ^ j by omega)
    omega
  have hq0 : 0 ≤ S / V := Int.ediv_nonneg n2 (by omega)
  have hq1 : S / V < 4294967296 := Int.ediv_lt_of_lt_mul hV (by omega)
  have hr0 := Int.emod_nonneg S (show V ≠ 0 by omega)
  have hr1 := Int.emod_lt_of_pos S hV
  have hde := Int.emod_add_mul_ediv S V
  have hQ : digQ l v j = S / V := by unfold digQ; rw [hsg, hVV]
  have hlen : (digU l v j).length = l.length := digU_length (by omega)
  have hVB : V < 4294967296 ^ (v.length + 1) := by
    rw [Int.pow_succ]
    have : (4294967296 : Int) ^ v.length * 1 ≤ 4294967296 ^ v.length * 4294967296 := Int.mul_le_mul_of_nonneg_left (by decide) (Int.pow_nonneg (by decide))
    omega
  have hU : val 4294967296 (digU l v j) = val 4294967296 (l.take j) + 4294967296 ^ j * (S % V) := by
    unfold digU
    rw [hsg, hVV, val_append, val_append, List.length_append, List.length_take, Nat.min_eq_left (by omega), digN_length, val_digN W_pos _ _ hr0 (by omega), Nat.add_assoc j v.length 1, hdrop, Int.mul_zero, Int.add_zero]
  have hok : okB 4294967296 (digU l v j) = true := by
    unfold digU
    exact okB_app (okB_app (okB_take h3 j) (digN_ok W_pos _ _)) (okB_drop h3 _)
  refine ⟨?_, hlen, by omega, by omega, hok, by rw [List.length_set]; exact h4, ?_, ?_, ?_⟩
  · unfold digOk
    simp only [Bool.and_eq_true, few_iff, decide_eq_true_eq, Int.toNat_natCast]
    rw [hsg, hVV]
    have ht := h.top
    refine ⟨⟨⟨⟨⟨⟨⟨⟨⟨by omega, by omega⟩, h3⟩, h.ov⟩, by omega⟩, trivial⟩, by omega⟩, by omega⟩, ht⟩, hlt⟩
  · rw [drop_set_cons q _ (by omega), hQ]
    exact okB_cons.2 ⟨⟨hq0, hq1⟩, h5⟩
  · rw [drop_set_cons q _ (by omega), hQ, hU, h6, hs]
    simp only [val]
    rw [Int.pow_succ]
    generalize val 4294967296 (q.drop (j + 1)) = X
    generalize val 4294967296 (l.take j) = Y
    generalize (4294967296 : Int) ^ j = P
    have : P * S = P * (S % V + V * (S / V)) := by rw [hde]
    rw [this]
    generalize S / V = a
    generalize S % V = b
    grind
  · rw [hU, hVV]
    have : 4294967296 ^ j * (S % V + 1) ≤ 4294967296 ^ j * V := Int.mul_le_mul_of_nonneg_left (by omega) (by omega)
    rw [Int.mul_add, Int.mul_one] at this
    rw [Int.mul_comm V]
    omega
end
theorem loop (a b : List Int) (s : Nat) (A : Int) (m : Nat) (hs : 32 - blen (rd b (IntKind.i64.wrap ((b.length : Int) - 1))) = (s : Int)) (lu : Nat) (b0 : Bool) (l q : List Int)
    (hvl : ((leftL b s).take b.length).length = b.length) (hP : Pre ((leftL b s).take b.length) A lu m) (hI : Inv ((leftL b s).take b.length) A lu m (m + 1) l q) :
    ∃ e S1, Ends T orc L0 D0 (st0 a b m b0 l q) e S1 ∧ (e = .exit 0 ∧ ∃ x b1 l q, S1 = st0 a b x b1 l q ∧ Inv ((leftL b s).take b.length) A lu m 0 l q) := by
  have key := loop_inv4 (T := T) (orc := orc) (L := L0) (D := D0) (fun (i : Nat) b1 l q => st0 a b ((i : Int) - 1) b1 l q) (fun i b1 l q => Inv ((leftL b s).take b.length) A lu m i l q) (fun i b1 l q => i)
    (fun e S1 => e = .exit 0 ∧ ∃ x b1 l q, S1 = st0 a b x b1 l q ∧ Inv ((leftL b s).take b.length) A lu m 0 l q) isL0 ?_ (m + 1) b0 l q hI
  · rw [show (((m + 1 : Nat) : Int) - 1) = (m : Int) by omega] at key
    exact key
  · intro i b1 l q hI
    refine ⟨noTab, noTab_all, lands_of (round0 ..) ?_⟩
    rw [hs, Int.toNat_natCast]
    cases i with
    | zero =>
      simp only [lands_bif, lands_some, lands_none, Turns1, Turns2, Turns3, Turns4, Turns5, Turns6, Turns7, Turns8, eq_bif, Option.some.injEq, reduceCtorEq, cond_true, cond_false, Bool.eq_false_iff, ne_eq, inB_iff, decide_eq_true_eq, Bool.and_eq_true, Bool.or_eq_true, Bool.not_eq_true', beq_iff_eq, bne_iff_ne, true_and, and_true, true_implies, implies_true, not_true_eq_false, not_false_eq_true, false_implies, few_iff]
      exact ⟨fun h => absurd h (by omega), fun _ => ⟨_, _, _, _, rfl, hI⟩⟩
    | succ i =>
      obtain ⟨k1, k2, k3⟩ := hP.next hI
      have e0 : (((i + 1 : Nat) : Int) - 1) = (i : Int) := by omega
      have hq := hI.2.2.2.1
      have hi := hI.1
      have hfew := hP.few
      have hlu := hP.hlu
      have k2b : Nat.beq (digU l ((leftL b s).take b.length) i).length l.length = true := by rw [k2]; exact Nat.beq_refl _
      rw [e0]
      simp only [Int.toNat_natCast, k1, k2b, Bool.and_true, cond_true]
      simp only [lands_bif, lands_some, lands_none, Turns1, Turns2, Turns3, Turns4, Turns5, Turns6, Turns7, Turns8, eq_bif, Option.some.injEq, reduceCtorEq, cond_true, cond_false, Bool.eq_false_iff, ne_eq, inB_iff, decide_eq_true_eq, Bool.and_eq_true, Bool.or_eq_true, Bool.not_eq_true', beq_iff_eq, bne_iff_ne, true_and, and_true, true_implies, implies_true, not_true_eq_false, not_false_eq_true, false_implies, few_iff]
      repeat' (first | apply And.intro | intro _)
      all_goals try omega
      exact ⟨i, _, _, _, by rw [w64 (by omega) (by omega)], k3, by omega⟩
theorem shift_ok {b : List Int} (hb : cl 4294967296 b = true) (hv : 0 < val 4294967296 b) (h2 : 2 ≤ b.length) : ∃ s : Nat, s ≤ 31 ∧ 32 - blen (b.getD (b.length - 1) 0) = (s : Int) ∧
    (leftL b s).take b.length = digN 4294967296 b.length (val 4294967296 b * 2 ^ s) ∧ val 4294967296 b * 2 ^ s < 4294967296 ^ b.length ∧ 2147483648 * 4294967296 ^ (b.length - 1) ≤ val 4294967296 b * 2 ^ s := by
  have ob := cl_ok W_two hb
  have ht := getD_ok W_pos ob (b.length - 1)
  have hne : b.getD (b.length - 1) 0 ≠ 0 := by
    have hl := cl_last hb
    rw [List.getLast?_eq_getElem?] at hl
    intro h0
    rw [List.getD_eq_getElem?_getD, List.getElem?_eq_getElem (by omega)] at h0
    rw [List.getElem?_eq_getElem (by omega)] at hl
    exact hl (congrArg some h0)
  have hd : val 4294967296 b = val 4294967296 (b.take (b.length - 1)) + 4294967296 ^ (b.length - 1) * b.getD (b.length - 1) 0 := by
    have := val_take_succ 4294967296 b (b.length - 1)
    rw [show b.length - 1 + 1 = b.length by omega, List.take_of_length_le (Nat.le_refl _)] at this
    exact this
  have hlo0 := val_nonneg W_pos (okB_take ob (b.length - 1))
  have hlo1 := val_lt W_pos (okB_take ob (b.length - 1))
  rw [List.length_take, Nat.min_eq_left (by omega)] at hlo1
  obtain ⟨c1, c2, c3⟩ := blen_pow (show 0 < b.getD (b.length - 1) 0 by omega)
  generalize htt : b.getD (b.length - 1) 0 = t at *
  have hle : blen t ≤ 32 := by
    refine Int.not_lt.1 (fun hgt => ?_)
    have : (2 : Int) ^ 32 ≤ 2 ^ (blen t - 1).toNat := by
      obtain ⟨k, hk⟩ : ∃ k, (blen t - 1).toNat = 32 + k := ⟨(blen t - 1).toNat - 32, by omega⟩
      rw [hk, Int.pow_add]
      have : (0 : Int) < 2 ^ k := Int.pow_pos (by decide)
      have h6 : (2 : Int) ^ 32 * 1 ≤ 2 ^ 32 * 2 ^ k := Int.mul_le_mul_of_nonneg_left (by omega) (by decide)
      omega
    have e : (2 : Int) ^ 32 = 4294967296 := rfl
    omega
  obtain ⟨s, hs⟩ : ∃ s : Nat, 32 - blen t = (s : Int) := ⟨(32 - blen t).toNat, by omega⟩
  have hs31 : s ≤ 31 := by omega
  obtain ⟨p1, p2⟩ := two_pow_31 hs31
  have hb1 : (blen t).toNat = 32 - s := by omega
  have hb2 : (blen t - 1).toNat = 31 - s := by omega
  rw [hb1] at c3
  rw [hb2] at c2
  have e32 := two_pow_32 hs31
  have e31 : (2 : Int) ^ s * 2 ^ (31 - s) = 2147483648 := by rw [← Int.pow_add, show s + (31 - s) = 31 by omega]; rfl
  have d1 : 2 ^ s * (t + 1) ≤ 2 ^ s * 2 ^ (32 - s) := Int.mul_le_mul_of_nonneg_left (by omega) (by omega)
  have d2 : (2 : Int) ^ s * 2 ^ (31 - s) ≤ 2 ^ s * t := Int.mul_le_mul_of_nonneg_left c2 (by omega)
  rw [e32] at d1
  rw [e31] at d2
  have hP : (0 : Int) < 4294967296 ^ (b.length - 1) := Int.pow_pos (by decide)
  have hPl : (4294967296 : Int) ^ b.length = 4294967296 ^ (b.length - 1) * 4294967296 := by rw [← Int.pow_succ, show (b.length - 1).succ = b.length by omega]
  have g1 : val 4294967296 b * 2 ^ s < 4294967296 ^ b.length := by
    have q1 : (val 4294967296 b + 1) * 2 ^ s ≤ (4294967296 ^ (b.length - 1) * (t + 1)) * 2 ^ s := Int.mul_le_mul_of_nonneg_right (by rw [Int.mul_add, Int.mul_one]; omega) (by omega)
    have q2 : (4294967296 ^ (b.length - 1) * (t + 1)) * 2 ^ s ≤ 4294967296 ^ (b.length - 1) * 4294967296 := by
      have : (4294967296 ^ (b.length - 1) * (t + 1)) * 2 ^ s = 4294967296 ^ (b.length - 1) * (2 ^ s * (t + 1)) := by grind
      rw [this]
      exact Int.mul_le_mul_of_nonneg_left d1 (by omega)
    rw [Int.add_mul, Int.one_mul] at q1
    omega
  have g2 : 2147483648 * 4294967296 ^ (b.length - 1) ≤ val 4294967296 b * 2 ^ s := by
    have q1 : (4294967296 ^ (b.length - 1) * t) * 2 ^ s ≤ val 4294967296 b * 2 ^ s := Int.mul_le_mul_of_nonneg_right (by omega) (by omega)
    have q2 : 4294967296 ^ (b.length - 1) * 2147483648 ≤ 4294967296 ^ (b.length - 1) * (2 ^ s * t) := Int.mul_le_mul_of_nonneg_left d2 (by omega)
    have : (4294967296 ^ (b.length - 1) * t) * 2 ^ s = 4294967296 ^ (b.length - 1) * (2 ^ s * t) := by grind
    rw [Int.mul_comm 2147483648]
    omega
  refine ⟨s, hs31, hs, ?_, g1, g2⟩
  unfold leftL
  rw [Int.toNat_natCast, digN_succ W_pos, List.take_append_of_le_length (by rw [digN_length]; exact Nat.le_refl _), List.take_of_length_le (by rw [digN_length]; exact Nat.le_refl _)]
end SplitMag
theorem meets_splitMag : Meets Try.prog 90 ansSplitMag := by
  refine meets_fn (orc_ok (l := SplitMag.ans) ⟨meets_cmpMag, meets_part, meets_lz32, meets_left, meets_right, meets_digit, trivial⟩) Try.f90 Try.func90 (by kernel_rfl) (fun args r h => ?_)
  unfold ansSplitMag at h
  split at h
  · rename_i a b
    simp only [Option.some.injEq, Prod.mk.injEq, Bool.and_eq_true, decide_eq_true_eq] at h
    obtain ⟨⟨⟨⟨ha, hb⟩, hv⟩, hla⟩, rfl⟩ := h
    have oa := cl_ok W_two ha
    have ob := cl_ok W_two hb
    have la := (cl_iff.1 ha).1
    have lb := (cl_iff.1 hb).1
    have fa : few a = true := few_iff.2 la
    have fb : few b = true := few_iff.2 lb
    have va0 := val_nonneg W_pos oa
    refine ⟨rfl, ?_⟩
    by_cases hlt : val 4294967296 a < val 4294967296 b
    · refine ⟨_, tabOf_all _, (SplitMag.rest a b [] [] 0 false).trans ?_⟩
      rw [ha, hb, decide_eq_true ((cmpZ_lt _ _).2 hlt)]
      simp only [Bool.and_self, cond_true, splitQ, splitR, decide_eq_true hlt]
    · have hge : val 4294967296 b ≤ val 4294967296 a := by omega
      have hll : b.length ≤ a.length := Nat.not_lt.1 (fun h => by
        have := val_lt_of_length W_two oa ob (cl_last hb) h
        omega)
      have hbn : b ≠ [] := fun h => by rw [h] at hv; simp [val] at hv
      have hb0 : 0 < b.length := List.length_pos_iff.2 hbn
      by_cases h1 : b.length = 1
      · refine ⟨_, tabOf_all _, (SplitMag.rest a b [] [] 0 false).trans ?_⟩
        obtain ⟨d, rfl⟩ : ∃ d, b = [d] := by
          match b, h1 with
          | [d], _ => exact ⟨d, rfl⟩
        rw [val_one] at hlt hge hv
        have hd := okB_iff.1 ob d (by simp)
        rw [ha, hb, decide_eq_false (fun h => hlt (by have := (cmpZ_lt _ _).1 h; rw [val_one] at this; exact this)), fa, oa]
        have er : rd [d] 0 = d := rfl
        rw [er, decide_eq_true hv, decide_eq_true hd.2]
        simp only [splitQ, splitR, val_one, decide_eq_false hlt, List.length_singleton, digN]
        have hm0 := Int.emod_nonneg (val 4294967296 a) (show d ≠ 0 by omega)
        have hm1 := Int.emod_lt_of_pos (val 4294967296 a) hv
        rw [Int.emod_eq_of_lt hm0 (by omega)]
        rfl
      · have h2 : 2 ≤ b.length := by omega
        obtain ⟨s, hs31, hs, hvd, hb1, hb2⟩ := SplitMag.shift_ok hb hv h2
        obtain ⟨p1, p2⟩ := two_pow_31 hs31
        have ew : IntKind.i64.wrap ((b.length : Int) - 1) = ((b.length - 1 : Nat) : Int) := by rw [w64 (by omega) (by omega)]; omega
        have hs2 : 32 - blen (rd b (IntKind.i64.wrap ((b.length : Int) - 1))) = (s : Int) := by rw [ew, rd_toNat, Int.toNat_natCast]; exact hs
        have hvl : ((leftL b s).take b.length).length = b.length := by rw [hvd, digN_length]
        have hvb0 : 0 ≤ val 4294967296 b * 2 ^ s := Int.mul_nonneg (by omega) (by omega)
        have hvv : val 4294967296 ((leftL b s).take b.length) = val 4294967296 b * 2 ^ s := by rw [hvd, val_digN W_pos _ _ hvb0 hb1]
        have hvo : okB 4294967296 ((leftL b s).take b.length) = true := by rw [hvd]; exact digN_ok W_pos _ _
        have hA0 : 0 ≤ val 4294967296 a * 2 ^ s := Int.mul_nonneg va0 (by omega)
        have hA1 : val 4294967296 a * 2 ^ s < 4294967296 ^ a.length * 2 ^ s := Int.mul_lt_mul_of_pos_right (val_lt W_pos oa) (by omega)
        have hPa : (0 : Int) < 4294967296 ^ a.length := Int.pow_pos (by decide)
        have hA2 : val 4294967296 a * 2 ^ s < 4294967296 ^ (a.length + 1) := by
          rw [Int.pow_succ]
          have : (4294967296 : Int) ^ a.length * 2 ^ s ≤ 4294967296 ^ a.length * 4294967296 := Int.mul_le_mul_of_nonneg_left (by omega) (by omega)
          omega
        have hul : (leftL a s).length = a.length + 1 := by unfold leftL; rw [digN_length]
        have huo : okB 4294967296 (leftL a s) = true := by unfold leftL; exact digN_ok W_pos _ _
        have huv : val 4294967296 (leftL a s) = val 4294967296 a * 2 ^ s := by unfold leftL; rw [Int.toNat_natCast, val_digN W_pos _ _ hA0 hA2]
        have htop : 2147483648 ≤ ((leftL b s).take b.length).getD (((leftL b s).take b.length).length - 1) 0 := by
          rw [hvl]
          generalize (leftL b s).take b.length = v at *
          have hd : val 4294967296 v = val 4294967296 (v.take (b.length - 1)) + 4294967296 ^ (b.length - 1) * v.getD (b.length - 1) 0 := by
            have := val_take_succ 4294967296 v (b.length - 1)
            rw [show b.length - 1 + 1 = b.length by omega, List.take_of_length_le (by omega)] at this
            exact this
          have hlo1 := val_lt W_pos (okB_take hvo (b.length - 1))
          rw [List.length_take, Nat.min_eq_left (by omega)] at hlo1
          refine Int.not_lt.1 (fun hgt => ?_)
          have : 4294967296 ^ (b.length - 1) * (v.getD (b.length - 1) 0 + 1) ≤ 4294967296 ^ (b.length - 1) * 2147483648 := Int.mul_le_mul_of_nonneg_left (by omega) (Int.pow_nonneg (by decide))
          rw [Int.mul_add, Int.mul_one] at this
          rw [Int.mul_comm 2147483648] at hb2
          omega
        have hP : SplitMag.Pre ((leftL b s).take b.length) (val 4294967296 a * 2 ^ s) (a.length + 1) (a.length - b.length) := ⟨hvo, by omega, htop, by rw [hvl]; omega, by omega⟩
        have hI0 : SplitMag.Inv ((leftL b s).take b.length) (val 4294967296 a * 2 ^ s) (a.length + 1) (a.length - b.length) (a.length - b.length + 1) (leftL a s) (zeros (a.length - b.length + 1)) := by
          refine ⟨Nat.le_refl _, hul, huo, by simp, ?_, ?_, ?_⟩
          · rw [List.drop_of_length_le (by simp)]; rfl
          · rw [List.drop_of_length_le (by simp), huv]; simp [val]
          · rw [huv, hvv]
            have k1 : 2147483648 * 4294967296 ^ (b.length - 1) * 4294967296 ^ (a.length - b.length + 1) ≤ val 4294967296 b * 2 ^ s * 4294967296 ^ (a.length - b.length + 1) := Int.mul_le_mul_of_nonneg_right hb2 (Int.pow_nonneg (by decide))
            rw [Int.mul_assoc, ← Int.pow_add, show b.length - 1 + (a.length - b.length + 1) = a.length by omega] at k1
            have k2 : (4294967296 : Int) ^ a.length * 2 ^ s ≤ 4294967296 ^ a.length * 2147483648 := Int.mul_le_mul_of_nonneg_left p2 (by omega)
            rw [Int.mul_comm _ 2147483648] at k2
            omega
        obtain ⟨e1, S1, hE1, rfl, x, b1, l, q, rfl, _, r2, r3, r4, r5, r6, r7⟩ := SplitMag.loop a b s _ _ hs2 _ true _ _ hvl hP hI0
        rw [List.drop_zero] at r5 r6
        rw [Int.pow_zero, Int.one_mul, hvv] at r6
        rw [Int.pow_zero, Int.mul_one, hvv] at r7
        have rl0 := val_nonneg W_pos r3
        have hbs : 0 < val 4294967296 b * 2 ^ s := Int.mul_pos hv (by omega)
        have hq : val 4294967296 q = val 4294967296 a / val 4294967296 b := by
          have k1 : val 4294967296 a * 2 ^ s / (val 4294967296 b * 2 ^ s) = val 4294967296 a / val 4294967296 b := Int.mul_ediv_mul_of_pos_left _ _ (by omega)
          rw [← k1, r6, Int.add_mul_ediv_left _ _ (by omega), Int.ediv_eq_zero_of_lt rl0 r7, Int.zero_add]
        have hr : val 4294967296 l = val 4294967296 a % val 4294967296 b * 2 ^ s := by
          have k1 := Int.emod_add_mul_ediv (val 4294967296 a) (val 4294967296 b)
          rw [hq] at r6
          have k2 : (val 4294967296 a % val 4294967296 b + val 4294967296 b * (val 4294967296 a / val 4294967296 b)) * 2 ^ s = val 4294967296 l + val 4294967296 b * 2 ^ s * (val 4294967296 a / val 4294967296 b) := by rw [k1]; exact r6
          rw [Int.add_mul] at k2
          have k3 : val 4294967296 b * (val 4294967296 a / val 4294967296 b) * 2 ^ s = val 4294967296 b * 2 ^ s * (val 4294967296 a / val 4294967296 b) := by grind
          omega
        have hlt2 : val 4294967296 (l.take b.length) = val 4294967296 l := by
          have k1 : val 4294967296 l = val 4294967296 (l.take b.length) + 4294967296 ^ b.length * val 4294967296 (l.drop b.length) := by
            conv => lhs; rw [← List.take_append_drop b.length l]
            rw [val_append, List.length_take, Nat.min_eq_left (by omega)]
          have k2 := val_nonneg W_pos (okB_drop r3 b.length)
          have k3 := val_nonneg W_pos (okB_take r3 b.length)
          have k4 : val 4294967296 (l.drop b.length) = 0 := by
            refine Int.le_antisymm (Int.not_lt.1 (fun hgt => ?_)) k2
            have : (4294967296 : Int) ^ b.length * 1 ≤ 4294967296 ^ b.length * val 4294967296 (l.drop b.length) := Int.mul_le_mul_of_nonneg_left (by omega) (Int.pow_nonneg (by decide))
            omega
          rw [k4, Int.mul_zero, Int.add_zero] at k1
          exact k1.symm
        refine ⟨_, tabOf_all _, (SplitMag.rest a b q l x b1).trans ?_⟩
        have htl := getD_ok W_pos ob (b.length - 1)
        have em1 : IntKind.i64.wrap (((a.length + 1 : Nat) : Int) - (b.length : Int)) = ((a.length + 1 - b.length : Nat) : Int) := by rw [w64 (by omega) (by omega)]; omega
        have em2 : IntKind.i64.wrap (((a.length + 1 - b.length : Nat) : Int) - 1) = ((a.length - b.length : Nat) : Int) := by rw [w64 (by omega) (by omega)]; omega
        have em3 : IntKind.i64.wrap (((a.length - b.length : Nat) : Int) + 1) = ((a.length - b.length + 1 : Nat) : Int) := by rw [w64 (by omega) (by omega)]; omega
        have hlb2 : (leftL b s).length = b.length + 1 := by unfold leftL; rw [digN_length]
        have hc1 : decide (cmpZ (val 4294967296 a) (val 4294967296 b) < 0) = false := decide_eq_false (fun h => hlt ((cmpZ_lt _ _).1 h))
        have hc2 : ((b.length : Int) == 1) = false := by rw [beq_eq_false_iff_ne]; omega
        have hc3 : inB ((b.length - 1 : Nat) : Int) b.length = true := inB_iff.2 (by omega)
        have hft : few (l.take b.length) = true := few_iff.2 (by rw [List.length_take]; omega)
        rw [hs2, ew]
        simp only [Int.toNat_natCast, hvl, hul, em1, em2, em3, cdec_true hE1, ha, hb, hc1, hc2, hc3, fa, fb, oa, ob, hft, okB_take r3, hlb2, rd_toNat, decide_eq_true htl.1, decide_eq_true htl.2, decide_eq_true (show (0 : Int) ≤ (s : Int) by omega), decide_eq_true (show (s : Int) ≤ 31 by omega), decide_eq_true (show (b.length : Int) ≤ ((b.length + 1 : Nat) : Int) by omega), decide_eq_true (show (0 : Int) ≤ ((a.length - b.length + 1 : Nat) : Int) by omega), decide_eq_true (Int.le_refl ((a.length - b.length + 1 : Nat) : Int)), decide_eq_true (show (a.length - b.length + 1) * 4 ≤ 281474976710656 by omega), decide_eq_true (show (b.length : Int) ≤ (l.length : Int) by omega)]
        simp only [Bool.and_self, cond_true, cond_false, splitQ, splitR, decide_eq_false hlt]
        have hc4 : (b.length == 1) = false := by rw [beq_eq_false_iff_ne]; omega
        rw [hc4]
        simp only [cond_false]
        rw [show q = digN 4294967296 (a.length - b.length + 1) (val 4294967296 a / val 4294967296 b) from dig_eq W_pos r5 r4 hq]
        have : rightL (l.take b.length) (s : Int) = digN 4294967296 b.length (val 4294967296 a % val 4294967296 b) := by
          unfold rightL
          rw [hlt2, hr, Int.toNat_natCast, List.length_take, Nat.min_eq_left (by omega), Int.mul_ediv_cancel _ (by omega)]
        rw [this]
  · cases h
end Go.Abs
end
section
/- What arith's functions answer, in whole numbers: signs, bits, sums, products. -/
namespace Go.Abs
open Go.Proofs Go.Dig
theorem val_lb (z : Int) : val 4294967296 (lb 4294967296 z) = az z := lb_val W_two z
theorem num_lbW (z : Int) : num 4294967296 (sg z) (lb 4294967296 z) = z := num_lb W_two z
theorem okW_lb (z : Int) : okB 4294967296 (lb 4294967296 z) = true := lb_ok W_two z
theorem cnW (z : Int) : cn 4294967296 (sg z) (lb 4294967296 z) = decide (z.natAbs < Lim) := cn_lb W_two z
theorem clW {z : Int} (h : z.natAbs < Lim) : cl 4294967296 (lb 4294967296 z) = true := cl_lb h
theorem fewW {z : Int} (h : z.natAbs < Lim) : few (lb 4294967296 z) = true := few_lb h
set_option exponentiation.threshold 20000 in
/-- A number that is held is not too large for anything. -/
theorem big_1024 : (2 : Nat) ^ 1024 * 2 ^ 1024 < Lim := Nat.lt_of_not_le (fun h => by
  have : Nat.ble (Lim) (2 ^ 1024 * 2 ^ 1024) = true := Nat.ble_eq_true_of_le h
  have h2 : Nat.ble (Lim) (2 ^ 1024 * 2 ^ 1024) = false := by kernel_rfl
  rw [h2] at this
  cases this)
theorem fits_iff {z : Int} : fits z = true ↔ z.natAbs < 2 ^ 1024 := by unfold fits; exact decide_eq_true_iff
set_option exponentiation.threshold 20000 in
theorem small_of_fits {z : Int} (h : fits z = true) : z.natAbs < Lim := by
  have h1 := fits_iff.1 h
  have h2 := big_1024
  have h3 : (1 : Nat) ≤ 2 ^ 1024 := Nat.one_le_two_pow
  have h4 : 2 ^ 1024 * 1 ≤ (2 : Nat) ^ 1024 * 2 ^ 1024 := Nat.mul_le_mul_left _ h3
  generalize (2 : Nat) ^ 1024 = K at *
  generalize Lim = L at *
  omega
set_option exponentiation.threshold 20000 in
theorem small_add {x y : Int} (hx : fits x = true) (hy : fits y = true) : (x + y).natAbs < Lim := by
  have h1 := fits_iff.1 hx
  have h2 := fits_iff.1 hy
  have h3 := big_1024
  have h5 : (2 : Nat) ≤ 2 ^ 1024 := Nat.le_of_ble_eq_true (by kernel_rfl)
  have h4 : 2 ^ 1024 * 2 ≤ (2 : Nat) ^ 1024 * 2 ^ 1024 := Nat.mul_le_mul_left _ h5
  generalize (2 : Nat) ^ 1024 = K at *
  generalize Lim = L at *
  omega
set_option exponentiation.threshold 20000 in
theorem small_mul {x y : Int} (hx : fits x = true) (hy : fits y = true) : (x * y).natAbs < Lim := by
  have h1 := fits_iff.1 hx
  have h2 := fits_iff.1 hy
  have h3 := big_1024
  have h4 : x.natAbs * y.natAbs ≤ 2 ^ 1024 * 2 ^ 1024 := Nat.mul_le_mul (Nat.le_of_lt h1) (Nat.le_of_lt h2)
  rw [Int.natAbs_mul]
  exact Nat.lt_of_le_of_lt h4 h3
theorem az_nonneg (z : Int) : 0 ≤ az z := by unfold az; omega
theorem hz_of {z : Int} (h : fits z = true) : hz z = z := by unfold hz; rw [h]; rfl
theorem he_of {z : Int} (h : fits z = true) : he z = 0 := by unfold he; rw [h]; rfl
theorem blen_le {z : Int} (h : 0 ≤ z) (k : Nat) : blen z ≤ k ↔ z < 2 ^ k := by
  by_cases h0 : z = 0
  · subst h0
    have : (0 : Int) < 2 ^ k := Int.pow_pos (by decide)
    simp [blen, this]
  · obtain ⟨b1, b2, b3⟩ := blen_pow (show 0 < z by omega)
    constructor
    · intro hk
      obtain ⟨m, hm⟩ : ∃ m, k = (blen z).toNat + m := ⟨k - (blen z).toNat, by omega⟩
      rw [hm, Int.pow_add]
      have hp : (0 : Int) < 2 ^ m := Int.pow_pos (by decide)
      have : (2 : Int) ^ (blen z).toNat * 1 ≤ 2 ^ (blen z).toNat * 2 ^ m := Int.mul_le_mul_of_nonneg_left (by omega) (by omega)
      omega
    · intro hk
      refine Int.not_lt.1 (fun hgt => ?_)
      obtain ⟨m, hm⟩ : ∃ m, (blen z - 1).toNat = k + m := ⟨(blen z - 1).toNat - k, by omega⟩
      rw [hm, Int.pow_add] at b2
      have hp : (0 : Int) < 2 ^ m := Int.pow_pos (by decide)
      have : (2 : Int) ^ k * 1 ≤ 2 ^ k * 2 ^ m := Int.mul_le_mul_of_nonneg_left (by omega) (Int.pow_nonneg (by decide))
      omega
set_option exponentiation.threshold 20000 in
theorem fits_blen (z : Int) : fits z = decide (blen (az z) ≤ 1024) := by
  rw [Bool.eq_iff_iff, fits_iff, decide_eq_true_eq]
  have h := blen_le (az_nonneg z) 1024
  have h : blen (az z) ≤ 1024 ↔ az z < 2 ^ 1024 := h
  rw [h]
  unfold az
  have e : ((2 ^ 1024 : Nat) : Int) = (2 : Int) ^ 1024 := Int.natCast_pow ..
  rw [← e]
  exact (Int.ofNat_lt).symm
theorem meets_sign : Meets Try.prog 45 ansSign := by
  refine meets_fn noOrc_ok Try.f45 Try.func45 (by kernel_rfl) (fun args r h => ?_)
  unfold ansSign at h
  split at h
  · rename_i s l
    simp only [Option.some.injEq, Prod.mk.injEq] at h
    obtain ⟨h, rfl⟩ := h
    obtain ⟨z, rfl, rfl, hz⟩ := (cn_iff W_two).1 h
    refine ⟨rfl, _, noTab_all, (Sign.rest _ _).trans ?_⟩
    have hnil := lb_nil W_two (z := z)
    rw [num_lbW]
    unfold cmpZ
    by_cases h0 : z = 0
    · subst h0; rfl
    · have : ((lb 4294967296 z).length : Int) ≠ 0 := by
        intro h; exact h0 (hnil.1 (List.eq_nil_of_length_eq_zero (by omega)))
      have e1 : (((lb 4294967296 z).length : Int) == 0) = false := by rw [beq_eq_false_iff_ne]; exact this
      rw [e1]
      unfold sg
      by_cases h1 : z < 0
      · rw [decide_eq_true h1, if_pos h1]; rfl
      · rw [decide_eq_false h1, if_neg h1, if_pos (by omega)]; rfl
  · cases h
theorem blen_lb {z : Int} (h0 : z ≠ 0) : blen (az z) = 32 * ((lb 4294967296 z).length - 1 : Nat) + blen ((lb 4294967296 z).getD ((lb 4294967296 z).length - 1) 0) := by
  have ok := okW_lb z
  have hn : lb 4294967296 z ≠ [] := fun h => h0 ((lb_nil W_two).1 h)
  have hl : 0 < (lb 4294967296 z).length := List.length_pos_iff.2 hn
  have hlast := lb_last 4294967296 z
  have hv := val_lb z
  generalize lb 4294967296 z = l at *
  obtain ⟨n, hn2⟩ : ∃ n, l.length = n + 1 := ⟨l.length - 1, by omega⟩
  rw [hn2, Nat.add_sub_cancel]
  have hd : val 4294967296 l = val 4294967296 (l.take n) + 4294967296 ^ n * l.getD n 0 := by
    have := val_take_succ 4294967296 l n
    rw [List.take_of_length_le (by omega)] at this
    exact this
  have ht := getD_ok W_pos ok n
  have hne : l.getD n 0 ≠ 0 := by
    rw [List.getLast?_eq_getElem?, hn2, Nat.add_sub_cancel, List.getElem?_eq_getElem (by omega)] at hlast
    rw [getD_at (by omega)]
    intro h; exact hlast (congrArg some h)
  have lo0 := val_nonneg W_pos (okB_take ok n)
  have lo1 := val_lt W_pos (okB_take ok n)
  rw [List.length_take, Nat.min_eq_left (by omega)] at lo1
  obtain ⟨c1, c2, c3⟩ := blen_pow (show 0 < l.getD n 0 by omega)
  generalize l.getD n 0 = t at *
  have e32 : (4294967296 : Int) ^ n = 2 ^ (32 * n) := by rw [Int.pow_mul]; rfl
  have hP : (0 : Int) < 4294967296 ^ n := Int.pow_pos (by decide)
  have g1 : 4294967296 ^ n * 2 ^ (blen t - 1).toNat ≤ 4294967296 ^ n * t := Int.mul_le_mul_of_nonneg_left c2 (by omega)
  have g2 : 4294967296 ^ n * (t + 1) ≤ 4294967296 ^ n * 2 ^ (blen t).toNat := Int.mul_le_mul_of_nonneg_left (by omega) (by omega)
  rw [Int.mul_add, Int.mul_one] at g2
  have g3 : (2 : Int) ^ (32 * n + (blen t - 1).toNat) = 4294967296 ^ n * 2 ^ (blen t - 1).toNat := by rw [Int.pow_add, e32]
  have g4 : (2 : Int) ^ (32 * n + (blen t - 1).toNat + 1) = 4294967296 ^ n * 2 ^ (blen t).toNat := by rw [show 32 * n + (blen t - 1).toNat + 1 = 32 * n + (blen t).toNat by omega, Int.pow_add, e32]
  rw [← hv, blen_eq (k := 32 * n + (blen t - 1).toNat) (by have := Int.mul_pos hP (show 0 < t by omega); omega) (by omega) (by omega)]
  omega
theorem blen_top {t : Int} (h0 : 0 ≤ t) (h1 : t < 4294967296) : 0 ≤ blen t ∧ blen t ≤ 32 := by
  refine ⟨?_, (blen_le h0 32).2 h1⟩
  by_cases h : t = 0
  · subst h; decide
  · have := (blen_pow (show 0 < t by omega)).1; omega
theorem meets_bits : Meets Try.prog 96 ansBits := by
  refine meets_fn (orc_ok (l := Bits.ans) ⟨meets_len32, trivial⟩) Try.f96 Try.func96 (by kernel_rfl) (fun args r h => ?_)
  unfold ansBits at h
  split at h
  · rename_i s l
    simp only [Option.some.injEq, Prod.mk.injEq] at h
    obtain ⟨h, rfl⟩ := h
    obtain ⟨z, rfl, rfl, hz⟩ := (cn_iff W_two).1 h
    refine ⟨rfl, _, noTab_all, (Bits.rest _ _).trans ?_⟩
    rw [num_lbW]
    have hlen := lb_length hz
    by_cases h0 : z = 0
    · subst h0; rfl
    · have hn : lb 4294967296 z ≠ [] := fun h => h0 ((lb_nil W_two).1 h)
      have hl : 0 < (lb 4294967296 z).length := List.length_pos_iff.2 hn
      have hb := blen_lb h0
      have ht := getD_ok W_pos (okW_lb z) ((lb 4294967296 z).length - 1)
      obtain ⟨t0, t1⟩ := blen_top ht.1 ht.2
      have e1 : (((lb 4294967296 z).length : Int) == 0) = false := by rw [beq_eq_false_iff_ne]; omega
      have e2 : IntKind.i64.wrap (((lb 4294967296 z).length : Int) - 1) = (((lb 4294967296 z).length - 1 : Nat) : Int) := by rw [w64 (by omega) (by omega)]; omega
      rw [e1, e2, bT (inB_iff.2 (by omega)), rd_toNat, Int.toNat_natCast, decide_eq_true ht.1, decide_eq_true ht.2, w64 (n := 32 * _) (by omega) (by omega), w64 (by omega) (by omega), hb]
      rfl
  · cases h
theorem meets_held : Meets Try.prog 78 ansHeld := by
  refine meets_fn (orc_ok (l := Held.ans) ⟨meets_bits, trivial⟩) Try.f78 Try.func78 (by kernel_rfl) (fun args r h => ?_)
  unfold ansHeld at h
  split at h
  · rename_i s l
    simp only [Option.some.injEq, Prod.mk.injEq] at h
    obtain ⟨h, rfl⟩ := h
    refine ⟨rfl, _, noTab_all, (Held.rest _ _).trans ?_⟩
    rw [h]
    obtain ⟨z, rfl, rfl, hz⟩ := (cn_iff W_two).1 h
    rw [num_lbW]
    have hf := fits_blen z
    by_cases hb : blen (az z) ≤ 1024
    · rw [decide_eq_true hb] at hf
      rw [decide_eq_false (by omega), hz_of hf, he_of hf]
      rfl
    · rw [decide_eq_false hb] at hf
      rw [decide_eq_true (by omega)]
      unfold Abs.hz he
      rw [hf]
      rfl
  · cases h
theorem okB_two {B x y : Int} (hx : 0 ≤ x ∧ x < B) (hy : 0 ≤ y ∧ y < B) : okB B [x, y] = true := okB_cons.2 ⟨hx, okB_one hy⟩
theorem meets_from : Meets Try.prog 61 ansFrom := by
  refine meets_fn (orc_ok (l := From.ans) ⟨meets_norm, trivial⟩) Try.f61 Try.func61 (by kernel_rfl) (fun args r h => ?_)
  unfold ansFrom at h
  split at h
  · rename_i n
    simp only [Option.some.injEq, Prod.mk.injEq, i64B, Bool.and_eq_true, decide_eq_true_eq] at h
    obtain ⟨⟨h0, h1⟩, rfl⟩ := h
    refine ⟨rfl, _, noTab_all, (From.rest n).trans ?_⟩
    have key : ∀ u : Int, 0 ≤ u → u ≤ 18446744073709551615 → okB 4294967296 [IntKind.u32.wrap u, IntKind.u32.wrap (u.fdiv (2 ^ 32))] = true ∧ val 4294967296 [IntKind.u32.wrap u, IntKind.u32.wrap (u.fdiv (2 ^ 32))] = u := by
      intro u u0 u1
      rw [fdiv32, wu32_mod, wu32_mod]
      refine ⟨okB_two (by omega) (by omega), ?_⟩
      simp only [val]
      omega
    by_cases hn : n < 0
    · have e1 : IntKind.u64.wrap (0 - IntKind.u64.wrap n) = -n := by rw [wu64_mod, wu64_mod]; omega
      obtain ⟨k1, k2⟩ := key (-n) (by omega) (by omega)
      rw [decide_eq_true hn, e1, k1]
      have : num 4294967296 true [IntKind.u32.wrap (-n), IntKind.u32.wrap ((-n).fdiv (2 ^ 32))] = n := by
        unfold num; rw [k2]; simp
      rw [this]
      rfl
    · have e1 : IntKind.u64.wrap n = n := wu64 (by omega) (by omega)
      obtain ⟨k1, k2⟩ := key n (by omega) (by omega)
      rw [decide_eq_false hn, e1, k1]
      have : num 4294967296 false [IntKind.u32.wrap n, IntKind.u32.wrap (n.fdiv (2 ^ 32))] = n := by
        unfold num; rw [k2]; simp
      rw [this]
      rfl
  · cases h
theorem meets_neg : Meets Try.prog 62 ansNeg := by
  refine meets_fn (orc_ok (l := Neg.ans) ⟨meets_norm, trivial⟩) Try.f62 Try.func62 (by kernel_rfl) (fun args r h => ?_)
  unfold ansNeg at h
  split at h
  · rename_i s l
    simp only [Option.some.injEq, Prod.mk.injEq] at h
    obtain ⟨h, rfl⟩ := h
    obtain ⟨z, rfl, rfl, hz⟩ := (cn_iff W_two).1 h
    refine ⟨rfl, _, noTab_all, (Neg.rest _ _).trans ?_⟩
    rw [num_lbW, fewW hz, okW_lb]
    by_cases h0 : z = 0
    · subst h0; rfl
    · have hn : lb 4294967296 z ≠ [] := fun h => h0 ((lb_nil W_two).1 h)
      have hl : 0 < (lb 4294967296 z).length := List.length_pos_iff.2 hn
      have e1 : (((lb 4294967296 z).length : Int) == 0) = false := by rw [beq_eq_false_iff_ne]; omega
      have : num 4294967296 (!sg z) (lb 4294967296 z) = -z := by
        unfold num sg
        rw [val_lb]
        unfold az
        by_cases h1 : z < 0
        · rw [decide_eq_true h1]; simp; omega
        · rw [decide_eq_false h1]; simp; omega
      rw [e1, this]
      rfl
  · cases h
theorem meets_abs : Meets Try.prog 93 ansAbs := by
  refine meets_fn (orc_ok (l := Abs_.ans) ⟨meets_norm, trivial⟩) Try.f93 Try.func93 (by kernel_rfl) (fun args r h => ?_)
  unfold ansAbs at h
  split at h
  · rename_i s l
    simp only [Option.some.injEq, Prod.mk.injEq] at h
    obtain ⟨h, rfl⟩ := h
    obtain ⟨z, rfl, rfl, hz⟩ := (cn_iff W_two).1 h
    refine ⟨rfl, _, noTab_all, (Abs_.rest _ _).trans ?_⟩
    have : num 4294967296 false (lb 4294967296 z) = az z := by unfold num; rw [val_lb]; rfl
    rw [num_lbW, fewW hz, okW_lb, this]
    rfl
  · cases h
theorem meets_cmp : Meets Try.prog 57 ansCmp := by
  refine meets_fn (orc_ok (l := Cmp.ans) ⟨meets_cmpMag, trivial⟩) Try.f57 Try.func57 (by kernel_rfl) (fun args r h => ?_)
  unfold ansCmp at h
  split at h
  · rename_i s l t m
    simp only [Option.some.injEq, Prod.mk.injEq, Bool.and_eq_true] at h
    obtain ⟨⟨h, k⟩, rfl⟩ := h
    obtain ⟨x, rfl, rfl, hx⟩ := (cn_iff W_two).1 h
    obtain ⟨y, rfl, rfl, hy⟩ := (cn_iff W_two).1 k
    refine ⟨rfl, _, noTab_all, (Cmp.rest _ _ _ _).trans ?_⟩
    rw [num_lbW, num_lbW, clW hx, clW hy, val_lb, val_lb]
    unfold sg cmpZ az
    by_cases h1 : x < 0 <;> by_cases h2 : y < 0 <;> simp only [h1, h2, decide_true, decide_false, beq_self_eq_true, Bool.not_true, Bool.not_false, cond_true, cond_false, Bool.and_self, Bool.true_beq, Bool.false_beq, Option.some.injEq, Res.val.injEq, AV.int.injEq, true_and] <;> (repeat' split) <;> omega
  · cases h
end Go.Abs
end
section
/- What arith's functions answer, in whole numbers: sums, products, quotients, common divisors. -/
namespace Go.Abs
open Go.Proofs Go.Dig
/-- The number of a sign and a list with a value. -/
theorem num_of {B : Int} {s : Bool} {l : List Int} {v : Int} (h : val B l = v) : num B s l = bif s then -v else v := by unfold num; rw [h]
theorem plusL_len (a b : List Int) : (plusL a b).length = max a.length b.length + 1 := digN_length ..
theorem lessL_len (a b : List Int) : (lessL a b).length = a.length := digN_length ..
theorem timesL_len (a b : List Int) : (timesL a b).length = a.length + b.length := digN_length ..
theorem plusL_ok (a b : List Int) : okB 4294967296 (plusL a b) = true := digN_ok W_pos _ _
theorem lessL_ok (a b : List Int) : okB 4294967296 (lessL a b) = true := digN_ok W_pos _ _
theorem timesL_ok (a b : List Int) : okB 4294967296 (timesL a b) = true := digN_ok W_pos _ _
theorem pow_mono {B : Int} (hB : 1 ≤ B) {m n : Nat} (h : m ≤ n) : B ^ m ≤ B ^ n := by
  obtain ⟨k, rfl⟩ : ∃ k, n = m + k := ⟨n - m, by omega⟩
  rw [Int.pow_add]
  have h1 : (0 : Int) < B ^ k := Int.pow_pos (by omega)
  have h2 : (0 : Int) ≤ B ^ m := Int.pow_nonneg (by omega)
  have : B ^ m * 1 ≤ B ^ m * B ^ k := Int.mul_le_mul_of_nonneg_left (by omega) h2
  omega
theorem plusL_val {a b : List Int} (ha : okB 4294967296 a = true) (hb : okB 4294967296 b = true) : val 4294967296 (plusL a b) = val 4294967296 a + val 4294967296 b := by
  have a0 := val_nonneg W_pos ha
  have b0 := val_nonneg W_pos hb
  have a1 := val_lt W_pos ha
  have b1 := val_lt W_pos hb
  have a2 := pow_mono (B := 4294967296) (by decide) (Nat.le_max_left a.length b.length)
  have b2 := pow_mono (B := 4294967296) (by decide) (Nat.le_max_right a.length b.length)
  unfold plusL
  refine val_digN W_pos _ _ (by omega) ?_
  rw [Int.pow_succ]
  have : (0 : Int) < 4294967296 ^ max a.length b.length := Int.pow_pos (by decide)
  omega
theorem lessL_val {a b : List Int} (ha : okB 4294967296 a = true) (hb : okB 4294967296 b = true) (h : val 4294967296 b ≤ val 4294967296 a) : val 4294967296 (lessL a b) = val 4294967296 a - val 4294967296 b := by
  have b0 := val_nonneg W_pos hb
  have a1 := val_lt W_pos ha
  exact val_digN W_pos _ _ (by omega) (by omega)
theorem timesL_val {a b : List Int} (ha : okB 4294967296 a = true) (hb : okB 4294967296 b = true) : val 4294967296 (timesL a b) = val 4294967296 a * val 4294967296 b := by
  have a0 := val_nonneg W_pos ha
  have b0 := val_nonneg W_pos hb
  have a1 := val_lt W_pos ha
  have b1 := val_lt W_pos hb
  unfold timesL
  refine val_digN W_pos _ _ (Int.mul_nonneg a0 b0) ?_
  rw [Int.pow_add]
  have h1 : val 4294967296 a * val 4294967296 b ≤ val 4294967296 a * 4294967296 ^ b.length := Int.mul_le_mul_of_nonneg_left (by omega) a0
  have h2 : val 4294967296 a * 4294967296 ^ b.length < 4294967296 ^ a.length * 4294967296 ^ b.length := Int.mul_lt_mul_of_pos_right a1 (Int.pow_pos (by decide))
  omega
/-- Signs and amounts. -/
theorem sg_cases (z : Int) : (sg z = true ∧ z < 0 ∧ az z = -z) ∨ (sg z = false ∧ 0 ≤ z ∧ az z = z) := by
  unfold sg az
  by_cases h : z < 0
  · exact .inl ⟨decide_eq_true h, h, by omega⟩
  · exact .inr ⟨decide_eq_false h, by omega, by omega⟩
theorem lb_len_le {x y : Int} (h : az x ≤ az y) : (lb 4294967296 x).length ≤ (lb 4294967296 y).length := by
  refine Nat.not_lt.1 (fun hlt => ?_)
  have := val_lt_of_length W_two (okW_lb y) (okW_lb x) (lb_last _ _) hlt
  rw [val_lb, val_lb] at this
  omega
theorem meets_plus : Meets Try.prog 79 ansPlus := by
  refine meets_fn (orc_ok (l := Plus.ans) ⟨meets_norm, meets_cmpMag, meets_plusMag, meets_lessMag meets_sub32, trivial⟩) Try.f79 Try.func79 (by kernel_rfl) (fun args r h => ?_)
  unfold ansPlus at h
  split at h
  · rename_i s l t m
    simp only [Option.some.injEq, Prod.mk.injEq, Bool.and_eq_true] at h
    obtain ⟨⟨h, k⟩, rfl⟩ := h
    obtain ⟨x, rfl, rfl, hx⟩ := (cn_iff W_two).1 h
    obtain ⟨y, rfl, rfl, hy⟩ := (cn_iff W_two).1 k
    refine ⟨rfl, _, noTab_all, (Plus.rest _ _ _ _).trans ?_⟩
    have lx := lb_length hx
    have ly := lb_length hy
    have f1 : few (plusL (lb 4294967296 x) (lb 4294967296 y)) = true := few_iff.2 (by rw [plusL_len]; omega)
    have f2 : few (lessL (lb 4294967296 x) (lb 4294967296 y)) = true := few_iff.2 (by rw [lessL_len]; omega)
    have f3 : few (lessL (lb 4294967296 y) (lb 4294967296 x)) = true := few_iff.2 (by rw [lessL_len]; omega)
    have hge : cmpZ (az x) (az y) ≥ 0 ↔ az y ≤ az x := by have := cmpZ_lt (az x) (az y); omega
    rw [num_lbW, num_lbW]
    simp only [fewW hx, fewW hy, okW_lb, clW hx, clW hy, f1, f2, f3, plusL_ok, lessL_ok, val_lb, Bool.and_self, Bool.true_and, cond_true]
    by_cases hc : az y ≤ az x
    · have d1 : decide (cmpZ (az x) (az y) ≥ 0) = true := decide_eq_true (hge.2 hc)
      have e2 : val 4294967296 (lessL (lb 4294967296 x) (lb 4294967296 y)) = az x - az y := by rw [lessL_val (okW_lb x) (okW_lb y) (by rw [val_lb, val_lb]; exact hc), val_lb, val_lb]
      have e1 : val 4294967296 (plusL (lb 4294967296 x) (lb 4294967296 y)) = az x + az y := by rw [plusL_val (okW_lb x) (okW_lb y), val_lb, val_lb]
      rw [d1, decide_eq_true (lb_len_le hc), decide_eq_true hc, num_of e1, num_of e2]
      rcases sg_cases x with ⟨a1, a2, a3⟩ | ⟨a1, a2, a3⟩ <;> rcases sg_cases y with ⟨b1, b2, b3⟩ | ⟨b1, b2, b3⟩ <;> rw [a1, b1, a3, b3] <;> simp only [beq_self_eq_true, Bool.and_self, cond_true, cond_false, Bool.true_beq, Bool.false_beq, Bool.not_true, Bool.not_false] <;> congr 4 <;> omega
    · have d1 : decide (cmpZ (az x) (az y) ≥ 0) = false := decide_eq_false (fun h => hc (hge.1 h))
      have hc2 : az x ≤ az y := by omega
      have e2 : val 4294967296 (lessL (lb 4294967296 y) (lb 4294967296 x)) = az y - az x := by rw [lessL_val (okW_lb y) (okW_lb x) (by rw [val_lb, val_lb]; exact hc2), val_lb, val_lb]
      have e1 : val 4294967296 (plusL (lb 4294967296 x) (lb 4294967296 y)) = az x + az y := by rw [plusL_val (okW_lb x) (okW_lb y), val_lb, val_lb]
      rw [d1, decide_eq_true (lb_len_le hc2), decide_eq_true hc2, num_of e1, num_of e2]
      rcases sg_cases x with ⟨a1, a2, a3⟩ | ⟨a1, a2, a3⟩ <;> rcases sg_cases y with ⟨b1, b2, b3⟩ | ⟨b1, b2, b3⟩ <;> rw [a1, b1, a3, b3] <;> simp only [beq_self_eq_true, Bool.and_self, cond_true, cond_false, Bool.true_beq, Bool.false_beq, Bool.not_true, Bool.not_false] <;> congr 4 <;> omega
  · cases h
theorem meets_add : Meets Try.prog 56 ansAdd := by
  refine meets_fn (orc_ok (l := Add.ans) ⟨meets_held, meets_plus, trivial⟩) Try.f56 Try.func56 (by kernel_rfl) (fun args r h => ?_)
  unfold ansAdd at h
  split at h
  · rename_i s l t m
    simp only [Option.some.injEq, Prod.mk.injEq, Bool.and_eq_true] at h
    obtain ⟨⟨⟨⟨h, k⟩, f1⟩, f2⟩, rfl⟩ := h
    refine ⟨rfl, _, noTab_all, (Add.rest _ _ _ _).trans ?_⟩
    rw [h, k, cnW, decide_eq_true (small_add f1 f2), N_eq]
    rfl
  · cases h
theorem meets_mul : Meets Try.prog 75 ansMul := by
  refine meets_fn (orc_ok (l := Mul.ans) ⟨meets_held, meets_norm, meets_timesMag, trivial⟩) Try.f75 Try.func75 (by kernel_rfl) (fun args r h => ?_)
  unfold ansMul at h
  split at h
  · rename_i s l t m
    simp only [Option.some.injEq, Prod.mk.injEq, Bool.and_eq_true] at h
    obtain ⟨⟨⟨⟨h, k⟩, f1⟩, f2⟩, rfl⟩ := h
    obtain ⟨x, rfl, rfl, hx⟩ := (cn_iff W_two).1 h
    obtain ⟨y, rfl, rfl, hy⟩ := (cn_iff W_two).1 k
    rw [num_lbW] at f1 f2
    refine ⟨rfl, _, noTab_all, (Mul.rest _ _ _ _).trans ?_⟩
    have lx := lb_length hx
    have ly := lb_length hy
    have g1 : few (timesL (lb 4294967296 x) (lb 4294967296 y)) = true := few_iff.2 (by rw [timesL_len]; omega)
    have e1 : num 4294967296 (!sg x == sg y) (timesL (lb 4294967296 x) (lb 4294967296 y)) = x * y := by
      rw [num_of (timesL_val (okW_lb x) (okW_lb y)), val_lb, val_lb]
      rcases sg_cases x with ⟨a1, a2, a3⟩ | ⟨a1, a2, a3⟩ <;> rcases sg_cases y with ⟨b1, b2, b3⟩ | ⟨b1, b2, b3⟩ <;> rw [a1, b1, a3, b3] <;> simp [Int.neg_mul, Int.mul_neg]
    rw [fewW hx, fewW hy, okW_lb, okW_lb, g1, timesL_ok, e1, cnW, decide_eq_true (small_mul f1 f2), N_eq, num_lbW, num_lbW]
    rfl
  · cases h
end Go.Abs
end
section
/- What arith's functions answer, in whole numbers: quotients, common divisors, sums of lists. -/
namespace Go.Abs
open Go.Proofs Go.Dig
/-- Quotient and rest of two numbers, by amounts. -/
theorem split_vals {x y : Int} (hx : x.natAbs < Lim) (hy : y.natAbs < Lim) (h0 : y ≠ 0) :
    okB 4294967296 (splitQ (lb 4294967296 x) (lb 4294967296 y)) = true ∧ few (splitQ (lb 4294967296 x) (lb 4294967296 y)) = true ∧ val 4294967296 (splitQ (lb 4294967296 x) (lb 4294967296 y)) = az x / az y ∧
    okB 4294967296 (splitR (lb 4294967296 x) (lb 4294967296 y)) = true ∧ few (splitR (lb 4294967296 x) (lb 4294967296 y)) = true ∧ val 4294967296 (splitR (lb 4294967296 x) (lb 4294967296 y)) = az x % az y := by
  have lx := lb_length hx
  have ly := lb_length hy
  have ax := az_nonneg x
  have ay : 0 < az y := by unfold az; omega
  have vx := val_lt W_pos (okW_lb x)
  have vy := val_lt W_pos (okW_lb y)
  rw [val_lb] at vx vy
  have q0 : 0 ≤ az x / az y := Int.ediv_nonneg ax (by omega)
  have r0 := Int.emod_nonneg (az x) (show az y ≠ 0 by omega)
  have r1 := Int.emod_lt_of_pos (az x) ay
  unfold splitQ splitR
  rw [val_lb, val_lb]
  by_cases hlt : az x < az y
  · rw [decide_eq_true hlt]
    simp only [cond_true]
    refine ⟨rfl, few_iff.2 (by simp), ?_, okW_lb x, fewW hx, ?_⟩
    · rw [Int.ediv_eq_zero_of_lt ax hlt]; rfl
    · rw [val_lb, Int.emod_eq_of_lt ax hlt]
  · rw [decide_eq_false hlt]
    simp only [cond_false]
    refine ⟨?_, ?_, ?_, digN_ok W_pos _ _, few_iff.2 (by rw [digN_length]; omega), val_digN W_pos _ _ r0 (by omega)⟩
    · cases ((lb 4294967296 y).length == 1) with
      | true => exact limbs_ok W_pos _
      | false => exact digN_ok W_pos _ _
    · have hq : az x / az y < 4294967296 ^ (lb 4294967296 x).length := Int.lt_of_le_of_lt (Int.ediv_le_self _ ax) vx
      cases ((lb 4294967296 y).length == 1) with
      | true => exact few_iff.2 (by have := limbs_length W_two q0 hq; simp only [cond_true]; omega)
      | false => exact few_iff.2 (by simp only [cond_false]; rw [digN_length]; omega)
    · cases hb : ((lb 4294967296 y).length == 1) with
      | true => exact limbs_val W_two q0
      | false =>
        refine val_digN W_pos _ _ q0 ?_
        have hyn : lb 4294967296 y ≠ [] := fun h => h0 ((lb_nil W_two).1 h)
        have hyl : 0 < (lb 4294967296 y).length := List.length_pos_iff.2 hyn
        have hge := last_ge W_two (okW_lb y) (lb_last _ _) hyn
        rw [val_lb] at hge
        have hxl : (lb 4294967296 y).length ≤ (lb 4294967296 x).length := lb_len_le (by omega)
        refine Int.ediv_lt_of_lt_mul ay ?_
        have e : (4294967296 : Int) ^ ((lb 4294967296 x).length) = 4294967296 ^ ((lb 4294967296 y).length - 1) * 4294967296 ^ ((lb 4294967296 x).length - (lb 4294967296 y).length + 1) := by
          rw [← Int.pow_add]; congr 1; omega
        have := Int.mul_le_mul_of_nonneg_right hge (show (0 : Int) ≤ 4294967296 ^ ((lb 4294967296 x).length - (lb 4294967296 y).length + 1) from Int.pow_nonneg (by decide))
        have hk : az x < az y * 4294967296 ^ ((lb 4294967296 x).length - (lb 4294967296 y).length + 1) := Int.lt_of_lt_of_le (by rw [← e]; exact vx) this
        rw [Int.mul_comm]
        exact hk
theorem div_of {x y q r : Int} (h : r + y * q = x) (hr : (0 < y ∧ 0 ≤ r ∧ r < y) ∨ (y < 0 ∧ y < r ∧ r ≤ 0)) : dq x y = q ∧ dr x y = r := by
  unfold dq dr
  rcases hr with ⟨h1, h2, h3⟩ | ⟨h1, h2, h3⟩
  · rw [if_neg (by omega), if_neg (by omega)]
    exact (Int.fdiv_fmod_unique h1).2 ⟨h, h2, h3⟩
  · rw [if_neg (by omega), if_neg (by omega)]
    exact (Int.fdiv_fmod_unique' h1).2 ⟨h, h2, h3⟩
theorem nat_le_of_lt {a b : Int} {L : Nat} (h : a.natAbs ≤ b.natAbs) (hb : b.natAbs < L) : a.natAbs < L := Nat.lt_of_le_of_lt h hb
theorem meets_div : Meets Try.prog 67 ansDiv := by
  refine meets_fn (orc_ok (l := Div.ans) ⟨meets_norm, meets_sign, meets_splitMag, meets_plus, meets_from, trivial⟩) Try.f67 Try.func67 (by kernel_rfl) (fun args r h => ?_)
  unfold ansDiv at h
  split at h
  · rename_i s l t m
    simp only [Option.some.injEq, Prod.mk.injEq, Bool.and_eq_true] at h
    obtain ⟨⟨h, k⟩, rfl⟩ := h
    refine ⟨rfl, _, noTab_all, (Div.rest _ _ _ _).trans ?_⟩
    rw [k]
    obtain ⟨x, rfl, rfl, hx⟩ := (cn_iff W_two).1 h
    obtain ⟨y, rfl, rfl, hy⟩ := (cn_iff W_two).1 k
    rw [num_lbW, num_lbW]
    by_cases h0 : y = 0
    · subst h0
      have : (cmpZ 0 0 == 0) = true := rfl
      rw [this]
      simp only [cond_true, dq, dr, dc, if_true]
      rfl
    · obtain ⟨q1, q2, q3, r1, r2, r3⟩ := split_vals hx hy h0
      have hc : (cmpZ y 0 == 0) = false := by
        rw [beq_eq_false_iff_ne]; unfold cmpZ
        split
        · omega
        · split <;> omega
      have ay : 0 < az y := by unfold az; omega
      have lx := lb_length hx
      have m0 := Int.emod_nonneg (az x) (show az y ≠ 0 by omega)
      have m1 := Int.emod_lt_of_pos (az x) ay
      have d0 : 0 ≤ az x / az y := Int.ediv_nonneg (az_nonneg x) (by omega)
      have d1 : az x / az y ≤ az x := Int.ediv_le_self _ (az_nonneg x)
      have hde := Int.emod_add_mul_ediv (az x) (az y)
      have hR := num_of (s := sg x) r3
      have hQ := num_of (s := (!sg x == sg y)) q3
      have hxx : az x = x.natAbs := rfl
      have hyy : az y = y.natAbs := rfl
      have sR : (num 4294967296 (sg x) (splitR (lb 4294967296 x) (lb 4294967296 y))).natAbs < Lim := by
        refine nat_le_of_lt ?_ hy
        rw [hR]; cases sg x <;> simp only [cond_true, cond_false] <;> omega
      have sQ : (num 4294967296 (!sg x == sg y) (splitQ (lb 4294967296 x) (lb 4294967296 y))).natAbs < Lim := by
        refine nat_le_of_lt ?_ hx
        rw [hQ]; cases (!sg x == sg y) <;> simp only [cond_true, cond_false] <;> omega
      rw [hc, clW hx, clW hy, val_lb, decide_eq_true ay, decide_eq_true (show (lb 4294967296 x).length ≤ 50000 by omega), q1, q2, r1, r2, N_eq, N_eq, cnW, cnW, decide_eq_true sR, decide_eq_true sQ]
      have hc0 : (cmpZ (num 4294967296 (sg x) (splitR (lb 4294967296 x) (lb 4294967296 y))) 0 != 0) = decide (num 4294967296 (sg x) (splitR (lb 4294967296 x) (lb 4294967296 y)) ≠ 0) := by
        rw [Bool.eq_iff_iff, bne_iff_ne, decide_eq_true_eq]; unfold cmpZ
        split
        · constructor <;> intro <;> omega
        · split
          · constructor <;> intro <;> omega
          · constructor <;> intro <;> omega
      rw [hc0, hR, hQ]
      simp only [Bool.and_self, Bool.and_true, Bool.true_and, cond_true, cond_false, dc, if_neg h0]
      generalize hA : az x / az y = A at *
      generalize hB : az x % az y = B at *
      rcases sg_cases x with ⟨a1, a2, a3⟩ | ⟨a1, a2, a3⟩ <;> rcases sg_cases y with ⟨b1, b2, b3⟩ | ⟨b1, b2, b3⟩ <;> rw [a1, b1] <;> rw [a3, b3] at hde <;> rw [b3] at m1 <;> by_cases hB0 : B = 0
      all_goals simp only [beq_self_eq_true, Bool.true_beq, Bool.false_beq, Bool.not_true, Bool.not_false, cond_true, cond_false, Bool.not_eq_true', ne_eq]
      · obtain ⟨u1, u2⟩ := div_of (x := x) (y := y) (q := A) (r := -B) (by rw [Int.neg_mul] at hde; omega) (by omega)
        rw [u1, u2, hB0]; simp
      · obtain ⟨u1, u2⟩ := div_of (x := x) (y := y) (q := A) (r := -B) (by rw [Int.neg_mul] at hde; omega) (by omega)
        rw [u1, u2, decide_eq_true (by omega)]; simp
      · obtain ⟨u1, u2⟩ := div_of (x := x) (y := y) (q := -A) (r := -B) (by rw [Int.mul_neg]; omega) (by omega)
        rw [u1, u2, hB0]; simp
      · obtain ⟨u1, u2⟩ := div_of (x := x) (y := y) (q := -A + -1) (r := -B + y) (by rw [Int.mul_add, Int.mul_neg, Int.mul_neg, Int.mul_one]; omega) (by omega)
        rw [u1, u2, decide_eq_true (by omega)]; simp
      · obtain ⟨u1, u2⟩ := div_of (x := x) (y := y) (q := -A) (r := B) (by rw [Int.neg_mul] at hde; rw [Int.mul_neg]; omega) (by omega)
        rw [u1, u2, hB0]; simp
      · obtain ⟨u1, u2⟩ := div_of (x := x) (y := y) (q := -A + -1) (r := B + y) (by rw [Int.neg_mul] at hde; rw [Int.mul_add, Int.mul_neg, Int.mul_neg, Int.mul_one]; omega) (by omega)
        rw [u1, u2, decide_eq_true (by omega)]; simp
      · obtain ⟨u1, u2⟩ := div_of (x := x) (y := y) (q := A) (r := B) hde (by omega)
        rw [u1, u2, hB0]; simp
      · obtain ⟨u1, u2⟩ := div_of (x := x) (y := y) (q := A) (r := B) hde (by omega)
        rw [u1, u2, decide_eq_true (by omega)]; simp
  · cases h
namespace Gcd
theorem loop (s : Bool) (l : List Int) (t : Bool) (m : List Int) (x y : Nat) (hx : x < Lim) (hy : y < Lim) :
    ∃ e S1, Ends T orc L0 D0 (st0 s l t m (sg x) (lb 4294967296 x) (sg y) (lb 4294967296 y)) e S1 ∧ (e = .exit 0 ∧ ∃ b k, S1 = st0 s l t m (sg (Nat.gcd x y : Nat)) (lb 4294967296 (Nat.gcd x y : Nat)) b k) := by
  refine loop_inv2 (fun (a b : Nat) => st0 s l t m (sg a) (lb 4294967296 a) (sg b) (lb 4294967296 b)) (fun a b => a < Lim ∧ b < Lim ∧ Nat.gcd a b = Nat.gcd x y) (fun a b => b)
    (fun e S1 => e = .exit 0 ∧ ∃ b k, S1 = st0 s l t m (sg (Nat.gcd x y : Nat)) (lb 4294967296 (Nat.gcd x y : Nat)) b k) isL0 ?_ x y ⟨hx, hy, rfl⟩
  intro a b ⟨ha, hb, hg⟩
  refine ⟨noTab, noTab_all, lands_of (round0 ..) ?_⟩
  have sa : ((a : Int)).natAbs < Lim := by rw [Int.natAbs_natCast]; exact ha
  have sb : ((b : Int)).natAbs < Lim := by rw [Int.natAbs_natCast]; exact hb
  rw [cnW, decide_eq_true sb, num_lbW]
  simp only [cond_true]
  by_cases h0 : b = 0
  · subst h0
    have : (cmpZ ((0 : Nat) : Int) 0 != 0) = false := rfl
    rw [this]
    simp only [cond_false, lands_some, Turns2]
    rw [← hg, Nat.gcd_zero_right]
    exact ⟨trivial, _, _, rfl⟩
  · have hc : (cmpZ (b : Int) 0 != 0) = true := by
      rw [bne_iff_ne]; unfold cmpZ; rw [if_neg (by omega), if_pos (by omega)]; decide
    obtain ⟨q1, q2, q3, r1, r2, r3⟩ := split_vals sa sb (by omega)
    have lx := lb_length sa
    have eb : az (b : Int) = (b : Int) := rfl
    have ea : az (a : Int) = (a : Int) := rfl
    have hR := num_of (s := false) r3
    rw [ea, eb] at hR
    rw [hc, clW sa, clW sb, val_lb, eb, decide_eq_true (show (0 : Int) < (b : Int) by omega), decide_eq_true (show (lb 4294967296 (a : Int)).length ≤ 50000 by omega), r1, r2, hR]
    simp only [Bool.and_self, cond_true, cond_false, lands_some, Turns2]
    refine ⟨b, a % b, by rw [Int.natCast_emod], ⟨hb, Nat.lt_of_le_of_lt (Nat.mod_le a b) ha, ?_⟩, Nat.mod_lt _ (by omega)⟩
    rw [← hg, Nat.gcd_comm b, ← Nat.gcd_rec, Nat.gcd_comm]
end Gcd
theorem meets_gcd : Meets Try.prog 71 ansGcd := by
  refine meets_fn (orc_ok (l := Gcd.ans) ⟨meets_norm, meets_abs, meets_sign, meets_splitMag, trivial⟩) Try.f71 Try.func71 (by kernel_rfl) (fun args r h => ?_)
  unfold ansGcd at h
  split at h
  · rename_i s l t m
    simp only [Option.some.injEq, Prod.mk.injEq, Bool.and_eq_true] at h
    obtain ⟨⟨h, k⟩, rfl⟩ := h
    obtain ⟨x, hs, hl, hx⟩ := (cn_iff W_two).1 h
    obtain ⟨y, ht, hm, hy⟩ := (cn_iff W_two).1 k
    obtain ⟨e1, S1, hE1, rfl, b, q, rfl⟩ := Gcd.loop s l t m x.natAbs y.natAbs hx hy
    have nx : num 4294967296 s l = x := by rw [hs, hl]; exact num_lbW x
    have ny : num 4294967296 t m = y := by rw [ht, hm]; exact num_lbW y
    refine ⟨rfl, _, tabOf_all _, (Gcd.rest s l t m (sg (Nat.gcd x.natAbs y.natAbs : Nat)) (lb 4294967296 (Nat.gcd x.natAbs y.natAbs : Nat)) b q).trans ?_⟩
    have sx : sg ((x.natAbs : Nat) : Int) = false := decide_eq_false (by omega)
    have sy : sg ((y.natAbs : Nat) : Int) = false := decide_eq_false (by omega)
    rw [sx, sy] at hE1
    rw [h, k, nx, ny]
    have e := cdec_true hE1
    unfold az
    rw [e]
    rfl
  · cases h
end Go.Abs
end
section
/- What the reference's functions of layer 1 answer: digits (1). -/
namespace Go.Abs
open Go.Proofs Go.Dig
theorem T_pos : (0 : Int) < 10 := by decide
end Go.Abs
end
section
/- States and rounds of arith's functions, as a program of this session printed them (3). -/
set_option maxRecDepth 10000
namespace Go.Abs
open Go.Proofs Go.Dig
namespace Parse
abbrev ans : Ans := [(82, ansNorm), (78, ansHeld), (81, ansScale)]
abbrev orc : Orc := orcOf ans
noncomputable def L0 : Code := lp Try.f58 0
theorem isL0 : ∃ a, L0 = .loop a := ⟨_, rfl⟩
abbrev D0 : List Nat := [0, 2, 3, 4, 5, 13, 14, 15, 16, 17, 21, 22, 23, 24, 25, 26, 27, 28, 40, 42, 43, 44]
abbrev st0 (s : ByteArray) (b0 : Bool) (x0 : Int) : St := ⟨.str s :: tops 1 (.ptr 2 0 0 :: .int .i64 (0) :: .str (s.extract 1 s.size) :: .bool (bt s (0) == 45) :: tops 7 (.str s :: .str s :: .int .i64 (↑s.size : Int) :: .bool (decide ((↑s.size : Int) > 0)) :: .bool true :: tops 3 (.bool (bt s (0) == 45) :: .bool (bt s (0) == 45) :: .str s :: .str (s.extract 1 s.size) :: .str (s.extract 1 s.size) :: .int .i64 (↑(s.extract 1 s.size).size : Int) :: .bool ((↑(s.extract 1 s.size).size : Int) == 0) :: .bool false :: tops 11 (.bool b0 :: tops 1 (.str (s.extract 1 s.size) :: .int .i64 (↑(s.extract 1 s.size).size : Int) :: .int .i64 x0 :: tops 58 ([])))))), nos 2 (varE [(false, .bool false), (true, .ints .u32 [])] :: nos 100 ([]))⟩
abbrev st0x0 (s : ByteArray) (x1 : Int) (b0 : Bool) (x0 : Int) : St := ⟨.str s :: tops 1 (.ptr 2 0 0 :: .int .i64 x1 :: .str (s.extract 1 s.size) :: .bool (bt s (0) == 45) :: tops 7 (.str s :: .str s :: .int .i64 (↑s.size : Int) :: .bool (decide ((↑s.size : Int) > 0)) :: .bool true :: tops 3 (.bool (bt s (0) == 45) :: .bool (bt s (0) == 45) :: .str s :: .str (s.extract 1 s.size) :: .str (s.extract 1 s.size) :: .int .i64 (↑(s.extract 1 s.size).size : Int) :: .bool ((↑(s.extract 1 s.size).size : Int) == 0) :: .bool false :: tops 11 (.bool b0 :: tops 1 (.str (s.extract 1 s.size) :: .int .i64 (↑(s.extract 1 s.size).size : Int) :: .int .i64 x0 :: tops 58 ([])))))), nos 2 (varE [(false, .bool false), (true, .ints .u32 [])] :: nos 100 ([]))⟩
theorem round0 (s : ByteArray) (b0 : Bool) (x0 : Int) : goL T orc (noTab) D0 L0 (st0 s b0 x0) =
    (bif decide (x0 < (↑(s.extract 1 s.size).size : Int)) then (bif inB x0 (s.extract 1 s.size).size then (bif decide (bt (s.extract 1 s.size) x0 < 48) then some (.ret, st0x0 s (10) b0 x0) else (bif inB x0 (s.extract 1 s.size).size then (bif decide (bt (s.extract 1 s.size) x0 > 57) then some (.ret, st0x0 s (10) b0 x0) else some (.normal, st0 s b0 (IntKind.i64.wrap (x0 + 1)))) else none)) else none) else some (.exit 0, st0 s b0 x0)) := by kernel_rfl
-- loop 0 ends ret st0x0 s x1 b0 x0
-- loop 0 ends exit0 st0 s b0 x0
noncomputable def L0a : Code := lp Try.f58 0
theorem isL0a : ∃ a, L0a = .loop a := ⟨_, rfl⟩
abbrev D0a : List Nat := [0, 2, 3, 4, 5, 13, 14, 15, 16, 17, 21, 22, 25, 26, 27, 28, 40, 42, 43, 44]
abbrev st0a (s : ByteArray) (b6 : Bool) (b7 : Bool) (b8 : Bool) (x4 : Int) : St := ⟨.str s :: tops 1 (.ptr 2 0 0 :: .int .i64 (0) :: .str s :: .bool b6 :: tops 7 (.str s :: .str s :: .int .i64 (↑s.size : Int) :: .bool (decide ((↑s.size : Int) > 0)) :: .bool b7 :: tops 3 (.bool b6 :: .bool b6 :: tops 2 (.str s :: .int .i64 (↑s.size : Int) :: .bool ((↑s.size : Int) == 0) :: .bool false :: tops 11 (.bool b8 :: tops 1 (.str s :: .int .i64 (↑s.size : Int) :: .int .i64 x4 :: tops 58 ([]))))))), nos 2 (varE [(false, .bool false), (true, .ints .u32 [])] :: nos 100 ([]))⟩
abbrev st0ax0 (s : ByteArray) (x5 : Int) (b6 : Bool) (b7 : Bool) (b8 : Bool) (x4 : Int) : St := ⟨.str s :: tops 1 (.ptr 2 0 0 :: .int .i64 x5 :: .str s :: .bool b6 :: tops 7 (.str s :: .str s :: .int .i64 (↑s.size : Int) :: .bool (decide ((↑s.size : Int) > 0)) :: .bool b7 :: tops 3 (.bool b6 :: .bool b6 :: tops 2 (.str s :: .int .i64 (↑s.size : Int) :: .bool ((↑s.size : Int) == 0) :: .bool false :: tops 11 (.bool b8 :: tops 1 (.str s :: .int .i64 (↑s.size : Int) :: .int .i64 x4 :: tops 58 ([]))))))), nos 2 (varE [(false, .bool false), (true, .ints .u32 [])] :: nos 100 ([]))⟩
theorem round0a (s : ByteArray) (b6 : Bool) (b7 : Bool) (b8 : Bool) (x4 : Int) : goL T orc (noTab) D0a L0a (st0a s b6 b7 b8 x4) =
    (bif decide (x4 < (↑s.size : Int)) then (bif inB x4 s.size then (bif decide (bt s x4 < 48) then some (.ret, st0ax0 s (10) b6 b7 b8 x4) else (bif inB x4 s.size then (bif decide (bt s x4 > 57) then some (.ret, st0ax0 s (10) b6 b7 b8 x4) else some (.normal, st0a s b6 b7 b8 (IntKind.i64.wrap (x4 + 1)))) else none)) else none) else some (.exit 0, st0a s b6 b7 b8 x4)) := by kernel_rfl
-- loop 0a ends ret st0ax0 s x5 b6 b7 b8 x4
-- loop 0a ends exit0 st0a s b6 b7 b8 x4
noncomputable def L2 : Code := lp Try.f58 2
theorem isL2 : ∃ a, L2 = .loop a := ⟨_, rfl⟩
abbrev D2 : List Nat := [0, 2, 3, 4, 5, 7, 8, 9, 10, 11, 13, 14, 15, 16, 17, 21, 22, 25, 26, 27, 28, 40, 42, 43, 44, 59, 60, 61, 63, 64, 65, 66, 69, 70, 71, 72, 73, 74, 75, 76, 77, 78, 79]
abbrev st2 (s : ByteArray) (b12 : Bool) (x15 : Int) (x16 : Int) (x17 : Int) (b13 : Bool) (b14 : Bool) (x8 : Int) (x18 : Int) (l0 : List Int) : St := ⟨.str s :: tops 1 (.ptr 2 0 0 :: .int .i64 (0) :: .str s :: .bool b12 :: tops 1 (.sl 7 0 0 :: .int .i64 x15 :: .str (s.extract x15.toNat (bif false then if (↑s.size : Int) > IntKind.i64.wrap (x15 + 9) then (↑s.size : Int) else IntKind.i64.wrap (x15 + 9) else if (↑s.size : Int) < IntKind.i64.wrap (x15 + 9) then (↑s.size : Int) else IntKind.i64.wrap (x15 + 9)).toNat) :: .int .u32 x16 :: .int .u32 x17 :: tops 1 (.str s :: .str s :: .int .i64 (↑s.size : Int) :: .bool (decide ((↑s.size : Int) > 0)) :: .bool b13 :: tops 3 (.bool b12 :: .bool b12 :: tops 2 (.str s :: .int .i64 (↑s.size : Int) :: .bool ((↑s.size : Int) == 0) :: .bool false :: tops 11 (.bool b14 :: tops 1 (.str s :: .int .i64 (↑s.size : Int) :: .int .i64 x8 :: tops 14 (.str s :: .int .i64 (↑s.size : Int) :: .bool (decide ((↑s.size : Int) > 343)) :: tops 1 (.int .i64 x15 :: .str s :: .int .i64 (↑s.size : Int) :: .bool (decide (x15 < (↑s.size : Int))) :: tops 2 (.str s :: .int .i64 x15 :: .int .i64 x15 :: .int .i64 (IntKind.i64.wrap (x15 + 9)) :: .str s :: .int .i64 (↑s.size : Int) :: .int .i64 (bif false then if (↑s.size : Int) > IntKind.i64.wrap (x15 + 9) then (↑s.size : Int) else IntKind.i64.wrap (x15 + 9) else if (↑s.size : Int) < IntKind.i64.wrap (x15 + 9) then (↑s.size : Int) else IntKind.i64.wrap (x15 + 9)) :: .str (s.extract x15.toNat (bif false then if (↑s.size : Int) > IntKind.i64.wrap (x15 + 9) then (↑s.size : Int) else IntKind.i64.wrap (x15 + 9) else if (↑s.size : Int) < IntKind.i64.wrap (x15 + 9) then (↑s.size : Int) else IntKind.i64.wrap (x15 + 9)).toNat) :: .str (s.extract x15.toNat (bif false then if (↑s.size : Int) > IntKind.i64.wrap (x15 + 9) then (↑s.size : Int) else IntKind.i64.wrap (x15 + 9) else if (↑s.size : Int) < IntKind.i64.wrap (x15 + 9) then (↑s.size : Int) else IntKind.i64.wrap (x15 + 9)).toNat) :: .int .i64 (↑(s.extract x15.toNat (bif false then if (↑s.size : Int) > IntKind.i64.wrap (x15 + 9) then (↑s.size : Int) else IntKind.i64.wrap (x15 + 9) else if (↑s.size : Int) < IntKind.i64.wrap (x15 + 9) then (↑s.size : Int) else IntKind.i64.wrap (x15 + 9)).toNat).size : Int) :: .int .i64 x18 :: tops 23 ([]))))))))))), nos 2 (varE [(false, .bool false), (true, .ints .u32 [])] :: nos 4 (rowE (.ints .u32 l0) :: nos 95 ([])))⟩
theorem round2 (s : ByteArray) (b12 : Bool) (x15 : Int) (x16 : Int) (x17 : Int) (b13 : Bool) (b14 : Bool) (x8 : Int) (x18 : Int) (l0 : List Int) : goL T orc (noTab) D2 L2 (st2 s b12 x15 x16 x17 b13 b14 x8 x18 l0) =
    (bif decide (x18 < (↑(s.extract x15.toNat (bif false then if (↑s.size : Int) > IntKind.i64.wrap (x15 + 9) then (↑s.size : Int) else IntKind.i64.wrap (x15 + 9) else if (↑s.size : Int) < IntKind.i64.wrap (x15 + 9) then (↑s.size : Int) else IntKind.i64.wrap (x15 + 9)).toNat).size : Int)) then (bif inB x18 (s.extract x15.toNat (bif false then if (↑s.size : Int) > IntKind.i64.wrap (x15 + 9) then (↑s.size : Int) else IntKind.i64.wrap (x15 + 9) else if (↑s.size : Int) < IntKind.i64.wrap (x15 + 9) then (↑s.size : Int) else IntKind.i64.wrap (x15 + 9)).toNat).size then some (.normal, st2 s b12 x15 (IntKind.u32.wrap (IntKind.u32.wrap (x16 * 10) + IntKind.u32.wrap (IntKind.u8.wrap (bt (s.extract x15.toNat (bif false then if (↑s.size : Int) > IntKind.i64.wrap (x15 + 9) then (↑s.size : Int) else IntKind.i64.wrap (x15 + 9) else if (↑s.size : Int) < IntKind.i64.wrap (x15 + 9) then (↑s.size : Int) else IntKind.i64.wrap (x15 + 9)).toNat) x18 - 48)))) (IntKind.u32.wrap (x17 * 10)) b13 b14 x8 (IntKind.i64.wrap (x18 + 1)) l0) else none) else some (.exit 4, st2 s b12 x15 x16 x17 b13 b14 x8 x18 l0)) := by kernel_rfl
-- loop 2 ends exit4 st2 s b12 x15 x16 x17 b13 b14 x8 x18 l0
noncomputable def L1 : Code := lp Try.f58 1
theorem isL1 : ∃ a, L1 = .loop a := ⟨_, rfl⟩
abbrev D1 : List Nat := [0, 2, 3, 4, 5, 7, 8, 13, 14, 15, 16, 17, 21, 22, 25, 26, 27, 28, 40, 42, 43, 44, 59, 60, 61]
abbrev st1 (s : ByteArray) (b12 : Bool) (x15 : Int) (b13 : Bool) (b14 : Bool) (x8 : Int) (l0 : List Int) : St := ⟨.str s :: tops 1 (.ptr 2 0 0 :: .int .i64 (0) :: .str s :: .bool b12 :: tops 1 (.sl 7 0 0 :: .int .i64 x15 :: tops 4 (.str s :: .str s :: .int .i64 (↑s.size : Int) :: .bool (decide ((↑s.size : Int) > 0)) :: .bool b13 :: tops 3 (.bool b12 :: .bool b12 :: tops 2 (.str s :: .int .i64 (↑s.size : Int) :: .bool ((↑s.size : Int) == 0) :: .bool false :: tops 11 (.bool b14 :: tops 1 (.str s :: .int .i64 (↑s.size : Int) :: .int .i64 x8 :: tops 14 (.str s :: .int .i64 (↑s.size : Int) :: .bool (decide ((↑s.size : Int) > 343)) :: tops 41 ([]))))))))), nos 2 (varE [(false, .bool false), (true, .ints .u32 [])] :: nos 4 (rowE (.ints .u32 l0) :: nos 95 ([])))⟩
theorem round1 (s : ByteArray) (b12 : Bool) (x15 : Int) (b13 : Bool) (b14 : Bool) (x8 : Int) (l0 : List Int) (x20 : Int) (x19 : Int) (x21 : Int) : goL T orc (tabOf T orc [(22, 2585025616625118797550854632251396893418309473431785164950648237226251597721781646332670859523748775088636340792802323394286, .exit 4, st2 s b12 x15 x19 x20 b13 b14 x8 x21 l0)]) D1 L1 (st1 s b12 x15 b13 b14 x8 l0) =
    (bif decide (x15 < (↑s.size : Int)) then (bif decide (0 ≤ x15) && decide (x15 ≤ bif false then if (↑s.size : Int) > IntKind.i64.wrap (x15 + 9) then (↑s.size : Int) else IntKind.i64.wrap (x15 + 9) else if (↑s.size : Int) < IntKind.i64.wrap (x15 + 9) then (↑s.size : Int) else IntKind.i64.wrap (x15 + 9)) && decide ((bif false then if (↑s.size : Int) > IntKind.i64.wrap (x15 + 9) then (↑s.size : Int) else IntKind.i64.wrap (x15 + 9) else if (↑s.size : Int) < IntKind.i64.wrap (x15 + 9) then (↑s.size : Int) else IntKind.i64.wrap (x15 + 9)) ≤ (↑s.size : Int)) then (bif cdec (Ends T orc L2 D2 (st2 s b12 x15 (0) (1) b13 b14 x8 (0) l0) (.exit 4) (st2 s b12 x15 x19 x20 b13 b14 x8 x21 l0)) then (bif few l0 && okB (4294967296) l0 && decide (0 ≤ x20) && decide (x20 < 4294967296) && decide (0 ≤ x19) && decide (x19 < 4294967296) then some (.normal, st1 s b12 (IntKind.i64.wrap (x15 + 9)) b13 b14 x8 (scaleL l0 x20 x19)) else none) else none) else none) else some (.exit 2, st1 s b12 x15 b13 b14 x8 l0)) := by kernel_rfl
-- loop 1 ends exit2 st1 s b12 x15 b13 b14 x8 l0
noncomputable def L2a : Code := lp Try.f58 2
theorem isL2a : ∃ a, L2a = .loop a := ⟨_, rfl⟩
abbrev D2a : List Nat := [0, 2, 3, 4, 5, 7, 8, 9, 10, 11, 13, 14, 15, 16, 17, 21, 22, 23, 24, 25, 26, 27, 28, 40, 42, 43, 44, 59, 60, 61, 63, 64, 65, 66, 69, 70, 71, 72, 73, 74, 75, 76, 77, 78, 79]
abbrev st2a (s : ByteArray) (x30 : Int) (x31 : Int) (x32 : Int) (b15 : Bool) (x23 : Int) (x33 : Int) (l2 : List Int) : St := ⟨.str s :: tops 1 (.ptr 2 0 0 :: .int .i64 (0) :: .str (s.extract 1 s.size) :: .bool (bt s (0) == 45) :: tops 1 (.sl 7 0 0 :: .int .i64 x30 :: .str ((s.extract 1 s.size).extract x30.toNat (bif false then if (↑(s.extract 1 s.size).size : Int) > IntKind.i64.wrap (x30 + 9) then (↑(s.extract 1 s.size).size : Int) else IntKind.i64.wrap (x30 + 9) else if (↑(s.extract 1 s.size).size : Int) < IntKind.i64.wrap (x30 + 9) then (↑(s.extract 1 s.size).size : Int) else IntKind.i64.wrap (x30 + 9)).toNat) :: .int .u32 x31 :: .int .u32 x32 :: tops 1 (.str s :: .str s :: .int .i64 (↑s.size : Int) :: .bool (decide ((↑s.size : Int) > 0)) :: .bool true :: tops 3 (.bool (bt s (0) == 45) :: .bool (bt s (0) == 45) :: .str s :: .str (s.extract 1 s.size) :: .str (s.extract 1 s.size) :: .int .i64 (↑(s.extract 1 s.size).size : Int) :: .bool ((↑(s.extract 1 s.size).size : Int) == 0) :: .bool false :: tops 11 (.bool b15 :: tops 1 (.str (s.extract 1 s.size) :: .int .i64 (↑(s.extract 1 s.size).size : Int) :: .int .i64 x23 :: tops 14 (.str (s.extract 1 s.size) :: .int .i64 (↑(s.extract 1 s.size).size : Int) :: .bool (decide ((↑(s.extract 1 s.size).size : Int) > 343)) :: tops 1 (.int .i64 x30 :: .str (s.extract 1 s.size) :: .int .i64 (↑(s.extract 1 s.size).size : Int) :: .bool (decide (x30 < (↑(s.extract 1 s.size).size : Int))) :: tops 2 (.str (s.extract 1 s.size) :: .int .i64 x30 :: .int .i64 x30 :: .int .i64 (IntKind.i64.wrap (x30 + 9)) :: .str (s.extract 1 s.size) :: .int .i64 (↑(s.extract 1 s.size).size : Int) :: .int .i64 (bif false then if (↑(s.extract 1 s.size).size : Int) > IntKind.i64.wrap (x30 + 9) then (↑(s.extract 1 s.size).size : Int) else IntKind.i64.wrap (x30 + 9) else if (↑(s.extract 1 s.size).size : Int) < IntKind.i64.wrap (x30 + 9) then (↑(s.extract 1 s.size).size : Int) else IntKind.i64.wrap (x30 + 9)) :: .str ((s.extract 1 s.size).extract x30.toNat (bif false then if (↑(s.extract 1 s.size).size : Int) > IntKind.i64.wrap (x30 + 9) then (↑(s.extract 1 s.size).size : Int) else IntKind.i64.wrap (x30 + 9) else if (↑(s.extract 1 s.size).size : Int) < IntKind.i64.wrap (x30 + 9) then (↑(s.extract 1 s.size).size : Int) else IntKind.i64.wrap (x30 + 9)).toNat) :: .str ((s.extract 1 s.size).extract x30.toNat (bif false then if (↑(s.extract 1 s.size).size : Int) > IntKind.i64.wrap (x30 + 9) then (↑(s.extract 1 s.size).size : Int) else IntKind.i64.wrap (x30 + 9) else if (↑(s.extract 1 s.size).size : Int) < IntKind.i64.wrap (x30 + 9) then (↑(s.extract 1 s.size).size : Int) else IntKind.i64.wrap (x30 + 9)).toNat) :: .int .i64 (↑((s.extract 1 s.size).extract x30.toNat (bif false then if (↑(s.extract 1 s.size).size : Int) > IntKind.i64.wrap (x30 + 9) then (↑(s.extract 1 s.size).size : Int) else IntKind.i64.wrap (x30 + 9) else if (↑(s.extract 1 s.size).size : Int) < IntKind.i64.wrap (x30 + 9) then (↑(s.extract 1 s.size).size : Int) else IntKind.i64.wrap (x30 + 9)).toNat).size : Int) :: .int .i64 x33 :: tops 23 ([])))))))))), nos 2 (varE [(false, .bool false), (true, .ints .u32 [])] :: nos 4 (rowE (.ints .u32 l2) :: nos 95 ([])))⟩
theorem round2a (s : ByteArray) (x30 : Int) (x31 : Int) (x32 : Int) (b15 : Bool) (x23 : Int) (x33 : Int) (l2 : List Int) : goL T orc (noTab) D2a L2a (st2a s x30 x31 x32 b15 x23 x33 l2) =
    (bif decide (x33 < (↑((s.extract 1 s.size).extract x30.toNat (bif false then if (↑(s.extract 1 s.size).size : Int) > IntKind.i64.wrap (x30 + 9) then (↑(s.extract 1 s.size).size : Int) else IntKind.i64.wrap (x30 + 9) else if (↑(s.extract 1 s.size).size : Int) < IntKind.i64.wrap (x30 + 9) then (↑(s.extract 1 s.size).size : Int) else IntKind.i64.wrap (x30 + 9)).toNat).size : Int)) then (bif inB x33 ((s.extract 1 s.size).extract x30.toNat (bif false then if (↑(s.extract 1 s.size).size : Int) > IntKind.i64.wrap (x30 + 9) then (↑(s.extract 1 s.size).size : Int) else IntKind.i64.wrap (x30 + 9) else if (↑(s.extract 1 s.size).size : Int) < IntKind.i64.wrap (x30 + 9) then (↑(s.extract 1 s.size).size : Int) else IntKind.i64.wrap (x30 + 9)).toNat).size then some (.normal, st2a s x30 (IntKind.u32.wrap (IntKind.u32.wrap (x31 * 10) + IntKind.u32.wrap (IntKind.u8.wrap (bt ((s.extract 1 s.size).extract x30.toNat (bif false then if (↑(s.extract 1 s.size).size : Int) > IntKind.i64.wrap (x30 + 9) then (↑(s.extract 1 s.size).size : Int) else IntKind.i64.wrap (x30 + 9) else if (↑(s.extract 1 s.size).size : Int) < IntKind.i64.wrap (x30 + 9) then (↑(s.extract 1 s.size).size : Int) else IntKind.i64.wrap (x30 + 9)).toNat) x33 - 48)))) (IntKind.u32.wrap (x32 * 10)) b15 x23 (IntKind.i64.wrap (x33 + 1)) l2) else none) else some (.exit 4, st2a s x30 x31 x32 b15 x23 x33 l2)) := by kernel_rfl
-- loop 2a ends exit4 st2a s x30 x31 x32 b15 x23 x33 l2
noncomputable def L1a : Code := lp Try.f58 1
theorem isL1a : ∃ a, L1a = .loop a := ⟨_, rfl⟩
abbrev D1a : List Nat := [0, 2, 3, 4, 5, 7, 8, 13, 14, 15, 16, 17, 21, 22, 23, 24, 25, 26, 27, 28, 40, 42, 43, 44, 59, 60, 61]
abbrev st1a (s : ByteArray) (x30 : Int) (b15 : Bool) (x23 : Int) (l2 : List Int) : St := ⟨.str s :: tops 1 (.ptr 2 0 0 :: .int .i64 (0) :: .str (s.extract 1 s.size) :: .bool (bt s (0) == 45) :: tops 1 (.sl 7 0 0 :: .int .i64 x30 :: tops 4 (.str s :: .str s :: .int .i64 (↑s.size : Int) :: .bool (decide ((↑s.size : Int) > 0)) :: .bool true :: tops 3 (.bool (bt s (0) == 45) :: .bool (bt s (0) == 45) :: .str s :: .str (s.extract 1 s.size) :: .str (s.extract 1 s.size) :: .int .i64 (↑(s.extract 1 s.size).size : Int) :: .bool ((↑(s.extract 1 s.size).size : Int) == 0) :: .bool false :: tops 11 (.bool b15 :: tops 1 (.str (s.extract 1 s.size) :: .int .i64 (↑(s.extract 1 s.size).size : Int) :: .int .i64 x23 :: tops 14 (.str (s.extract 1 s.size) :: .int .i64 (↑(s.extract 1 s.size).size : Int) :: .bool (decide ((↑(s.extract 1 s.size).size : Int) > 343)) :: tops 41 ([])))))))), nos 2 (varE [(false, .bool false), (true, .ints .u32 [])] :: nos 4 (rowE (.ints .u32 l2) :: nos 95 ([])))⟩
theorem round1a (s : ByteArray) (x30 : Int) (b15 : Bool) (x23 : Int) (l2 : List Int) (x35 : Int) (x34 : Int) (x36 : Int) : goL T orc (tabOf T orc [(22, 2585025616625118797550854630691125113272957186682296653022108216012557278656570443285417810059861709772309064018216736452334, .exit 4, st2a s x30 x34 x35 b15 x23 x36 l2)]) D1a L1a (st1a s x30 b15 x23 l2) =
    (bif decide (x30 < (↑(s.extract 1 s.size).size : Int)) then (bif decide (0 ≤ x30) && decide (x30 ≤ bif false then if (↑(s.extract 1 s.size).size : Int) > IntKind.i64.wrap (x30 + 9) then (↑(s.extract 1 s.size).size : Int) else IntKind.i64.wrap (x30 + 9) else if (↑(s.extract 1 s.size).size : Int) < IntKind.i64.wrap (x30 + 9) then (↑(s.extract 1 s.size).size : Int) else IntKind.i64.wrap (x30 + 9)) && decide ((bif false then if (↑(s.extract 1 s.size).size : Int) > IntKind.i64.wrap (x30 + 9) then (↑(s.extract 1 s.size).size : Int) else IntKind.i64.wrap (x30 + 9) else if (↑(s.extract 1 s.size).size : Int) < IntKind.i64.wrap (x30 + 9) then (↑(s.extract 1 s.size).size : Int) else IntKind.i64.wrap (x30 + 9)) ≤ (↑(s.extract 1 s.size).size : Int)) then (bif cdec (Ends T orc L2a D2a (st2a s x30 (0) (1) b15 x23 (0) l2) (.exit 4) (st2a s x30 x34 x35 b15 x23 x36 l2)) then (bif few l2 && okB (4294967296) l2 && decide (0 ≤ x35) && decide (x35 < 4294967296) && decide (0 ≤ x34) && decide (x34 < 4294967296) then some (.normal, st1a s (IntKind.i64.wrap (x30 + 9)) b15 x23 (scaleL l2 x35 x34)) else none) else none) else none) else some (.exit 2, st1a s x30 b15 x23 l2)) := by kernel_rfl
-- loop 1a ends exit2 st1a s x30 b15 x23 l2
theorem rest_0 (s : ByteArray) (x6 : Int) (b9 : Bool) (b10 : Bool) (b11 : Bool) (x7 : Int) (x2 : Int) (b1 : Bool) (x3 : Int) : runT T orc (tabOf T orc [(8, 2585025628590623854992277685469035784553465991325676146883346425763788658036205756010234607550307971754212937460549868777198, .ret, st0x0 s x2 b1 x3), (8, 2585025628590623854992277687029307564698818278075164658811886446977482977101416959057487657014195037070540214235135455719150, .ret, st0ax0 s x6 b9 b10 b11 x7)]) Try.f58 [.str s] =
    (bif decide ((↑s.size : Int) > 0) then (bif inB (0) s.size then (bif bt s (0) == 45 then (bif true && decide (1 ≤ (↑s.size : Int)) then (bif (↑(s.extract 1 s.size).size : Int) == 0 then some (.val (.tup [.agg [.bool false, .ints .u32 []], .int .i64 (10)])) else (bif inB (0) (s.extract 1 s.size).size then (bif bt (s.extract 1 s.size) (0) == 48 then (bif decide ((↑(s.extract 1 s.size).size : Int) > 1) then some (.val (.tup [.agg [.bool false, .ints .u32 []], .int .i64 (10)])) else (bif bt s (0) == 45 then some (.val (.tup [.agg [.bool false, .ints .u32 []], .int .i64 (10)])) else (bif cdec (Ends T orc L0 D0 (st0 s (bt s (0) == 45) (0)) .ret (st0x0 s x2 b1 x3)) then some (.val (.tup [.agg [.bool false, .ints .u32 []], .int .i64 x2])) else none))) else (bif cdec (Ends T orc L0 D0 (st0 s (false) (0)) .ret (st0x0 s x2 b1 x3)) then some (.val (.tup [.agg [.bool false, .ints .u32 []], .int .i64 x2])) else none)) else none)) else none) else (bif (↑s.size : Int) == 0 then some (.val (.tup [.agg [.bool false, .ints .u32 []], .int .i64 (10)])) else (bif inB (0) s.size then (bif bt s (0) == 48 then (bif decide ((↑s.size : Int) > 1) then some (.val (.tup [.agg [.bool false, .ints .u32 []], .int .i64 (10)])) else (bif bt s (0) == 45 then some (.val (.tup [.agg [.bool false, .ints .u32 []], .int .i64 (10)])) else (bif cdec (Ends T orc L0a D0a (st0a s (bt s (0) == 45) (true) (bt s (0) == 45) (0)) .ret (st0ax0 s x6 b9 b10 b11 x7)) then some (.val (.tup [.agg [.bool false, .ints .u32 []], .int .i64 x6])) else none))) else (bif cdec (Ends T orc L0a D0a (st0a s (bt s (0) == 45) (true) (false) (0)) .ret (st0ax0 s x6 b9 b10 b11 x7)) then some (.val (.tup [.agg [.bool false, .ints .u32 []], .int .i64 x6])) else none)) else none))) else none) else (bif (↑s.size : Int) == 0 then some (.val (.tup [.agg [.bool false, .ints .u32 []], .int .i64 (10)])) else (bif inB (0) s.size then (bif bt s (0) == 48 then (bif decide ((↑s.size : Int) > 1) then some (.val (.tup [.agg [.bool false, .ints .u32 []], .int .i64 (10)])) else (bif cdec (Ends T orc L0a D0a (st0a s (false) (false) (false) (0)) .ret (st0ax0 s x6 b9 b10 b11 x7)) then some (.val (.tup [.agg [.bool false, .ints .u32 []], .int .i64 x6])) else none)) else (bif cdec (Ends T orc L0a D0a (st0a s (false) (false) (false) (0)) .ret (st0ax0 s x6 b9 b10 b11 x7)) then some (.val (.tup [.agg [.bool false, .ints .u32 []], .int .i64 x6])) else none)) else none))) := by kernel_rfl
theorem rest_1 (s : ByteArray) (b12 : Bool) (l1 : List Int) (b13 : Bool) (b14 : Bool) (x8 : Int) (x22 : Int) (x2 : Int) (b1 : Bool) (x3 : Int) : runT T orc (tabOf T orc [(8, 2585025628590623854992277685469035784553465991325676146883346425763788658036205756010234607550307971754212937460549868777198, .ret, st0x0 s x2 b1 x3), (8, 2585025628590623854992277687029307564698818278075164658811886446977482977101416959057487657014195037070540214235135455719150, .exit 0, st0a s b12 b13 b14 x8), (17, 2585025616739239178733000736461002534577496938266024331367201316383660280611729922488402123137553331067272718842187672907502, .exit 2, st1 s b12 x22 b13 b14 x8 l1)]) Try.f58 [.str s] =
    (bif decide ((↑s.size : Int) > 0) then (bif inB (0) s.size then (bif bt s (0) == 45 then (bif true && decide (1 ≤ (↑s.size : Int)) then (bif (↑(s.extract 1 s.size).size : Int) == 0 then some (.val (.tup [.agg [.bool false, .ints .u32 []], .int .i64 (10)])) else (bif inB (0) (s.extract 1 s.size).size then (bif bt (s.extract 1 s.size) (0) == 48 then (bif decide ((↑(s.extract 1 s.size).size : Int) > 1) then some (.val (.tup [.agg [.bool false, .ints .u32 []], .int .i64 (10)])) else (bif bt s (0) == 45 then some (.val (.tup [.agg [.bool false, .ints .u32 []], .int .i64 (10)])) else (bif cdec (Ends T orc L0 D0 (st0 s (bt s (0) == 45) (0)) .ret (st0x0 s x2 b1 x3)) then some (.val (.tup [.agg [.bool false, .ints .u32 []], .int .i64 x2])) else none))) else (bif cdec (Ends T orc L0 D0 (st0 s (false) (0)) .ret (st0x0 s x2 b1 x3)) then some (.val (.tup [.agg [.bool false, .ints .u32 []], .int .i64 x2])) else none)) else none)) else none) else (bif (↑s.size : Int) == 0 then some (.val (.tup [.agg [.bool false, .ints .u32 []], .int .i64 (10)])) else (bif inB (0) s.size then (bif bt s (0) == 48 then (bif decide ((↑s.size : Int) > 1) then some (.val (.tup [.agg [.bool false, .ints .u32 []], .int .i64 (10)])) else (bif bt s (0) == 45 then some (.val (.tup [.agg [.bool false, .ints .u32 []], .int .i64 (10)])) else (bif cdec (Ends T orc L0a D0a (st0a s (bt s (0) == 45) (true) (bt s (0) == 45) (0)) (.exit 0) (st0a s b12 b13 b14 x8)) then (bif decide ((↑s.size : Int) > 343) then some (.val (.tup [.agg [.bool false, .ints .u32 []], .int .i64 (11)])) else (bif cdec (Ends T orc L1 D1 (st1 s b12 (0) b13 b14 x8 ([])) (.exit 2) (st1 s b12 x22 b13 b14 x8 l1)) then (bif few l1 && okB (4294967296) l1 then (bif cn (4294967296) (sg (num (4294967296) b12 l1)) (lb (4294967296) (num (4294967296) b12 l1)) then some (.val (.tup [R (hz (N (4294967296) (num (4294967296) b12 l1))), .int .i64 (he (N (4294967296) (num (4294967296) b12 l1)))])) else none) else none) else none)) else none))) else (bif cdec (Ends T orc L0a D0a (st0a s (bt s (0) == 45) (true) (false) (0)) (.exit 0) (st0a s b12 b13 b14 x8)) then (bif decide ((↑s.size : Int) > 343) then some (.val (.tup [.agg [.bool false, .ints .u32 []], .int .i64 (11)])) else (bif cdec (Ends T orc L1 D1 (st1 s b12 (0) b13 b14 x8 ([])) (.exit 2) (st1 s b12 x22 b13 b14 x8 l1)) then (bif few l1 && okB (4294967296) l1 then (bif cn (4294967296) (sg (num (4294967296) b12 l1)) (lb (4294967296) (num (4294967296) b12 l1)) then some (.val (.tup [R (hz (N (4294967296) (num (4294967296) b12 l1))), .int .i64 (he (N (4294967296) (num (4294967296) b12 l1)))])) else none) else none) else none)) else none)) else none))) else none) else (bif (↑s.size : Int) == 0 then some (.val (.tup [.agg [.bool false, .ints .u32 []], .int .i64 (10)])) else (bif inB (0) s.size then (bif bt s (0) == 48 then (bif decide ((↑s.size : Int) > 1) then some (.val (.tup [.agg [.bool false, .ints .u32 []], .int .i64 (10)])) else (bif cdec (Ends T orc L0a D0a (st0a s (false) (false) (false) (0)) (.exit 0) (st0a s b12 b13 b14 x8)) then (bif decide ((↑s.size : Int) > 343) then some (.val (.tup [.agg [.bool false, .ints .u32 []], .int .i64 (11)])) else (bif cdec (Ends T orc L1 D1 (st1 s b12 (0) b13 b14 x8 ([])) (.exit 2) (st1 s b12 x22 b13 b14 x8 l1)) then (bif few l1 && okB (4294967296) l1 then (bif cn (4294967296) (sg (num (4294967296) b12 l1)) (lb (4294967296) (num (4294967296) b12 l1)) then some (.val (.tup [R (hz (N (4294967296) (num (4294967296) b12 l1))), .int .i64 (he (N (4294967296) (num (4294967296) b12 l1)))])) else none) else none) else none)) else none)) else (bif cdec (Ends T orc L0a D0a (st0a s (false) (false) (false) (0)) (.exit 0) (st0a s b12 b13 b14 x8)) then (bif decide ((↑s.size : Int) > 343) then some (.val (.tup [.agg [.bool false, .ints .u32 []], .int .i64 (11)])) else (bif cdec (Ends T orc L1 D1 (st1 s b12 (0) b13 b14 x8 ([])) (.exit 2) (st1 s b12 x22 b13 b14 x8 l1)) then (bif few l1 && okB (4294967296) l1 then (bif cn (4294967296) (sg (num (4294967296) b12 l1)) (lb (4294967296) (num (4294967296) b12 l1)) then some (.val (.tup [R (hz (N (4294967296) (num (4294967296) b12 l1))), .int .i64 (he (N (4294967296) (num (4294967296) b12 l1)))])) else none) else none) else none)) else none)) else none))) := by kernel_rfl
theorem rest_2 (s : ByteArray) (x38 : Int) (b23 : Bool) (b24 : Bool) (b25 : Bool) (x39 : Int) (l3 : List Int) (b15 : Bool) (x23 : Int) (x37 : Int) : runT T orc (tabOf T orc [(8, 2585025628590623854992277685469035784553465991325676146883346425763788658036205756010234607550307971754212937460549868777198, .exit 0, st0 s b15 x23), (17, 2585025616739239178733000734900730754432144651516535819438661295169965961546518719441149073673666265750945442067602085965550, .exit 2, st1a s x37 b15 x23 l3), (8, 2585025628590623854992277687029307564698818278075164658811886446977482977101416959057487657014195037070540214235135455719150, .ret, st0ax0 s x38 b23 b24 b25 x39)]) Try.f58 [.str s] =
    (bif decide ((↑s.size : Int) > 0) then (bif inB (0) s.size then (bif bt s (0) == 45 then (bif true && decide (1 ≤ (↑s.size : Int)) then (bif (↑(s.extract 1 s.size).size : Int) == 0 then some (.val (.tup [.agg [.bool false, .ints .u32 []], .int .i64 (10)])) else (bif inB (0) (s.extract 1 s.size).size then (bif bt (s.extract 1 s.size) (0) == 48 then (bif decide ((↑(s.extract 1 s.size).size : Int) > 1) then some (.val (.tup [.agg [.bool false, .ints .u32 []], .int .i64 (10)])) else (bif bt s (0) == 45 then some (.val (.tup [.agg [.bool false, .ints .u32 []], .int .i64 (10)])) else (bif cdec (Ends T orc L0 D0 (st0 s (bt s (0) == 45) (0)) (.exit 0) (st0 s b15 x23)) then (bif decide ((↑(s.extract 1 s.size).size : Int) > 343) then some (.val (.tup [.agg [.bool false, .ints .u32 []], .int .i64 (11)])) else (bif cdec (Ends T orc L1a D1a (st1a s (0) b15 x23 ([])) (.exit 2) (st1a s x37 b15 x23 l3)) then (bif few l3 && okB (4294967296) l3 then (bif cn (4294967296) (sg (num (4294967296) (bt s (0) == 45) l3)) (lb (4294967296) (num (4294967296) (bt s (0) == 45) l3)) then some (.val (.tup [R (hz (N (4294967296) (num (4294967296) (bt s (0) == 45) l3))), .int .i64 (he (N (4294967296) (num (4294967296) (bt s (0) == 45) l3)))])) else none) else none) else none)) else none))) else (bif cdec (Ends T orc L0 D0 (st0 s (false) (0)) (.exit 0) (st0 s b15 x23)) then (bif decide ((↑(s.extract 1 s.size).size : Int) > 343) then some (.val (.tup [.agg [.bool false, .ints .u32 []], .int .i64 (11)])) else (bif cdec (Ends T orc L1a D1a (st1a s (0) b15 x23 ([])) (.exit 2) (st1a s x37 b15 x23 l3)) then (bif few l3 && okB (4294967296) l3 then (bif cn (4294967296) (sg (num (4294967296) (bt s (0) == 45) l3)) (lb (4294967296) (num (4294967296) (bt s (0) == 45) l3)) then some (.val (.tup [R (hz (N (4294967296) (num (4294967296) (bt s (0) == 45) l3))), .int .i64 (he (N (4294967296) (num (4294967296) (bt s (0) == 45) l3)))])) else none) else none) else none)) else none)) else none)) else none) else (bif (↑s.size : Int) == 0 then some (.val (.tup [.agg [.bool false, .ints .u32 []], .int .i64 (10)])) else (bif inB (0) s.size then (bif bt s (0) == 48 then (bif decide ((↑s.size : Int) > 1) then some (.val (.tup [.agg [.bool false, .ints .u32 []], .int .i64 (10)])) else (bif bt s (0) == 45 then some (.val (.tup [.agg [.bool false, .ints .u32 []], .int .i64 (10)])) else (bif cdec (Ends T orc L0a D0a (st0a s (bt s (0) == 45) (true) (bt s (0) == 45) (0)) .ret (st0ax0 s x38 b23 b24 b25 x39)) then some (.val (.tup [.agg [.bool false, .ints .u32 []], .int .i64 x38])) else none))) else (bif cdec (Ends T orc L0a D0a (st0a s (bt s (0) == 45) (true) (false) (0)) .ret (st0ax0 s x38 b23 b24 b25 x39)) then some (.val (.tup [.agg [.bool false, .ints .u32 []], .int .i64 x38])) else none)) else none))) else none) else (bif (↑s.size : Int) == 0 then some (.val (.tup [.agg [.bool false, .ints .u32 []], .int .i64 (10)])) else (bif inB (0) s.size then (bif bt s (0) == 48 then (bif decide ((↑s.size : Int) > 1) then some (.val (.tup [.agg [.bool false, .ints .u32 []], .int .i64 (10)])) else (bif cdec (Ends T orc L0a D0a (st0a s (false) (false) (false) (0)) .ret (st0ax0 s x38 b23 b24 b25 x39)) then some (.val (.tup [.agg [.bool false, .ints .u32 []], .int .i64 x38])) else none)) else (bif cdec (Ends T orc L0a D0a (st0a s (false) (false) (false) (0)) .ret (st0ax0 s x38 b23 b24 b25 x39)) then some (.val (.tup [.agg [.bool false, .ints .u32 []], .int .i64 x38])) else none)) else none))) := by kernel_rfl
theorem rest_3 (s : ByteArray) (b29 : Bool) (l4 : List Int) (b26 : Bool) (b27 : Bool) (b28 : Bool) (x40 : Int) (x41 : Int) (b30 : Bool) (b31 : Bool) (x42 : Int) (l3 : List Int) (b15 : Bool) (x23 : Int) (x37 : Int) : runT T orc (tabOf T orc [(8, 2585025628590623854992277685469035784553465991325676146883346425763788658036205756010234607550307971754212937460549868777198, .exit 0, st0 s b15 x23), (17, 2585025616739239178733000734900730754432144651516535819438661295169965961546518719441149073673666265750945442067602085965550, .exit 2, st1a s x37 b15 x23 l3), (8, 2585025628590623854992277687029307564698818278075164658811886446977482977101416959057487657014195037070540214235135455719150, .exit 0, st0a s b26 b27 b28 x40), (17, 2585025616739239178733000736461002534577496938266024331367201316383660280611729922488402123137553331067272718842187672907502, .exit 2, st1 s b29 x41 b30 b31 x42 l4)]) Try.f58 [.str s] =
    (bif decide ((↑s.size : Int) > 0) then (bif inB (0) s.size then (bif bt s (0) == 45 then (bif true && decide (1 ≤ (↑s.size : Int)) then (bif (↑(s.extract 1 s.size).size : Int) == 0 then some (.val (.tup [.agg [.bool false, .ints .u32 []], .int .i64 (10)])) else (bif inB (0) (s.extract 1 s.size).size then (bif bt (s.extract 1 s.size) (0) == 48 then (bif decide ((↑(s.extract 1 s.size).size : Int) > 1) then some (.val (.tup [.agg [.bool false, .ints .u32 []], .int .i64 (10)])) else (bif bt s (0) == 45 then some (.val (.tup [.agg [.bool false, .ints .u32 []], .int .i64 (10)])) else (bif cdec (Ends T orc L0 D0 (st0 s (bt s (0) == 45) (0)) (.exit 0) (st0 s b15 x23)) then (bif decide ((↑(s.extract 1 s.size).size : Int) > 343) then some (.val (.tup [.agg [.bool false, .ints .u32 []], .int .i64 (11)])) else (bif cdec (Ends T orc L1a D1a (st1a s (0) b15 x23 ([])) (.exit 2) (st1a s x37 b15 x23 l3)) then (bif few l3 && okB (4294967296) l3 then (bif cn (4294967296) (sg (num (4294967296) (bt s (0) == 45) l3)) (lb (4294967296) (num (4294967296) (bt s (0) == 45) l3)) then some (.val (.tup [R (hz (N (4294967296) (num (4294967296) (bt s (0) == 45) l3))), .int .i64 (he (N (4294967296) (num (4294967296) (bt s (0) == 45) l3)))])) else none) else none) else none)) else none))) else (bif cdec (Ends T orc L0 D0 (st0 s (false) (0)) (.exit 0) (st0 s b15 x23)) then (bif decide ((↑(s.extract 1 s.size).size : Int) > 343) then some (.val (.tup [.agg [.bool false, .ints .u32 []], .int .i64 (11)])) else (bif cdec (Ends T orc L1a D1a (st1a s (0) b15 x23 ([])) (.exit 2) (st1a s x37 b15 x23 l3)) then (bif few l3 && okB (4294967296) l3 then (bif cn (4294967296) (sg (num (4294967296) (bt s (0) == 45) l3)) (lb (4294967296) (num (4294967296) (bt s (0) == 45) l3)) then some (.val (.tup [R (hz (N (4294967296) (num (4294967296) (bt s (0) == 45) l3))), .int .i64 (he (N (4294967296) (num (4294967296) (bt s (0) == 45) l3)))])) else none) else none) else none)) else none)) else none)) else none) else (bif (↑s.size : Int) == 0 then some (.val (.tup [.agg [.bool false, .ints .u32 []], .int .i64 (10)])) else (bif inB (0) s.size then (bif bt s (0) == 48 then (bif decide ((↑s.size : Int) > 1) then some (.val (.tup [.agg [.bool false, .ints .u32 []], .int .i64 (10)])) else (bif bt s (0) == 45 then some (.val (.tup [.agg [.bool false, .ints .u32 []], .int .i64 (10)])) else (bif cdec (Ends T orc L0a D0a (st0a s (bt s (0) == 45) (true) (bt s (0) == 45) (0)) (.exit 0) (st0a s b26 b27 b28 x40)) then (bif decide ((↑s.size : Int) > 343) then some (.val (.tup [.agg [.bool false, .ints .u32 []], .int .i64 (11)])) else (bif cdec (Ends T orc L1 D1 (st1 s b26 (0) b27 b28 x40 ([])) (.exit 2) (st1 s b29 x41 b30 b31 x42 l4)) then (bif few l4 && okB (4294967296) l4 then (bif cn (4294967296) (sg (num (4294967296) b29 l4)) (lb (4294967296) (num (4294967296) b29 l4)) then some (.val (.tup [R (hz (N (4294967296) (num (4294967296) b29 l4))), .int .i64 (he (N (4294967296) (num (4294967296) b29 l4)))])) else none) else none) else none)) else none))) else (bif cdec (Ends T orc L0a D0a (st0a s (bt s (0) == 45) (true) (false) (0)) (.exit 0) (st0a s b26 b27 b28 x40)) then (bif decide ((↑s.size : Int) > 343) then some (.val (.tup [.agg [.bool false, .ints .u32 []], .int .i64 (11)])) else (bif cdec (Ends T orc L1 D1 (st1 s b26 (0) b27 b28 x40 ([])) (.exit 2) (st1 s b29 x41 b30 b31 x42 l4)) then (bif few l4 && okB (4294967296) l4 then (bif cn (4294967296) (sg (num (4294967296) b29 l4)) (lb (4294967296) (num (4294967296) b29 l4)) then some (.val (.tup [R (hz (N (4294967296) (num (4294967296) b29 l4))), .int .i64 (he (N (4294967296) (num (4294967296) b29 l4)))])) else none) else none) else none)) else none)) else none))) else none) else (bif (↑s.size : Int) == 0 then some (.val (.tup [.agg [.bool false, .ints .u32 []], .int .i64 (10)])) else (bif inB (0) s.size then (bif bt s (0) == 48 then (bif decide ((↑s.size : Int) > 1) then some (.val (.tup [.agg [.bool false, .ints .u32 []], .int .i64 (10)])) else (bif cdec (Ends T orc L0a D0a (st0a s (false) (false) (false) (0)) (.exit 0) (st0a s b26 b27 b28 x40)) then (bif decide ((↑s.size : Int) > 343) then some (.val (.tup [.agg [.bool false, .ints .u32 []], .int .i64 (11)])) else (bif cdec (Ends T orc L1 D1 (st1 s b26 (0) b27 b28 x40 ([])) (.exit 2) (st1 s b29 x41 b30 b31 x42 l4)) then (bif few l4 && okB (4294967296) l4 then (bif cn (4294967296) (sg (num (4294967296) b29 l4)) (lb (4294967296) (num (4294967296) b29 l4)) then some (.val (.tup [R (hz (N (4294967296) (num (4294967296) b29 l4))), .int .i64 (he (N (4294967296) (num (4294967296) b29 l4)))])) else none) else none) else none)) else none)) else (bif cdec (Ends T orc L0a D0a (st0a s (false) (false) (false) (0)) (.exit 0) (st0a s b26 b27 b28 x40)) then (bif decide ((↑s.size : Int) > 343) then some (.val (.tup [.agg [.bool false, .ints .u32 []], .int .i64 (11)])) else (bif cdec (Ends T orc L1 D1 (st1 s b26 (0) b27 b28 x40 ([])) (.exit 2) (st1 s b29 x41 b30 b31 x42 l4)) then (bif few l4 && okB (4294967296) l4 then (bif cn (4294967296) (sg (num (4294967296) b29 l4)) (lb (4294967296) (num (4294967296) b29 l4)) then some (.val (.tup [R (hz (N (4294967296) (num (4294967296) b29 l4))), .int .i64 (he (N (4294967296) (num (4294967296) b29 l4)))])) else none) else none) else none)) else none)) else none))) := by kernel_rfl
end Parse
end Go.Abs
end
section
/- States and rounds of arith's functions, as a program of this session printed them (4). -/
set_option maxRecDepth 10000
namespace Go.Abs
open Go.Proofs Go.Dig
namespace Text
abbrev ans : Ans := [(72, ansPart)]
abbrev orc : Orc := orcOf ans
noncomputable def L1 : Code := lp Try.f26 1
theorem isL1 : ∃ a, L1 = .loop a := ⟨_, rfl⟩
abbrev D1 : List Nat := [0, 1, 2, 3, 4, 5, 6, 9, 10, 11, 12, 13, 14, 15, 16, 17, 18, 19, 20, 21, 22]
abbrev st1 (s : Bool) (l : List Int) (l2 : List Int) (x4 : Int) (x5 : Int) (l4 : List Int) : St := ⟨.agg [.bool s, .ints .u32 l] :: .ptr 1 0 0 :: .str { data := #[] } :: .sl 3 0 0 :: .ints .u32 (limbs (4294967296) (val (4294967296) l2 / 1000000000)) :: .int .u32 x4 :: .int .i64 x5 :: tops 2 (.ptr 1 0 1 :: .ints .u32 l :: .int .i64 (↑l.length : Int) :: .bool ((↑l.length : Int) == 0) :: .ptr 1 0 1 :: .ints .u32 l :: .ints .u32 l2 :: .int .i64 (↑l2.length : Int) :: .bool (decide ((↑l2.length : Int) > 0)) :: .tup [.ints .u32 (limbs (4294967296) (val (4294967296) l2 / 1000000000)), .int .u32 (val (4294967296) l2 % 1000000000)] :: .ints .u32 l2 :: .tup [.ints .u32 (limbs (4294967296) (val (4294967296) l2 / 1000000000)), .int .u32 (val (4294967296) l2 % 1000000000)] :: .ints .u32 (limbs (4294967296) (val (4294967296) l2 / 1000000000)) :: .int .u32 (val (4294967296) l2 % 1000000000) :: tops 53 ([])), nos 1 (varE [(false, .bool s), (false, .ints .u32 l)] :: nos 1 (rowE (.ints .u8 l4) :: nos 72 ([])))⟩
theorem round1 (s : Bool) (l : List Int) (l2 : List Int) (x4 : Int) (x5 : Int) (l4 : List Int) : goL T orc (noTab) D1 L1 (st1 s l l2 x4 x5 l4) =
    (bif decide (x5 < 9) then (bif decide ((↑(limbs (4294967296) (val (4294967296) l2 / 1000000000)).length : Int) > 0) then (bif true && decide ((l4 ++ [IntKind.u8.wrap (IntKind.u32.wrap (48 + x4.tmod (10)))]).length * 1 ≤ 140737488355328) then some (.normal, st1 s l l2 (IntKind.u32.wrap (x4.tdiv (10))) (IntKind.i64.wrap (x5 + 1)) (l4 ++ [IntKind.u8.wrap (IntKind.u32.wrap (48 + x4.tmod (10)))])) else none) else (bif decide (x4 > 0) then (bif true && decide ((l4 ++ [IntKind.u8.wrap (IntKind.u32.wrap (48 + x4.tmod (10)))]).length * 1 ≤ 140737488355328) then some (.normal, st1 s l l2 (IntKind.u32.wrap (x4.tdiv (10))) (IntKind.i64.wrap (x5 + 1)) (l4 ++ [IntKind.u8.wrap (IntKind.u32.wrap (48 + x4.tmod (10)))])) else none) else some (.exit 2, st1 s l l2 x4 x5 l4))) else some (.exit 2, st1 s l l2 x4 x5 l4)) := by kernel_rfl
-- loop 1 ends exit2 st1 s l l2 x4 x5 l4
noncomputable def L0 : Code := lp Try.f26 0
theorem isL0 : ∃ a, L0 = .loop a := ⟨_, rfl⟩
abbrev D0 : List Nat := [0, 1, 2, 3, 4, 9, 10, 11, 12, 13, 14]
abbrev st0 (s : Bool) (l : List Int) (l2 : List Int) (l3 : List Int) : St := ⟨.agg [.bool s, .ints .u32 l] :: .ptr 1 0 0 :: .str { data := #[] } :: .sl 3 0 0 :: .ints .u32 l2 :: tops 4 (.ptr 1 0 1 :: .ints .u32 l :: .int .i64 (↑l.length : Int) :: .bool ((↑l.length : Int) == 0) :: .ptr 1 0 1 :: .ints .u32 l :: tops 61 ([])), nos 1 (varE [(false, .bool s), (false, .ints .u32 l)] :: nos 1 (rowE (.ints .u8 l3) :: nos 72 ([])))⟩
theorem round0 (s : Bool) (l : List Int) (l2 : List Int) (l3 : List Int) (l5 : List Int) (x6 : Int) (x7 : Int) : goL T orc (tabOf T orc [(9, 15434055826790135822470426309716605157525547871637213005085072231847775149465239827614985966, .exit 2, st1 s l l2 x6 x7 l5)]) D0 L0 (st0 s l l2 l3) =
    (bif decide ((↑l2.length : Int) > 0) then (bif few l2 && okB (4294967296) l2 && true && true then (bif cdec (Ends T orc L1 D1 (st1 s l l2 (val (4294967296) l2 % 1000000000) (0) l3) (.exit 2) (st1 s l l2 x6 x7 l5)) then some (.normal, st0 s l (limbs (4294967296) (val (4294967296) l2 / 1000000000)) l5) else none) else none) else some (.exit 0, st0 s l l2 l3)) := by kernel_rfl
-- loop 0 ends exit0 st0 s l l2 l3
noncomputable def L2 : Code := lp Try.f26 2
theorem isL2 : ∃ a, L2 = .loop a := ⟨_, rfl⟩
abbrev D2 : List Nat := [0, 1, 2, 3, 4, 7, 8, 9, 10, 11, 12, 13, 14, 45, 46, 47, 48, 49, 50, 51, 52]
abbrev st2 (s : Bool) (l : List Int) (l6 : List Int) (x8 : Int) (x9 : Int) (l7 : List Int) (l8 : List Int) : St := ⟨.agg [.bool s, .ints .u32 l] :: .ptr 1 0 0 :: .str { data := #[] } :: .sl 3 0 0 :: .ints .u32 l6 :: tops 2 (.int .i64 x8 :: .int .i64 x9 :: .ptr 1 0 1 :: .ints .u32 l :: .int .i64 (↑l.length : Int) :: .bool ((↑l.length : Int) == 0) :: .ptr 1 0 1 :: .ints .u32 l :: tops 30 (.ptr 1 0 0 :: .bool s :: tops 1 (.sl 48 0 0 :: .sl 49 0 0 :: .sl 3 0 0 :: .int .i64 (↑(l7 ++ [45]).length : Int) :: .int .i64 (IntKind.i64.wrap ((↑(l7 ++ [45]).length : Int) - 1)) :: tops 23 ([])))), nos 1 (varE [(false, .bool s), (false, .ints .u32 l)] :: nos 1 (rowE (.ints .u8 l8) :: nos 44 (rowE (.ints .u8 [45]) :: { g := 0, pg := 0, o := some (AObj.row { g := 0, own := false, v := .top }) } :: nos 26 ([]))))⟩
theorem round2 (s : Bool) (l : List Int) (l6 : List Int) (x8 : Int) (x9 : Int) (l7 : List Int) (l8 : List Int) : goL T orc (noTab) D2 L2 (st2 s l l6 x8 x9 l7 l8) =
    (bif decide (x8 < x9) then (bif inB x9 l8.length then (bif inB x8 l8.length then (bif inB x8 l8.length then (bif inB x9 (l8.set x8.toNat (rd l8 x9)).length then some (.normal, st2 s l l6 (IntKind.i64.wrap (x8 + 1)) (IntKind.i64.wrap (x9 - 1)) l7 ((l8.set x8.toNat (rd l8 x9)).set x9.toNat (rd l8 x8))) else none) else none) else none) else none) else some (.exit 4, st2 s l l6 x8 x9 l7 l8)) := by kernel_rfl
-- loop 2 ends exit4 st2 s l l6 x8 x9 l7 l8
noncomputable def L2a : Code := lp Try.f26 2
theorem isL2a : ∃ a, L2a = .loop a := ⟨_, rfl⟩
abbrev D2a : List Nat := [0, 1, 2, 3, 4, 7, 8, 9, 10, 11, 12, 13, 14, 45, 46, 50, 51, 52]
abbrev st2a (s : Bool) (l : List Int) (l6 : List Int) (x12 : Int) (x13 : Int) (l7 : List Int) (l10 : List Int) : St := ⟨.agg [.bool s, .ints .u32 l] :: .ptr 1 0 0 :: .str { data := #[] } :: .sl 3 0 0 :: .ints .u32 l6 :: tops 2 (.int .i64 x12 :: .int .i64 x13 :: .ptr 1 0 1 :: .ints .u32 l :: .int .i64 (↑l.length : Int) :: .bool ((↑l.length : Int) == 0) :: .ptr 1 0 1 :: .ints .u32 l :: tops 30 (.ptr 1 0 0 :: .bool s :: tops 3 (.sl 3 0 0 :: .int .i64 (↑l7.length : Int) :: .int .i64 (IntKind.i64.wrap ((↑l7.length : Int) - 1)) :: tops 23 ([])))), nos 1 (varE [(false, .bool s), (false, .ints .u32 l)] :: nos 1 (rowE (.ints .u8 l10) :: nos 72 ([])))⟩
theorem round2a (s : Bool) (l : List Int) (l6 : List Int) (x12 : Int) (x13 : Int) (l7 : List Int) (l10 : List Int) : goL T orc (noTab) D2a L2a (st2a s l l6 x12 x13 l7 l10) =
    (bif decide (x12 < x13) then (bif inB x13 l10.length then (bif inB x12 l10.length then (bif inB x12 l10.length then (bif inB x13 (l10.set x12.toNat (rd l10 x13)).length then some (.normal, st2a s l l6 (IntKind.i64.wrap (x12 + 1)) (IntKind.i64.wrap (x13 - 1)) l7 ((l10.set x12.toNat (rd l10 x13)).set x13.toNat (rd l10 x12))) else none) else none) else none) else none) else some (.exit 4, st2a s l l6 x12 x13 l7 l10)) := by kernel_rfl
-- loop 2a ends exit4 st2a s l l6 x12 x13 l7 l10
theorem rest (s : Bool) (l : List Int) (l11 : List Int) (l6 : List Int) (l7 : List Int) (x14 : Int) (x15 : Int) (l9 : List Int) (x10 : Int) (x11 : Int) : runT T orc (tabOf T orc [(5, 15434082659904209709542942231877832302031806041980364213475750064431526063267439400497114862, .exit 0, st0 s l l6 l7), (16, 15434082555087357858496525075334599536407372846674721766738814902332179473980859833014742766, .exit 4, st2 s l l6 x10 x11 l7 l9), (16, 15434082555087357858496525075334599536407372846674721766740194106185227787569688246102191854, .exit 4, st2a s l l6 x14 x15 l7 l11)]) Try.f26 [.agg [.bool s, .ints .u32 l]] =
    (bif (↑l.length : Int) == 0 then some (.val (.str { data := #[48] })) else (bif cdec (Ends T orc L0 D0 (st0 s l l ([])) (.exit 0) (st0 s l l6 l7)) then (bif s then (bif true && decide ((l7 ++ [45]).length * 1 ≤ 140737488355328) then (bif cdec (Ends T orc L2 D2 (st2 s l l6 (0) (IntKind.i64.wrap ((↑(l7 ++ [45]).length : Int) - 1)) l7 (l7 ++ [45])) (.exit 4) (st2 s l l6 x10 x11 l7 l9)) then some (.val (.str (strOf l9))) else none) else none) else (bif cdec (Ends T orc L2a D2a (st2a s l l6 (0) (IntKind.i64.wrap ((↑l7.length : Int) - 1)) l7 l7) (.exit 4) (st2a s l l6 x14 x15 l7 l11)) then some (.val (.str (strOf l11))) else none)) else none)) := by kernel_rfl
end Text
end Go.Abs
end
section
/- What arith.Text and arith.Small answer. -/
namespace Go.Abs
open Go.Proofs Go.Dig
/-- A number's digits, cut at a place. -/
theorem limbs_split {B : Int} (hB : 2 ≤ B) {v : Int} (h0 : 0 ≤ v) (k : Nat) (h : 0 < v / B ^ k) : limbs B v = digN B k v ++ limbs B (v / B ^ k) := by
  have hq : 0 ≤ v / B ^ k := by omega
  have hn : limbs B (v / B ^ k) ≠ [] := fun hc => by have := (limbs_nil hB hq).1 hc; omega
  have ok : okB B (digN B k v ++ limbs B (v / B ^ k)) = true := okB_app (digN_ok (by omega) _ _) (limbs_ok (by omega) _)
  have hl : (digN B k v ++ limbs B (v / B ^ k)).getLast? ≠ some 0 := by
    rw [List.getLast?_append]
    cases hg : (limbs B (v / B ^ k)).getLast? with
    | none => exact absurd (List.getLast?_eq_none_iff.1 hg) hn
    | some d =>
      intro h
      simp at h
      exact limbs_last B (v / B ^ k) (by rw [hg, h])
  have hp : (0 : Int) < B ^ k := Int.pow_pos (by omega)
  have hv : val B (digN B k v ++ limbs B (v / B ^ k)) = v := by
    rw [val_append, digN_length, limbs_val hB hq]
    have h1 : digN B k v = digN B k (v % B ^ k) := by
      have : ∀ (k : Nat) (v w : Int), digN B k (v + B ^ k * w) = digN B k v := by
        intro k
        induction k with
        | zero => intro v w; rfl
        | succ k ih =>
          intro v w
          simp only [digN]
          have e : B ^ (k + 1) * w = B * (B ^ k * w) := by rw [Int.pow_succ, Int.mul_comm (B ^ k) B, Int.mul_assoc]
          rw [e, Int.add_mul_emod_self_left, Int.add_mul_ediv_left _ _ (by omega), ih]
      have h2 := this k (v % B ^ k) (v / B ^ k)
      rw [Int.emod_add_mul_ediv] at h2
      exact h2
    rw [h1, val_digN (by omega) _ _ (Int.emod_nonneg _ (by omega)) (Int.emod_lt_of_pos _ hp), Int.emod_add_mul_ediv]
  have := limbs_self hB ok hl
  rw [hv] at this
  exact this
theorem digN_emod {B : Int} (hB : 0 < B) (k : Nat) (v : Int) : digN B k (v % B ^ k) = digN B k v := by
  have : ∀ (k : Nat) (v w : Int), digN B k (v + B ^ k * w) = digN B k v := by
    intro k
    induction k with
    | zero => intro v w; rfl
    | succ k ih =>
      intro v w
      simp only [digN]
      have e : B ^ (k + 1) * w = B * (B ^ k * w) := by rw [Int.pow_succ, Int.mul_comm (B ^ k) B, Int.mul_assoc]
      rw [e, Int.add_mul_emod_self_left, Int.add_mul_ediv_left _ _ (by omega), ih]
  have h2 := this k (v % B ^ k) (v / B ^ k)
  rw [Int.emod_add_mul_ediv] at h2
  exact h2.symm
def asc (l : List Int) : List Int := l.map (· + 48)
theorem asc_len (l : List Int) : (asc l).length = l.length := List.length_map ..
theorem asc_app (l m : List Int) : asc (l ++ m) = asc l ++ asc m := List.map_append ..
namespace Text
/-- The digits of a piece, behind what was found. -/
theorem inner (s : Bool) (l : List Int) (v : Int) (l3 : List Int) (hv : 0 ≤ v) (h3 : l3.length ≤ 100000) :
    ∃ e S1, Ends T orc L1 D1 (st1 s l (limbs 4294967296 v) (v % 1000000000) 0 l3) e S1 ∧ (e = .exit 2 ∧ ∃ x k, S1 = st1 s l (limbs 4294967296 v) x k (l3 ++ asc (if 0 < v / 1000000000 then digN 10 9 v else limbs 10 v))) := by
  have hq : 0 ≤ v / 1000000000 := by omega
  have hvl : val 4294967296 (limbs 4294967296 v) = v := limbs_val W_two hv
  have hnl : ((limbs 4294967296 (v / 1000000000)).length : Int) > 0 ↔ 0 < v / 1000000000 := by
    have := limbs_nil W_two hq
    constructor
    · intro h
      refine Int.lt_of_not_ge (fun hc => ?_)
      have : v / 1000000000 = 0 := by omega
      rw [this] at h
      simp [limbs, digN, strip] at h
    · intro h
      have : limbs 4294967296 (v / 1000000000) ≠ [] := fun hc => by have := this.1 hc; omega
      have := List.length_pos_iff.2 this
      omega
  obtain ⟨r, hr⟩ : ∃ r, v % 1000000000 = r := ⟨_, rfl⟩
  rw [hr]
  refine loop_inv3 (fun x (k : Nat) l4 => st1 s l (limbs 4294967296 v) x k l4) (fun x k l4 => k ≤ 9 ∧ x = r / 10 ^ k ∧ l4 = l3 ++ asc (digN 10 k r) ∧ (0 < v / 1000000000 ∨ k = 0 ∨ 0 < r / 10 ^ (k - 1))) (fun x k l4 => 9 - k)
    (fun e S1 => e = .exit 2 ∧ ∃ x k, S1 = st1 s l (limbs 4294967296 v) x k (l3 ++ asc (if 0 < v / 1000000000 then digN 10 9 v else limbs 10 v))) isL1 ?_ r 0 l3 ?_
  · intro x k l4 ⟨k1, k2, k3, k4⟩
    refine ⟨noTab, noTab_all, lands_of (round1 ..) ?_⟩
    rw [hvl]
    have hp : (0 : Int) < 10 ^ k := Int.pow_pos (by decide)
    have hx0 : 0 ≤ x := by rw [k2]; exact Int.ediv_nonneg (by omega) (by omega)
    have hx1 : x ≤ r := by rw [k2]; exact Int.ediv_le_self _ (by omega)
    have em : x.tmod 10 = x % 10 := Int.tmod_eq_emod_of_nonneg hx0
    have ed : x.tdiv 10 = x / 10 := Int.tdiv_eq_ediv_of_nonneg hx0
    have ew : IntKind.u8.wrap (IntKind.u32.wrap (48 + x.tmod 10)) = x % 10 + 48 := by
      rw [em, wu32 (by omega) (by omega), IntWalk.u8_in _ ⟨by omega, by omega⟩]; omega
    have ed2 : IntKind.u32.wrap (x.tdiv 10) = x / 10 := by rw [ed, wu32 (by omega) (by omega)]
    have hlen : (l4 ++ [x % 10 + 48]).length * 1 ≤ 140737488355328 := by
      rw [List.length_append, k3, List.length_append, asc_len, digN_length, List.length_singleton]; omega
    have next : k < 9 → 0 < x ∨ 0 < v / 1000000000 → k + 1 ≤ 9 ∧ x / 10 = r / 10 ^ (k + 1) ∧ l4 ++ [x % 10 + 48] = l3 ++ asc (digN 10 (k + 1) r) ∧ (0 < v / 1000000000 ∨ k + 1 = 0 ∨ 0 < r / 10 ^ (k + 1 - 1)) := by
      intro hk hor
      refine ⟨by omega, ?_, ?_, ?_⟩
      · rw [k2, Int.pow_succ, Int.ediv_ediv_of_nonneg (by omega)]
      · rw [k3, digN_succ (by decide), asc_app, List.append_assoc, k2]; rfl
      · rw [Nat.add_sub_cancel, ← k2]; omega
    have fin : (0 < v / 1000000000 → k = 9) → (¬ 0 < v / 1000000000 → x = 0) → l4 = l3 ++ asc (if 0 < v / 1000000000 then digN 10 9 v else limbs 10 v) := by
      intro f1 f2
      rw [k3]
      by_cases hb : 0 < v / 1000000000
      · rw [if_pos hb, f1 hb, ← hr]
        have := digN_emod (B := 10) (by decide) 9 v
        rw [show (10 : Int) ^ 9 = 1000000000 from rfl] at this
        rw [this]
      · rw [if_neg hb]
        have hvr : r = v := by omega
        have hx := f2 hb
        rw [hvr] at k2 k4 ⊢
        have hlt : v < 10 ^ k := by
          refine Int.not_le.1 (fun hc => ?_)
          have : 1 ≤ v / 10 ^ k := (Int.le_ediv_iff_mul_le hp).2 (by omega)
          omega
        rw [← limbs_of (by decide) hv hlt, strip_of_last]
        rcases k4 with k4 | k4 | k4
        · exact absurd k4 hb
        · rw [k4]; simp [digN]
        · cases k with
          | zero => simp [digN]
          | succ k =>
            rw [digN_succ (by decide), List.getLast?_append]
            rw [Nat.add_sub_cancel] at k4
            have : v / 10 ^ k < 10 := by
              have hp2 : (0 : Int) < 10 ^ k := Int.pow_pos (by decide)
              refine Int.ediv_lt_of_lt_mul hp2 ?_
              rw [Int.mul_comm, ← Int.pow_succ]; exact hlt
            have : v / 10 ^ k % 10 ≠ 0 := by omega
            simpa using this
    rw [ew, ed2]
    by_cases hk : k < 9
    · rw [decide_eq_true (show (k : Int) < 9 by omega), decide_eq_true hlen, wi_succ (show k < 4611686018427387904 by omega)]
      by_cases hb : 0 < v / 1000000000
      · rw [decide_eq_true (hnl.2 hb)]
        simp only [Bool.and_self, cond_true, lands_some, Turns3]
        exact ⟨_, k + 1, _, rfl, next hk (.inr hb), by omega⟩
      · rw [decide_eq_false (fun h => hb (hnl.1 h))]
        by_cases hx : x > 0
        · rw [decide_eq_true hx]
          simp only [Bool.and_self, cond_true, cond_false, lands_some, Turns3]
          exact ⟨_, k + 1, _, rfl, next hk (.inl hx), by omega⟩
        · rw [decide_eq_false hx]
          simp only [cond_true, cond_false, lands_some, Turns3]
          exact ⟨trivial, _, _, by rw [fin (fun h => absurd h hb) (fun _ => by omega)]⟩
    · rw [decide_eq_false (show ¬ (k : Int) < 9 by omega)]
      simp only [cond_false, lands_some, Turns3]
      have h9 : k = 9 := by omega
      have hx0 : x = 0 := by
        rw [k2, h9, show (10 : Int) ^ 9 = 1000000000 from rfl]
        omega
      exact ⟨trivial, _, _, by rw [fin (fun _ => h9) (fun _ => hx0)]⟩
  · exact ⟨by omega, by simp, by simp [digN, asc], .inr (.inl rfl)⟩
theorem outer (s : Bool) (l : List Int) (V : Int) (hV : 0 ≤ V) (hd : (limbs 10 V).length ≤ 20000) (hl : l = limbs 4294967296 V) (hlen : (limbs 4294967296 V).length ≤ 10000) :
    ∃ e S1, Ends T orc L0 D0 (st0 s l l []) e S1 ∧ (e = .exit 0 ∧ ∃ m, S1 = st0 s l m (asc (limbs 10 V))) := by
  have key := loop_inv2 (T := T) (orc := orc) (L := L0) (D := D0) (fun (v : Int) l3 => st0 s l (limbs 4294967296 v) l3) (fun v l3 => 0 ≤ v ∧ v ≤ V ∧ ∃ ds, l3 = asc ds ∧ ds ++ limbs 10 v = limbs 10 V) (fun v l3 => v.toNat)
    (fun e S1 => e = .exit 0 ∧ ∃ m, S1 = st0 s l m (asc (limbs 10 V))) isL0 ?_ V [] ⟨hV, Int.le_refl _, [], rfl, rfl⟩
  · rw [← hl] at key; exact key
  · intro v l3 ⟨v0, v1, ds, hds, hap⟩
    have hdl : ds.length ≤ 20000 := by
      have := congrArg List.length hap
      rw [List.length_append] at this
      omega
    have hvl : val 4294967296 (limbs 4294967296 v) = v := limbs_val W_two v0
    by_cases hv : v = 0
    · subst hv
      refine ⟨_, tabOf_all _, lands_of (round0 s l _ l3 [] 0 0) ?_⟩
      have e0 : limbs 4294967296 0 = [] := rfl
      have e1 : limbs 10 0 = [] := rfl
      rw [e0]
      simp only [List.length_nil, lands_bif, lands_some, lands_none, Turns1, Turns2, Turns3, Turns4, Turns5, Turns6, Turns7, Turns8, eq_bif, Option.some.injEq, reduceCtorEq, cond_true, cond_false, Bool.eq_false_iff, ne_eq, inB_iff, decide_eq_true_eq, Bool.and_eq_true, Bool.or_eq_true, Bool.not_eq_true', beq_iff_eq, bne_iff_ne, true_and, and_true, true_implies, implies_true, not_true_eq_false, not_false_eq_true, false_implies, few_iff]
      refine ⟨fun h => absurd h (by decide), fun _ => ⟨[], ?_⟩⟩
      rw [e1, List.append_nil] at hap
      rw [← hap, hds]
    · obtain ⟨e1, S1, hE1, rfl, x, k, rfl⟩ := inner s l v l3 v0 (by rw [hds, asc_len]; omega)
      refine ⟨_, tabOf_all _, lands_of (round0 s l _ l3 (l3 ++ asc (if 0 < v / 1000000000 then digN 10 9 v else limbs 10 v)) x k) ?_⟩
      have hne : limbs 4294967296 v ≠ [] := fun h => hv ((limbs_nil W_two v0).1 h)
      have hpos := List.length_pos_iff.2 hne
      have hfew : few (limbs 4294967296 v) = true := by
        refine few_iff.2 ?_
        have := limbs_length W_two v0 (n := (limbs 4294967296 V).length) (by
          have := val_lt W_pos (limbs_ok W_pos V)
          rw [limbs_val W_two hV] at this
          omega)
        omega
      rw [hvl, hfew, limbs_ok W_pos, decide_eq_true (show ((limbs 4294967296 v).length : Int) > 0 by omega), cdec_true hE1]
      simp only [Bool.and_self, cond_true, lands_some, Turns2]
      refine ⟨v / 1000000000, _, rfl, ⟨by omega, by omega, ds ++ (if 0 < v / 1000000000 then digN 10 9 v else limbs 10 v), by rw [hds, asc_app], ?_⟩, by omega⟩
      rw [← hap, List.append_assoc]
      congr 1
      by_cases hb : 0 < v / 1000000000
      · rw [if_pos hb]
        exact (limbs_split (by decide) v0 9 hb).symm
      · rw [if_neg hb, show v / 1000000000 = 0 by omega]
        exact List.append_nil _
/-- A row turned about in its place. -/
def Turned (L : List Int) (i : Nat) (l : List Int) : Prop := l.length = L.length ∧ ∀ k, k < L.length → l.getD k 0 = if k < i ∨ L.length < i + k + 1 then L.getD (L.length - 1 - k) 0 else L.getD k 0
theorem turned_next {L l : List Int} {i : Nat} (h : Turned L i l) (hi : i + i + 1 < L.length) : Turned L (i + 1) ((l.set i (l.getD (L.length - 1 - i) 0)).set (L.length - 1 - i) (l.getD i 0)) := by
  obtain ⟨h1, h2⟩ := h
  refine ⟨by simp [h1], fun k hk => ?_⟩
  by_cases e1 : k = L.length - 1 - i
  · subst e1
    rw [getD_set_self (by rw [List.length_set]; omega), h2 i (by omega), if_neg (by omega), if_pos (by omega)]
    congr 1; omega
  · rw [getD_set_ne (Ne.symm e1)]
    by_cases e2 : k = i
    · subst e2
      rw [getD_set_self (by omega), h2 _ (by omega), if_neg (by omega), if_pos (by omega)]
    · rw [getD_set_ne (Ne.symm e2), h2 k hk]
      by_cases e3 : k < i ∨ L.length < i + k + 1
      · rw [if_pos e3, if_pos (by omega)]
      · rw [if_neg e3, if_neg (by omega)]
theorem turned_end {L l : List Int} {i : Nat} (h : Turned L i l) (hi : L.length ≤ i + i + 1) : l = L.reverse := by
  obtain ⟨h1, h2⟩ := h
  apply List.ext_getElem (by simp [h1])
  intro k q1 q2
  have := h2 k (by omega)
  rw [getD_at q1] at this
  rw [this, List.getElem_reverse]
  by_cases e : k < i ∨ L.length < i + k + 1
  · rw [if_pos e, getD_at (by omega)]
  · rw [if_neg e, getD_at (by omega)]
    congr 1; omega
theorem turned_zero (L : List Int) : Turned L 0 L := ⟨rfl, fun k hk => by rw [if_neg (by omega)]⟩
theorem turn (s : Bool) (l m l7 : List Int) (L : List Int) (hL : L.length ≤ 100000) :
    ∃ e S1, Ends T orc L2 D2 (st2 s l m 0 ((L.length : Int) - 1) l7 L) e S1 ∧ (e = .exit 4 ∧ ∃ x y, S1 = st2 s l m x y l7 L.reverse) := by
  refine loop_inv2 (fun (i : Nat) l8 => st2 s l m i ((L.length : Int) - 1 - i) l7 l8) (fun i l8 => Turned L i l8 ∧ i ≤ L.length) (fun i l8 => L.length - i)
    (fun e S1 => e = .exit 4 ∧ ∃ x y, S1 = st2 s l m x y l7 L.reverse) isL2 ?_ 0 L ⟨turned_zero L, by omega⟩ |> fun h => by simpa using h
  intro i l8 ⟨h, hi⟩
  refine ⟨noTab, noTab_all, lands_of (round2 ..) ?_⟩
  have hl := h.1
  by_cases hc : i + i + 1 < L.length
  · have e1 : ((L.length : Int) - 1 - i) = ((L.length - 1 - i : Nat) : Int) := by omega
    have e2 : IntKind.i64.wrap (((L.length - 1 - i : Nat) : Int) - 1) = (L.length : Int) - 1 - ((i + 1 : Nat) : Int) := by rw [w64 (by omega) (by omega)]; omega
    rw [e1, e2, wi_succ (show i < 4611686018427387904 by omega), decide_eq_true (show (i : Int) < ((L.length - 1 - i : Nat) : Int) by omega)]
    simp only [lands_bif, lands_some, lands_none, Turns1, Turns2, Turns3, Turns4, Turns5, Turns6, Turns7, Turns8, eq_bif, Option.some.injEq, reduceCtorEq, cond_true, cond_false, Bool.eq_false_iff, ne_eq, inB_iff, decide_eq_true_eq, Bool.and_eq_true, Bool.or_eq_true, Bool.not_eq_true', beq_iff_eq, bne_iff_ne, true_and, and_true, true_implies, implies_true, not_true_eq_false, not_false_eq_true, false_implies, few_iff, List.length_set]
    simp only [rd_toNat, Int.toNat_natCast]
    repeat' (first | apply And.intro | intro _)
    all_goals try omega
    exact ⟨i + 1, _, rfl, ⟨turned_next h hc, by omega⟩, by omega⟩
  · rw [decide_eq_false (show ¬ (i : Int) < ((L.length : Int) - 1 - i) by omega)]
    simp only [cond_false, lands_some, Turns2]
    exact ⟨trivial, _, _, by rw [turned_end h (by omega)]⟩
theorem turna (s : Bool) (l m l7 : List Int) (L : List Int) (hL : L.length ≤ 100000) :
    ∃ e S1, Ends T orc L2a D2a (st2a s l m 0 ((L.length : Int) - 1) l7 L) e S1 ∧ (e = .exit 4 ∧ ∃ x y, S1 = st2a s l m x y l7 L.reverse) := by
  refine loop_inv2 (fun (i : Nat) l8 => st2a s l m i ((L.length : Int) - 1 - i) l7 l8) (fun i l8 => Turned L i l8 ∧ i ≤ L.length) (fun i l8 => L.length - i)
    (fun e S1 => e = .exit 4 ∧ ∃ x y, S1 = st2a s l m x y l7 L.reverse) isL2a ?_ 0 L ⟨turned_zero L, by omega⟩ |> fun h => by simpa using h
  intro i l8 ⟨h, hi⟩
  refine ⟨noTab, noTab_all, lands_of (round2a ..) ?_⟩
  have hl := h.1
  by_cases hc : i + i + 1 < L.length
  · have e1 : ((L.length : Int) - 1 - i) = ((L.length - 1 - i : Nat) : Int) := by omega
    have e2 : IntKind.i64.wrap (((L.length - 1 - i : Nat) : Int) - 1) = (L.length : Int) - 1 - ((i + 1 : Nat) : Int) := by rw [w64 (by omega) (by omega)]; omega
    rw [e1, e2, wi_succ (show i < 4611686018427387904 by omega), decide_eq_true (show (i : Int) < ((L.length - 1 - i : Nat) : Int) by omega)]
    simp only [lands_bif, lands_some, lands_none, Turns1, Turns2, Turns3, Turns4, Turns5, Turns6, Turns7, Turns8, eq_bif, Option.some.injEq, reduceCtorEq, cond_true, cond_false, Bool.eq_false_iff, ne_eq, inB_iff, decide_eq_true_eq, Bool.and_eq_true, Bool.or_eq_true, Bool.not_eq_true', beq_iff_eq, bne_iff_ne, true_and, and_true, true_implies, implies_true, not_true_eq_false, not_false_eq_true, false_implies, few_iff, List.length_set]
    simp only [rd_toNat, Int.toNat_natCast]
    repeat' (first | apply And.intro | intro _)
    all_goals try omega
    exact ⟨i + 1, _, rfl, ⟨turned_next h hc, by omega⟩, by omega⟩
  · rw [decide_eq_false (show ¬ (i : Int) < ((L.length : Int) - 1 - i) by omega)]
    simp only [cond_false, lands_some, Turns2]
    exact ⟨trivial, _, _, by rw [turned_end h (by omega)]⟩
end Text
theorem asc_dig (l : List Int) : (asc l).reverse = dig l := by
  unfold asc dig
  rw [List.map_reverse]
theorem small_digits {z : Int} (h : z.natAbs < Lim) : (limbs 10 (az z)).length ≤ 10000 := lb10_length h
theorem meets_text : Meets Try.prog 26 ansText := by
  refine meets_fn (orc_ok (l := Text.ans) ⟨meets_part, trivial⟩) Try.f26 Try.func26 (by kernel_rfl) (fun args r h => ?_)
  unfold ansText at h
  split at h
  · rename_i s l
    simp only [Option.some.injEq, Prod.mk.injEq] at h
    obtain ⟨h, rfl⟩ := h
    obtain ⟨z, hs, hl, hz⟩ := (cn_iff W_two).1 h
    have nz : num 4294967296 s l = z := by rw [hs, hl]; exact num_lbW z
    rw [nz]
    refine ⟨rfl, ?_⟩
    by_cases h0 : z = 0
    · refine ⟨_, tabOf_all _, (Text.rest s l [] [] [] 0 0 [] 0 0).trans ?_⟩
      rw [hl, h0]
      have : (((lb 4294967296 0).length : Int) == 0) = true := rfl
      have ht : txt 0 = ⟨#[48]⟩ := by kernel_rfl
      rw [this, cond_true, ht]
    · have hn : lb 4294967296 z ≠ [] := fun h => h0 ((lb_nil W_two).1 h)
      have hlz : l = limbs 4294967296 (az z) := hl
      have hlp : 0 < l.length := by rw [hl]; exact List.length_pos_iff.2 hn
      have hd := small_digits hz
      have hlw : (limbs 4294967296 (az z)).length ≤ 1100 := lb_length hz
      obtain ⟨e1, S1, hE1, rfl, m, rfl⟩ := Text.outer s l (az z) (az_nonneg z) (by omega) hlz (by omega)
      have hne : ((l.length : Int) == 0) = false := by rw [beq_eq_false_iff_ne]; omega
      have htx : txtL z = (if z < 0 then [45] else []) ++ dig (limbs 10 (az z)) := by unfold txtL; rw [if_neg h0]; rfl
      have hal : (asc (limbs 10 (az z))).length ≤ 10000 := by rw [asc_len]; exact hd
      by_cases hneg : z < 0
      · have hs1 : s = true := by rw [hs]; exact decide_eq_true hneg
        obtain ⟨e2, S2, hE2, rfl, x, y, rfl⟩ := Text.turn s l m (asc (limbs 10 (az z))) (asc (limbs 10 (az z)) ++ [45]) (by rw [List.length_append, List.length_singleton]; omega)
        refine ⟨_, tabOf_all _, (Text.rest s l [] m (asc (limbs 10 (az z))) 0 0 ((asc (limbs 10 (az z)) ++ [45]).reverse) x y).trans ?_⟩
        have hw : IntKind.i64.wrap (((asc (limbs 10 (az z)) ++ [45]).length : Int) - 1) = ((asc (limbs 10 (az z)) ++ [45]).length : Int) - 1 := by
          rw [w64 (by omega) (by rw [List.length_append, List.length_singleton]; omega)]
        have hlen : ((asc (limbs 10 (az z)) ++ [45]).length * 1 ≤ 140737488355328) := by rw [List.length_append, List.length_singleton]; omega
        rw [hne, cdec_true hE1, hw, cdec_true hE2, decide_eq_true hlen]
        have ht : (asc (limbs 10 (az z)) ++ [45]).reverse = txtL z := by rw [htx, if_pos hneg, List.reverse_append, asc_dig]; rfl
        rw [ht, hs1]
        rfl
      · have hs1 : s = false := by rw [hs]; exact decide_eq_false hneg
        obtain ⟨e2, S2, hE2, rfl, x, y, rfl⟩ := Text.turna s l m (asc (limbs 10 (az z))) (asc (limbs 10 (az z))) (by omega)
        refine ⟨_, tabOf_all _, (Text.rest s l ((asc (limbs 10 (az z))).reverse) m (asc (limbs 10 (az z))) x y [] 0 0).trans ?_⟩
        have hw : IntKind.i64.wrap (((asc (limbs 10 (az z))).length : Int) - 1) = ((asc (limbs 10 (az z))).length : Int) - 1 := by
          rw [w64 (by omega) (by omega)]
        rw [hne, cdec_true hE1, hw, cdec_true hE2]
        have ht : (asc (limbs 10 (az z))).reverse = txtL z := by rw [htx, if_neg hneg, asc_dig]; rfl
        rw [ht, hs1]
        rfl
  · cases h
end Go.Abs
end
section
/- What arith.Parse answers. -/
namespace Go.Abs
open Go.Proofs Go.Dig
theorem bytes_len (s : ByteArray) : (bytesOf s).length = s.size := by
  unfold bytesOf
  rw [List.length_map]
  rfl
theorem bt_nat (s : ByteArray) (i : Nat) : bt s (i : Int) = (bytesOf s).getD i 0 := by
  unfold bt bytesOf
  rw [Int.toNat_natCast, List.getD_eq_getElem?_getD, List.getD_eq_getElem?_getD, List.getElem?_map]
  cases s.data.toList[i]? <;> rfl
theorem bytes_extract (s : ByteArray) (a b : Nat) : bytesOf (s.extract a b) = ((bytesOf s).take b).drop a := by
  unfold bytesOf
  rw [ByteArray.data_extract, Array.toList_extract, ← List.map_take, ← List.map_drop]
  congr 1
  simp [List.extract, List.drop_take]
theorem dval_app (l m : List Int) : dval (l ++ m) = dval l * 10 ^ m.length + dval m := by
  unfold dval
  rw [List.reverse_append, List.map_append, val_append, List.length_map, List.length_reverse, Int.mul_comm]
  omega
theorem dval_one (c : Int) : dval [c] = c - 48 := by simp [dval, val]
theorem dig_iff {c : Int} : isDig c = true ↔ 48 ≤ c ∧ c ≤ 57 := by unfold isDig; simp
theorem dval_bound : ∀ (l : List Int), l.all isDig = true → 0 ≤ dval l ∧ dval l < 10 ^ l.length := by
  intro l h
  have ok : okB 10 (l.reverse.map (· - 48)) = true := by
    refine okB_iff.2 (fun d hd => ?_)
    obtain ⟨c, hc, rfl⟩ := List.mem_map.1 hd
    have := dig_iff.1 (List.all_eq_true.1 h c (List.mem_reverse.1 hc))
    omega
  have h1 := val_lt (by decide) ok
  rw [List.length_map, List.length_reverse] at h1
  exact ⟨val_nonneg (by decide) ok, h1⟩
theorem all_take {l : List Int} (h : l.all isDig = true) (n : Nat) : (l.take n).all isDig = true := List.all_eq_true.2 fun x hx => List.all_eq_true.1 h x (List.mem_of_mem_take hx)
theorem all_drop {l : List Int} (h : l.all isDig = true) (n : Nat) : (l.drop n).all isDig = true := List.all_eq_true.2 fun x hx => List.all_eq_true.1 h x (List.mem_of_mem_drop hx)
theorem pow10_le {k : Nat} (h : k ≤ 9) : (1 : Int) ≤ 10 ^ k ∧ (10 : Int) ^ k ≤ 1000000000 := by
  have h1 : (10 : Int) ^ k * 10 ^ (9 - k) = 1000000000 := by rw [← Int.pow_add, show k + (9 - k) = 9 by omega]; rfl
  have h2 : (0 : Int) < 10 ^ k := Int.pow_pos (by decide)
  have h3 : (0 : Int) < 10 ^ (9 - k) := Int.pow_pos (by decide)
  refine ⟨by omega, ?_⟩
  have : (10 : Int) ^ k * 1 ≤ 10 ^ k * 10 ^ (9 - k) := Int.mul_le_mul_of_nonneg_left (by omega) (by omega)
  omega
theorem scaleL_ok (l : List Int) (m a : Int) : okB 4294967296 (scaleL l m a) = true := by
  unfold scaleL
  cases decide (val 4294967296 l * m + a < 4294967296 ^ l.length) <;> exact digN_ok W_pos _ _
theorem scaleL_len (l : List Int) (m a : Int) : (scaleL l m a).length ≤ l.length + 1 := by
  unfold scaleL
  cases decide (val 4294967296 l * m + a < 4294967296 ^ l.length) <;> simp only [cond_true, cond_false] <;> rw [digN_length] <;> omega
theorem scaleL_val {l : List Int} {m a : Int} (ol : okB 4294967296 l = true) (hm : 0 ≤ m ∧ m < 4294967296) (ha : 0 ≤ a ∧ a < 4294967296) : val 4294967296 (scaleL l m a) = val 4294967296 l * m + a := by
  have v0 := val_nonneg W_pos ol
  have v1 := val_lt W_pos ol
  have h0 : 0 ≤ val 4294967296 l * m := Int.mul_nonneg v0 hm.1
  have hP : (0 : Int) < 4294967296 ^ l.length := Int.pow_pos (by decide)
  unfold scaleL
  by_cases h : val 4294967296 l * m + a < 4294967296 ^ l.length
  · rw [decide_eq_true h]
    exact val_digN W_pos _ _ (by omega) h
  · rw [decide_eq_false h]
    refine val_digN W_pos _ _ (by omega) ?_
    rw [Int.pow_succ]
    have h1 : val 4294967296 l * m ≤ (4294967296 ^ l.length - 1) * 4294967295 := Int.mul_le_mul (by omega) (by omega) hm.1 (by omega)
    rw [Int.sub_mul] at h1
    omega
theorem min_eq (n i : Nat) (hn : n ≤ 100000) (hi : i ≤ n) : (bif false then if (n : Int) > IntKind.i64.wrap ((i : Int) + 9) then (n : Int) else IntKind.i64.wrap ((i : Int) + 9) else if (n : Int) < IntKind.i64.wrap ((i : Int) + 9) then (n : Int) else IntKind.i64.wrap ((i : Int) + 9)) = ((min (i + 9) n : Nat) : Int) := by
  rw [w64 (by omega) (by omega)]
  simp only [cond_false]
  split <;> omega
namespace Parse
theorem validA (s : ByteArray) (hD : s.size ≤ 10000) (b6 b7 b8 : Bool) :
    ∃ e S1, Ends T orc L0a D0a (st0a s b6 b7 b8 0) e S1 ∧ ((e = .exit 0 ∧ (bytesOf s).all isDig = true ∧ ∃ x, S1 = st0a s b6 b7 b8 x) ∨ (e = .ret ∧ (bytesOf s).all isDig = false ∧ ∃ x, S1 = st0ax0 s 10 b6 b7 b8 x)) := by
  refine loop_inv1 (fun (i : Nat) => st0a s b6 b7 b8 i) (fun i => i ≤ s.size ∧ ((bytesOf s).take i).all isDig = true) (fun i => s.size - i)
    (fun e S1 => (e = .exit 0 ∧ (bytesOf s).all isDig = true ∧ ∃ x, S1 = st0a s b6 b7 b8 x) ∨ (e = .ret ∧ (bytesOf s).all isDig = false ∧ ∃ x, S1 = st0ax0 s 10 b6 b7 b8 x)) isL0a ?_ 0 ⟨by omega, rfl⟩
  intro i ⟨h1, h2⟩
  refine ⟨noTab, noTab_all, lands_of (round0a ..) ?_⟩
  have hlen := bytes_len s
  by_cases hi : i < s.size
  · have hmem : (bytesOf s).getD i 0 ∈ bytesOf s := by rw [getD_at (by omega)]; exact List.getElem_mem _
    have bad : isDig ((bytesOf s).getD i 0) = false → (bytesOf s).all isDig = false := by
      intro hb
      rw [Bool.eq_false_iff]
      intro hall
      rw [List.all_eq_true.1 hall _ hmem] at hb
      cases hb
    simp only [lands_bif, lands_some, lands_none, Turns1, Turns2, Turns3, Turns4, Turns5, Turns6, Turns7, Turns8, eq_bif, Option.some.injEq, reduceCtorEq, cond_true, cond_false, Bool.eq_false_iff, ne_eq, inB_iff, decide_eq_true_eq, Bool.and_eq_true, Bool.or_eq_true, Bool.not_eq_true', beq_iff_eq, bne_iff_ne, true_and, and_true, true_implies, implies_true, not_true_eq_false, not_false_eq_true, false_implies, few_iff, bt_nat, wi_succ (show i < 4611686018427387904 by omega)]
    repeat' (first | apply And.intro | intro _)
    all_goals try omega
    · refine .inr ⟨Bool.eq_false_iff.1 (bad ?_), _, rfl⟩
      rw [Bool.eq_false_iff, ne_eq, dig_iff]; omega
    · refine .inr ⟨Bool.eq_false_iff.1 (bad ?_), _, rfl⟩
      rw [Bool.eq_false_iff, ne_eq, dig_iff]; omega
    · refine ⟨i + 1, rfl, ⟨by omega, ?_⟩, by omega⟩
      rw [take_succ_getD _ (by omega), List.all_append, h2, Bool.true_and]
      simp only [List.all_cons, List.all_nil, Bool.and_true]
      rw [dig_iff]; omega
  · obtain rfl : i = s.size := by omega
    rw [decide_eq_false (by omega)]
    simp only [cond_false, lands_some, Turns1]
    rw [List.take_of_length_le (by omega)] at h2
    exact .inl ⟨trivial, h2, _, rfl⟩
theorem pieceA (s : ByteArray) (i : Nat) (l0 : List Int) (b12 b13 b14 : Bool) (x8 : Int) (hD : s.size ≤ 10000) (hi : i ≤ s.size) (hall : (bytesOf s).all isDig = true) (a : List Int) (ha : a = ((bytesOf s).drop i).take 9) :
    ∃ e S1, Ends T orc L2 D2 (st2 s b12 i 0 1 b13 b14 x8 0 l0) e S1 ∧ (e = .exit 4 ∧ S1 = (st2 s b12 i (dval a) (10 ^ a.length) b13 b14 x8 (a.length : Nat) l0)) := by
  have hlen := bytes_len s
  have hm := min_eq s.size i (by omega) hi
  have hex : bytesOf (s.extract i (min (i + 9) s.size)) = a := by
    rw [bytes_extract, ha, List.take_drop]
    by_cases h9 : i + 9 ≤ s.size
    · rw [Nat.min_eq_left h9]
    · rw [Nat.min_eq_right (by omega), List.take_of_length_le (by omega), List.take_of_length_le (by omega)]
  have hsz : (s.extract i (min (i + 9) s.size)).size = a.length := by rw [← bytes_len, hex]
  have hal : a.length ≤ 9 := by rw [ha, List.length_take]; omega
  have haall : a.all isDig = true := by rw [ha]; exact all_take (all_drop hall i) 9
  refine loop_inv1 (fun (k : Nat) => (st2 s b12 i (dval (a.take k)) (10 ^ k) b13 b14 x8 k l0)) (fun k => k ≤ a.length) (fun k => a.length - k)
    (fun e S1 => e = .exit 4 ∧ S1 = (st2 s b12 i (dval a) (10 ^ a.length) b13 b14 x8 (a.length : Nat) l0)) isL2 ?_ 0 (by omega)
  intro k hk
  refine ⟨noTab, noTab_all, lands_of (round2 ..) ?_⟩
  rw [hm, Int.toNat_natCast, Int.toNat_natCast, hsz]
  by_cases hk2 : k < a.length
  · have hc := dig_iff.1 (List.all_eq_true.1 haall (a.getD k 0) (by rw [getD_at hk2]; exact List.getElem_mem _))
    obtain ⟨d0, d1⟩ := dval_bound _ (all_take haall k)
    rw [List.length_take, Nat.min_eq_left hk] at d1
    obtain ⟨p1, p2⟩ := pow10_le (show k ≤ 9 by omega)
    obtain ⟨q1, q2⟩ := pow10_le (show k + 1 ≤ 9 by omega)
    have hb : bt (s.extract i (min (i + 9) s.size)) (k : Int) = a.getD k 0 := by rw [bt_nat, hex]
    have e1 : IntKind.u8.wrap (a.getD k 0 - 48) = a.getD k 0 - 48 := IntWalk.u8_in _ ⟨by omega, by omega⟩
    have e2 : dval (a.take (k + 1)) = dval (a.take k) * 10 + (a.getD k 0 - 48) := by
      rw [take_succ_getD a hk2, dval_app, dval_one]; rfl
    have hk8 : k ≤ 8 := by omega
    obtain ⟨_, p3⟩ := pow10_le (show k + 1 ≤ 9 by omega)
    rw [Int.pow_succ] at q2 p3
    rw [hb, e1, wu32 (n := a.getD k 0 - 48) (by omega) (by omega), wu32 (n := dval (a.take k) * 10) (by omega) (by omega), wu32 (n := dval (a.take k) * 10 + (a.getD k 0 - 48)) (by omega) (by omega), wu32 (n := (10 : Int) ^ k * 10) (by omega) (by omega), ← e2, ← Int.pow_succ, wi_succ (show k < 4611686018427387904 by omega), decide_eq_true (show (k : Int) < (a.length : Int) by omega), bT (inB_iff.2 (by omega))]
    simp only [cond_true, lands_some, Turns1]
    exact ⟨k + 1, rfl, by omega, by omega⟩
  · obtain rfl : k = a.length := by omega
    rw [decide_eq_false (by omega), List.take_length]
    simp only [cond_false, lands_some, Turns1]
    exact ⟨trivial, trivial⟩
theorem mainA (s : ByteArray) (b12 b13 b14 : Bool) (x8 : Int) (hD : s.size ≤ 10000) (hall : (bytesOf s).all isDig = true) :
    ∃ e S1, Ends T orc L1 D1 (st1 s b12 0 b13 b14 x8 []) e S1 ∧ (e = .exit 2 ∧ ∃ x l, S1 = (st1 s b12 x b13 b14 x8 l) ∧ okB 4294967296 l = true ∧ l.length ≤ 20000 ∧ val 4294967296 l = dval (bytesOf s)) := by
  have hlen := bytes_len s
  refine loop_inv2 (fun (i : Nat) l0 => (st1 s b12 i b13 b14 x8 l0)) (fun i l0 => okB 4294967296 l0 = true ∧ l0.length ≤ i ∧ i ≤ s.size + 9 ∧ val 4294967296 l0 = dval ((bytesOf s).take i)) (fun i l0 => s.size + 9 - i)
    (fun e S1 => e = .exit 2 ∧ ∃ x l, S1 = (st1 s b12 x b13 b14 x8 l) ∧ okB 4294967296 l = true ∧ l.length ≤ 20000 ∧ val 4294967296 l = dval (bytesOf s)) isL1 ?_ 0 [] ⟨rfl, by simp, by omega, rfl⟩
  intro i l0 ⟨h1, h2, h3, h4⟩
  by_cases hi : i < s.size
  · obtain ⟨a, ha⟩ : ∃ a, a = ((bytesOf s).drop i).take 9 := ⟨_, rfl⟩
    obtain ⟨e1, S1, hE1, rfl, rfl⟩ := pieceA s i l0 b12 b13 b14 x8 hD (by omega) hall a ha
    obtain ⟨m, hm9⟩ : ∃ m, a.length = m := ⟨_, rfl⟩
    rw [hm9] at hE1
    refine ⟨_, tabOf_all _, lands_of (round1 s b12 i b13 b14 x8 l0 (10 ^ m) (dval a) m) ?_⟩
    have hm := min_eq s.size i (by omega) (by omega)
    have hal : a.length ≤ 9 := by rw [ha, List.length_take]; omega
    have haall : a.all isDig = true := by rw [ha]; exact all_take (all_drop hall i) 9
    obtain ⟨d0, d1⟩ := dval_bound _ haall
    obtain ⟨p1, p2⟩ := pow10_le hal
    rw [hm9] at d1 p1 p2
    have ew : IntKind.i64.wrap ((i : Int) + 9) = ((i + 9 : Nat) : Int) := by rw [w64 (by omega) (by omega)]; omega
    rw [hm, cdec_true hE1, decide_eq_true (show (i : Int) < (s.size : Int) by omega), decide_eq_true (show (0 : Int) ≤ (i : Int) by omega), decide_eq_true (show (i : Int) ≤ ((min (i + 9) s.size : Nat) : Int) by omega), decide_eq_true (show ((min (i + 9) s.size : Nat) : Int) ≤ (s.size : Int) by omega), h1, few_iff.2 (show l0.length ≤ 100000 by omega), decide_eq_true (show (0 : Int) ≤ 10 ^ m by omega), decide_eq_true (show (10 : Int) ^ m < 4294967296 by omega), decide_eq_true d0, decide_eq_true (show dval a < 4294967296 by omega), ew]
    simp only [Bool.and_self, cond_true, lands_some, Turns2]
    have hsl := scaleL_len l0 (10 ^ m) (dval a)
    refine ⟨i + 9, _, rfl, ⟨scaleL_ok _ _ _, by omega, by omega, ?_⟩, by omega⟩
    rw [scaleL_val h1 ⟨by omega, by omega⟩ ⟨d0, by omega⟩, h4, List.take_add, ← ha, dval_app, hm9]
  · refine ⟨_, tabOf_all _, lands_of (round1 s b12 i b13 b14 x8 l0 1 0 0) ?_⟩
    rw [decide_eq_false (by omega)]
    simp only [cond_false, lands_some, Turns2]
    rw [List.take_of_length_le (by omega)] at h4
    exact ⟨trivial, _, _, rfl, h1, by omega, h4⟩
theorem validB (s : ByteArray) (hD : (s.extract 1 s.size).size ≤ 10000) (b0 : Bool) :
    ∃ e S1, Ends T orc L0 D0 (st0 s b0 0) e S1 ∧ ((e = .exit 0 ∧ (bytesOf (s.extract 1 s.size)).all isDig = true ∧ ∃ x, S1 = st0 s b0 x) ∨ (e = .ret ∧ (bytesOf (s.extract 1 s.size)).all isDig = false ∧ ∃ x, S1 = st0x0 s 10 b0 x)) := by
  refine loop_inv1 (fun (i : Nat) => st0 s b0 i) (fun i => i ≤ (s.extract 1 s.size).size ∧ ((bytesOf (s.extract 1 s.size)).take i).all isDig = true) (fun i => (s.extract 1 s.size).size - i)
    (fun e S1 => (e = .exit 0 ∧ (bytesOf (s.extract 1 s.size)).all isDig = true ∧ ∃ x, S1 = st0 s b0 x) ∨ (e = .ret ∧ (bytesOf (s.extract 1 s.size)).all isDig = false ∧ ∃ x, S1 = st0x0 s 10 b0 x)) isL0 ?_ 0 ⟨by omega, rfl⟩
  intro i ⟨h1, h2⟩
  refine ⟨noTab, noTab_all, lands_of (round0 ..) ?_⟩
  have hlen := bytes_len (s.extract 1 s.size)
  by_cases hi : i < (s.extract 1 s.size).size
  · have hmem : (bytesOf (s.extract 1 s.size)).getD i 0 ∈ bytesOf (s.extract 1 s.size) := by rw [getD_at (by omega)]; exact List.getElem_mem _
    have bad : isDig ((bytesOf (s.extract 1 s.size)).getD i 0) = false → (bytesOf (s.extract 1 s.size)).all isDig = false := by
      intro hb
      rw [Bool.eq_false_iff]
      intro hall
      rw [List.all_eq_true.1 hall _ hmem] at hb
      cases hb
    simp only [lands_bif, lands_some, lands_none, Turns1, Turns2, Turns3, Turns4, Turns5, Turns6, Turns7, Turns8, eq_bif, Option.some.injEq, reduceCtorEq, cond_true, cond_false, Bool.eq_false_iff, ne_eq, inB_iff, decide_eq_true_eq, Bool.and_eq_true, Bool.or_eq_true, Bool.not_eq_true', beq_iff_eq, bne_iff_ne, true_and, and_true, true_implies, implies_true, not_true_eq_false, not_false_eq_true, false_implies, few_iff, bt_nat, wi_succ (show i < 4611686018427387904 by omega)]
    repeat' (first | apply And.intro | intro _)
    all_goals try omega
    · refine .inr ⟨Bool.eq_false_iff.1 (bad ?_), _, rfl⟩
      rw [Bool.eq_false_iff, ne_eq, dig_iff]; omega
    · refine .inr ⟨Bool.eq_false_iff.1 (bad ?_), _, rfl⟩
      rw [Bool.eq_false_iff, ne_eq, dig_iff]; omega
    · refine ⟨i + 1, rfl, ⟨by omega, ?_⟩, by omega⟩
      rw [take_succ_getD _ (by omega), List.all_append, h2, Bool.true_and]
      simp only [List.all_cons, List.all_nil, Bool.and_true]
      rw [dig_iff]; omega
  · obtain rfl : i = (s.extract 1 s.size).size := by omega
    rw [decide_eq_false (by omega)]
    simp only [cond_false, lands_some, Turns1]
    rw [List.take_of_length_le (by omega)] at h2
    exact .inl ⟨trivial, h2, _, rfl⟩
theorem pieceB (s : ByteArray) (i : Nat) (l0 : List Int) (b15 : Bool) (x23 : Int) (hD : (s.extract 1 s.size).size ≤ 10000) (hi : i ≤ (s.extract 1 s.size).size) (hall : (bytesOf (s.extract 1 s.size)).all isDig = true) (a : List Int) (ha : a = ((bytesOf (s.extract 1 s.size)).drop i).take 9) :
    ∃ e S1, Ends T orc L2a D2a (st2a s i 0 1 b15 x23 0 l0) e S1 ∧ (e = .exit 4 ∧ S1 = (st2a s i (dval a) (10 ^ a.length) b15 x23 (a.length : Nat) l0)) := by
  have hlen := bytes_len (s.extract 1 s.size)
  have hm := min_eq (s.extract 1 s.size).size i (by omega) hi
  have hex : bytesOf ((s.extract 1 s.size).extract i (min (i + 9) (s.extract 1 s.size).size)) = a := by
    rw [bytes_extract, ha, List.take_drop]
    by_cases h9 : i + 9 ≤ (s.extract 1 s.size).size
    · rw [Nat.min_eq_left h9]
    · rw [Nat.min_eq_right (by omega), List.take_of_length_le (by omega), List.take_of_length_le (by omega)]
  have hsz : ((s.extract 1 s.size).extract i (min (i + 9) (s.extract 1 s.size).size)).size = a.length := by rw [← bytes_len, hex]
  have hal : a.length ≤ 9 := by rw [ha, List.length_take]; omega
  have haall : a.all isDig = true := by rw [ha]; exact all_take (all_drop hall i) 9
  refine loop_inv1 (fun (k : Nat) => (st2a s i (dval (a.take k)) (10 ^ k) b15 x23 k l0)) (fun k => k ≤ a.length) (fun k => a.length - k)
    (fun e S1 => e = .exit 4 ∧ S1 = (st2a s i (dval a) (10 ^ a.length) b15 x23 (a.length : Nat) l0)) isL2a ?_ 0 (by omega)
  intro k hk
  refine ⟨noTab, noTab_all, lands_of (round2a ..) ?_⟩
  rw [hm, Int.toNat_natCast, Int.toNat_natCast, hsz]
  by_cases hk2 : k < a.length
  · have hc := dig_iff.1 (List.all_eq_true.1 haall (a.getD k 0) (by rw [getD_at hk2]; exact List.getElem_mem _))
    obtain ⟨d0, d1⟩ := dval_bound _ (all_take haall k)
    rw [List.length_take, Nat.min_eq_left hk] at d1
    obtain ⟨p1, p2⟩ := pow10_le (show k ≤ 9 by omega)
    obtain ⟨q1, q2⟩ := pow10_le (show k + 1 ≤ 9 by omega)
    have hb : bt ((s.extract 1 s.size).extract i (min (i + 9) (s.extract 1 s.size).size)) (k : Int) = a.getD k 0 := by rw [bt_nat, hex]
    have e1 : IntKind.u8.wrap (a.getD k 0 - 48) = a.getD k 0 - 48 := IntWalk.u8_in _ ⟨by omega, by omega⟩
    have e2 : dval (a.take (k + 1)) = dval (a.take k) * 10 + (a.getD k 0 - 48) := by
      rw [take_succ_getD a hk2, dval_app, dval_one]; rfl
    have hk8 : k ≤ 8 := by omega
    obtain ⟨_, p3⟩ := pow10_le (show k + 1 ≤ 9 by omega)
    rw [Int.pow_succ] at q2 p3
    rw [hb, e1, wu32 (n := a.getD k 0 - 48) (by omega) (by omega), wu32 (n := dval (a.take k) * 10) (by omega) (by omega), wu32 (n := dval (a.take k) * 10 + (a.getD k 0 - 48)) (by omega) (by omega), wu32 (n := (10 : Int) ^ k * 10) (by omega) (by omega), ← e2, ← Int.pow_succ, wi_succ (show k < 4611686018427387904 by omega), decide_eq_true (show (k : Int) < (a.length : Int) by omega), bT (inB_iff.2 (by omega))]
    simp only [cond_true, lands_some, Turns1]
    exact ⟨k + 1, rfl, by omega, by omega⟩
  · obtain rfl : k = a.length := by omega
    rw [decide_eq_false (by omega), List.take_length]
    simp only [cond_false, lands_some, Turns1]
    exact ⟨trivial, trivial⟩
theorem mainB (s : ByteArray) (b15 : Bool) (x23 : Int) (hD : (s.extract 1 s.size).size ≤ 10000) (hall : (bytesOf (s.extract 1 s.size)).all isDig = true) :
    ∃ e S1, Ends T orc L1a D1a (st1a s 0 b15 x23 []) e S1 ∧ (e = .exit 2 ∧ ∃ x l, S1 = (st1a s x b15 x23 l) ∧ okB 4294967296 l = true ∧ l.length ≤ 20000 ∧ val 4294967296 l = dval (bytesOf (s.extract 1 s.size))) := by
  have hlen := bytes_len (s.extract 1 s.size)
  refine loop_inv2 (fun (i : Nat) l0 => (st1a s i b15 x23 l0)) (fun i l0 => okB 4294967296 l0 = true ∧ l0.length ≤ i ∧ i ≤ (s.extract 1 s.size).size + 9 ∧ val 4294967296 l0 = dval ((bytesOf (s.extract 1 s.size)).take i)) (fun i l0 => (s.extract 1 s.size).size + 9 - i)
    (fun e S1 => e = .exit 2 ∧ ∃ x l, S1 = (st1a s x b15 x23 l) ∧ okB 4294967296 l = true ∧ l.length ≤ 20000 ∧ val 4294967296 l = dval (bytesOf (s.extract 1 s.size))) isL1a ?_ 0 [] ⟨rfl, by simp, by omega, rfl⟩
  intro i l0 ⟨h1, h2, h3, h4⟩
  by_cases hi : i < (s.extract 1 s.size).size
  · obtain ⟨a, ha⟩ : ∃ a, a = ((bytesOf (s.extract 1 s.size)).drop i).take 9 := ⟨_, rfl⟩
    obtain ⟨e1, S1, hE1, rfl, rfl⟩ := pieceB s i l0 b15 x23 hD (by omega) hall a ha
    obtain ⟨m, hm9⟩ : ∃ m, a.length = m := ⟨_, rfl⟩
    rw [hm9] at hE1
    refine ⟨_, tabOf_all _, lands_of (round1a s i b15 x23 l0 (10 ^ m) (dval a) m) ?_⟩
    have hm := min_eq (s.extract 1 s.size).size i (by omega) (by omega)
    have hal : a.length ≤ 9 := by rw [ha, List.length_take]; omega
    have haall : a.all isDig = true := by rw [ha]; exact all_take (all_drop hall i) 9
    obtain ⟨d0, d1⟩ := dval_bound _ haall
    obtain ⟨p1, p2⟩ := pow10_le hal
    rw [hm9] at d1 p1 p2
    have ew : IntKind.i64.wrap ((i : Int) + 9) = ((i + 9 : Nat) : Int) := by rw [w64 (by omega) (by omega)]; omega
    rw [hm, cdec_true hE1, decide_eq_true (show (i : Int) < ((s.extract 1 s.size).size : Int) by omega), decide_eq_true (show (0 : Int) ≤ (i : Int) by omega), decide_eq_true (show (i : Int) ≤ ((min (i + 9) (s.extract 1 s.size).size : Nat) : Int) by omega), decide_eq_true (show ((min (i + 9) (s.extract 1 s.size).size : Nat) : Int) ≤ ((s.extract 1 s.size).size : Int) by omega), h1, few_iff.2 (show l0.length ≤ 100000 by omega), decide_eq_true (show (0 : Int) ≤ 10 ^ m by omega), decide_eq_true (show (10 : Int) ^ m < 4294967296 by omega), decide_eq_true d0, decide_eq_true (show dval a < 4294967296 by omega), ew]
    simp only [Bool.and_self, cond_true, lands_some, Turns2]
    have hsl := scaleL_len l0 (10 ^ m) (dval a)
    refine ⟨i + 9, _, rfl, ⟨scaleL_ok _ _ _, by omega, by omega, ?_⟩, by omega⟩
    rw [scaleL_val h1 ⟨by omega, by omega⟩ ⟨d0, by omega⟩, h4, List.take_add, ← ha, dval_app, hm9]
  · refine ⟨_, tabOf_all _, lands_of (round1a s i b15 x23 l0 1 0 0) ?_⟩
    rw [decide_eq_false (by omega)]
    simp only [cond_false, lands_some, Turns2]
    rw [List.take_of_length_le (by omega)] at h4
    exact ⟨trivial, _, _, rfl, h1, by omega, h4⟩
end Parse
theorem dval_cons (c : Int) (l : List Int) : dval (c :: l) = (c - 48) * 10 ^ l.length + dval l := by
  have := dval_app [c] l
  rw [dval_one] at this
  exact this
theorem ten_343 : (2 : Nat) ^ 1024 ≤ 10 ^ 343 := Nat.le_of_ble_eq_true (by kernel_rfl)
set_option exponentiation.threshold 20000 in
theorem ten_Lim : (10 : Nat) ^ 343 < Lim := Nat.lt_of_not_le (fun h => by
  have h2 : Nat.ble Lim (10 ^ 343) = true := Nat.ble_eq_true_of_le h
  have h3 : Nat.ble Lim (10 ^ 343) = false := by kernel_rfl
  rw [h3] at h2; cases h2)
set_option exponentiation.threshold 20000 in
theorem big_fits {z : Int} (h : (10 : Int) ^ 343 ≤ az z) : fits z = false := by
  unfold fits
  rw [decide_eq_false_iff_not]
  intro h2
  have h3 := ten_343
  unfold az at h
  have h4 : ((10 ^ 343 : Nat) : Int) ≤ ((z.natAbs : Nat) : Int) := by rw [Int.natCast_pow]; exact h
  have h5 : (10 ^ 343 : Nat) ≤ z.natAbs := Int.ofNat_le.1 h4
  exact Nat.lt_irrefl _ (Nat.lt_of_lt_of_le h2 (Nat.le_trans h3 h5))
theorem dval_big {l : List Int} (hall : l.all isDig = true) (h0 : l.getD 0 0 ≠ 48) (hl : l.length > 343) : (10 : Int) ^ 343 ≤ dval l := by
  cases l with
  | nil => simp at hl
  | cons c l =>
    rw [List.all_cons, Bool.and_eq_true] at hall
    have hc := dig_iff.1 hall.1
    have h0 : c ≠ 48 := h0
    have hb := dval_bound l hall.2
    rw [List.length_cons] at hl
    have hp := pow_mono (B := 10) (by decide) (show 343 ≤ l.length by omega)
    rw [dval_cons]
    have : 1 * (10 : Int) ^ l.length ≤ (c - 48) * 10 ^ l.length := Int.mul_le_mul_of_nonneg_right (by omega) (by have := hb.1; omega)
    omega
set_option exponentiation.threshold 20000 in
theorem dval_lim {l : List Int} (hall : l.all isDig = true) (hl : l.length ≤ 343) : (dval l).natAbs < Lim := by
  have hb := dval_bound l hall
  have hp := pow_mono (B := 10) (by decide) hl
  have h1 : dval l < ((10 ^ 343 : Nat) : Int) := by rw [Int.natCast_pow]; exact Int.lt_of_lt_of_le hb.2 hp
  exact Nat.lt_trans (by omega) ten_Lim
def formD (d : List Int) (n : Bool) : Bool := !d.isEmpty && !(d.getD 0 0 == 48 && (decide (d.length > 1) || n)) && d.all isDig
theorem rv_bad {s : ByteArray} {d : List Int} {n : Bool} (hd : digs (bytesOf s) = d) (hn : hasNeg (bytesOf s) = n) (h : formD d n = false) : some (Res.val (.tup [.agg [.bool false, .ints .u32 []], .int .i64 10])) = some (.val (.tup [R (rv s), .int .i64 (re s)])) := by
  unfold rv re form
  rw [hd, hn, show (!d.isEmpty && !(d.getD 0 0 == 48 && (decide (d.length > 1) || n)) && d.all isDig) = false from h]
  rfl
theorem rv_good {s : ByteArray} {d : List Int} {n : Bool} (hd : digs (bytesOf s) = d) (hn : hasNeg (bytesOf s) = n) (h : formD d n = true) : rv s = hz (bif n then - dval d else dval d) ∧ re s = he (bif n then - dval d else dval d) := by
  unfold rv re form tval
  rw [hd, hn, show (!d.isEmpty && !(d.getD 0 0 == 48 && (decide (d.length > 1) || n)) && d.all isDig) = true from h, cond_true, cond_true]
  exact ⟨rfl, rfl⟩
theorem rv_long {s : ByteArray} {d : List Int} {n : Bool} (hd : digs (bytesOf s) = d) (hn : hasNeg (bytesOf s) = n) (h : formD d n = true) (hl : d.length > 343) : some (Res.val (.tup [.agg [.bool false, .ints .u32 []], .int .i64 11])) = some (.val (.tup [R (rv s), .int .i64 (re s)])) := by
  obtain ⟨h1, h2⟩ := rv_good hd hn h
  have h0 : d.getD 0 0 ≠ 48 := by
    intro h0
    unfold formD at h
    rw [h0, decide_eq_true (show d.length > 1 by omega)] at h
    simp at h
  have hall : d.all isDig = true := by unfold formD at h; rw [Bool.and_eq_true] at h; exact h.2
  have hb := dval_big hall h0 hl
  have hf : fits (bif n then - dval d else dval d) = false := big_fits (by cases n <;> simp only [cond_true, cond_false, az] <;> omega)
  rw [h1, h2]
  unfold hz he
  rw [hf]
  rfl
theorem rv_read {s : ByteArray} {d : List Int} {n : Bool} (hd : digs (bytesOf s) = d) (hn : hasNeg (bytesOf s) = n) (h : formD d n = true) (hl : d.length ≤ 343) {l : List Int} (ok : okB 4294967296 l = true) (hll : l.length ≤ 20000) (hv : val 4294967296 l = dval d) :
    (bif few l && okB (4294967296) l then (bif cn (4294967296) (sg (num (4294967296) n l)) (lb (4294967296) (num (4294967296) n l)) then some (Res.val (.tup [R (hz (N (4294967296) (num (4294967296) n l))), .int .i64 (he (N (4294967296) (num (4294967296) n l)))])) else none) else none) = some (.val (.tup [R (rv s), .int .i64 (re s)])) := by
  obtain ⟨h1, h2⟩ := rv_good hd hn h
  have hall : d.all isDig = true := by unfold formD at h; rw [Bool.and_eq_true] at h; exact h.2
  have hlim := dval_lim hall hl
  have hs : (bif n then - dval d else dval d).natAbs < Lim := by cases n <;> simp only [cond_true, cond_false, Int.natAbs_neg] <;> exact hlim
  rw [few_iff.2 (show l.length ≤ 100000 by omega), ok, num_of hv, cnW, decide_eq_true hs, N_eq, h1, h2]
  rfl
theorem neg_of (s : ByteArray) (h : bt s 0 = 45) : 0 < s.size ∧ hasNeg (bytesOf s) = true ∧ digs (bytesOf s) = bytesOf (s.extract 1 s.size) := by
  have h1 := bt_nat s 0
  rw [show ((0 : Nat) : Int) = 0 from rfl, h] at h1
  have h2 := bytes_len s
  rw [bytes_extract]
  unfold digs hasNeg
  cases hl : bytesOf s with
  | nil => rw [hl] at h1; simp at h1
  | cons c l =>
    rw [hl] at h1 h2
    have h1 : (45 : Int) = c := h1
    rw [← h1, ← h2]
    refine ⟨by simp, by simp, by simp⟩
theorem pos_of (s : ByteArray) (h : bt s 0 ≠ 45) : hasNeg (bytesOf s) = false ∧ digs (bytesOf s) = bytesOf s := by
  have h1 := bt_nat s 0
  rw [show ((0 : Nat) : Int) = 0 from rfl] at h1
  unfold digs hasNeg
  cases hl : bytesOf s with
  | nil => exact ⟨rfl, rfl⟩
  | cons c l =>
    rw [hl] at h1
    have h1 : bt s 0 = c := h1
    have : (c == 45) = false := by rw [beq_eq_false_iff_ne]; omega
    simp [this]
theorem formD_eq (d : List Int) (n : Bool) : formD d n = true ↔ (d ≠ [] ∧ ¬ (d.getD 0 0 = 48 ∧ (d.length > 1 ∨ n = true)) ∧ d.all isDig = true) := by
  unfold formD
  rw [Bool.and_eq_true, Bool.and_eq_true, and_assoc]
  refine and_congr ?_ (and_congr ?_ Iff.rfl)
  · cases d <;> simp
  · rw [Bool.not_eq_true', ← Bool.not_eq_true, Bool.and_eq_true, Bool.or_eq_true, beq_iff_eq, decide_eq_true_eq]
theorem meets_parse : Meets Try.prog 58 ansParse := by
  refine meets_fn (orc_ok (l := Parse.ans) ⟨meets_norm, meets_held, meets_scale, trivial⟩) Try.f58 Try.func58 (by kernel_rfl) (fun args r h => ?_)
  unfold ansParse at h
  split at h
  · rename_i s
    simp only [Option.some.injEq, Prod.mk.injEq] at h
    obtain ⟨h, rfl⟩ := h
    have hsz := of_decide_eq_true h
    refine ⟨rfl, ?_⟩
    by_cases h45 : bt s 0 = 45
    · obtain ⟨h0, hn, hd⟩ := neg_of s h45
      obtain ⟨D, hD⟩ : ∃ D, D = s.extract 1 s.size := ⟨_, rfl⟩
      have hDs : D.size ≤ 10000 := by rw [hD, ByteArray.size_extract]; omega
      have hlen := bytes_len D
      have hb0 := bt_nat D 0
      rw [show ((0 : Nat) : Int) = 0 from rfl] at hb0
      rw [← hD] at hd
      have e0 : (bt s 0 == 45) = true := by rw [h45]; rfl
      by_cases hz0 : D.size = 0
      · refine ⟨_, tabOf_all _, (Parse.rest_0 s 0 true true true 0 0 true 0).trans ?_⟩
        rw [← hD, e0, decide_eq_true (show (s.size : Int) > 0 by omega), bT (inB_iff.2 (by omega : (0 : Int) ≤ 0 ∧ (0 : Int) < s.size)), decide_eq_true (show 1 ≤ (s.size : Int) by omega), show ((D.size : Int) == 0) = true by rw [beq_iff_eq]; omega]
        simp only [Bool.and_self, cond_true]
        exact rv_bad hd hn (by rw [← Bool.not_eq_true, formD_eq]; intro hh; exact hh.1 (List.eq_nil_of_length_eq_zero (by omega)))
      · by_cases h48 : bt D 0 = 48
        · refine ⟨_, tabOf_all _, (Parse.rest_0 s 0 true true true 0 0 true 0).trans ?_⟩
          rw [← hD, e0, decide_eq_true (show (s.size : Int) > 0 by omega), bT (inB_iff.2 (by omega : (0 : Int) ≤ 0 ∧ (0 : Int) < s.size)), decide_eq_true (show 1 ≤ (s.size : Int) by omega), show ((D.size : Int) == 0) = false by rw [beq_eq_false_iff_ne]; omega, bT (inB_iff.2 (by omega : (0 : Int) ≤ 0 ∧ (0 : Int) < D.size)), h48]
          have hbad : formD (bytesOf D) true = false := by rw [← Bool.not_eq_true, formD_eq]; intro hh; exact hh.2.1 ⟨by omega, .inr rfl⟩
          by_cases hg : (D.size : Int) > 1
          · rw [decide_eq_true hg]
            exact rv_bad hd hn hbad
          · rw [decide_eq_false hg]
            exact rv_bad hd hn hbad
        · have e48 : (bt D 0 == 48) = false := by rw [beq_eq_false_iff_ne]; exact h48
          obtain ⟨e1, S1, hE1, ⟨rfl, hall, x, rfl⟩ | ⟨rfl, hall, x, rfl⟩⟩ := Parse.validB s (by rw [← hD]; exact hDs) false
          · rw [← hD] at hall
            have hform : formD (bytesOf D) true = true := (formD_eq _ _).2 ⟨fun hh => by rw [hh] at hlen; exact hz0 hlen.symm, fun hh => h48 (by omega), hall⟩
            by_cases hbig : D.size > 343
            · refine ⟨_, tabOf_all _, (Parse.rest_2 s 0 true true true 0 [] false x 0).trans ?_⟩
              rw [cdec_true hE1, ← hD, e0, decide_eq_true (show (s.size : Int) > 0 by omega), bT (inB_iff.2 (by omega : (0 : Int) ≤ 0 ∧ (0 : Int) < s.size)), decide_eq_true (show 1 ≤ (s.size : Int) by omega), show ((D.size : Int) == 0) = false by rw [beq_eq_false_iff_ne]; omega, bT (inB_iff.2 (by omega : (0 : Int) ≤ 0 ∧ (0 : Int) < D.size)), e48, decide_eq_true (show (D.size : Int) > 343 by omega)]
              exact rv_long hd hn hform (by omega)
            · obtain ⟨e2, S2, hE2, rfl, y, l, rfl, ok, hll, hv⟩ := Parse.mainB s false x (by rw [← hD]; exact hDs) (by rw [← hD]; exact hall)
              rw [← hD] at hv
              refine ⟨_, tabOf_all _, (Parse.rest_2 s 0 true true true 0 l false x y).trans ?_⟩
              rw [cdec_true hE1, cdec_true hE2, ← hD, e0, decide_eq_true (show (s.size : Int) > 0 by omega), bT (inB_iff.2 (by omega : (0 : Int) ≤ 0 ∧ (0 : Int) < s.size)), decide_eq_true (show 1 ≤ (s.size : Int) by omega), show ((D.size : Int) == 0) = false by rw [beq_eq_false_iff_ne]; omega, bT (inB_iff.2 (by omega : (0 : Int) ≤ 0 ∧ (0 : Int) < D.size)), e48, decide_eq_false (show ¬ (D.size : Int) > 343 by omega)]
              exact rv_read hd hn hform (by omega) ok hll hv
          · rw [← hD] at hall
            refine ⟨_, tabOf_all _, (Parse.rest_0 s 0 true true true 0 10 false x).trans ?_⟩
            rw [cdec_true hE1, ← hD, e0, decide_eq_true (show (s.size : Int) > 0 by omega), bT (inB_iff.2 (by omega : (0 : Int) ≤ 0 ∧ (0 : Int) < s.size)), decide_eq_true (show 1 ≤ (s.size : Int) by omega), show ((D.size : Int) == 0) = false by rw [beq_eq_false_iff_ne]; omega, bT (inB_iff.2 (by omega : (0 : Int) ≤ 0 ∧ (0 : Int) < D.size)), e48]
            exact rv_bad hd hn (by rw [← Bool.not_eq_true, formD_eq]; intro hh; rw [hall] at hh; cases hh.2.2)
    · obtain ⟨hn, hd⟩ := pos_of s h45
      have hlen := bytes_len s
      have hb0 := bt_nat s 0
      rw [show ((0 : Nat) : Int) = 0 from rfl] at hb0
      have e0 : (bt s 0 == 45) = false := by rw [beq_eq_false_iff_ne]; exact h45
      by_cases hz0 : s.size = 0
      · refine ⟨_, tabOf_all _, (Parse.rest_0 s 0 true true true 0 0 true 0).trans ?_⟩
        rw [decide_eq_false (show ¬ (s.size : Int) > 0 by omega), show ((s.size : Int) == 0) = true by rw [beq_iff_eq]; omega]
        exact rv_bad hd hn (by rw [← Bool.not_eq_true, formD_eq]; intro hh; exact hh.1 (List.eq_nil_of_length_eq_zero (by omega)))
      · have hin : inB 0 s.size = true := inB_iff.2 (by omega)
        have key : (bt s 0 == 48 && decide ((s.size : Int) > 1)) = true ∨ (bt s 0 == 48 && decide ((s.size : Int) > 1)) = false := by cases (bt s 0 == 48 && decide ((s.size : Int) > 1)) <;> simp
        rcases key with key | key
        · rw [Bool.and_eq_true] at key
          have h48 : bt s 0 = 48 := by simpa using key.1
          have hg := of_decide_eq_true key.2
          refine ⟨_, tabOf_all _, (Parse.rest_0 s 0 true true true 0 0 true 0).trans ?_⟩
          rw [e0, decide_eq_true (show (s.size : Int) > 0 by omega), hin, show ((s.size : Int) == 0) = false by rw [beq_eq_false_iff_ne]; omega, key.1, key.2]
          simp only [hin, cond_true, cond_false]
          exact rv_bad hd hn (by rw [← Bool.not_eq_true, formD_eq]; intro hh; exact hh.2.1 ⟨by omega, .inl (by omega)⟩)
        · have join : ∀ (b c : Bool) (X Y : Option Res), (b && c) = false → (bif b then (bif c then X else Y) else Y) = Y := by intro b c X Y h; cases b <;> cases c <;> first | rfl | cases h
          have hno : ¬ ((bytesOf s).getD 0 0 = 48 ∧ ((bytesOf s).length > 1 ∨ false = true)) := by
            intro ⟨q1, q2⟩
            rw [← hb0] at q1
            rcases q2 with q2 | q2
            · rw [q1, decide_eq_true (show (s.size : Int) > 1 by omega)] at key; cases key
            · cases q2
          obtain ⟨e1, S1, hE1, ⟨rfl, hall, x, rfl⟩ | ⟨rfl, hall, x, rfl⟩⟩ := Parse.validA s hsz false true false
          · have hform : formD (bytesOf s) false = true := (formD_eq _ _).2 ⟨fun hh => by rw [hh] at hlen; exact hz0 hlen.symm, hno, hall⟩
            by_cases hbig : s.size > 343
            · refine ⟨_, tabOf_all _, (Parse.rest_1 s false [] true false x 0 0 true 0).trans ?_⟩
              rw [e0, decide_eq_true (show (s.size : Int) > 0 by omega), hin, show ((s.size : Int) == 0) = false by rw [beq_eq_false_iff_ne]; omega, cdec_true hE1, decide_eq_true (show (s.size : Int) > 343 by omega)]
              simp only [hin, cond_true, cond_false]
              exact (join _ _ _ _ key).trans (rv_long hd hn hform (by omega))
            · obtain ⟨e2, S2, hE2, rfl, y, l, rfl, ok, hll, hv⟩ := Parse.mainA s false true false x hsz hall
              refine ⟨_, tabOf_all _, (Parse.rest_1 s false l true false x y 0 true 0).trans ?_⟩
              rw [e0, decide_eq_true (show (s.size : Int) > 0 by omega), hin, show ((s.size : Int) == 0) = false by rw [beq_eq_false_iff_ne]; omega, cdec_true hE1, cdec_true hE2, decide_eq_false (show ¬ (s.size : Int) > 343 by omega)]
              simp only [hin, cond_true, cond_false]
              exact (join _ _ _ _ key).trans (rv_read hd hn hform (by omega) ok hll hv)
          · refine ⟨_, tabOf_all _, (Parse.rest_0 s 10 false true false x 0 true 0).trans ?_⟩
            rw [e0, decide_eq_true (show (s.size : Int) > 0 by omega), hin, show ((s.size : Int) == 0) = false by rw [beq_eq_false_iff_ne]; omega, cdec_true hE1]
            simp only [hin, cond_true, cond_false]
            exact (join _ _ _ _ key).trans (rv_bad hd hn (by rw [← Bool.not_eq_true, formD_eq]; intro hh; rw [hall] at hh; cases hh.2.2))
  · cases h
end Go.Abs
end
section
/- The statements of layer 1: their helpers. -/
namespace Go.Abs
open Go.Proofs Go.Dig
theorem txtL_byte (z : Int) : ∀ c ∈ txtL z, 0 ≤ c ∧ c < 256 := by
  intro c hc
  unfold txtL at hc
  by_cases h : z = 0
  · rw [if_pos h] at hc
    have := List.mem_singleton.1 hc
    omega
  · rw [if_neg h] at hc
    rcases List.mem_append.1 hc with hc | hc
    · split at hc
      · have := List.mem_singleton.1 hc; omega
      · cases hc
    · unfold dig at hc
      obtain ⟨d, hd, rfl⟩ := List.mem_map.1 hc
      have := okB_iff.1 (limbs_ok T_pos (z.natAbs : Int)) d (List.mem_reverse.1 hd)
      omega
theorem bytesOf_strOf {l : List Int} (h : ∀ c ∈ l, 0 ≤ c ∧ c < 256) : bytesOf (strOf l) = l := by
  unfold bytesOf strOf
  simp only [List.map_map]
  refine (List.map_congr_left (g := id) (fun c hc => ?_)).trans (List.map_id l)
  have := h c hc
  show ((UInt8.ofNat c.toNat).toNat : Int) = c
  rw [UInt8.toNat_ofNat']
  omega
theorem toList_inj {a b : ByteArray} (h : a.toList = b.toList) : a = b := by
  rw [ByteArray.toList_eq, ByteArray.toList_eq] at h
  exact ByteArray.ext (Array.toList_inj.1 h)
theorem bytesOf_txt (z : Int) : bytesOf (txt z) = txtL z := bytesOf_strOf (txtL_byte z)
/-- What num gives is held. -/
theorem fits_rv (s : ByteArray) : fits (rv s) = true := by
  have f0 : fits 0 = true := by kernel_rfl
  unfold rv
  cases form (bytesOf s) with
  | false => exact f0
  | true =>
    rw [cond_true]
    unfold hz
    cases hf : fits (tval (bytesOf s)) with
    | false => exact f0
    | true => exact hf
end Go.Abs
end
section
/- The statements of layer 1: texts read, numbers reckoned. -/
namespace Go.Abs
open Go.Proofs Go.Dig
theorem bytesOf_inj {a b : ByteArray} (h : bytesOf a = bytesOf b) : a = b := by
  have hs : a.size = b.size := by rw [← bytes_len, ← bytes_len, h]
  unfold bytesOf at h
  have : a.data.toList = b.data.toList := by
    refine (List.map_inj_right (fun x y hxy => ?_)).1 h
    have hxy : (x.toNat : Int) = y.toNat := hxy
    exact UInt8.toNat_inj.1 (by omega)
  exact ByteArray.ext (Array.toList_inj.1 this)
end Go.Abs
end
section
/- The statements of layer 1: rings, moves. -/
namespace Go.Abs
open Go.Proofs Go.Dig
theorem ne_b {x y : Int} (h : x ≠ y) : (x != y) = true := by rw [bne_iff_ne]; exact h
theorem eq_b {x y : Int} (h : x = y) : (x != y) = false := by subst h; exact bne_self_eq_false x
end Go.Abs
end
section
/- The statements of layer 1: quotients and rests, divisors. -/
namespace Go.Abs
open Go.Proofs Go.Dig
theorem fits_le {x y : Int} (h : fits y = true) (hle : x.natAbs ≤ y.natAbs) : fits x = true := fits_iff.2 (Nat.lt_of_le_of_lt hle (fits_iff.1 h))
theorem fits_gz {x y : Int} (hx : fits x = true) (hy : fits y = true) : fits (gz x y) = true := by
  unfold gz
  by_cases h : x = 0
  · subst h
    rw [Int.gcd_zero_left]
    exact fits_le hy (by omega)
  · have : Int.gcd x y ≤ x.natAbs := Nat.le_of_dvd (by omega) (Nat.gcd_dvd_left _ _)
    exact fits_le hx (by omega)
end Go.Abs
end
section
/- The statements of layer 1: sums of lists. -/
namespace Go.Abs
open Go.Proofs Go.Dig
def isS : List AV → Bool
  | [.str _] => true
  | _ => false
end Go.Abs
end
section
/- Sums of variables as lists: plain mathematics. -/
namespace Go.Abs
open Go.Dig
theorem fits0 : fits 0 = true := by kernel_rfl
abbrev Asc (l : List (Int × Int)) : Prop := l.Pairwise (fun p q => p.1 < q.1)
def Nz (l : List (Int × Int)) : Prop := ∀ p ∈ l, p.2 ≠ 0
def In (l : List (Int × Int)) : Prop := ∀ p ∈ l, 0 ≤ p.1 ∧ p.1 < 4096
theorem mem_ofF {f : Int → Int} {p : Int × Int} : p ∈ ofF f ↔ (0 ≤ p.1 ∧ p.1 < 4096) ∧ p.2 = f p.1 ∧ p.2 ≠ 0 := by
  rw [ofF_eq]
  rw [List.mem_filter, List.mem_map, bne_iff_ne]
  constructor
  · rintro ⟨⟨v, hv, rfl⟩, h⟩
    rw [List.mem_range] at hv
    exact ⟨⟨by omega, by show (v : Int) < 4096; omega⟩, rfl, h⟩
  · rintro ⟨⟨h1, h2⟩, h3, h4⟩
    refine ⟨⟨p.1.toNat, List.mem_range.2 (by omega), ?_⟩, h4⟩
    rw [Int.toNat_of_nonneg h1, ← h3]
theorem nz_ofF (f : Int → Int) : Nz (ofF f) := fun p hp => (mem_ofF.1 hp).2.2
theorem in_ofF (f : Int → Int) : In (ofF f) := fun p hp => (mem_ofF.1 hp).1
theorem asc_ofF (f : Int → Int) : Asc (ofF f) := by
  rw [ofF_eq]
  refine List.Pairwise.filter _ (List.pairwise_map.2 ?_)
  refine List.pairwise_lt_range.imp (fun h => ?_)
  exact Int.ofNat_lt.2 h
theorem cf_cons (p : Int × Int) (l : List (Int × Int)) (v : Int) : cf (p :: l) v = if p.1 = v then p.2 else cf l v := by
  show (bif decide (p.1 = v) then p.2 else cf l v) = _
  by_cases h : p.1 = v
  · rw [decide_eq_true h, if_pos h]; rfl
  · rw [decide_eq_false h, if_neg h]; rfl
theorem cf_nil (v : Int) : cf [] v = 0 := rfl
theorem cf_none {l : List (Int × Int)} {v : Int} (h : ∀ p ∈ l, p.1 ≠ v) : cf l v = 0 := by
  induction l with
  | nil => rfl
  | cons p l ih =>
    rw [cf_cons, if_neg (h p List.mem_cons_self)]
    exact ih (fun q hq => h q (List.mem_cons_of_mem _ hq))
theorem cf_mem {l : List (Int × Int)} (ha : Asc l) {p : Int × Int} (hp : p ∈ l) : cf l p.1 = p.2 := by
  induction l with
  | nil => cases hp
  | cons q l ih =>
    have ha := List.pairwise_cons.1 ha
    rw [cf_cons]
    rcases List.mem_cons.1 hp with rfl | h
    · rw [if_pos rfl]
    · rw [if_neg (by have := ha.1 p h; omega)]
      exact ih ha.2 h
theorem cf_ofF (f : Int → Int) (v : Int) : cf (ofF f) v = if 0 ≤ v ∧ v < 4096 then f v else 0 := by
  by_cases hv : 0 ≤ v ∧ v < 4096
  · rw [if_pos hv]
    by_cases h0 : f v = 0
    · rw [h0]
      refine cf_none (fun p hp hpv => ?_)
      obtain ⟨_, h1, h2⟩ := mem_ofF.1 hp
      rw [hpv] at h1
      omega
    · have hm : ((v, f v) : Int × Int) ∈ ofF f := mem_ofF.2 ⟨hv, rfl, h0⟩
      exact cf_mem (p := (v, f v)) (asc_ofF f) hm
  · rw [if_neg hv]
    exact cf_none (fun p hp hpv => hv (hpv ▸ in_ofF f p hp))
theorem cf_ext : ∀ {l m : List (Int × Int)}, Asc l → Nz l → Asc m → Nz m → (∀ v, cf l v = cf m v) → l = m
  | [], [], _, _, _, _, _ => rfl
  | [], q :: m, _, _, _, hn, h => by
    have := h q.1
    rw [cf_nil, cf_cons, if_pos rfl] at this
    exact absurd this.symm (hn q List.mem_cons_self)
  | p :: l, [], _, hn, _, _, h => by
    have := h p.1
    rw [cf_nil, cf_cons, if_pos rfl] at this
    exact absurd this (hn p List.mem_cons_self)
  | p :: l, q :: m, ha, hn, ha', hn', h => by
    have ha := List.pairwise_cons.1 ha
    have ha' := List.pairwise_cons.1 ha'
    have h1 := h p.1
    have h2 := h q.1
    rw [cf_cons, if_pos rfl, cf_cons] at h1
    rw [cf_cons q m, if_pos rfl, cf_cons] at h2
    have e1 : p.1 = q.1 := by
      false_or_by_contra
      rename_i hne
      rw [if_neg (fun hh => hne hh.symm)] at h1
      rw [if_neg hne] at h2
      rcases Int.lt_or_gt_of_ne hne with hl | hl
      · exact hn p List.mem_cons_self (h1.trans (cf_none (fun r hr hv => by have := ha'.1 r hr; omega)))
      · exact hn' q List.mem_cons_self (h2.symm.trans (cf_none (fun r hr hv => by have := ha.1 r hr; omega)))
    rw [if_pos e1.symm] at h1
    have e2 : p = q := Prod.ext e1 h1
    subst e2
    have e3 : l = m := by
      refine cf_ext ha.2 (fun r hr => hn r (List.mem_cons_of_mem _ hr)) ha'.2 (fun r hr => hn' r (List.mem_cons_of_mem _ hr)) (fun v => ?_)
      by_cases hv : p.1 = v
      · rw [cf_none (fun r hr hrv => by have := ha.1 r hr; omega), cf_none (fun r hr hrv => by have := ha'.1 r hr; omega)]
      · have := h v
        rw [cf_cons, if_neg hv, cf_cons, if_neg hv] at this
        exact this
    rw [e3]
/-- A list of that kind is its coefficients' list. -/
theorem canon {l : List (Int × Int)} (ha : Asc l) (hn : Nz l) (hi : In l) : l = ofF (cf l) := by
  refine cf_ext ha hn (asc_ofF _) (nz_ofF _) (fun v => ?_)
  rw [cf_ofF]
  by_cases hv : 0 ≤ v ∧ v < 4096
  · rw [if_pos hv]
  · rw [if_neg hv]
    exact cf_none (fun p hp hpv => hv (hpv ▸ hi p hp))
theorem ofF_congr {f g : Int → Int} (h : ∀ v, 0 ≤ v → v < 4096 → f v = g v) : ofF f = ofF g := by
  refine cf_ext (asc_ofF _) (nz_ofF _) (asc_ofF _) (nz_ofF _) (fun v => ?_)
  rw [cf_ofF, cf_ofF]
  by_cases hv : 0 ≤ v ∧ v < 4096
  · rw [if_pos hv, if_pos hv, h v hv.1 hv.2]
  · rw [if_neg hv, if_neg hv]
theorem ofF_zero : ofF (fun _ => 0) = [] := by
  refine List.eq_nil_iff_forall_not_mem.2 (fun p hp => ?_)
  obtain ⟨_, h1, h2⟩ := mem_ofF.1 hp
  exact h2 h1
theorem ofF_len (f : Int → Int) : (ofF f).length ≤ 4096 := by
  rw [ofF_eq]
  refine Nat.le_trans (List.length_filter_le _ _) ?_
  rw [List.length_map, List.length_range]
  exact Nat.le_refl _
theorem okL_asc {l : List (Int × Int)} (h : okL l) : Asc l := by obtain ⟨f, _, rfl⟩ := h; exact asc_ofF f
theorem okL_nz {l : List (Int × Int)} (h : okL l) : Nz l := by obtain ⟨f, _, rfl⟩ := h; exact nz_ofF f
theorem okL_in {l : List (Int × Int)} (h : okL l) : In l := by obtain ⟨f, _, rfl⟩ := h; exact in_ofF f
theorem okL_len {l : List (Int × Int)} (h : okL l) : l.length ≤ 4096 := by obtain ⟨f, _, rfl⟩ := h; exact ofF_len f
theorem okL_canon {l : List (Int × Int)} (h : okL l) : l = ofF (cf l) := canon (okL_asc h) (okL_nz h) (okL_in h)
theorem okL_cf {l : List (Int × Int)} (h : okL l) (v : Int) : fits (cf l v) = true := by
  obtain ⟨f, hf, rfl⟩ := h
  rw [cf_ofF]
  split
  · exact hf v
  · exact fits0
theorem okL_mem {l : List (Int × Int)} (h : okL l) {p : Int × Int} (hp : p ∈ l) : fits p.2 = true := by
  rw [← cf_mem (okL_asc h) hp]; exact okL_cf h _
theorem okL_ofF {f : Int → Int} (h : ∀ v, 0 ≤ v → v < 4096 → fits (f v) = true) : okL (ofF f) := by
  refine ⟨fun v => if 0 ≤ v ∧ v < 4096 then f v else 0, fun v => ?_, ofF_congr (fun v h1 h2 => by rw [if_pos ⟨h1, h2⟩])⟩
  by_cases hv : 0 ≤ v ∧ v < 4096
  · show fits (if 0 ≤ v ∧ v < 4096 then f v else 0) = true
    rw [if_pos hv]; exact h v hv.1 hv.2
  · show fits (if 0 ≤ v ∧ v < 4096 then f v else 0) = true
    rw [if_neg hv]; exact fits0
theorem okL_nil : okL [] := ⟨fun _ => 0, fun _ => fits0, ofF_zero.symm⟩
theorem cf_out {l : List (Int × Int)} (h : In l) {v : Int} (hv : ¬ (0 ≤ v ∧ v < 4096)) : cf l v = 0 := cf_none (fun p hp hpv => hv (hpv ▸ h p hp))
theorem okL_eq {l m : List (Int × Int)} (h : okL l) (k : okL m) (e : ∀ v, cf l v = cf m v) : l = m := cf_ext (okL_asc h) (okL_nz h) (okL_asc k) (okL_nz k) e
/-- What is of a kind on both sides. -/
theorem eq_ofF {l : List (Int × Int)} {f : Int → Int} (ha : Asc l) (hn : Nz l) (e : ∀ v, cf l v = if 0 ≤ v ∧ v < 4096 then f v else 0) : l = ofF f :=
  cf_ext ha hn (asc_ofF _) (nz_ofF _) (fun v => by rw [e, cf_ofF])
theorem cf_snoc {l : List (Int × Int)} {p : Int × Int} (h : ∀ q ∈ l, q.1 < p.1) (v : Int) : cf (l ++ [p]) v = if v = p.1 then p.2 else cf l v := by
  induction l with
  | nil =>
    rw [List.nil_append, cf_cons, cf_nil]
    by_cases hv : p.1 = v
    · rw [if_pos hv, if_pos hv.symm]
    · rw [if_neg hv, if_neg (fun hh => hv hh.symm)]
  | cons q l ih =>
    rw [List.cons_append, cf_cons, cf_cons, ih (fun r hr => h r (List.mem_cons_of_mem _ hr))]
    have := h q List.mem_cons_self
    by_cases hv : q.1 = v
    · rw [if_pos hv, if_neg (by omega), if_pos hv]
    · rw [if_neg hv, if_neg hv]
/-- One more behind, none with nought. -/
def putL (z : Int) (l : List (Int × Int)) (v : Int) : List (Int × Int) := bif z == 0 then l else l ++ [(v, z)]
theorem putL_snoc {f g : Int → Int} {v z : Int} (hv : 0 ≤ v ∧ v < 4096) (h0 : ∀ w, v ≤ w → w < 4096 → f w = 0) (hg : ∀ w, 0 ≤ w → w < 4096 → g w = if w = v then z else f w) : putL z (ofF f) v = ofF g := by
  have hlt : ∀ q ∈ ofF f, q.1 < v := fun q hq => by
    obtain ⟨h1, h2, h3⟩ := mem_ofF.1 hq
    false_or_by_contra
    rename_i hn
    exact h3 (h2.trans (h0 q.1 (by omega) h1.2))
  unfold putL
  by_cases hz : z = 0
  · rw [show (z == 0) = true from beq_iff_eq.2 hz, cond_true]
    refine ofF_congr (fun w h1 h2 => ?_)
    rw [hg w h1 h2]
    split
    · rename_i hw; rw [hz, hw]; exact h0 v (Int.le_refl _) hv.2
    · rfl
  · rw [show (z == 0) = false from beq_eq_false_iff_ne.2 hz, cond_false]
    refine eq_ofF ?_ ?_ (fun w => ?_)
    · refine List.pairwise_append.2 ⟨asc_ofF f, List.pairwise_singleton .., fun q hq p hp => ?_⟩
      rw [List.mem_singleton.1 hp]
      exact hlt q hq
    · intro q hq
      rcases List.mem_append.1 hq with hq | hq
      · exact nz_ofF f q hq
      · rw [List.mem_singleton.1 hq]; exact hz
    · rw [cf_snoc hlt, cf_ofF]
      by_cases hw : 0 ≤ w ∧ w < 4096
      · rw [if_pos hw, if_pos hw, hg w hw.1 hw.2]
      · rw [if_neg hw, if_neg hw, if_neg (by rintro rfl; exact hw hv)]
theorem putV_map (z : Int) (l : List (Int × Int)) (v : Int) : putV z (l.map (fun p => p.1)) v = (putL z l v).map (fun p => p.1) := by
  unfold putV putL
  cases z == 0 with
  | true => rfl
  | false => rw [cond_false, cond_false, List.map_append]; rfl
theorem putR_map (z : Int) (l : List (Int × Int)) (v : Int) : putR z (l.map cL) [.bool (sg z), .ints .u32 (lb 4294967296 z)] = (putL z l v).map cL := by
  unfold putR putL
  cases z == 0 with
  | true => rfl
  | false => rw [cond_false, cond_false, List.map_append]; rfl
/-- A list's first parts: their coefficients. -/
theorem take_lt {l : List (Int × Int)} (ha : Asc l) {i : Nat} (hi : i < l.length) : ∀ q ∈ l.take i, q.1 < l[i].1 := fun q hq => by
  obtain ⟨j, hj, rfl⟩ := List.mem_take_iff_getElem.1 hq
  exact List.pairwise_iff_getElem.1 ha j i (by omega) hi (by omega)
theorem cf_take_succ {l : List (Int × Int)} (ha : Asc l) {i : Nat} (hi : i < l.length) (v : Int) : cf (l.take (i + 1)) v = if v = l[i].1 then l[i].2 else cf (l.take i) v := by
  rw [List.take_add_one, List.getElem?_eq_getElem hi]
  exact cf_snoc (take_lt ha hi) v
theorem cf_take_ge {l : List (Int × Int)} (ha : Asc l) {i : Nat} (hi : i < l.length) {v : Int} (hv : l[i].1 ≤ v) : cf (l.take i) v = 0 :=
  cf_none (fun p hp hpv => by have := take_lt ha hi p hp; omega)
/-- One part more, each coefficient by a law of its own. -/
theorem map_step {l : List (Int × Int)} (ha : Asc l) (hn : In l) {g : Int → Int → Int} (g0 : ∀ v, g v 0 = 0) {i : Nat} (hi : i < l.length) :
    putL (g l[i].1 l[i].2) (ofF (fun v => g v (cf (l.take i) v))) l[i].1 = ofF (fun v => g v (cf (l.take (i + 1)) v)) := by
  refine putL_snoc (hn _ (List.getElem_mem hi)) (fun w h1 h2 => ?_) (fun w h1 h2 => ?_)
  · rw [cf_take_ge ha hi h1, g0]
  · rw [cf_take_succ ha hi]
    by_cases hw : w = l[i].1
    · rw [if_pos hw, if_pos hw, hw]
    · rw [if_neg hw, if_neg hw]
theorem map_step0 {g : Int → Int → Int} (g0 : ∀ v, g v 0 = 0) (l : List (Int × Int)) : ofF (fun v => g v (cf (l.take 0) v)) = [] := by
  rw [List.take_zero]
  exact (ofF_congr (fun v _ _ => g0 v)).trans ofF_zero
theorem lvs_nil : lvs [] = [] := lvs_eq []
theorem lrs_nil : lrs [] = [] := lrs_eq []
/-- What stands for a list. -/
theorem map_rowN_cL (l : List (Int × Int)) : (l.map cL).map (rowN 4294967296) = l.map (fun p => p.2) := by
  rw [List.map_map]
  exact List.map_congr_left (fun p _ => num_lb (by decide) p.2)
theorem dl_map (l : List (Int × Int)) : dl (l.map (fun p => p.1)) (l.map cL) = l := by
  rw [dl_eq, map_rowN_cL]
  induction l with
  | nil => rfl
  | cons p l ih => rw [List.map_cons, List.map_cons, List.zip_cons_cons, ih]
theorem dp_map (l : List (Int × ByteArray)) : dp (l.map cP) = l := by
  rw [dp_eq, List.map_map]
  exact (List.map_congr_left (fun p _ => rfl)).trans (List.map_id l)
theorem isl_iff {vs : List Int} {r : List (List AV)} : isl vs r = true ↔ ∃ l, okL l ∧ vs = l.map (fun p => p.1) ∧ r = l.map cL := by
  rw [isl_eq]; exact ⟨cdec_iff, cdec_true⟩
theorem isp_iff {r : List (List AV)} : isp r = true ↔ ∃ l : List (Int × ByteArray), (∀ p ∈ l, i64B p.1 = true ∧ p.2.size ≤ 10000) ∧ r = l.map cP := by
  rw [isp_eq]; exact ⟨cdec_iff, cdec_true⟩
theorem isq_iff {r : List (List AV)} : isq r = true ↔ ∃ l : List (Int × ByteArray), (∀ p ∈ l, i64B p.1 = true) ∧ r = l.map cP := by
  rw [isq_eq]; exact ⟨cdec_iff, cdec_true⟩
theorem isg_iff {r : List (List AV)} : isg r = true ↔ ∃ l : List (Int × ByteArray), (∀ p ∈ l, i64B p.1 = true ∧ p.1 < 4096 ∧ p.2.size ≤ 10000) ∧ l.length ≤ 100000 ∧ r = l.map cP := by
  rw [isg_eq]; exact ⟨cdec_iff, cdec_true⟩
theorem dl_lvs (l : List (Int × Int)) : dl (lvs l) (lrs l) = l := by rw [lvs_eq, lrs_eq, dl_map]
theorem dp_prs (l : List (Int × ByteArray)) : dp (prs l) = l := by rw [prs_eq, dp_map]
theorem isl_lvs {l : List (Int × Int)} (h : okL l) : isl (lvs l) (lrs l) = true := isl_iff.2 ⟨l, h, lvs_eq l, lrs_eq l⟩
theorem lvs_len (l : List (Int × Int)) : (lvs l).length = l.length := by rw [lvs_eq, List.length_map]
theorem cnW_fits {z : Int} (h : fits z = true) : cn 4294967296 (sg z) (lb 4294967296 z) = true := by
  rw [cn_lb (by decide), decide_eq_true (small_of_fits h)]
/-- A term's four parts, as they are handed on. -/
theorem isT_iff {vs : List Int} {r : List (List AV)} {b : Bool} {m : List Int} : isT vs r b m = true ↔ ∃ l c, okL l ∧ fits c = true ∧ vs = l.map (fun p => p.1) ∧ r = l.map cL ∧ b = sg c ∧ m = lb 4294967296 c := by
  unfold isT
  rw [Bool.and_eq_true, Bool.and_eq_true, isl_iff, cn_iff (by decide)]
  constructor
  · rintro ⟨⟨l, h1, h2, h3⟩, ⟨z, h4, h5, _⟩, h6⟩
    rw [h4, h5, num_lb (by decide)] at h6
    exact ⟨l, z, h1, h6, h2, h3, h4, h5⟩
  · rintro ⟨l, c, h1, h2, h3, h4, h5, h6⟩
    refine ⟨⟨l, h1, h3, h4⟩, ⟨c, h5, h6, small_of_fits h2⟩, ?_⟩
    rw [h5, h6, num_lb (by decide)]; exact h2
theorem isT_of {l : List (Int × Int)} {c : Int} (h : okL l) (k : fits c = true) : isT (lvs l) (lrs l) (sg c) (lb 4294967296 c) = true := isT_iff.2 ⟨l, c, h, k, lvs_eq l, lrs_eq l, rfl, rfl⟩
theorem isT_of0 {l : List (Int × Int)} (h : okL l) : isT (lvs l) (lrs l) false [] = true := isT_iff.2 ⟨l, 0, h, fits0, lvs_eq l, lrs_eq l, sg_zero.symm, (lb_zero _).symm⟩
theorem fits_neg {z : Int} (h : fits z = true) : fits (-z) = true := by
  unfold fits at h ⊢
  rw [Int.natAbs_neg]; exact h
/-- The kinds of the results. -/
theorem okL_neg {l : List (Int × Int)} (h : okL l) : okL (negL l) := by
  rw [negL_eq]; exact okL_ofF (fun v _ _ => fits_neg (okL_cf h v))
theorem addE_cases (l m : List (Int × Int)) (c d : Int) : (addE l m c d = 0 ∧ addL l m c d = ofF (fun v => cf l v + cf m v) ∧ addC l m c d = c + d ∧ fits (c + d) = true ∧ ∀ v, fits (cf l v + cf m v) = true) ∨ (addE l m c d = 11 ∧ addL l m c d = [] ∧ addC l m c d = 0 ∧ ¬ (fits (c + d) = true ∧ ∀ v, fits (cf l v + cf m v) = true)) := by
  have h1 := addE_eq l m c d
  have h2 := addL_eq l m c d
  have h3 := addC_eq l m c d
  cases hb : (fits (c + d) && cdec (∀ v, fits (cf l v + cf m v) = true)) with
  | true =>
    rw [hb] at h1
    have h1 : addE l m c d = 0 := h1
    rw [h1] at h2 h3
    rw [Bool.and_eq_true] at hb
    exact .inl ⟨h1, h2, h3, hb.1, cdec_iff hb.2⟩
  | false =>
    rw [hb] at h1
    have h1 : addE l m c d = 11 := h1
    rw [h1] at h2 h3
    refine .inr ⟨h1, h2, h3, fun ⟨k1, k2⟩ => ?_⟩
    rw [k1, cdec_true k2] at hb
    cases hb
theorem okL_add (l m : List (Int × Int)) (c d : Int) : okL (addL l m c d) := by
  rcases addE_cases l m c d with ⟨_, h, _, _, k⟩ | ⟨_, h, _⟩
  · rw [h]; exact okL_ofF (fun v _ _ => k v)
  · rw [h]; exact okL_nil
theorem fits_addC (l m : List (Int × Int)) (c d : Int) : fits (addC l m c d) = true := by
  rcases addE_cases l m c d with ⟨_, _, h, k, _⟩ | ⟨_, _, h, _⟩
  · rw [h]; exact k
  · rw [h]; exact fits0
theorem scE_cases (l : List (Int × Int)) (c k : Int) : (scE l c k = 0 ∧ scL l c k = ofF (fun v => cf l v * k) ∧ scC l c k = c * k ∧ fits (c * k) = true ∧ ∀ v, fits (cf l v * k) = true) ∨ (scE l c k = 11 ∧ scL l c k = [] ∧ scC l c k = 0 ∧ ¬ (fits (c * k) = true ∧ ∀ v, fits (cf l v * k) = true)) := by
  have h1 := scE_eq l c k
  have h2 := scL_eq l c k
  have h3 := scC_eq l c k
  cases hb : (fits (c * k) && cdec (∀ v, fits (cf l v * k) = true)) with
  | true =>
    rw [hb] at h1
    have h1 : scE l c k = 0 := h1
    rw [h1] at h2 h3
    rw [Bool.and_eq_true] at hb
    exact .inl ⟨h1, h2, h3, hb.1, cdec_iff hb.2⟩
  | false =>
    rw [hb] at h1
    have h1 : scE l c k = 11 := h1
    rw [h1] at h2 h3
    refine .inr ⟨h1, h2, h3, fun ⟨k1, k2⟩ => ?_⟩
    rw [k1, cdec_true k2] at hb
    cases hb
theorem okL_sc (l : List (Int × Int)) (c k : Int) : okL (scL l c k) := by
  rcases scE_cases l c k with ⟨_, h, _, _, e⟩ | ⟨_, h, _⟩
  · rw [h]; exact okL_ofF (fun v _ _ => e v)
  · rw [h]; exact okL_nil
theorem fits_scC (l : List (Int × Int)) (c k : Int) : fits (scC l c k) = true := by
  rcases scE_cases l c k with ⟨_, _, h, e, _⟩ | ⟨_, _, h, _⟩
  · rw [h]; exact e
  · rw [h]; exact fits0
theorem okL_rem {l : List (Int × Int)} (h : okL l) (v : Int) : okL (remL l v) := by
  rw [remL_eq]
  refine okL_ofF (fun w _ _ => ?_)
  cases decide (w = v) with
  | true => exact fits0
  | false => exact okL_cf h w
theorem vok_iff {v : Int} : vok v = true ↔ 0 ≤ v ∧ v < 4096 := by
  unfold vok; rw [Bool.and_eq_true, decide_eq_true_eq, decide_eq_true_eq]
theorem cf_lone (v c w : Int) : cf (lone v c) w = if (0 ≤ v ∧ v < 4096) ∧ w = v then c else 0 := by
  rw [lone_eq, cf_ofF]
  by_cases hw : w = v
  · subst hw
    rw [decide_eq_true rfl]
    by_cases h : 0 ≤ w ∧ w < 4096
    · rw [if_pos h, if_pos ⟨h, rfl⟩]; rfl
    · rw [if_neg h, if_neg (fun hh => h hh.1)]
  · rw [decide_eq_false hw, cond_false, ite_self, if_neg (fun hh : (0 ≤ v ∧ v < 4096) ∧ w = v => hw hh.2)]
theorem okL_lone (v : Int) {c : Int} (h : fits c = true) : okL (lone v c) := by
  rw [lone_eq]
  refine okL_ofF (fun w _ _ => ?_)
  cases decide (w = v) with
  | true => exact h
  | false => exact fits0
theorem lone_put {v : Int} (hv : 0 ≤ v ∧ v < 4096) (c : Int) : lone v c = putL c [] v := by
  rw [lone_eq]
  have h := putL_snoc (f := fun _ => 0) (g := fun w => bif decide (w = v) then c else 0) (z := c) hv (fun _ _ _ => rfl) (fun w _ _ => by
    by_cases hw : w = v
    · rw [decide_eq_true hw, if_pos hw]; rfl
    · rw [decide_eq_false hw, if_neg hw]; rfl)
  rw [ofF_zero] at h
  exact h.symm
theorem lone_one {v : Int} (hv : 0 ≤ v ∧ v < 4096) : lone v 1 = [(v, 1)] := lone_put hv 1
theorem okL_pt {l m : List (Int × Int)} {c d : Int} (h : okL l) (v : Int) : okL (ptL l c v m d) := by
  rw [ptL_eq]
  cases cf l v == 0 with
  | true => exact h
  | false =>
    cases scE m d (cf l v) == 0 with
    | true => exact okL_add _ _ _ _
    | false => exact okL_nil
end Go.Abs
end
section
/- Parts put behind the others: in linear and in its reference. -/
namespace Go.Abs
open Go.Proofs Go.Dig
theorem cmpZ_zero (z : Int) : (cmpZ z 0 != 0) = !(z == 0) := by
  rw [Bool.eq_iff_iff, bne_iff_ne, Bool.not_eq_true', beq_eq_false_iff_ne]
  unfold cmpZ; (repeat' split) <;> omega
theorem cmpZ_zero' (z : Int) : (cmpZ z 0 == 0) = (z == 0) := by
  rw [Bool.eq_iff_iff, beq_iff_eq, beq_iff_eq]
  unfold cmpZ; (repeat' split) <;> omega
theorem room8 {l : List Int} {v : Int} (h : l.length ≤ 100000) : (true && decide ((l ++ [v]).length * 8 ≤ 140737488355328)) = true := by
  rw [Bool.true_and, decide_eq_true_eq, List.length_append]; simp only [List.length_cons, List.length_nil]; omega
theorem room32 {l : List (List AV)} {v : List AV} (h : l.length ≤ 100000) : (true && decide ((l ++ [v]).length * 32 ≤ 140737488355328)) = true := by
  rw [Bool.true_and, decide_eq_true_eq, List.length_append]; simp only [List.length_cons, List.length_nil]; omega
theorem meets_lput : Meets Try.prog 68 ansLPut := by
  refine meets_runU T_ok (orc_ok (l := LPut.ans) ⟨meets_sign, trivial⟩) mixed (fn := Try.f68) Try.func68 (by kernel_rfl) (fun args r h => ?_)
  unfold ansLPut at h
  split at h
  · simp at h
  · rename_i vs rr b m v s l
    simp only [Option.some.injEq, Prod.mk.injEq, Bool.and_eq_true, decide_eq_true_eq] at h
    obtain ⟨⟨⟨h1, h2⟩, h3⟩, rfl⟩ := h
    refine ⟨_, _, rfl, runU_tab (noTab_all _) ((LPut.rest vs rr b m v s l).trans ((bT h1).trans ?_))⟩
    rw [cmpZ_zero]
    unfold putV putR
    cases hb : num 4294967296 s l == 0 with
    | true => rfl
    | false => exact (bT rfl).trans ((bT (room8 h2)).trans (bT (room32 h3)))
  · rename_i vs rr b m b2 m2 v s l
    simp only [Option.some.injEq, Prod.mk.injEq, Bool.and_eq_true, decide_eq_true_eq] at h
    obtain ⟨⟨⟨h1, h2⟩, h3⟩, rfl⟩ := h
    refine ⟨_, _, rfl, runU_tab (noTab_all _) ((LPut6.rest vs rr b m b2 m2 v s l).trans ((bT h1).trans ?_))⟩
    rw [cmpZ_zero]
    unfold putV putR
    cases hb : num 4294967296 s l == 0 with
    | true => rfl
    | false => exact (bT rfl).trans ((bT (room8 h2)).trans (bT (room32 h3)))
  · cases h
theorem getL {l : List (Int × Int)} {i : Nat} (h : i < l.length) : (l.map cL).getD ((i : Int).toNat) [] = cL l[i] := by
  rw [Int.toNat_natCast, getD_at (by rw [List.length_map]; exact h), List.getElem_map]
theorem getP {l : List (Int × ByteArray)} {i : Nat} (h : i < l.length) : (l.map cP).getD ((i : Int).toNat) [] = cP l[i] := by
  rw [Int.toNat_natCast, getD_at (by rw [List.length_map]; exact h), List.getElem_map]
theorem rdV {l : List (Int × Int)} {i : Nat} (h : i < l.length) : rd (l.map (fun p => p.1)) (i : Int) = l[i].1 := by
  rw [rd_nat, getD_at (by rw [List.length_map]; exact h), List.getElem_map]
theorem cL0 (p : Int × Int) : gBool ((cL p).getD 0 .top) = sg p.2 := rfl
theorem cL1 (p : Int × Int) : gInts ((cL p).getD 1 .top) = lb 4294967296 p.2 := rfl
theorem cLeta (p : Int × Int) : etasOk [.bool false, .ints .u32 []] (cL p) = true := rfl
theorem inN {i n : Nat} (h : i < n) : inB (i : Int) n = true := by rw [inB_nat]; exact decide_eq_true h
theorem ltN {i n : Nat} (h : i < n) : decide ((i : Int) < (n : Int)) = true := decide_eq_true (Int.ofNat_lt.2 h)
theorem ltN' {i n : Nat} (h : ¬ i < n) : decide ((i : Int) < (n : Int)) = false := decide_eq_false (fun hh => h (Int.ofNat_lt.1 hh))
theorem he_big {z : Int} (h : fits z = false) : he z = 11 := by unfold he; rw [h]; rfl
theorem hz_fit {z : Int} (h : fits z = true) : hz z = z := by unfold hz; rw [h]; rfl
theorem he_fit {z : Int} (h : fits z = true) : he z = 0 := by unfold he; rw [h]; rfl
end Go.Abs
end
section
/- What the small functions of linear answer. -/
namespace Go.Abs
open Go.Proofs Go.Dig
theorem meets_nnum : Meets Try.prog 73 ansLNum := by
  refine meets_fn (orc_ok (l := NNum.ans) trivial) Try.f73 Try.func73 (by kernel_rfl) (fun args r h => ?_)
  unfold ansLNum at h
  split at h
  · rename_i s l
    simp only [Option.some.injEq, Prod.mk.injEq] at h
    obtain ⟨_, rfl⟩ := h
    exact ⟨rfl, _, noTab_all, NNum.rest s l⟩
  · cases h
theorem meets_nvar : Meets Try.prog 35 ansLVar := by
  refine meets_fn (orc_ok (l := NVar.ans) ⟨meets_from, trivial⟩) Try.f35 Try.func35 (by kernel_rfl) (fun args r h => ?_)
  unfold ansLVar at h
  split at h
  · rename_i v
    simp only [Option.some.injEq, Prod.mk.injEq] at h
    obtain ⟨_, rfl⟩ := h
    refine ⟨rfl, _, noTab_all, (NVar.rest v).trans ?_⟩
    unfold vE
    by_cases h1 : v < 0
    · have hv : vok v = false := by rw [Bool.eq_false_iff, ne_eq, vok_iff]; omega
      rw [hv, cond_false, cond_false, lvs_nil, lrs_nil]
      exact bT (decide_eq_true h1)
    by_cases h2 : v ≥ 4096
    · have hv : vok v = false := by rw [Bool.eq_false_iff, ne_eq, vok_iff]; omega
      rw [hv, cond_false, cond_false, lvs_nil, lrs_nil]
      exact (bF (decide_eq_false h1)).trans (bT (decide_eq_true h2))
    · have hv : vok v = true := vok_iff.2 (by omega)
      rw [hv, cond_true, cond_true, lone_one (by omega), lvs_eq, lrs_eq]
      exact (bF (decide_eq_false h1)).trans (bF (decide_eq_false h2))
  · cases h
theorem meets_nrest : Meets Try.prog 37 ansLRest := by
  refine meets_fn (orc_ok (l := NRest.ans) trivial) Try.f37 Try.func37 (by kernel_rfl) (fun args r h => ?_)
  unfold ansLRest at h
  split at h
  · rename_i vs r b m
    simp only [Option.some.injEq, Prod.mk.injEq] at h
    obtain ⟨_, rfl⟩ := h
    exact ⟨rfl, _, noTab_all, NRest.rest vs r b m⟩
  · cases h
namespace NCoef
theorem loop (l : List (Int × Int)) (b : Bool) (m : List Int) (v : Int) (hl : okL l) : ∃ e S1, Ends T orc L0 D0 (st0 (l.map (fun p => p.1)) (l.map cL) b m v 0 l.length) e S1 ∧ e = .exit 0 ∧ ∃ n : Nat, S1 = st0 (l.map (fun p => p.1)) (l.map cL) b m v n n ∧ n ≤ l.length ∧ (∀ i (h : i < l.length), i < n → l[i].1 < v) ∧ ∀ i (h : i < l.length), n ≤ i → v ≤ l[i].1 := by
  refine loop_inv2 (fun (x y : Nat) => st0 (l.map (fun p => p.1)) (l.map cL) b m v x y) (fun x y => x ≤ y ∧ y ≤ l.length ∧ (∀ i (h : i < l.length), i < x → l[i].1 < v) ∧ ∀ i (h : i < l.length), y ≤ i → v ≤ l[i].1) (fun x y => y - x)
    (fun e S1 => e = .exit 0 ∧ ∃ n : Nat, S1 = st0 (l.map (fun p => p.1)) (l.map cL) b m v n n ∧ n ≤ l.length ∧ (∀ i (h : i < l.length), i < n → l[i].1 < v) ∧ ∀ i (h : i < l.length), n ≤ i → v ≤ l[i].1) isL0 ?_ 0 l.length ?_
  · intro x y ⟨h1, h2, h3, h4⟩
    have hlen := okL_len hl
    have hasc := okL_asc hl
    refine ⟨noTab, noTab_all, lands_of (round0 ..) ?_⟩
    by_cases hxy : x < y
    · have e1 : IntKind.i64.wrap ((IntKind.i64.wrap ((x : Int) + (y : Int))).tdiv 2) = (((x + y) / 2 : Nat) : Int) := by
        rw [w64 (n := (x : Int) + y) (by omega) (by omega), Int.tdiv_eq_ediv_of_nonneg (by omega), w64 (by omega) (by omega)]
        omega
      have hm : (x + y) / 2 < l.length := by omega
      rw [e1, List.length_map, ltN hxy, inN hm, rdV hm]
      by_cases hlt : l[(x + y) / 2].1 < v
      · rw [decide_eq_true hlt]
        simp only [cond_true, wi_succ (show (x + y) / 2 < 4611686018427387904 by omega), lands_some, Turns2]
        refine ⟨(x + y) / 2 + 1, y, rfl, ⟨by omega, h2, fun i hi hlt2 => ?_, h4⟩, by omega⟩
        by_cases he : i = (x + y) / 2
        · subst he; exact hlt
        · have := List.pairwise_iff_getElem.1 hasc i ((x + y) / 2) hi hm (by omega)
          omega
      · rw [decide_eq_false hlt]
        simp only [cond_true, cond_false, lands_some, Turns2]
        refine ⟨x, (x + y) / 2, rfl, ⟨by omega, by omega, h3, fun i hi hle => ?_⟩, by omega⟩
        by_cases he : i = (x + y) / 2
        · subst he; omega
        · have := List.pairwise_iff_getElem.1 hasc ((x + y) / 2) i hm hi (by omega)
          omega
    · have hxy' : x = y := by omega
      subst hxy'
      rw [ltN' hxy]
      simp only [cond_false, lands_some, Turns2]
      exact ⟨trivial, x, rfl, h2, h3, h4⟩
  · exact ⟨Nat.zero_le _, Nat.le_refl _, fun i h h2 => absurd h2 (Nat.not_lt_zero i), fun i h h2 => absurd h (by omega)⟩
end NCoef
theorem meets_ncoef : Meets Try.prog 38 ansLCoef := by
  refine meets_fn (orc_ok (l := NCoef.ans) trivial) Try.f38 Try.func38 (by kernel_rfl) (fun args r h => ?_)
  unfold ansLCoef at h
  split at h
  · rename_i vs r b m v
    simp only [Option.some.injEq, Prod.mk.injEq] at h
    obtain ⟨h1, rfl⟩ := h
    obtain ⟨l, h2, rfl, rfl⟩ := isl_iff.1 h1
    obtain ⟨e1, S1, hE1, rfl, n, rfl, h3, h4, h5⟩ := NCoef.loop l b m v h2
    refine ⟨rfl, _, tabOf_all _, (NCoef.rest _ _ b m v (n : Int) (n : Int)).trans ?_⟩
    rw [List.length_map, List.length_map, dl_map]
    refine (bT (cdec_true hE1)).trans ?_
    clear hE1
    by_cases hn : n < l.length
    · rw [ltN hn, inN hn, rdV hn, getL hn]
      simp only [cond_true, cLeta, cL0, cL1]
      by_cases hv : l[n].1 = v
      · have hc : cf l v = l[n].2 := by rw [← hv]; exact cf_mem (okL_asc h2) (List.getElem_mem hn)
        rw [hc]
        exact bT (beq_iff_eq.2 hv)
      · have h0 : cf l v = 0 := cf_none (fun p hp hpv => by
          obtain ⟨i, hi, rfl⟩ := List.mem_iff_getElem.1 hp
          by_cases hin : i < n
          · have := h4 i hi hin; omega
          · have h6 := h5 n hn (Nat.le_refl _)
            by_cases he : i = n
            · subst he; exact hv hpv
            · have := List.pairwise_iff_getElem.1 (okL_asc h2) n i hn hi (by omega)
              omega)
        rw [h0]
        exact bF (beq_eq_false_iff_ne.2 hv)
    · have h0 : cf l v = 0 := cf_none (fun p hp hpv => by
        obtain ⟨i, hi, rfl⟩ := List.mem_iff_getElem.1 hp
        have := h4 i hi (by omega)
        omega)
      rw [h0]
      exact bF (ltN' hn)
  · cases h
theorem meets_nisnum : Meets Try.prog 27 ansLIsNum := by
  refine meets_fn (orc_ok (l := NIsNum.ans) trivial) Try.f27 Try.func27 (by kernel_rfl) (fun args r h => ?_)
  unfold ansLIsNum at h
  split at h
  · rename_i vs r b m
    simp only [Option.some.injEq, Prod.mk.injEq] at h
    obtain ⟨_, rfl⟩ := h
    exact ⟨rfl, _, noTab_all, NIsNum.rest vs r b m⟩
  · cases h
namespace NNeg
theorem loop (l : List (Int × Int)) (b : Bool) (m : List Int) (hl : okL l) : ∃ e S1, Ends T orc L0 D0 (st0 (l.map (fun p => p.1)) (l.map cL) b m 0 [] []) e S1 ∧ e = .exit 0 ∧ ∃ x, S1 = st0 (l.map (fun p => p.1)) (l.map cL) b m x ((negL l).map (fun p => p.1)) ((negL l).map cL) := by
  have hz := map_step0 (g := fun _ z => -z) (fun _ => rfl) l
  have key : ∃ e S1, Ends T orc L0 D0 (st0 (l.map (fun p => p.1)) (l.map cL) b m ((0 : Nat) : Int) ((ofF (fun v => - cf (l.take 0) v)).map (fun p => p.1)) ((ofF (fun v => - cf (l.take 0) v)).map cL)) e S1 ∧ e = .exit 0 ∧ ∃ x, S1 = st0 (l.map (fun p => p.1)) (l.map cL) b m x ((negL l).map (fun p => p.1)) ((negL l).map cL) := by
    refine loop_inv1 (fun (i : Nat) => st0 (l.map (fun p => p.1)) (l.map cL) b m i ((ofF (fun v => - cf (l.take i) v)).map (fun p => p.1)) ((ofF (fun v => - cf (l.take i) v)).map cL)) (fun i => i ≤ l.length) (fun i => l.length - i)
      (fun e S1 => e = .exit 0 ∧ ∃ x, S1 = st0 (l.map (fun p => p.1)) (l.map cL) b m x ((negL l).map (fun p => p.1)) ((negL l).map cL)) isL0 ?_ 0 (Nat.zero_le _)
    intro i h1
    have hlen := okL_len hl
    refine ⟨noTab, noTab_all, lands_of (round0 ..) ?_⟩
    by_cases hi : i < l.length
    · have hf := okL_mem hl (List.getElem_mem hi)
      have hs := map_step (okL_asc hl) (okL_in hl) (g := fun _ z => -z) (fun _ => rfl) hi
      have ho := ofF_len (fun v => - cf (l.take i) v)
      rw [List.length_map, List.length_map, ltN hi, inN hi, getL hi, rdV hi]
      simp only [cL0, cL1, cLeta, cnW_fits hf, num_lbW, cnW_fits (fits_neg hf), N_eq, cond_true, Bool.true_and, Bool.and_true, List.length_map]
      rw [decide_eq_true (show (ofF (fun v => - cf (l.take i) v)).length ≤ 100000 by omega), putV_map, putR_map, hs]
      simp only [cond_true, Bool.and_self, wi_succ (show i < 4611686018427387904 by omega), lands_some, Turns1]
      exact ⟨i + 1, rfl, by omega, by omega⟩
    · rw [List.length_map, ltN' hi]
      simp only [cond_false, lands_some, Turns1]
      have hil : l.take i = l := List.take_of_length_le (by omega)
      rw [hil, negL_eq]
      exact ⟨trivial, i, rfl⟩
  rw [hz] at key
  exact key
end NNeg
theorem meets_nneg : Meets Try.prog 51 ansLNeg := by
  refine meets_fn (orc_ok (l := NNeg.ans) ⟨meets_neg, meets_lput, trivial⟩) Try.f51 Try.func51 (by kernel_rfl) (fun args r h => ?_)
  unfold ansLNeg at h
  split at h
  · rename_i vs r b m
    simp only [Option.some.injEq, Prod.mk.injEq] at h
    obtain ⟨h1, rfl⟩ := h
    obtain ⟨l, c, h2, h3, rfl, rfl, rfl, rfl⟩ := isT_iff.1 h1
    obtain ⟨e1, S1, hE1, rfl, x, rfl⟩ := NNeg.loop l (sg c) (lb 4294967296 c) h2
    refine ⟨rfl, _, tabOf_all _, (NNeg.rest _ _ _ _ ((negL l).map (fun p => p.1)) ((negL l).map cL) x).trans ((bT (cnW_fits h3)).trans ((bT (cdec_true hE1)).trans ?_))⟩
    rw [dl_map, lvs_eq, lrs_eq]
  · cases h
theorem bytes_beq (x y : ByteArray) : (x.toList == y.toList) = decide (x = y) := by
  rw [Bool.eq_iff_iff, beq_iff_eq, decide_eq_true_eq]
  constructor
  · intro h
    rw [ByteArray.toList_eq, ByteArray.toList_eq] at h
    obtain ⟨⟨a⟩⟩ := x
    obtain ⟨⟨b⟩⟩ := y
    have h : a = b := h
    rw [h]
  · rintro rfl; rfl
theorem meets_nsame (ht : Meets Try.prog 41 ansLText) : Meets Try.prog 24 ansLSame := by
  refine meets_fn (orc_ok (l := NSame.ans) ⟨ht, trivial⟩) Try.f24 Try.func24 (by kernel_rfl) (fun args r h => ?_)
  unfold ansLSame at h
  split at h
  · rename_i vs r b m vsz rz bz mz
    simp only [Option.some.injEq, Prod.mk.injEq, Bool.and_eq_true] at h
    obtain ⟨⟨h1, h2⟩, rfl⟩ := h
    refine ⟨rfl, _, noTab_all, (NSame.rest vs r b m vsz rz bz mz).trans ((bT h1).trans ((bT h2).trans ?_))⟩
    rw [bytes_beq, sameT_eq]
  · cases h
theorem meets_nsub (ha : Meets Try.prog 46 ansLAdd) : Meets Try.prog 47 ansLSub := by
  refine meets_fn (orc_ok (l := NSub.ans) ⟨meets_nneg, ha, trivial⟩) Try.f47 Try.func47 (by kernel_rfl) (fun args r h => ?_)
  unfold ansLSub at h
  split at h
  · rename_i vs r b m vsz rz bz mz
    simp only [Option.some.injEq, Prod.mk.injEq, Bool.and_eq_true] at h
    obtain ⟨⟨h1, h2⟩, rfl⟩ := h
    refine ⟨rfl, _, noTab_all, (NSub.rest vs r b m vsz rz bz mz).trans ((bT h2).trans ?_)⟩
    obtain ⟨l, c, k1, k2, rfl, rfl, rfl, rfl⟩ := isT_iff.1 h2
    rw [dl_map, dl_lvs, h1, isT_of (okL_neg k1) (by rw [num_lbW]; exact fits_neg k2), N_eq]
    rfl
  · cases h
end Go.Abs
end
section
/- What linear's functions answer: values, common divisors, a row turned about, a term in a variable's place. -/
namespace Go.Abs
open Go.Proofs Go.Dig
theorem ne0_of_big {z : Int} (h : fits z = false) : (he z != 0) = true := by rw [he_big h]; rfl
theorem eq0_of_fit {z : Int} (h : fits z = true) : (he z != 0) = false := by rw [he_fit h]; rfl
theorem gcdF_nonneg (l : List (Int × Int)) : ∀ g : Int, 0 ≤ g → 0 ≤ l.foldl (fun g p => gz g p.2) g := by
  induction l with
  | nil => exact fun g h => h
  | cons p l ih => exact fun g h => ih _ (Int.natCast_nonneg (Int.gcd g p.2))
theorem gcdF_fits (l : List (Int × Int)) : ∀ g : Int, fits g = true → (∀ p ∈ l, fits p.2 = true) → fits (l.foldl (fun g p => gz g p.2) g) = true := by
  induction l with
  | nil => exact fun g h _ => h
  | cons p l ih => exact fun g h hl => ih _ (fits_gz h (hl p List.mem_cons_self)) (fun q hq => hl q (List.mem_cons_of_mem _ hq))
theorem gcdL_nonneg (l : List (Int × Int)) : 0 ≤ gcdL l := by rw [gcdL_eq]; exact gcdF_nonneg l 0 (Int.le_refl _)
theorem gcdL_fits {l : List (Int × Int)} (h : okL l) : fits (gcdL l) = true := by rw [gcdL_eq]; exact gcdF_fits l 0 fits0 (fun p hp => okL_mem h hp)
theorem sg_nonneg {z : Int} (h : 0 ≤ z) : sg z = false := decide_eq_false (by omega)
theorem gcdF_succ {l : List (Int × Int)} {i : Nat} (hi : i < l.length) (g : Int) : (l.take (i + 1)).foldl (fun g p => gz g p.2) g = gz ((l.take i).foldl (fun g p => gz g p.2) g) l[i].2 := by
  rw [List.take_add_one, List.getElem?_eq_getElem hi, List.foldl_append]; rfl
theorem mem_take {α : Type} {l : List α} {i : Nat} {p : α} (h : p ∈ l.take i) : p ∈ l := List.mem_of_mem_take h
namespace NCommon
theorem loop (vs : List Int) (l : List (Int × Int)) (b : Bool) (m : List Int) (hl : okL l) (b0 : Bool) : ∃ e S1, Ends T orc L0 D0 (st0 vs (l.map cL) b m 0 b0 []) e S1 ∧ e = .exit 0 ∧ ∃ x b1, S1 = st0 vs (l.map cL) b m x b1 (lb 4294967296 (gcdL l)) := by
  have key : ∃ e S1, Ends T orc L0 D0 (st0 vs (l.map cL) b m ((0 : Nat) : Int) b0 (lb 4294967296 ((l.take 0).foldl (fun g p => gz g p.2) 0))) e S1 ∧ e = .exit 0 ∧ ∃ x b1, S1 = st0 vs (l.map cL) b m x b1 (lb 4294967296 (gcdL l)) := by
    refine loop_inv2 (fun (i : Nat) (b1 : Bool) => st0 vs (l.map cL) b m i b1 (lb 4294967296 ((l.take i).foldl (fun g p => gz g p.2) 0))) (fun i _ => i ≤ l.length) (fun i _ => l.length - i)
      (fun e S1 => e = .exit 0 ∧ ∃ x b1, S1 = st0 vs (l.map cL) b m x b1 (lb 4294967296 (gcdL l))) isL0 ?_ 0 b0 (Nat.zero_le _)
    intro i b1 h1
    have hlen := okL_len hl
    refine ⟨noTab, noTab_all, lands_of (round0 ..) ?_⟩
    by_cases hi : i < l.length
    · have hf := okL_mem hl (List.getElem_mem hi)
      have hg := gcdF_fits (l.take i) 0 fits0 (fun p hp => okL_mem hl (mem_take hp))
      have hn := gcdF_nonneg (l.take i) 0 (Int.le_refl _)
      have hc := cnW_fits hg
      have hnum := num_lbW ((l.take i).foldl (fun g p => gz g p.2) 0)
      rw [sg_nonneg hn] at hc hnum
      rw [List.length_map, ltN hi, inN hi, getL hi]
      simp only [cL0, cL1, cLeta, cnW_fits hf, num_lbW, hc, hnum, cond_true, Bool.and_self]
      rw [← gcdF_succ hi]
      simp only [wi_succ (show i < 4611686018427387904 by omega), lands_some, Turns2]
      exact ⟨i + 1, false, rfl, by omega, by omega⟩
    · rw [List.length_map, ltN' hi]
      simp only [cond_false, lands_some, Turns2]
      have hil : l.take i = l := List.take_of_length_le (by omega)
      rw [hil, gcdL_eq]
      exact ⟨trivial, i, b1, rfl⟩
  exact key
end NCommon
theorem meets_ncommon : Meets Try.prog 25 ansLCommon := by
  refine meets_fn (orc_ok (l := NCommon.ans) ⟨meets_gcd, trivial⟩) Try.f25 Try.func25 (by kernel_rfl) (fun args r h => ?_)
  unfold ansLCommon at h
  split at h
  · rename_i vs r b m
    simp only [Option.some.injEq, Prod.mk.injEq] at h
    obtain ⟨h1, rfl⟩ := h
    obtain ⟨l, k1, rfl, rfl⟩ := isl_iff.1 h1
    obtain ⟨e1, S1, hE1, rfl, x, b1, rfl⟩ := NCommon.loop (l.map (fun p => p.1)) l b m k1 true
    refine ⟨rfl, _, tabOf_all _, (NCommon.rest _ _ _ _ (lb 4294967296 (gcdL l)) x b1).trans ((bT (cdec_true hE1)).trans ?_)⟩
    rw [dl_map]
    show _ = some (Res.val (.agg [.bool (sg (gcdL l)), .ints .u32 (lb 4294967296 (gcdL l))]))
    rw [sg_nonneg (gcdL_nonneg l)]
  · cases h
theorem isT_row {vs : List Int} {r : List (List AV)} (h : isl vs r = true) : isT vs r false [] = true := by
  obtain ⟨l, k1, rfl, rfl⟩ := isl_iff.1 h
  exact isT_iff.2 ⟨l, 0, k1, fits0, rfl, rfl, sg_zero.symm, (lb_zero _).symm⟩
theorem num_zero : num 4294967296 false [] = 0 := rfl
theorem cmp_le (x y : Int) : decide (cmpZ x y ≤ 0) = decide (x ≤ y) := by
  rw [decide_eq_decide]; unfold cmpZ; split
  · omega
  · split <;> omega
theorem isEmpty_nil {m : List Int} (h : m.isEmpty = true) : m = [] := List.isEmpty_iff.1 h
theorem meets_nnot : Meets Try.prog 20 ansLNot := by
  refine meets_fn (orc_ok (l := NNot.ans) ⟨meets_add, meets_from, meets_nneg, meets_neg, trivial⟩) Try.f20 Try.func20 (by kernel_rfl) (fun args r h => ?_)
  unfold ansLNot at h
  split at h
  · rename_i vs r b m s l
    simp only [Option.some.injEq, Prod.mk.injEq, Bool.and_eq_true, Bool.not_eq_true'] at h
    obtain ⟨⟨⟨⟨⟨h1, rfl⟩, h3⟩, h4⟩, h5⟩, rfl⟩ := h
    obtain rfl := isEmpty_nil h3
    obtain ⟨c, rfl, rfl, _⟩ := (cn_iff W_two).1 h4
    rw [num_lbW] at h5
    have h1n : num 4294967296 false (lb 4294967296 1) = 1 := num_lbW 1
    refine ⟨rfl, _, noTab_all, (NNot.rest _ _ _ _ _ _).trans ?_⟩
    rw [h4, num_lbW, h1n, h5, isT_row h1, num_zero, noL_eq, noM_eq, N_eq]
    cases hb : fits (c + 1) with
    | false =>
      rw [he_big hb, show ((11 : Int) == 0) = false from rfl, cond_false, cond_false, lvs_nil, lrs_nil]
      rfl
    | true =>
      rw [he_fit hb, show ((0 : Int) == 0) = true from rfl, cond_true, cond_true, hz_fit hb, cnW_fits hb]
      rfl
  · cases h
namespace NPutV
theorem loop (l : List (Int × Int)) (b : Bool) (m : List Int) (v : Int) (vsz : List Int) (rz : List (List AV)) (bz : Bool) (mz : List Int) (hl : okL l) : ∃ e S1, Ends T orc L0 D0 (st0 (l.map (fun p => p.1)) (l.map cL) b m v vsz rz bz mz 0 [] []) e S1 ∧ e = .exit 0 ∧ ∃ x, S1 = st0 (l.map (fun p => p.1)) (l.map cL) b m v vsz rz bz mz x ((remL l v).map (fun p => p.1)) ((remL l v).map cL) := by
  have g0 : ∀ w : Int, (fun (w z : Int) => bif decide (w = v) then (0 : Int) else z) w 0 = 0 := fun w => by
    show (bif decide (w = v) then (0 : Int) else 0) = 0
    cases decide (w = v) <;> rfl
  have hz := map_step0 g0 l
  have key : ∃ e S1, Ends T orc L0 D0 (st0 (l.map (fun p => p.1)) (l.map cL) b m v vsz rz bz mz ((0 : Nat) : Int) ((ofF (fun w => bif decide (w = v) then (0 : Int) else cf (l.take 0) w)).map (fun p => p.1)) ((ofF (fun w => bif decide (w = v) then (0 : Int) else cf (l.take 0) w)).map cL)) e S1 ∧ e = .exit 0 ∧ ∃ x, S1 = st0 (l.map (fun p => p.1)) (l.map cL) b m v vsz rz bz mz x ((remL l v).map (fun p => p.1)) ((remL l v).map cL) := by
    refine loop_inv1 (fun (i : Nat) => st0 (l.map (fun p => p.1)) (l.map cL) b m v vsz rz bz mz i ((ofF (fun w => bif decide (w = v) then (0 : Int) else cf (l.take i) w)).map (fun p => p.1)) ((ofF (fun w => bif decide (w = v) then (0 : Int) else cf (l.take i) w)).map cL)) (fun i => i ≤ l.length) (fun i => l.length - i)
      (fun e S1 => e = .exit 0 ∧ ∃ x, S1 = st0 (l.map (fun p => p.1)) (l.map cL) b m v vsz rz bz mz x ((remL l v).map (fun p => p.1)) ((remL l v).map cL)) isL0 ?_ 0 (Nat.zero_le _)
    intro i h1
    have hlen := okL_len hl
    refine ⟨noTab, noTab_all, lands_of (round0 ..) ?_⟩
    by_cases hi : i < l.length
    · have hf := okL_mem hl (List.getElem_mem hi)
      have hs := map_step (okL_asc hl) (okL_in hl) g0 hi
      have ho := ofF_len (fun w => bif decide (w = v) then (0 : Int) else cf (l.take i) w)
      rw [List.length_map, List.length_map, ltN hi, inN hi, getL hi, rdV hi]
      by_cases hv : l[i].1 = v
      · rw [show (l[i].1 != v) = false from by rw [bne_eq_false_iff_eq]; exact hv]
        simp only [cond_true, cond_false, wi_succ (show i < 4611686018427387904 by omega), lands_some, Turns1]
        refine ⟨i + 1, ?_, by omega, by omega⟩
        have hs' : ofF (fun w => bif decide (w = v) then (0 : Int) else cf (l.take i) w) = ofF (fun w => bif decide (w = v) then (0 : Int) else cf (l.take (i + 1)) w) := by
          rw [← hs]
          show _ = putL (bif decide (l[i].1 = v) then (0 : Int) else l[i].2) _ _
          rw [decide_eq_true hv]
          rfl
        rw [hs']
      · rw [show (l[i].1 != v) = true from bne_iff_ne.2 hv]
        simp only [cL0, cL1, cLeta, cnW_fits hf, num_lbW, N_eq, cond_true, Bool.true_and, Bool.and_true, List.length_map]
        rw [decide_eq_true (show (ofF (fun w => bif decide (w = v) then (0 : Int) else cf (l.take i) w)).length ≤ 100000 by omega), putV_map, putR_map]
        simp only [cond_true, Bool.and_self, wi_succ (show i < 4611686018427387904 by omega), lands_some, Turns1]
        refine ⟨i + 1, ?_, by omega, by omega⟩
        have hs' : putL l[i].2 (ofF (fun w => bif decide (w = v) then (0 : Int) else cf (l.take i) w)) l[i].1 = ofF (fun w => bif decide (w = v) then (0 : Int) else cf (l.take (i + 1)) w) := by
          rw [← hs]
          show _ = putL (bif decide (l[i].1 = v) then (0 : Int) else l[i].2) _ _
          rw [decide_eq_false hv]
          rfl
        rw [hs']
    · rw [List.length_map, ltN' hi]
      simp only [cond_false, lands_some, Turns1]
      have hil : l.take i = l := List.take_of_length_le (by omega)
      rw [hil, remL_eq]
      exact ⟨trivial, i, rfl⟩
  rw [show ofF (fun w => bif decide (w = v) then (0 : Int) else cf (l.take 0) w) = [] from hz] at key
  exact key
end NPutV
theorem meets_nputv (hsc : Meets Try.prog 52 ansLScale) (ha : Meets Try.prog 46 ansLAdd) : Meets Try.prog 54 ansLPutV := by
  refine meets_fn (orc_ok (l := NPutV.ans) ⟨meets_ncoef, meets_sign, meets_lput, hsc, ha, trivial⟩) Try.f54 Try.func54 (by kernel_rfl) (fun args r h => ?_)
  unfold ansLPutV at h
  split at h
  · rename_i vs r b m v vsz rz bz mz
    simp only [Option.some.injEq, Prod.mk.injEq, Bool.and_eq_true] at h
    obtain ⟨⟨h1, h2⟩, rfl⟩ := h
    obtain ⟨l, c, k1, k2, rfl, rfl, rfl, rfl⟩ := isT_iff.1 h1
    obtain ⟨e1, S1, hE1, rfl, x, rfl⟩ := NPutV.loop l (sg c) (lb 4294967296 c) v vsz rz bz mz k1
    refine ⟨rfl, _, tabOf_all _, (NPutV.rest _ _ _ _ _ _ _ _ _ ((remL l v).map (fun p => p.1)) ((remL l v).map cL) x).trans ?_⟩
    have hE := ptE_eq l c v (dl vsz rz) (num 4294967296 bz mz)
    have hL := ptL_eq l c v (dl vsz rz) (num 4294967296 bz mz)
    have hC := ptC_eq l c v (dl vsz rz) (num 4294967296 bz mz)
    have hcf := okL_cf k1 v
    rw [isl_iff.2 ⟨l, k1, rfl, rfl⟩, dl_map, cnW_fits hcf, N_eq, cmpZ_zero', h2, hcf, cdec_true hE1, num_lbW, dl_map, dl_lvs, N_eq, isT_of (okL_sc _ _ _) (fits_scC _ _ _), isT_iff.2 ⟨remL l v, c, okL_rem k1 v, k2, rfl, rfl, rfl, rfl⟩]
    cases hb : cf l v == 0 with
    | true =>
      rw [hb] at hE hL hC
      have hE : ptE l c v (dl vsz rz) (num 4294967296 bz mz) = 0 := hE
      have hL : ptL l c v (dl vsz rz) (num 4294967296 bz mz) = l := hL
      have hC : ptC l c v (dl vsz rz) (num 4294967296 bz mz) = c := hC
      rw [hE, hL, hC, lvs_eq l, lrs_eq l]
      rfl
    | false =>
      rw [hb, cond_false] at hE hL hC
      cases hs : scE (dl vsz rz) (num 4294967296 bz mz) (cf l v) == 0 with
      | true =>
        rw [hs, cond_true] at hE hL hC
        rw [hE, hL, hC, show (scE (dl vsz rz) (num 4294967296 bz mz) (cf l v) != 0) = false from by unfold bne; rw [hs]; rfl]
        rfl
      | false =>
        rw [hs, cond_false] at hE hL hC
        rw [hE, hL, hC, show (scE (dl vsz rz) (num 4294967296 bz mz) (cf l v) != 0) = true from by unfold bne; rw [hs]; rfl, lvs_nil, lrs_nil]
        rfl
  · cases h
namespace LScale
def Post (l : List (Int × Int)) (b : Bool) (m : List Int) (k : Int) (e : Ex) (S1 : St) : Prop :=
  (e = .exit 0 ∧ (∀ v, fits (cf l v * k) = true) ∧ ∃ x, S1 = st0 (l.map (fun p => p.1)) (l.map cL) b m (sg k) (lb 4294967296 k) x ((ofF (fun v => cf l v * k)).map (fun p => p.1)) ((ofF (fun v => cf l v * k)).map cL)) ∨
  (e = .ret ∧ (¬ ∀ v, fits (cf l v * k) = true) ∧ ∃ x l' r', S1 = st0x0 (l.map (fun p => p.1)) (l.map cL) b m (sg k) (lb 4294967296 k) 11 x l' r')
theorem loop (l : List (Int × Int)) (b : Bool) (m : List Int) (k : Int) (hl : okL l) (hk : fits k = true) : ∃ e S1, Ends T orc L0 D0 (st0 (l.map (fun p => p.1)) (l.map cL) b m (sg k) (lb 4294967296 k) 0 [] []) e S1 ∧ Post l b m k e S1 := by
  have hz := map_step0 (g := fun _ z => z * k) (fun _ => Int.zero_mul k) l
  have key : ∃ e S1, Ends T orc L0 D0 (st0 (l.map (fun p => p.1)) (l.map cL) b m (sg k) (lb 4294967296 k) ((0 : Nat) : Int) ((ofF (fun v => cf (l.take 0) v * k)).map (fun p => p.1)) ((ofF (fun v => cf (l.take 0) v * k)).map cL)) e S1 ∧ Post l b m k e S1 := by
    refine loop_inv1 (fun (i : Nat) => st0 (l.map (fun p => p.1)) (l.map cL) b m (sg k) (lb 4294967296 k) i ((ofF (fun v => cf (l.take i) v * k)).map (fun p => p.1)) ((ofF (fun v => cf (l.take i) v * k)).map cL)) (fun i => i ≤ l.length ∧ ∀ v, fits (cf (l.take i) v * k) = true) (fun i => l.length - i) (Post l b m k) isL0 ?_ 0 ⟨Nat.zero_le _, fun v => by rw [List.take_zero, cf_nil, Int.zero_mul]; exact fits0⟩
    intro i ⟨h1, h2⟩
    have hlen := okL_len hl
    refine ⟨noTab, noTab_all, lands_of (round0 ..) ?_⟩
    by_cases hi : i < l.length
    · have hf := okL_mem hl (List.getElem_mem hi)
      have hs : putL (l[i].2 * k) (ofF (fun v => cf (l.take i) v * k)) l[i].1 = ofF (fun v => cf (l.take (i + 1)) v * k) := map_step (okL_asc hl) (okL_in hl) (g := fun _ z => z * k) (fun _ => Int.zero_mul k) hi
      have ho := ofF_len (fun v => cf (l.take i) v * k)
      rw [List.length_map, List.length_map, ltN hi, inN hi, getL hi, rdV hi]
      simp only [cL0, cL1, cLeta, cnW_fits hf, cnW_fits hk, num_lbW, hf, hk, N_eq, cond_true, Bool.true_and, Bool.and_true, Bool.and_self, List.length_map]
      cases hp : fits (l[i].2 * k) with
      | false =>
        rw [ne0_of_big hp, he_big hp]
        simp only [cond_true, lands_some, Turns1]
        refine .inr ⟨rfl, fun hall => ?_, i, _, _, rfl⟩
        have := hall l[i].1
        rw [cf_mem (okL_asc hl) (List.getElem_mem hi), hp] at this
        cases this
      | true =>
        rw [eq0_of_fit hp, hz_fit hp, cnW_fits hp, decide_eq_true (show (ofF (fun v => cf (l.take i) v * k)).length ≤ 100000 by omega), putV_map, putR_map, hs]
        simp only [cond_true, cond_false, Bool.and_self, wi_succ (show i < 4611686018427387904 by omega), lands_some, Turns1]
        refine ⟨i + 1, rfl, ⟨by omega, fun v => ?_⟩, by omega⟩
        rw [cf_take_succ (okL_asc hl) hi]
        split
        · exact hp
        · exact h2 v
    · rw [List.length_map, ltN' hi]
      simp only [cond_false, lands_some, Turns1]
      have hil : l.take i = l := List.take_of_length_le (by omega)
      rw [hil] at h2 ⊢
      exact .inl ⟨rfl, h2, i, rfl⟩
  rw [show ofF (fun v => cf (l.take 0) v * k) = [] from hz] at key
  exact key
end LScale
theorem meets_nscale : Meets Try.prog 52 ansLScale := by
  refine meets_fn (orc_ok (l := LScale.ans) ⟨meets_mul, meets_lput, trivial⟩) Try.f52 Try.func52 (by kernel_rfl) (fun args r h => ?_)
  unfold ansLScale at h
  split at h
  · rename_i vs r b m s kl
    simp only [Option.some.injEq, Prod.mk.injEq, Bool.and_eq_true] at h
    obtain ⟨⟨h1, h2, h3⟩, rfl⟩ := h
    obtain ⟨l, c, k1, k2, rfl, rfl, rfl, rfl⟩ := isT_iff.1 h1
    obtain ⟨k, rfl, rfl, _⟩ := (cn_iff W_two).1 h2
    rw [num_lbW] at h3
    rw [dl_map, num_lbW, num_lbW]
    obtain ⟨e1, S1, hE1, hP⟩ := LScale.loop l (sg c) (lb 4294967296 c) k k1 h3
    rcases hP with ⟨rfl, hall, x, rfl⟩ | ⟨rfl, hall, x, l', r', rfl⟩
    · refine ⟨rfl, _, tabOf_all _, (LScale.rest_1 _ _ _ _ _ _ ((ofF (fun v => cf l v * k)).map (fun p => p.1)) ((ofF (fun v => cf l v * k)).map cL) x).trans ?_⟩
      rw [num_lbW, num_lbW, cnW_fits k2, cnW_fits h3, k2, h3]
      rcases scE_cases l c k with ⟨e1, e2, e3, e4, _⟩ | ⟨e1, e2, e3, e4⟩
      · rw [e1, e2, e3, eq0_of_fit e4, hz_fit e4, cdec_true hE1, lvs_eq, lrs_eq]
        rfl
      · have hcb : fits (c * k) = false := by rw [Bool.eq_false_iff]; exact fun hh => e4 ⟨hh, hall⟩
        rw [e1, e2, e3, ne0_of_big hcb, he_big hcb, lvs_nil, lrs_nil]
        rfl
    · refine ⟨rfl, _, tabOf_all _, (LScale.rest_0 _ _ _ _ _ _ 11 x l' r').trans ?_⟩
      rw [num_lbW, num_lbW, cnW_fits k2, cnW_fits h3, k2, h3]
      rcases scE_cases l c k with ⟨e1, e2, e3, e4, e5⟩ | ⟨e1, e2, e3, e4⟩
      · exact absurd e5 hall
      · rw [e1, e2, e3, lvs_nil, lrs_nil, cdec_true hE1]
        cases hcb : fits (c * k) with
        | false => rw [ne0_of_big hcb, he_big hcb]; rfl
        | true => rw [eq0_of_fit hcb]; rfl
  · cases h
end Go.Abs
end
section
/- States and rounds of the functions of linear and of its reference, as a program of this session printed them. -/
set_option maxRecDepth 10000
namespace Go.Abs
open Go.Proofs Go.Dig
noncomputable section
namespace NText
abbrev ans : Ans := [(26, ansText), (61, ansFrom), (45, ansSign)]
abbrev orc : Orc := orcOf ans
noncomputable def L0 : Code := lp Try.f41 0
theorem isL0 : ∃ a, L0 = .loop a := ⟨_, rfl⟩
abbrev D0 : List Nat := [0, 1, 2, 3, 6, 7, 8, 9, 10]
abbrev st0 (vs : List Int) (r : List (List AV)) (b : Bool) (m : List Int) (x0 : Int) (l0 : List Int) : St := ⟨.agg [.ints .i64 vs, .rows 2 r, .bool b, .ints .u32 m] :: .ptr 1 0 0 :: .str { data := #[] } :: .sl 3 0 0 :: tops 2 (.sl 6 0 0 :: .ptr 1 0 0 :: .ints .i64 vs :: .int .i64 (↑vs.length : Int) :: .int .i64 x0 :: tops 47 ([])), nos 1 (varE [(false, .ints .i64 vs), (false, .rows 2 r), (false, .bool b), (false, .ints .u32 m)] :: nos 1 (rowE (.ints .u8 l0) :: nos 2 ({ g := 0, pg := 0, o := some (AObj.row { g := 0, own := false, v := .top }) } :: nos 51 ([]))))⟩
theorem round0 (vs : List Int) (r : List (List AV)) (b : Bool) (m : List Int) (x0 : Int) (l0 : List Int) : goL T orc (noTab) D0 L0 (st0 vs r b m x0 l0) =
    (bif decide (x0 < (↑vs.length : Int)) then (bif inB x0 vs.length then (bif decide (x0 > 0) then (bif true && decide ((l0 ++ bytesOf { data := #[32, 43, 32] }).length * 1 ≤ 140737488355328) then (bif inB x0 r.length then (bif etasOk [.bool false, .ints .u32 []] (r.getD x0.toNat []) then (bif cn (4294967296) (gBool ((r.getD x0.toNat []).getD 0 .top)) (gInts ((r.getD x0.toNat []).getD 1 .top)) then (bif true && decide ((l0 ++ bytesOf { data := #[32, 43, 32] } ++ bytesOf (txt (num (4294967296) (gBool ((r.getD x0.toNat []).getD 0 .top)) (gInts ((r.getD x0.toNat []).getD 1 .top))))).length * 1 ≤ 140737488355328) then (bif true && decide ((l0 ++ bytesOf { data := #[32, 43, 32] } ++ bytesOf (txt (num (4294967296) (gBool ((r.getD x0.toNat []).getD 0 .top)) (gInts ((r.getD x0.toNat []).getD 1 .top)))) ++ bytesOf { data := #[42, 120] }).length * 1 ≤ 140737488355328) then (bif i64B (rd vs x0) then (bif cn (4294967296) (sg (rd vs x0)) (lb (4294967296) (rd vs x0)) then (bif true && decide ((l0 ++ bytesOf { data := #[32, 43, 32] } ++ bytesOf (txt (num (4294967296) (gBool ((r.getD x0.toNat []).getD 0 .top)) (gInts ((r.getD x0.toNat []).getD 1 .top)))) ++ bytesOf { data := #[42, 120] } ++ bytesOf (txt (N (4294967296) (rd vs x0)))).length * 1 ≤ 140737488355328) then some (.normal, st0 vs r b m (IntKind.i64.wrap (x0 + 1)) (l0 ++ bytesOf { data := #[32, 43, 32] } ++ bytesOf (txt (num (4294967296) (gBool ((r.getD x0.toNat []).getD 0 .top)) (gInts ((r.getD x0.toNat []).getD 1 .top)))) ++ bytesOf { data := #[42, 120] } ++ bytesOf (txt (N (4294967296) (rd vs x0))))) else none) else none) else none) else none) else none) else none) else none) else none) else none) else (bif inB x0 r.length then (bif etasOk [.bool false, .ints .u32 []] (r.getD x0.toNat []) then (bif cn (4294967296) (gBool ((r.getD x0.toNat []).getD 0 .top)) (gInts ((r.getD x0.toNat []).getD 1 .top)) then (bif true && decide ((l0 ++ bytesOf (txt (num (4294967296) (gBool ((r.getD x0.toNat []).getD 0 .top)) (gInts ((r.getD x0.toNat []).getD 1 .top))))).length * 1 ≤ 140737488355328) then (bif true && decide ((l0 ++ bytesOf (txt (num (4294967296) (gBool ((r.getD x0.toNat []).getD 0 .top)) (gInts ((r.getD x0.toNat []).getD 1 .top)))) ++ bytesOf { data := #[42, 120] }).length * 1 ≤ 140737488355328) then (bif i64B (rd vs x0) then (bif cn (4294967296) (sg (rd vs x0)) (lb (4294967296) (rd vs x0)) then (bif true && decide ((l0 ++ bytesOf (txt (num (4294967296) (gBool ((r.getD x0.toNat []).getD 0 .top)) (gInts ((r.getD x0.toNat []).getD 1 .top)))) ++ bytesOf { data := #[42, 120] } ++ bytesOf (txt (N (4294967296) (rd vs x0)))).length * 1 ≤ 140737488355328) then some (.normal, st0 vs r b m (IntKind.i64.wrap (x0 + 1)) (l0 ++ bytesOf (txt (num (4294967296) (gBool ((r.getD x0.toNat []).getD 0 .top)) (gInts ((r.getD x0.toNat []).getD 1 .top)))) ++ bytesOf { data := #[42, 120] } ++ bytesOf (txt (N (4294967296) (rd vs x0))))) else none) else none) else none) else none) else none) else none) else none) else none)) else none) else some (.exit 0, st0 vs r b m x0 l0)) := by kernel_rfl
-- loop 0 ends exit0 st0 vs r b m x0 l0
theorem rest (vs : List Int) (r : List (List AV)) (b : Bool) (m : List Int) (l1 : List Int) (x1 : Int) : runT T orc (tabOf T orc [(3, 3268359839144463919438546331967940434993252599768884404466513599196910, .exit 0, st0 vs r b m x1 l1)]) Try.f41 [.agg [.ints .i64 vs, .rows 2 r, .bool b, .ints .u32 m]] =
    (bif cdec (Ends T orc L0 D0 (st0 vs r b m (0) ([])) (.exit 0) (st0 vs r b m x1 l1)) then (bif (↑vs.length : Int) == 0 then (bif decide ((↑vs.length : Int) > 0) then (bif true && decide ((l1 ++ bytesOf { data := #[32, 43, 32] }).length * 1 ≤ 140737488355328) then (bif cn (4294967296) b m then (bif true && decide ((l1 ++ bytesOf { data := #[32, 43, 32] } ++ bytesOf (txt (num (4294967296) b m))).length * 1 ≤ 140737488355328) then some (.val (.str (strOf (l1 ++ bytesOf { data := #[32, 43, 32] } ++ bytesOf (txt (num (4294967296) b m)))))) else none) else none) else none) else (bif cn (4294967296) b m then (bif true && decide ((l1 ++ bytesOf (txt (num (4294967296) b m))).length * 1 ≤ 140737488355328) then some (.val (.str (strOf (l1 ++ bytesOf (txt (num (4294967296) b m)))))) else none) else none)) else (bif cn (4294967296) b m then (bif cmpZ (num (4294967296) b m) (0) != 0 then (bif decide ((↑vs.length : Int) > 0) then (bif true && decide ((l1 ++ bytesOf { data := #[32, 43, 32] }).length * 1 ≤ 140737488355328) then (bif cn (4294967296) b m then (bif true && decide ((l1 ++ bytesOf { data := #[32, 43, 32] } ++ bytesOf (txt (num (4294967296) b m))).length * 1 ≤ 140737488355328) then some (.val (.str (strOf (l1 ++ bytesOf { data := #[32, 43, 32] } ++ bytesOf (txt (num (4294967296) b m)))))) else none) else none) else none) else (bif cn (4294967296) b m then (bif true && decide ((l1 ++ bytesOf (txt (num (4294967296) b m))).length * 1 ≤ 140737488355328) then some (.val (.str (strOf (l1 ++ bytesOf (txt (num (4294967296) b m)))))) else none) else none)) else some (.val (.str (strOf l1)))) else none)) else none) := by kernel_rfl
end NText
end
end Go.Abs
end
section
/- What linear's functions answer: a term's text, a row as plain data. -/
namespace Go.Abs
open Go.Proofs Go.Dig
theorem txtL_len {z : Int} (h : z.natAbs < Lim) : (txtL z).length ≤ 10002 := by
  have h1 := lb10_length h
  unfold lb at h1
  unfold txtL dig
  split
  · simp
  · rw [List.length_append, List.length_map, List.length_reverse]
    split <;> simp only [List.length_cons, List.length_nil] <;> omega
theorem txt_len {z : Int} (h : z.natAbs < Lim) : (bytesOf (txt z)).length ≤ 10002 := by rw [bytesOf_txt]; exact txtL_len h
theorem bytes_app (a b : ByteArray) : bytesOf (a ++ b) = bytesOf a ++ bytesOf b := by
  unfold bytesOf
  rw [ByteArray.toList_data_append, List.map_append]
theorem bytes_range (s : ByteArray) : ∀ c ∈ bytesOf s, 0 ≤ c ∧ c < 256 := by
  intro c hc
  unfold bytesOf at hc
  obtain ⟨b, _, rfl⟩ := List.mem_map.1 hc
  have := b.toNat_lt
  exact ⟨by omega, by omega⟩
theorem strOf_bytes (s : ByteArray) : strOf (bytesOf s) = s := bytesOf_inj (bytesOf_strOf (bytes_range s))
theorem sumT_snoc (l : List (Int × Int)) (p : Int × Int) : sumT (l ++ [p]) = if l = [] then partT p else sumT l ++ (sep ++ partT p) := by
  induction l with
  | nil => rfl
  | cons q l ih =>
    rw [if_neg (List.cons_ne_nil q l)]
    cases l with
    | nil => rfl
    | cons q' l =>
      rw [if_neg (List.cons_ne_nil q' l)] at ih
      show partT q ++ (sep ++ sumT ((q' :: l) ++ [p])) = partT q ++ (sep ++ sumT (q' :: l)) ++ (sep ++ partT p)
      rw [ih, ByteArray.append_assoc, ByteArray.append_assoc]
theorem sumT_take {l : List (Int × Int)} {i : Nat} (hi : i < l.length) : sumT (l.take (i + 1)) = if i = 0 then partT l[i] else sumT (l.take i) ++ (sep ++ partT l[i]) := by
  have e : l.take (i + 1) = l.take i ++ [l[i]] := by rw [List.take_add_one, List.getElem?_eq_getElem hi]; rfl
  rw [e, sumT_snoc]
  by_cases h0 : i = 0
  · subst h0; rw [if_pos rfl, if_pos (List.take_zero)]
  · rw [if_neg h0, if_neg (fun h => by
      have := congrArg List.length h
      rw [List.length_take] at this
      simp only [List.length_nil] at this
      omega)]
theorem i64B_var {v : Int} (h : 0 ≤ v ∧ v < 4096) : i64B v = true := by
  unfold i64B; rw [Bool.and_eq_true, decide_eq_true_eq, decide_eq_true_eq]; omega
set_option exponentiation.threshold 20000 in
theorem fits_var {v : Int} (h : 0 ≤ v ∧ v < 4096) : fits v = true := by
  rw [fits_iff]
  have h1 : v.natAbs < 2 ^ 12 := by omega
  exact Nat.lt_of_lt_of_le h1 (Nat.pow_le_pow_right (show 0 < 2 by omega) (show 12 ≤ 1024 by omega))
theorem sumT_len {l : List (Int × Int)} (hl : okL l) (i : Nat) (h : i ≤ l.length) : (bytesOf (sumT (l.take i))).length ≤ i * 30000 := by
  induction i with
  | zero => rw [List.take_zero]; exact Nat.le_refl 0
  | succ i ih =>
    have h1 := ih (by omega)
    have h2 := txt_len (small_of_fits (okL_mem hl (List.getElem_mem (show i < l.length by omega))))
    have h3 := txt_len (small_of_fits (fits_var (okL_in hl _ (List.getElem_mem (show i < l.length by omega)))))
    have hp : (bytesOf (partT l[i])).length ≤ 20006 := by
      unfold partT
      rw [bytes_app, bytes_app, List.length_append, List.length_append, show (bytesOf ⟨#[42, 120]⟩).length = 2 from rfl]
      omega
    rw [sumT_take (by omega)]
    split
    · omega
    · rw [bytes_app, bytes_app, List.length_append, List.length_append, show (bytesOf sep).length = 3 from rfl]
      omega
theorem room1 {l : List Int} (h : l.length ≤ 140000000000) : (true && decide (l.length * 1 ≤ 140737488355328)) = true := by
  rw [Bool.true_and, decide_eq_true_eq]; omega
namespace NText
theorem loop (l : List (Int × Int)) (b : Bool) (m : List Int) (hl : okL l) : ∃ e S1, Ends T orc L0 D0 (st0 (l.map (fun p => p.1)) (l.map cL) b m 0 []) e S1 ∧ e = .exit 0 ∧ ∃ x, S1 = st0 (l.map (fun p => p.1)) (l.map cL) b m x (bytesOf (sumT l)) := by
  have key : ∃ e S1, Ends T orc L0 D0 (st0 (l.map (fun p => p.1)) (l.map cL) b m ((0 : Nat) : Int) (bytesOf (sumT (l.take 0)))) e S1 ∧ e = .exit 0 ∧ ∃ x, S1 = st0 (l.map (fun p => p.1)) (l.map cL) b m x (bytesOf (sumT l)) := by
    refine loop_inv1 (fun (i : Nat) => st0 (l.map (fun p => p.1)) (l.map cL) b m i (bytesOf (sumT (l.take i)))) (fun i => i ≤ l.length) (fun i => l.length - i)
      (fun e S1 => e = .exit 0 ∧ ∃ x, S1 = st0 (l.map (fun p => p.1)) (l.map cL) b m x (bytesOf (sumT l))) isL0 ?_ 0 (Nat.zero_le _)
    intro i h1
    have hlen := okL_len hl
    refine ⟨noTab, noTab_all, lands_of (round0 ..) ?_⟩
    by_cases hi : i < l.length
    · have hf := okL_mem hl (List.getElem_mem hi)
      have hv := okL_in hl _ (List.getElem_mem hi)
      have hL := sumT_len hl i (by omega)
      have t1 := txt_len (small_of_fits hf)
      have t2 := txt_len (small_of_fits (fits_var hv))
      have hsep : (bytesOf { data := #[32, 43, 32] }).length = 3 := rfl
      have hx : (bytesOf { data := #[42, 120] }).length = 2 := rfl
      have hnext := sumT_take hi
      rw [List.length_map, List.length_map, ltN hi, inN hi, getL hi, rdV hi]
      simp only [cL0, cL1, cLeta, cnW_fits hf, cnW_fits (fits_var hv), i64B_var hv, num_lbW, N_eq, cond_true]
      by_cases h0 : i = 0
      · rw [if_pos h0] at hnext
        rw [decide_eq_false (show ¬ ((i : Nat) : Int) > 0 by omega), cond_false, room1 (by simp only [List.length_append, hsep, hx]; omega), room1 (by simp only [List.length_append, hsep, hx]; omega), room1 (by simp only [List.length_append, hsep, hx]; omega)]
        simp only [cond_true, wi_succ (show i < 4611686018427387904 by omega), lands_some, Turns1]
        refine ⟨i + 1, ?_, by omega, by omega⟩
        have e : bytesOf (sumT (l.take (i + 1))) = bytesOf (sumT (l.take i)) ++ bytesOf (txt l[i].2) ++ bytesOf { data := #[42, 120] } ++ bytesOf (txt l[i].1) := by
          rw [hnext, show l.take i = [] from by rw [h0, List.take_zero], show bytesOf (sumT []) = [] from rfl]
          unfold partT
          rw [bytes_app, bytes_app, List.nil_append, List.append_assoc]
        rw [e]
      · rw [if_neg h0] at hnext
        rw [decide_eq_true (show ((i : Nat) : Int) > 0 by omega), cond_true, room1 (by simp only [List.length_append, hsep, hx]; omega), room1 (by simp only [List.length_append, hsep, hx]; omega), room1 (by simp only [List.length_append, hsep, hx]; omega), room1 (by simp only [List.length_append, hsep, hx]; omega)]
        simp only [cond_true, wi_succ (show i < 4611686018427387904 by omega), lands_some, Turns1]
        refine ⟨i + 1, ?_, by omega, by omega⟩
        have e : bytesOf (sumT (l.take (i + 1))) = bytesOf (sumT (l.take i)) ++ bytesOf { data := #[32, 43, 32] } ++ bytesOf (txt l[i].2) ++ bytesOf { data := #[42, 120] } ++ bytesOf (txt l[i].1) := by
          rw [hnext]
          unfold partT sep
          rw [bytes_app, bytes_app, bytes_app, bytes_app, List.append_assoc, List.append_assoc, List.append_assoc]
        rw [e]
    · rw [List.length_map, ltN' hi]
      simp only [cond_false, lands_some, Turns1]
      have hil : l.take i = l := List.take_of_length_le (by omega)
      rw [hil]
      exact ⟨trivial, i, rfl⟩
  exact key
end NText
theorem meets_ntext : Meets Try.prog 41 ansLText := by
  refine meets_fn (orc_ok (l := NText.ans) ⟨meets_text, meets_from, meets_sign, trivial⟩) Try.f41 Try.func41 (by kernel_rfl) (fun args r h => ?_)
  unfold ansLText at h
  split at h
  · rename_i vs r b m
    simp only [Option.some.injEq, Prod.mk.injEq] at h
    obtain ⟨h1, rfl⟩ := h
    obtain ⟨l, c, k1, k2, rfl, rfl, rfl, rfl⟩ := isT_iff.1 h1
    obtain ⟨e1, S1, hE1, rfl, x, rfl⟩ := NText.loop l (sg c) (lb 4294967296 c) k1
    have hT := ttxt_eq l c
    have hL := sumT_len k1 l.length (Nat.le_refl _)
    rw [List.take_length] at hL
    have hlen := okL_len k1
    have hsep : (bytesOf { data := #[32, 43, 32] }).length = 3 := rfl
    have t1 := txt_len (small_of_fits k2)
    refine ⟨rfl, _, tabOf_all _, (NText.rest _ _ _ _ (bytesOf (sumT l)) x).trans ((bT (cdec_true hE1)).trans ?_)⟩
    rw [List.length_map, dl_map, num_lbW, cnW_fits k2, cmpZ_zero]
    by_cases h0 : l = []
    · subst h0
      have hT : ttxt [] c = txt c := hT
      rw [hT]
      refine (bT rfl).trans ((bF rfl).trans ((bT rfl).trans ((bT (room1 (by simp only [List.length_append]; omega))).trans ?_)))
      rw [show bytesOf (sumT []) = [] from rfl, List.nil_append, strOf_bytes]
    · have hpos : 0 < l.length := List.length_pos_iff.2 h0
      rw [show l.isEmpty = false from List.isEmpty_eq_false_iff.2 h0, cond_false] at hT
      refine (bF (beq_eq_false_iff_ne.2 (by omega))).trans ((bT rfl).trans ?_)
      cases hc : c == 0 with
      | true =>
        rw [hc, cond_true] at hT
        rw [hT]
        refine (bF rfl).trans ?_
        rw [strOf_bytes]
      | false =>
        rw [hc, cond_false] at hT
        rw [hT]
        refine (bT rfl).trans ((bT (decide_eq_true (by omega))).trans ((bT (room1 (by simp only [List.length_append, hsep]; omega))).trans ((bT rfl).trans ((bT (room1 (by simp only [List.length_append, hsep]; omega))).trans ?_))))
        have e : bytesOf (sumT l ++ (sep ++ txt c)) = bytesOf (sumT l) ++ bytesOf { data := #[32, 43, 32] } ++ bytesOf (txt c) := by
          unfold sep
          rw [bytes_app, bytes_app, List.append_assoc]
        rw [← e, strOf_bytes]
  · cases h
end Go.Abs
end
