/- What the rows of this seat rest on, part 4: an abstract machine for the model, proved sound, and the functions that the statements reach. No conditions. -/
import Derived.Test.YtehpihdiahbaeaaXBase3
set_option linter.unusedVariables false
set_option linter.unusedSimpArgs false
set_option linter.unnecessarySimpa false
set_option linter.unusedSectionVars false
section
/- What arith's functions over limbs answer: timesMag, scale, part. -/
namespace Go.Abs
open Go.Proofs Go.Dig
theorem mul_lt_W {x y : Int} (hx : 0 ≤ x ∧ x < 4294967296) (hy : 0 ≤ y ∧ y < 4294967296) : 0 ≤ x * y ∧ x * y ≤ 18446744065119617025 := by
  refine ⟨Int.mul_nonneg hx.1 hy.1, ?_⟩
  have h1 : x * y ≤ 4294967295 * 4294967295 := Int.mul_le_mul (by omega) (by omega) hy.1 (by omega)
  omega
namespace TimesMag
def InvI (b : List Int) (x : Int) (i : Nat) (L : List Int) (c : Int) (k : Nat) (l : List Int) : Prop :=
  k ≤ b.length ∧ l.length = L.length ∧ okB 4294967296 l = true ∧ 0 ≤ c ∧ c < 4294967296 ∧ val 4294967296 l + 4294967296 ^ (i + k) * c = val 4294967296 L + 4294967296 ^ i * (x * val 4294967296 (b.take k)) ∧ ∀ j, i + b.length ≤ j → l.getD j 0 = 0
theorem step (P Q V S c d c' t y x w : Int) (h : V + P * c = S + Q * (x * w)) (k : t + x * y + c = d + 4294967296 * c') (Pk : Int) (hP : P = Q * Pk) : V + P * (d - t) + P * 4294967296 * c' = S + Q * (x * (w + Pk * y)) := by
  grind
theorem inner (a b : List Int) (i : Nat) (L : List Int) (ha : okB 4294967296 a = true) (hb : okB 4294967296 b = true) (hla : a.length ≤ 100000) (hlb : b.length ≤ 100000) (hi : i < a.length) (hL : L.length = a.length + b.length) (hoL : okB 4294967296 L = true) (hz : ∀ j, i + b.length ≤ j → L.getD j 0 = 0) :
    ∃ e S1, Ends T noOrc L1 D1 (st1 a b i 0 0 L) e S1 ∧ (e = .exit 2 ∧ ∃ c x l, S1 = st1 a b i c x l ∧ InvI b (a.getD i 0) i L c b.length l) := by
  refine loop_inv3 (fun c (k : Nat) l => st1 a b i c k l) (fun c k l => InvI b (a.getD i 0) i L c k l) (fun c k l => b.length - k)
    (fun e S1 => e = .exit 2 ∧ ∃ c x l, S1 = st1 a b i c x l ∧ InvI b (a.getD i 0) i L c b.length l) isL1 ?_ 0 0 L ?_
  · intro c k l h
    obtain ⟨h1, h2, h3, h4, h5, h6, h7⟩ := id h
    refine ⟨noTab, noTab_all, ?_⟩
    have hx := getD_ok W_pos ha i
    have hy := getD_ok W_pos hb k
    have ht := getD_ok W_pos h3 (i + k)
    have hm := mul_lt_W hx hy
    have e1 : IntKind.i64.wrap ((i : Int) + (k : Int)) = ((i + k : Nat) : Int) := by rw [w64 (by omega) (by omega)]; omega
    rw [round1]
    simp only [lands_bif, lands_some, lands_none, Turns1, Turns2, Turns3, Turns4, Turns5, Turns6, Turns7, Turns8, eq_bif, Option.some.injEq, reduceCtorEq, cond_true, cond_false, Bool.eq_false_iff, ne_eq, inB_iff, decide_eq_true_eq, Bool.and_eq_true, Bool.or_eq_true, Bool.not_eq_true', beq_iff_eq, bne_iff_ne, true_and, and_true, true_implies, implies_true, not_true_eq_false, not_false_eq_true, false_implies, few_iff, wi_succ (show k < 4611686018427387904 by omega), e1]
    simp only [rd_toNat, Int.toNat_natCast, wu64_mod, wu32_mod, fdiv32]
    repeat' (first | apply And.intro | intro _)
    all_goals try omega
    · rename_i q1 q2 q3 q4
      have em : (a.getD i 0 % 18446744073709551616) * (b.getD k 0 % 18446744073709551616) = a.getD i 0 * b.getD k 0 := by
        rw [Int.emod_eq_of_lt (by omega) (by omega), Int.emod_eq_of_lt (by omega) (by omega)]
      rw [em]
      generalize hp : a.getD i 0 * b.getD k 0 = p at hm
      refine ⟨_, k + 1, _, rfl, ⟨by omega, by rw [List.length_set]; exact h2, okB_set h3 (by omega), by omega, by omega, ?_, fun j hj => ?_⟩, by omega⟩
      · rw [val_set _ _ _ _ (by omega), val_take_succ, show i + (k + 1) = (i + k) + 1 by omega, Int.pow_succ]
        refine step (4294967296 ^ (i + k)) (4294967296 ^ i) (val 4294967296 l) (val 4294967296 L) c _ _ (l.getD (i + k) 0) (b.getD k 0) (a.getD i 0) _ h6 ?_ (4294967296 ^ k) (Int.pow_add ..)
        rw [hp]
        omega
      · rw [getD_set_ne (by omega)]
        exact h7 j hj
    · obtain rfl : k = b.length := by omega
      exact ⟨_, _, _, rfl, h⟩
  · refine ⟨by omega, rfl, hoL, by omega, by omega, ?_, hz⟩
    simp [val]
def InvO (a b : List Int) (i : Nat) (l : List Int) : Prop :=
  i ≤ a.length ∧ l.length = a.length + b.length ∧ okB 4294967296 l = true ∧ val 4294967296 l = val 4294967296 (a.take i) * val 4294967296 b ∧ ∀ j, i + b.length ≤ j → l.getD j 0 = 0
theorem outer (a b : List Int) (ha : okB 4294967296 a = true) (hb : okB 4294967296 b = true) (hla : a.length ≤ 100000) (hlb : b.length ≤ 100000) :
    ∃ e S1, Ends T noOrc L0 D0 (st0 a b 0 (zeros (a.length + b.length))) e S1 ∧ (e = .exit 0 ∧ ∃ x l, S1 = st0 a b x l ∧ InvO a b a.length l) := by
  refine loop_inv2 (fun (i : Nat) l => st0 a b i l) (fun i l => InvO a b i l) (fun i l => a.length - i)
    (fun e S1 => e = .exit 0 ∧ ∃ x l, S1 = st0 a b x l ∧ InvO a b a.length l) isL0 ?_ 0 (zeros (a.length + b.length)) ?_
  · intro i l h
    obtain ⟨h1, h2, h3, h4, h5⟩ := id h
    by_cases hi : i < a.length
    · obtain ⟨e1, S1, hE1, rfl, c, x, l4, rfl, k1, k2, k3, k4, k5, k6, k7⟩ := inner a b i l ha hb hla hlb hi h2 h3 h5
      refine ⟨_, tabOf_all _, lands_of (round0 a b i l l4 c x) ?_⟩
      have e1 : IntKind.i64.wrap ((i : Int) + (b.length : Int)) = ((i + b.length : Nat) : Int) := by rw [w64 (by omega) (by omega)]; omega
      simp only [lands_bif, lands_some, lands_none, Turns1, Turns2, Turns3, Turns4, Turns5, Turns6, Turns7, Turns8, eq_bif, Option.some.injEq, reduceCtorEq, cond_true, cond_false, Bool.eq_false_iff, ne_eq, inB_iff, decide_eq_true_eq, Bool.and_eq_true, Bool.or_eq_true, Bool.not_eq_true', beq_iff_eq, bne_iff_ne, true_and, and_true, true_implies, implies_true, not_true_eq_false, not_false_eq_true, false_implies, few_iff, cdec_true hE1, e1, wi_succ (show i < 4611686018427387904 by omega)]
      simp only [rd_toNat, Int.toNat_natCast, wu32 k4 (by omega)]
      repeat' (first | apply And.intro | intro _)
      all_goals try omega
      · have hz := k7 (i + b.length) (Nat.le_refl _)
        refine ⟨i + 1, _, rfl, ⟨by omega, by rw [List.length_set]; omega, okB_set k3 ⟨k4, k5⟩, ?_, fun j hj => ?_⟩, by omega⟩
        · rw [val_set _ _ _ _ (by omega), hz, Int.sub_zero, k6, h4, val_take_succ, List.take_of_length_le (Nat.le_refl _), Int.add_mul, Int.mul_assoc]
        · rw [getD_set_ne (by omega)]
          exact k7 j (by omega)
    · obtain rfl : i = a.length := by omega
      refine ⟨_, tabOf_all _, lands_of (round0 a b a.length l l 0 0) ?_⟩
      simp only [lands_bif, lands_some, lands_none, Turns1, Turns2, Turns3, Turns4, Turns5, Turns6, Turns7, Turns8, eq_bif, Option.some.injEq, reduceCtorEq, cond_true, cond_false, Bool.eq_false_iff, ne_eq, inB_iff, decide_eq_true_eq, Bool.and_eq_true, Bool.or_eq_true, Bool.not_eq_true', beq_iff_eq, bne_iff_ne, true_and, and_true, true_implies, implies_true, not_true_eq_false, not_false_eq_true, false_implies, few_iff]
      exact ⟨fun h => absurd h (by omega), fun _ => ⟨_, _, rfl, h⟩⟩
  · refine ⟨by omega, by simp, okB_zeros W_pos _, by rw [val_zeros]; simp [val], fun j _ => getD_zeros _ _⟩
end TimesMag
theorem meets_timesMag : Meets Try.prog 94 ansTimesMag := by
  refine meets_fn noOrc_ok Try.f94 Try.func94 (by kernel_rfl) (fun args r h => ?_)
  unfold ansTimesMag at h
  split at h
  · rename_i a b
    simp only [Option.some.injEq, Prod.mk.injEq, Bool.and_eq_true, few_iff] at h
    obtain ⟨⟨⟨⟨ha, hb⟩, oa⟩, ob⟩, rfl⟩ := h
    obtain ⟨e1, S1, hE1, rfl, x, l, rfl, k1, k2, k3, k4, k5⟩ := TimesMag.outer a b oa ob ha hb
    refine ⟨rfl, _, tabOf_all _, (TimesMag.rest a b l x).trans ?_⟩
    have e1 : IntKind.i64.wrap ((a.length : Int) + (b.length : Int)) = ((a.length + b.length : Nat) : Int) := by rw [w64 (by omega) (by omega)]; omega
    simp only [lands_bif, lands_some, lands_none, Turns1, Turns2, Turns3, Turns4, Turns5, Turns6, Turns7, Turns8, eq_bif, Option.some.injEq, reduceCtorEq, cond_true, cond_false, Bool.eq_false_iff, ne_eq, inB_iff, decide_eq_true_eq, Bool.and_eq_true, Bool.or_eq_true, Bool.not_eq_true', beq_iff_eq, bne_iff_ne, true_and, and_true, true_implies, implies_true, not_true_eq_false, not_false_eq_true, false_implies, few_iff, e1, Int.toNat_natCast, cdec_true hE1]
    rw [show l = timesL a b from dig_eq W_pos k3 k2 (by rw [k4, List.take_of_length_le (Nat.le_refl _)])]
    repeat' (first | apply And.intro | intro _)
    all_goals first | omega | trivial
  · cases h
namespace Scale
def Inv (l : List Int) (m a : Int) (i : Nat) (c : Int) (o : List Int) : Prop :=
  i ≤ l.length ∧ o.length = i ∧ okB 4294967296 o = true ∧ 0 ≤ c ∧ c < 4294967296 ∧ val 4294967296 o + 4294967296 ^ i * c = val 4294967296 (l.take i) * m + a
theorem step (P V S c d c' x m : Int) (h : V + P * c = S) (k : c + x * m = d + 4294967296 * c') : V + P * d + P * 4294967296 * c' = S + P * x * m := by
  grind
theorem loop (l : List Int) (m a : Int) (ol : okB 4294967296 l = true) (hl : l.length ≤ 100000) (hm : 0 ≤ m ∧ m < 4294967296) (ha : 0 ≤ a ∧ a < 4294967296) :
    ∃ e S1, Ends T noOrc L0 D0 (st0 l m a a 0 []) e S1 ∧ (e = .exit 0 ∧ ∃ c x o, S1 = st0 l m a c x o ∧ Inv l m a l.length c o) := by
  refine loop_inv3 (fun c (i : Nat) o => st0 l m a c i o) (fun c i o => Inv l m a i c o) (fun c i o => l.length - i)
    (fun e S1 => e = .exit 0 ∧ ∃ c x o, S1 = st0 l m a c x o ∧ Inv l m a l.length c o) isL0 ?_ a 0 [] ?_
  · intro c i o h
    obtain ⟨h1, h2, h3, h4, h5, h6⟩ := id h
    refine ⟨noTab, noTab_all, lands_of (round0 ..) ?_⟩
    have hx := getD_ok W_pos ol i
    have hp := mul_lt_W hx hm
    simp only [lands_bif, lands_some, lands_none, Turns1, Turns2, Turns3, Turns4, Turns5, Turns6, Turns7, Turns8, eq_bif, Option.some.injEq, reduceCtorEq, cond_true, cond_false, Bool.eq_false_iff, ne_eq, inB_iff, decide_eq_true_eq, Bool.and_eq_true, Bool.or_eq_true, Bool.not_eq_true', beq_iff_eq, bne_iff_ne, true_and, and_true, true_implies, implies_true, not_true_eq_false, not_false_eq_true, false_implies, few_iff, wi_succ (show i < 4611686018427387904 by omega)]
    simp only [rd_toNat, Int.toNat_natCast, wu64_mod, wu32_mod, fdiv32, intOf]
    repeat' (first | apply And.intro | intro _)
    all_goals try omega
    · have em : (l.getD i 0 % 18446744073709551616) * (m % 18446744073709551616) = l.getD i 0 * m := by
        rw [Int.emod_eq_of_lt (by omega) (by omega), Int.emod_eq_of_lt (by omega) (by omega)]
      rw [em]
      generalize hq : l.getD i 0 * m = p at hp
      refine ⟨_, i + 1, _, rfl, ⟨by omega, by simp [h2], okB_app h3 (okB_one (by omega)), by omega, by omega, ?_⟩, by omega⟩
      rw [val_append, val_one, h2, val_take_succ, Int.pow_succ, Int.add_mul]
      have := step (4294967296 ^ i) (val 4294967296 o) _ c _ _ (l.getD i 0) m h6 (show c + l.getD i 0 * m = (c + p) % 18446744073709551616 % 4294967296 + 4294967296 * ((c + p) % 18446744073709551616 / 4294967296) by omega)
      have e3 : p % 18446744073709551616 = p := Int.emod_eq_of_lt (by omega) (by omega)
      rw [e3]
      omega
    · rename_i q1 q2 q3
      rw [List.length_append] at q3
      simp at q3
      omega
    · obtain rfl : i = l.length := by omega
      exact ⟨_, _, _, rfl, h⟩
  · exact ⟨by omega, rfl, rfl, ha.1, ha.2, by simp [val]⟩
end Scale
theorem meets_scale : Meets Try.prog 81 ansScale := by
  refine meets_fn noOrc_ok Try.f81 Try.func81 (by kernel_rfl) (fun args r h => ?_)
  unfold ansScale at h
  split at h
  · rename_i l m a
    simp only [Option.some.injEq, Prod.mk.injEq, Bool.and_eq_true, few_iff, decide_eq_true_eq] at h
    obtain ⟨⟨⟨⟨⟨⟨hl, ol⟩, m1⟩, m2⟩, a1⟩, a2⟩, rfl⟩ := h
    obtain ⟨e1, S1, hE1, rfl, c, x, o, rfl, k1, k2, k3, k4, k5, k6⟩ := Scale.loop l m a ol hl ⟨m1, m2⟩ ⟨a1, a2⟩
    refine ⟨rfl, _, tabOf_all _, (Scale.rest l m a o c x).trans ?_⟩
    rw [List.take_of_length_le (Nat.le_refl _)] at k6
    have hv := val_lt W_pos k3
    have hv0 := val_nonneg W_pos k3
    rw [k2] at hv
    simp only [lands_bif, lands_some, lands_none, Turns1, Turns2, Turns3, Turns4, Turns5, Turns6, Turns7, Turns8, eq_bif, Option.some.injEq, reduceCtorEq, cond_true, cond_false, Bool.eq_false_iff, ne_eq, inB_iff, decide_eq_true_eq, Bool.and_eq_true, Bool.or_eq_true, Bool.not_eq_true', beq_iff_eq, bne_iff_ne, true_and, and_true, true_implies, implies_true, not_true_eq_false, not_false_eq_true, false_implies, few_iff, wi_succ (show l.length < 4611686018427387904 by omega), wu64 a1 (by omega), wu32 k4 (by omega), Int.toNat_natCast, cdec_true hE1, List.length_append, k2, intOf]
    repeat' (first | apply And.intro | intro _)
    all_goals try omega
    · rename_i hc _
      have : ¬ val 4294967296 l * m + a < 4294967296 ^ l.length := by
        have : (4294967296 : Int) ^ l.length * 1 ≤ 4294967296 ^ l.length * c := Int.mul_le_mul_of_nonneg_left (by omega) (Int.pow_nonneg (by decide))
        omega
      unfold scaleL
      rw [decide_eq_false this]
      rw [dig_eq W_pos (okB_app k3 (okB_one ⟨k4, k5⟩)) (n := l.length + 1) (by simp [k2]) (v := val 4294967296 l * m + a) (by rw [val_append, val_one, k2, k6])]
      rfl
    · rename_i hc
      simp at hc
      omega
    · rename_i hc
      obtain rfl : c = 0 := by omega
      rw [Int.mul_zero, Int.add_zero] at k6
      unfold scaleL
      rw [decide_eq_true (by omega)]
      rw [dig_eq W_pos k3 k2 k6]
      rfl
  · cases h
end Go.Abs
end
section
/- What arith's functions over limbs answer: part, left, right; math/bits. -/
namespace Go.Abs
open Go.Proofs Go.Dig
theorem or_nat (w a b k : Nat) (hb : b < 2 ^ k) (ha : 2 ^ k * a + b < 2 ^ w) : (BitVec.ofInt w ((b : Nat) : Int) ||| BitVec.ofInt w ((2 ^ k * a : Nat) : Int)).toNat = b + 2 ^ k * a := by
  rw [BitVec.toNat_or, BitVec.ofInt_natCast, BitVec.ofInt_natCast, BitVec.toNat_ofNat, BitVec.toNat_ofNat, Nat.mod_eq_of_lt (by omega), Nat.mod_eq_of_lt (by omega), Nat.or_comm, ← Nat.two_pow_add_eq_or_of_lt hb, Nat.add_comm]
/-- 'or' of numbers that have no bit together: x below 2^k, y a multiple of it. -/
theorem or64 {x y : Int} (k : Nat) (hx : 0 ≤ x) (hk : x < 2 ^ k) (hy : ∃ a : Int, 0 ≤ a ∧ y = 2 ^ k * a) (hs : x + y < 18446744073709551616) : IntKind.u64.wrap ((BitVec.ofInt 64 x ||| BitVec.ofInt 64 y).toNat : Int) = x + y := by
  obtain ⟨a, ha, rfl⟩ := hy
  obtain ⟨x, rfl⟩ := Int.eq_ofNat_of_zero_le hx
  obtain ⟨a, rfl⟩ := Int.eq_ofNat_of_zero_le ha
  have e1 : ((2 : Int) ^ k * (a : Int)) = ((2 ^ k * a : Nat) : Int) := by rw [Int.natCast_mul, Int.natCast_pow]; rfl
  rw [e1] at hs ⊢
  have hk2 : x < 2 ^ k := by
    have : ((x : Nat) : Int) < ((2 ^ k : Nat) : Int) := by rw [Int.natCast_pow]; exact hk
    omega
  have := or_nat 64 a x k hk2 (by have : (2 : Nat) ^ 64 = 18446744073709551616 := rfl; omega)
  rw [this, wu64 (by omega) (by omega)]
  omega
theorem or64' {x y : Int} (k : Nat) (hx : 0 ≤ x) (hk : x < 2 ^ k) (hy : ∃ a : Int, 0 ≤ a ∧ y = 2 ^ k * a) (hs : x + y < 18446744073709551616) : IntKind.u64.wrap ((BitVec.ofInt 64 y ||| BitVec.ofInt 64 x).toNat : Int) = x + y := by
  rw [BitVec.or_comm]; exact or64 k hx hk hy hs
theorem or32 {x y : Int} (k : Nat) (hx : 0 ≤ x) (hk : x < 2 ^ k) (hy : ∃ a : Int, 0 ≤ a ∧ y = 2 ^ k * a) (hs : x + y < 4294967296) : IntKind.u32.wrap ((BitVec.ofInt 32 x ||| BitVec.ofInt 32 y).toNat : Int) = x + y := by
  obtain ⟨a, ha, rfl⟩ := hy
  obtain ⟨x, rfl⟩ := Int.eq_ofNat_of_zero_le hx
  obtain ⟨a, rfl⟩ := Int.eq_ofNat_of_zero_le ha
  have e1 : ((2 : Int) ^ k * (a : Int)) = ((2 ^ k * a : Nat) : Int) := by rw [Int.natCast_mul, Int.natCast_pow]; rfl
  rw [e1] at hs ⊢
  have hk2 : x < 2 ^ k := by
    have : ((x : Nat) : Int) < ((2 ^ k : Nat) : Int) := by rw [Int.natCast_pow]; exact hk
    omega
  have := or_nat 32 a x k hk2 (by have : (2 : Nat) ^ 32 = 4294967296 := rfl; omega)
  rw [this, wu32 (by omega) (by omega)]
  omega
theorem digN_cons {B : Int} (hB : 0 < B) (k : Nat) (q Q : Int) (h : 0 ≤ q ∧ q < B) : digN B (k + 1) (q + B * Q) = q :: digN B k Q := by
  simp only [digN]
  rw [Int.add_mul_emod_self_left, Int.emod_eq_of_lt h.1 h.2, Int.add_mul_ediv_left _ _ (by omega), Int.ediv_eq_zero_of_lt h.1 h.2, Int.zero_add]
theorem drop_set_cons {α : Type} (l : List α) {i : Nat} (d : α) (h : i < l.length) : (l.set i d).drop i = d :: l.drop (i + 1) := by
  rw [List.drop_eq_getElem_cons (by rw [List.length_set]; exact h), List.getElem_set_self, List.drop_set_of_lt (by omega)]
theorem drop_getD (l : List Int) {i : Nat} (h : i < l.length) : l.drop i = l.getD i 0 :: l.drop (i + 1) := by
  rw [List.drop_eq_getElem_cons h, getD_at h]
theorem okB_drop {B : Int} {l : List Int} (h : okB B l = true) (i : Nat) : okB B (l.drop i) = true := okB_iff.2 fun d hd => okB_iff.1 h d (List.mem_of_mem_drop hd)
namespace Part
def Inv (l : List Int) (m : Int) (i : Nat) (r : Int) (o : List Int) : Prop :=
  i ≤ l.length ∧ o.length = l.length ∧ r = val 4294967296 (l.drop i) % m ∧ o.drop i = digN 4294967296 (l.length - i) (val 4294967296 (l.drop i) / m)
theorem next {l o : List Int} {m r : Int} {i : Nat} (hm : 0 < m ∧ m < 4294967296) (ol : okB 4294967296 l = true) (h : Inv l m (i + 1) r o) (t : Int) (ht : t = r * 4294967296 + l.getD i 0) :
    0 ≤ t / m ∧ t / m < 4294967296 ∧ Inv l m i (t % m) (o.set i (t / m)) := by
  obtain ⟨h1, h2, h3, h4⟩ := h
  have hr0 : 0 ≤ r := by rw [h3]; exact Int.emod_nonneg _ (by omega)
  have hr1 : r < m := by rw [h3]; exact Int.emod_lt_of_pos _ hm.1
  have hx := getD_ok W_pos ol i
  have hv0 := val_nonneg W_pos (okB_drop ol (i + 1))
  have hq1 : t / m < 4294967296 := by
    refine Int.ediv_lt_of_lt_mul hm.1 ?_
    have : (r + 1) * 4294967296 ≤ m * 4294967296 := Int.mul_le_mul_of_nonneg_right (by omega) (by omega)
    rw [Int.mul_comm 4294967296 m]
    omega
  have hq0 : 0 ≤ t / m := Int.ediv_nonneg (by omega) (by omega)
  have e0 : val 4294967296 (l.drop i) = t + m * (4294967296 * (val 4294967296 (l.drop (i + 1)) / m)) := by
    rw [drop_getD l (by omega)]
    simp only [val]
    have h5 := Int.emod_add_mul_ediv (val 4294967296 (l.drop (i + 1))) m
    rw [← h3] at h5
    rw [ht, ← Int.mul_assoc, Int.mul_comm m 4294967296, Int.mul_assoc]
    omega
  refine ⟨hq0, hq1, by omega, by rw [List.length_set]; exact h2, ?_, ?_⟩
  · rw [e0, Int.add_mul_emod_self_left]
  · rw [drop_set_cons o _ (by omega), h4, e0, Int.add_mul_ediv_left _ _ (by omega), show l.length - i = (l.length - (i + 1)) + 1 by omega, digN_cons W_pos _ _ _ ⟨hq0, hq1⟩]
theorem loop (l : List Int) (m : Int) (ol : okB 4294967296 l = true) (hl : l.length ≤ 100000) (hm : 0 < m ∧ m < 4294967296) :
    ∃ e S1, Ends T noOrc L0 D0 (st0 l m 0 ((l.length : Int) - 1) (zeros l.length)) e S1 ∧ (e = .exit 0 ∧ ∃ c x o, S1 = st0 l m c x o ∧ Inv l m 0 c o) := by
  refine loop_inv3 (fun c (i : Nat) o => st0 l m c ((i : Int) - 1) o) (fun c i o => Inv l m i c o) (fun c i o => i)
    (fun e S1 => e = .exit 0 ∧ ∃ c x o, S1 = st0 l m c x o ∧ Inv l m 0 c o) isL0 ?_ 0 l.length (zeros l.length) ?_
  · intro c i o h
    refine ⟨noTab, noTab_all, lands_of (round0 ..) ?_⟩
    cases i with
    | zero =>
      simp only [lands_bif, lands_some, lands_none, Turns1, Turns2, Turns3, Turns4, Turns5, Turns6, Turns7, Turns8, eq_bif, Option.some.injEq, reduceCtorEq, cond_true, cond_false, Bool.eq_false_iff, ne_eq, inB_iff, decide_eq_true_eq, Bool.and_eq_true, Bool.or_eq_true, Bool.not_eq_true', beq_iff_eq, bne_iff_ne, true_and, and_true, true_implies, implies_true, not_true_eq_false, not_false_eq_true, false_implies, few_iff]
      exact ⟨fun h => absurd h (by omega), fun _ => ⟨_, _, _, rfl, h⟩⟩
    | succ i =>
      have e0 : (((i + 1 : Nat) : Int) - 1) = (i : Int) := by omega
      rw [e0]
      obtain ⟨h1, h2, h3, h4⟩ := id h
      have hx := getD_ok W_pos ol i
      have hr0 : 0 ≤ c := by rw [h3]; exact Int.emod_nonneg _ (by omega)
      have hr1 : c < m := by rw [h3]; exact Int.emod_lt_of_pos _ hm.1
      have ew : IntKind.u64.wrap (c * 2 ^ 32) = 2 ^ 32 * c := by rw [wu64 (by omega) (by omega), Int.mul_comm]
      have eo : IntKind.u64.wrap ((BitVec.ofInt 64 (IntKind.u64.wrap (c * 2 ^ 32)) ||| BitVec.ofInt 64 (IntKind.u64.wrap (rd l (i : Int)))).toNat : Int) = c * 4294967296 + l.getD i 0 := by
        rw [ew, rd_toNat, Int.toNat_natCast, wu64 hx.1 (by omega), or64' 32 hx.1 (by omega) ⟨c, hr0, rfl⟩ (by omega)]
        omega
      obtain ⟨n1, n2, n3⟩ := next hm ol h _ rfl
      rw [eo, wu64 (by omega) (by omega : m ≤ 18446744073709551615)]
      rw [Int.tdiv_eq_ediv_of_nonneg (by omega), Int.tmod_eq_emod_of_nonneg (by omega)]
      rw [wu64 n1 (by omega), wu32 n1 (by omega)]
      simp only [lands_bif, lands_some, lands_none, Turns1, Turns2, Turns3, Turns4, Turns5, Turns6, Turns7, Turns8, eq_bif, Option.some.injEq, reduceCtorEq, cond_true, cond_false, Bool.eq_false_iff, ne_eq, inB_iff, decide_eq_true_eq, Bool.and_eq_true, Bool.or_eq_true, Bool.not_eq_true', beq_iff_eq, bne_iff_ne, true_and, and_true, true_implies, implies_true, not_true_eq_false, not_false_eq_true, false_implies, few_iff]
      simp only [Int.toNat_natCast]
      repeat' (first | apply And.intro | intro _)
      all_goals try omega
      · exact ⟨_, i, _, by rw [w64 (by omega) (by omega)], n3, by omega⟩
  · refine ⟨Nat.le_refl _, by simp, ?_, ?_⟩
    · rw [List.drop_length]; simp [val]
    · rw [List.drop_length, List.drop_of_length_le (by simp), Nat.sub_self]; rfl
theorem loop2 (l : List Int) (m x2 x3 : Int) (o : List Int) (hl : o.length ≤ 100000) :
    ∃ e S1, Ends T noOrc L1 D1 (st1 l m x2 x3 o.length o) e S1 ∧ (e = .exit 2 ∧ ∃ k : Nat, S1 = st1 l m x2 x3 k o ∧ k ≤ o.length ∧ o.take k = strip o) := by
  refine loop_inv1 (fun (i : Nat) => st1 l m x2 x3 i o) (fun i => i ≤ o.length ∧ strip (o.take i) = strip o) (fun i => i)
    (fun e S1 => e = .exit 2 ∧ ∃ k : Nat, S1 = st1 l m x2 x3 k o ∧ k ≤ o.length ∧ o.take k = strip o) isL1 ?_ o.length ?_
  · intro i ⟨h1, h2⟩
    refine ⟨noTab, noTab_all, lands_of (round1 ..) ?_⟩
    cases i with
    | zero =>
      simp only [lands_bif, lands_some, lands_none, Turns1, Turns2, Turns3, Turns4, Turns5, Turns6, Turns7, Turns8, eq_bif, Option.some.injEq, reduceCtorEq, cond_true, cond_false, Bool.eq_false_iff, ne_eq, inB_iff, decide_eq_true_eq, Bool.and_eq_true, Bool.or_eq_true, Bool.not_eq_true', beq_iff_eq, bne_iff_ne, true_and, and_true, true_implies, implies_true, not_true_eq_false, not_false_eq_true, false_implies, few_iff]
      refine ⟨fun h => by omega, fun _ => ⟨0, rfl, h1, ?_⟩⟩
      rw [← h2]; rfl
    | succ i =>
      simp only [lands_bif, lands_some, lands_none, Turns1, Turns2, Turns3, Turns4, Turns5, Turns6, Turns7, Turns8, eq_bif, Option.some.injEq, reduceCtorEq, cond_true, cond_false, Bool.eq_false_iff, ne_eq, inB_iff, decide_eq_true_eq, Bool.and_eq_true, Bool.or_eq_true, Bool.not_eq_true', beq_iff_eq, bne_iff_ne, true_and, and_true, true_implies, implies_true, not_true_eq_false, not_false_eq_true, false_implies, few_iff, wi_pred (show i < 4611686018427387904 by omega)]
      simp only [rd_toNat, Int.toNat_natCast]
      repeat' (first | apply And.intro | intro _)
      all_goals try omega
      · rename_i h3
        exact ⟨i, rfl, ⟨by omega, by rw [← h2, take_succ_getD o (by omega), h3, strip_zero]⟩, by omega⟩
      · rename_i h3
        refine ⟨i + 1, rfl, h1, ?_⟩
        rw [← h2, strip_of_last]
        rw [take_succ_getD o (by omega), List.getLast?_append]
        simpa using h3
  · exact ⟨Nat.le_refl _, by rw [List.take_length]⟩
end Part
theorem meets_part : Meets Try.prog 72 ansPart := by
  refine meets_fn noOrc_ok Try.f72 Try.func72 (by kernel_rfl) (fun args r h => ?_)
  unfold ansPart at h
  split at h
  · rename_i l m
    simp only [Option.some.injEq, Prod.mk.injEq, Bool.and_eq_true, few_iff, decide_eq_true_eq] at h
    obtain ⟨⟨⟨⟨hl, ol⟩, m1⟩, m2⟩, rfl⟩ := h
    obtain ⟨e1, S1, hE1, rfl, c, x, o, rfl, k1, k2, k3, k4⟩ := Part.loop l m ol hl ⟨m1, m2⟩
    obtain ⟨e2, S2, hE2, rfl, k, rfl, j1, j2⟩ := Part.loop2 l m c x o (by omega)
    refine ⟨rfl, _, tabOf_all _, (Part.rest l m k o c x).trans ?_⟩
    rw [List.drop_zero] at k3 k4
    have hc0 : 0 ≤ c := by rw [k3]; exact Int.emod_nonneg _ (by omega)
    have hc1 : c < m := by rw [k3]; exact Int.emod_lt_of_pos _ m1
    have hv0 := val_nonneg W_pos ol
    have hv1 := val_lt W_pos ol
    have hq0 : 0 ≤ val 4294967296 l / m := Int.ediv_nonneg hv0 (by omega)
    have hq1 : val 4294967296 l / m < 4294967296 ^ l.length := Int.lt_of_le_of_lt (Int.ediv_le_self _ hv0) hv1
    simp only [lands_bif, lands_some, lands_none, Turns1, Turns2, Turns3, Turns4, Turns5, Turns6, Turns7, Turns8, eq_bif, Option.some.injEq, reduceCtorEq, cond_true, cond_false, Bool.eq_false_iff, ne_eq, inB_iff, decide_eq_true_eq, Bool.and_eq_true, Bool.or_eq_true, Bool.not_eq_true', beq_iff_eq, bne_iff_ne, true_and, and_true, true_implies, implies_true, not_true_eq_false, not_false_eq_true, false_implies, few_iff, w64 (show -9223372036854775808 ≤ (l.length : Int) - 1 by omega) (by omega), Int.toNat_natCast, cdec_true hE1, cdec_true hE2]
    have et : o.take k = limbs 4294967296 (val 4294967296 l / m) := by rw [j2, k4, Nat.sub_zero, List.drop_zero, limbs_of W_two hq0 hq1]
    rw [et, wu32 hc0 (by omega), k3]
    repeat' (first | apply And.intro | intro _)
    all_goals first | omega | trivial
  · cases h
theorem two_pow_31 {s : Nat} (h : s ≤ 31) : (1 : Int) ≤ 2 ^ s ∧ (2 : Int) ^ s ≤ 2147483648 := by
  have h1 : (2 : Int) ^ s * 2 ^ (31 - s) = 2147483648 := by rw [← Int.pow_add, show s + (31 - s) = 31 by omega]; rfl
  have h2 : (0 : Int) < 2 ^ s := Int.pow_pos (by decide)
  have h3 : (0 : Int) < 2 ^ (31 - s) := Int.pow_pos (by decide)
  refine ⟨by omega, ?_⟩
  have : (2 : Int) ^ s * 1 ≤ 2 ^ s * 2 ^ (31 - s) := Int.mul_le_mul_of_nonneg_left (by omega) (by omega)
  omega
theorem two_pow_32 {s : Nat} (h : s ≤ 31) : (2 : Int) ^ s * 2 ^ (32 - s) = 4294967296 := by
  rw [← Int.pow_add, show s + (32 - s) = 32 by omega]; rfl
namespace Left
def Inv (l : List Int) (s : Nat) (i : Nat) (o : List Int) : Prop :=
  i ≤ l.length ∧ o.length = l.length + 1 ∧ okB 4294967296 o = true ∧ val 4294967296 o = val 4294967296 (l.take i) * 2 ^ s ∧ o.getD i 0 < 2 ^ s ∧ ∀ j, i < j → o.getD j 0 = 0
theorem loop (l : List Int) (s : Nat) (ol : okB 4294967296 l = true) (hl : l.length ≤ 100000) (hs : s ≤ 31) :
    ∃ e S1, Ends T noOrc L0 D0 (st0 l s 0 (zeros (l.length + 1))) e S1 ∧ (e = .exit 0 ∧ ∃ x o, S1 = st0 l s x o ∧ Inv l s l.length o) := by
  obtain ⟨p1, p2⟩ := two_pow_31 hs
  refine loop_inv2 (fun (i : Nat) o => st0 l s i o) (fun i o => Inv l s i o) (fun i o => l.length - i)
    (fun e S1 => e = .exit 0 ∧ ∃ x o, S1 = st0 l s x o ∧ Inv l s l.length o) isL0 ?_ 0 (zeros (l.length + 1)) ?_
  · intro i o h
    obtain ⟨h1, h2, h3, h4, h5, h6⟩ := id h
    refine ⟨noTab, noTab_all, lands_of (round0 ..) ?_⟩
    have hx := getD_ok W_pos ol i
    have ho := getD_ok W_pos h3 i
    have em : (2 : Int) ^ (min ((s : Int)).toNat 64) = 2 ^ s := by rw [Int.toNat_natCast, Nat.min_eq_left (by omega)]
    have hm : l.getD i 0 * 2 ^ s ≤ 4294967295 * 2147483648 := Int.mul_le_mul (by omega) p2 (by omega) (by omega)
    have hm0 : 0 ≤ l.getD i 0 * 2 ^ s := Int.mul_nonneg hx.1 (by omega)
    have ew : IntKind.u64.wrap (IntKind.u64.wrap (rd l (i : Int)) * 2 ^ (min ((s : Int)).toNat 64)) = l.getD i 0 * 2 ^ s := by
      rw [em, rd_toNat, Int.toNat_natCast, wu64 hx.1 (by omega), wu64 hm0 (by omega)]
    rw [ew]
    obtain ⟨lo, hlo⟩ : ∃ lo, l.getD i 0 % 2 ^ (32 - s) = lo := ⟨_, rfl⟩
    obtain ⟨hi, hhi⟩ : ∃ hi, l.getD i 0 / 2 ^ (32 - s) = hi := ⟨_, rfl⟩
    have hQ : (0 : Int) < 2 ^ (32 - s) := Int.pow_pos (by decide)
    have h7 := two_pow_32 hs
    have elo : l.getD i 0 * 2 ^ s % 4294967296 = 2 ^ s * lo := by rw [← h7, Int.mul_comm, Int.mul_emod_mul_of_pos _ _ (by omega), hlo]
    have ehi : l.getD i 0 * 2 ^ s / 4294967296 = hi := by rw [← h7, Int.mul_comm, Int.mul_ediv_mul_of_pos _ _ (by omega), hhi]
    have hlo0 : 0 ≤ lo := by rw [← hlo]; exact Int.emod_nonneg _ (by omega)
    have hlo1 : lo < 2 ^ (32 - s) := by rw [← hlo]; exact Int.emod_lt_of_pos _ hQ
    have hhi0 : 0 ≤ hi := by rw [← hhi]; exact Int.ediv_nonneg hx.1 (by omega)
    have hhi1 : hi < 2 ^ s := by rw [← hhi]; exact Int.ediv_lt_of_lt_mul hQ (by rw [h7]; exact hx.2)
    have hlo2 : 2 ^ s * lo ≤ 4294967296 - 2 ^ s := by
      have : (2 : Int) ^ s * (lo + 1) ≤ 2 ^ s * 2 ^ (32 - s) := Int.mul_le_mul_of_nonneg_left (by omega) (by omega)
      rw [h7, Int.mul_add, Int.mul_one] at this
      omega
    have hlo3 : 0 ≤ 2 ^ s * lo := Int.mul_nonneg (by omega) hlo0
    have hsum : l.getD i 0 * 2 ^ s = 2 ^ s * lo + 4294967296 * hi := by
      have := Int.emod_add_mul_ediv (l.getD i 0 * 2 ^ s) 4294967296
      rw [elo, ehi] at this
      omega
    rw [fdiv32, ehi, wu32_mod (l.getD i 0 * 2 ^ s), elo]
    simp only [rd_toNat, Int.toNat_natCast, wi_succ (show i < 4611686018427387904 by omega)]
    rw [getD_set_ne (show i ≠ i + 1 by omega), h6 (i + 1) (by omega), wu32 hhi0 (by omega)]
    rw [or32 s ho.1 h5 ⟨lo, hlo0, rfl⟩ (by omega), or32 (x := 0) (y := hi) 0 (by omega) (by decide) ⟨hi, hhi0, by simp⟩ (by omega), Int.zero_add]
    simp only [lands_bif, lands_some, lands_none, Turns1, Turns2, Turns3, Turns4, Turns5, Turns6, Turns7, Turns8, eq_bif, Option.some.injEq, reduceCtorEq, cond_true, cond_false, Bool.eq_false_iff, ne_eq, inB_iff, decide_eq_true_eq, Bool.and_eq_true, Bool.or_eq_true, Bool.not_eq_true', beq_iff_eq, bne_iff_ne, true_and, and_true, true_implies, implies_true, not_true_eq_false, not_false_eq_true, false_implies, few_iff, List.length_set]
    repeat' (first | apply And.intro | intro _)
    all_goals try omega
    · refine ⟨i + 1, _, rfl, ⟨by omega, by simp [h2], okB_set (okB_set h3 (by omega)) (by omega), ?_, ?_, fun j hj => ?_⟩, by omega⟩
      · rw [val_set _ _ _ _ (by rw [List.length_set]; omega), val_set _ _ _ _ (by omega), getD_set_ne (by omega), h6 (i + 1) (by omega), h4, val_take_succ, Int.add_mul, Int.pow_succ, Int.mul_assoc (4294967296 ^ i) (l.getD i 0), hsum]
        generalize (4294967296 : Int) ^ i = P
        grind
      · rw [getD_set_self (by rw [List.length_set]; omega)]
        exact hhi1
      · rw [getD_set_ne (by omega), getD_set_ne (by omega), h6 j (by omega)]
    · obtain rfl : i = l.length := by omega
      exact ⟨_, _, rfl, h⟩
  · refine ⟨by omega, by simp, okB_zeros W_pos _, by rw [val_zeros]; simp [val], ?_, fun j _ => getD_zeros _ _⟩
    rw [getD_zeros]; omega
end Left
theorem meets_left : Meets Try.prog 100 ansLeft := by
  refine meets_fn noOrc_ok Try.f100 Try.func100 (by kernel_rfl) (fun args r h => ?_)
  unfold ansLeft at h
  split at h
  · rename_i l sh
    simp only [Option.some.injEq, Prod.mk.injEq, Bool.and_eq_true, few_iff, decide_eq_true_eq] at h
    obtain ⟨⟨⟨⟨hl, ol⟩, s1⟩, s2⟩, rfl⟩ := h
    obtain ⟨s, rfl⟩ := Int.eq_ofNat_of_zero_le s1
    obtain ⟨e1, S1, hE1, rfl, x, o, rfl, k1, k2, k3, k4, _⟩ := Left.loop l s ol hl (by omega)
    refine ⟨rfl, _, tabOf_all _, (Left.rest l s o x).trans ?_⟩
    simp only [lands_bif, lands_some, lands_none, Turns1, Turns2, Turns3, Turns4, Turns5, Turns6, Turns7, Turns8, eq_bif, Option.some.injEq, reduceCtorEq, cond_true, cond_false, Bool.eq_false_iff, ne_eq, inB_iff, decide_eq_true_eq, Bool.and_eq_true, Bool.or_eq_true, Bool.not_eq_true', beq_iff_eq, bne_iff_ne, true_and, and_true, true_implies, implies_true, not_true_eq_false, not_false_eq_true, false_implies, few_iff, wi_succ (show l.length < 4611686018427387904 by omega), Int.toNat_natCast, cdec_true hE1]
    rw [show o = leftL l s from dig_eq W_pos k3 k2 (by rw [k4, List.take_of_length_le (Nat.le_refl _), Int.toNat_natCast])]
    repeat' (first | apply And.intro | intro _)
    all_goals first | omega | trivial
  · cases h
theorem digN_succ {B : Int} (hB : 0 < B) (i : Nat) (v : Int) : digN B (i + 1) v = digN B i v ++ [v / B ^ i % B] := by
  rw [digN_add B hB i 1 v]; rfl
theorem val_div {B : Int} (hB : 0 < B) {l : List Int} (h : okB B l = true) {i : Nat} (hi : i ≤ l.length) : val B l / B ^ i = val B (l.drop i) := by
  have e : val B l = val B (l.take i) + B ^ i * val B (l.drop i) := by
    conv => lhs; rw [← List.take_append_drop i l]
    rw [val_append, List.length_take, Nat.min_eq_left hi]
  have h1 := val_lt hB (okB_take h i)
  rw [List.length_take, Nat.min_eq_left hi] at h1
  have h2 := val_nonneg hB (okB_take h i)
  rw [e, Int.add_mul_ediv_left _ _ (by have h3 : 0 < B ^ i := Int.pow_pos hB; omega), Int.ediv_eq_zero_of_lt h2 h1, Int.zero_add]
namespace Right
theorem digit_at {l : List Int} {s i : Nat} (ol : okB 4294967296 l = true) (hs : s ≤ 31) (hi : i < l.length) : (l.getD i 0 + 4294967296 * l.getD (i + 1) 0) / 2 ^ s % 4294967296 = val 4294967296 l / 2 ^ s / 4294967296 ^ i % 4294967296 := by
  obtain ⟨p1, p2⟩ := two_pow_31 hs
  have e1 : val 4294967296 l / 2 ^ s / 4294967296 ^ i = val 4294967296 (l.drop i) / 2 ^ s := by
    rw [Int.ediv_ediv_of_nonneg (by omega), Int.mul_comm, ← Int.ediv_ediv_of_nonneg (Int.pow_nonneg (by decide)), val_div W_pos ol (by omega)]
  have e2 : val 4294967296 (l.drop i) = l.getD i 0 + 4294967296 * l.getD (i + 1) 0 + 2 ^ s * (4294967296 * (2 ^ (32 - s) * val 4294967296 (l.drop (i + 2)))) := by
    have h7 := two_pow_32 hs
    have e3 : val 4294967296 (l.drop (i + 1)) = l.getD (i + 1) 0 + 4294967296 * val 4294967296 (l.drop (i + 2)) := by
      by_cases h : i + 1 < l.length
      · rw [drop_getD l h]; rfl
      · rw [List.drop_of_length_le (by omega), List.drop_of_length_le (by omega), getD_none (by omega)]; simp [val]
    rw [drop_getD l hi]
    simp only [val]
    rw [e3]
    generalize val 4294967296 (l.drop (i + 2)) = V
    have : (2 : Int) ^ s * (4294967296 * (2 ^ (32 - s) * V)) = 4294967296 * (4294967296 * V) := by
      rw [← h7]; grind
    rw [this]
    omega
  rw [e1, e2, Int.add_mul_ediv_left _ _ (by omega), Int.add_mul_emod_self_left]
theorem loop (l : List Int) (s : Nat) (ol : okB 4294967296 l = true) (hl : l.length ≤ 100000) (hs : s ≤ 31) :
    ∃ e S1, Ends T noOrc L0 D0 (st0 l s 0 (zeros l.length)) e S1 ∧ (e = .exit 0 ∧ ∃ x o, S1 = st0 l s x o ∧ o.length = l.length ∧ o.take l.length = digN 4294967296 l.length (val 4294967296 l / 2 ^ s)) := by
  obtain ⟨p1, p2⟩ := two_pow_31 hs
  refine loop_inv2 (fun (i : Nat) o => st0 l s i o) (fun i o => i ≤ l.length ∧ o.length = l.length ∧ o.take i = digN 4294967296 i (val 4294967296 l / 2 ^ s)) (fun i o => l.length - i)
    (fun e S1 => e = .exit 0 ∧ ∃ x o, S1 = st0 l s x o ∧ o.length = l.length ∧ o.take l.length = digN 4294967296 l.length (val 4294967296 l / 2 ^ s)) isL0 ?_ 0 (zeros l.length) ?_
  · intro i o ⟨h1, h2, h3⟩
    refine ⟨noTab, noTab_all, lands_of (round0 ..) ?_⟩
    have hx := getD_ok W_pos ol i
    have hy := getD_ok W_pos ol (i + 1)
    have em : (2 : Int) ^ (min ((s : Int)).toNat 64) = 2 ^ s := by rw [Int.toNat_natCast, Nat.min_eq_left (by omega)]
    have key : i < l.length → ∀ d, d = (l.getD i 0 + 4294967296 * l.getD (i + 1) 0) / 2 ^ s % 4294967296 → (o.set i d).take (i + 1) = digN 4294967296 (i + 1) (val 4294967296 l / 2 ^ s) := by
      intro hi d hd
      rw [take_set_succ o d (by omega), h3, digN_succ W_pos, hd, digit_at ol hs hi]
    have eo : IntKind.u64.wrap ((BitVec.ofInt 64 (IntKind.u64.wrap (rd l (i : Int))) ||| BitVec.ofInt 64 (IntKind.u64.wrap (IntKind.u64.wrap (rd l ((i + 1 : Nat) : Int)) * 2 ^ 32))).toNat : Int) = l.getD i 0 + 4294967296 * l.getD (i + 1) 0 := by
      rw [rd_toNat, rd_toNat, Int.toNat_natCast, Int.toNat_natCast, wu64 hx.1 (by omega), wu64 hy.1 (by omega), wu64 (n := l.getD (i + 1) 0 * 2 ^ 32) (by omega) (by omega), or64 32 hx.1 (by omega) ⟨l.getD (i + 1) 0, hy.1, by rw [Int.mul_comm]⟩ (by omega)]
      omega
    rw [em]
    simp only [lands_bif, lands_some, lands_none, Turns1, Turns2, Turns3, Turns4, Turns5, Turns6, Turns7, Turns8, eq_bif, Option.some.injEq, reduceCtorEq, cond_true, cond_false, Bool.eq_false_iff, ne_eq, inB_iff, decide_eq_true_eq, Bool.and_eq_true, Bool.or_eq_true, Bool.not_eq_true', beq_iff_eq, bne_iff_ne, true_and, and_true, true_implies, implies_true, not_true_eq_false, not_false_eq_true, false_implies, few_iff, wi_succ (show i < 4611686018427387904 by omega), eo, Int.fdiv_eq_ediv_of_nonneg _ (show (0 : Int) ≤ 2 ^ s by omega), wu32_mod]
    simp only [Int.toNat_natCast]
    repeat' (first | apply And.intro | intro _)
    all_goals try omega
    · exact ⟨i + 1, _, rfl, ⟨by omega, by rw [List.length_set]; exact h2, key (by omega) _ rfl⟩, by omega⟩
    · refine ⟨i + 1, _, rfl, ⟨by omega, by rw [List.length_set]; exact h2, key (by omega) _ ?_⟩, by omega⟩
      rw [getD_none (show l.length ≤ i + 1 by omega), rd_toNat, Int.toNat_natCast, wu64 hx.1 (by omega), Int.mul_zero, Int.add_zero]
    · obtain rfl : i = l.length := by omega
      exact ⟨_, _, rfl, h2, h3⟩
  · exact ⟨by omega, by simp, rfl⟩
end Right
theorem meets_right : Meets Try.prog 102 ansRight := by
  refine meets_fn noOrc_ok Try.f102 Try.func102 (by kernel_rfl) (fun args r h => ?_)
  unfold ansRight at h
  split at h
  · rename_i l sh
    simp only [Option.some.injEq, Prod.mk.injEq, Bool.and_eq_true, few_iff, decide_eq_true_eq] at h
    obtain ⟨⟨⟨⟨hl, ol⟩, s1⟩, s2⟩, rfl⟩ := h
    obtain ⟨s, rfl⟩ := Int.eq_ofNat_of_zero_le s1
    obtain ⟨e1, S1, hE1, rfl, x, o, rfl, k1, k2⟩ := Right.loop l s ol hl (by omega)
    refine ⟨rfl, _, tabOf_all _, (Right.rest l s o x).trans ?_⟩
    simp only [lands_bif, lands_some, lands_none, Turns1, Turns2, Turns3, Turns4, Turns5, Turns6, Turns7, Turns8, eq_bif, Option.some.injEq, reduceCtorEq, cond_true, cond_false, Bool.eq_false_iff, ne_eq, inB_iff, decide_eq_true_eq, Bool.and_eq_true, Bool.or_eq_true, Bool.not_eq_true', beq_iff_eq, bne_iff_ne, true_and, and_true, true_implies, implies_true, not_true_eq_false, not_false_eq_true, false_implies, few_iff, Int.toNat_natCast, cdec_true hE1]
    rw [List.take_of_length_le (by omega)] at k2
    rw [show o = rightL l s by rw [k2, rightL, Int.toNat_natCast]]
    repeat' (first | apply And.intro | intro _)
    all_goals first | omega | trivial
  · cases h
end Go.Abs
end
section
/- One digit of a quotient: plain mathematics. -/
namespace Go.Abs
open Go.Dig
namespace KnuthD
/-- The guess is never less than the digit. -/
theorem ge_first {B P U V q v1 v2 Vl s2 top Ul : Int} (hP : 1 ≤ P) (hB : 0 < B) (hq : 0 ≤ q) (h : q * V ≤ U) (hV : V = Vl + P * (v2 + B * v1)) (hVl : 0 ≤ Vl) (hU : U = Ul + P * (s2 + B * top)) (hUl : Ul < P) : q * (v2 + B * v1) ≤ s2 + B * top := by
  refine Int.not_lt.1 (fun hlt => ?_)
  have h1 : q * V = q * Vl + P * (q * (v2 + B * v1)) := by rw [hV]; grind
  have h2 : 0 ≤ q * Vl := Int.mul_nonneg hq hVl
  have h3 : P * (s2 + B * top + 1) ≤ P * (q * (v2 + B * v1)) := Int.mul_le_mul_of_nonneg_left (by omega) (by omega)
  rw [Int.mul_add, Int.mul_one] at h3
  omega
theorem ge_init {B q v1 v2 s2 top : Int} (hB : 0 < B) (hq : 0 ≤ q) (hv2 : 0 ≤ v2) (hs2 : s2 < B) (h : q * (v2 + B * v1) ≤ s2 + B * top) : q * v1 ≤ top := by
  refine Int.not_lt.1 (fun hlt => ?_)
  have h1 : q * (v2 + B * v1) = q * v2 + B * (q * v1) := by grind
  have h2 : 0 ≤ q * v2 := Int.mul_nonneg hq hv2
  have h3 : B * (top + 1) ≤ B * (q * v1) := Int.mul_le_mul_of_nonneg_left (by omega) (by omega)
  rw [Int.mul_add, Int.mul_one] at h3
  omega
theorem ge_step {B q g r v1 v2 s2 top : Int} (hB : 0 < B) (hv1 : 0 < v1) (hv2 : 0 ≤ v2) (hg : g * v1 + r = top) (hgt : r * B + s2 < g * v2) (h : q * (v2 + B * v1) ≤ s2 + B * top) : q ≤ g - 1 := by
  refine Int.not_lt.1 (fun hlt => ?_)
  have h1 : g * (v2 + B * v1) ≤ q * (v2 + B * v1) := Int.mul_le_mul_of_nonneg_right (by omega) (by have := Int.mul_pos hB hv1; omega)
  have h2 : g * (v2 + B * v1) = g * v2 + B * (g * v1) := by grind
  have h3 : B * (g * v1) = B * top - r * B := by rw [← hg]; grind
  omega
/-- Where it breaks off. -/
theorem le_break {B P U V g r v1 v2 Vl s2 top Ul : Int} (hP : 1 ≤ P) (hB : 0 < B) (hg0 : 0 ≤ g) (hgB : g ≤ B) (hg : g * v1 + r = top) (hr : B ≤ r) (hV : V = Vl + P * (v2 + B * v1)) (hVl : Vl < P) (hv2 : v2 < B) (hU : U = Ul + P * (s2 + B * top)) (hUl : 0 ≤ Ul) (hs2 : 0 ≤ s2) : g * V ≤ U := by
  have h1 : P * v2 ≤ P * (B - 1) := Int.mul_le_mul_of_nonneg_left (by omega) (by omega)
  have h2 : V ≤ P * (B * (v1 + 1)) := by
    have : P * (B * (v1 + 1)) = P * (B * v1) + P * B := by grind
    rw [hV, Int.mul_add]
    rw [Int.mul_sub, Int.mul_one] at h1
    omega
  have h3 : g * V ≤ g * (P * (B * (v1 + 1))) := Int.mul_le_mul_of_nonneg_left h2 hg0
  have h4 : g * (P * (B * (v1 + 1))) = P * (B * (g * v1 + g)) := by grind
  have h5 : P * (B * (g * v1 + g)) ≤ P * (B * top) := Int.mul_le_mul_of_nonneg_left (Int.mul_le_mul_of_nonneg_left (by omega) (by omega)) (by omega)
  have h6 : 0 ≤ P * s2 := Int.mul_nonneg (by omega) hs2
  rw [Int.mul_add] at hU
  omega
/-- Where it ends of itself. -/
theorem le_exit {B P U V g r v1 v2 Vl s2 top Ul : Int} (hP : 1 ≤ P) (hB : 0 < B) (hg0 : 0 ≤ g) (hgB : g < B) (hg : g * v1 + r = top) (hle : g * v2 ≤ r * B + s2) (hv1 : 1 ≤ v1) (hv2 : 0 ≤ v2) (hV : V = Vl + P * (v2 + B * v1)) (hVl0 : 0 ≤ Vl) (hVl : Vl < P) (hU : U = Ul + P * (s2 + B * top)) (hUl : 0 ≤ Ul) : g * V < U + V := by
  have h1 : g * (v2 + B * v1) ≤ s2 + B * top := by
    have e1 : g * (v2 + B * v1) = g * v2 + B * (g * v1) := by grind
    have e2 : B * (g * v1) = B * top - r * B := by rw [← hg]; grind
    omega
  have h2 : P * (g * (v2 + B * v1)) ≤ P * (s2 + B * top) := Int.mul_le_mul_of_nonneg_left h1 (by omega)
  have h3 : g * Vl ≤ B * P - P := by
    have : g * Vl ≤ (B - 1) * P := Int.mul_le_mul (by omega) (by omega) hVl0 (by omega)
    rw [Int.sub_mul, Int.one_mul] at this
    exact this
  have h4 : P * (B * 1) ≤ P * (B * v1) := Int.mul_le_mul_of_nonneg_left (Int.mul_le_mul_of_nonneg_left hv1 (by omega)) (by omega)
  have h5 : 0 ≤ P * v2 := Int.mul_nonneg (by omega) hv2
  have h6 : g * V = g * Vl + P * (g * (v2 + B * v1)) := by rw [hV]; grind
  have h7 : V = Vl + P * v2 + P * (B * v1) := by rw [hV]; grind
  rw [Int.mul_one, Int.mul_comm P B] at h4
  omega
end KnuthD
theorem seg_val (B : Int) (l : List Int) (j m : Nat) (h : j + m ≤ l.length) : val B l = val B (l.take j) + B ^ j * val B (seg l j m) + B ^ (j + m) * val B (l.drop (j + m)) := by
  have e : l = l.take j ++ (seg l j m ++ l.drop (j + m)) := by
    unfold seg
    rw [← List.drop_drop, List.take_append_drop, List.take_append_drop]
  conv => lhs; rw [e]
  rw [val_append, val_append, List.length_take, Nat.min_eq_left (by omega)]
  unfold seg
  rw [List.length_take, List.length_drop, Nat.min_eq_left (by omega), Int.mul_add, Int.pow_add, Int.mul_assoc]
  omega
theorem seg_length {l : List Int} {j m : Nat} (h : j + m ≤ l.length) : (seg l j m).length = m := by
  unfold seg; rw [List.length_take, List.length_drop]; omega
theorem okB_seg {B : Int} {l : List Int} (h : okB B l = true) (j m : Nat) : okB B (seg l j m) = true := okB_take (okB_drop h j) m
theorem seg_getD (l : List Int) {j m i : Nat} (h : i < m) : (seg l j m).getD i 0 = l.getD (j + i) 0 := by
  unfold seg
  rw [List.getD_eq_getElem?_getD, List.getElem?_take, if_pos h, List.getElem?_drop, List.getD_eq_getElem?_getD]
/-- The highest two and three digits. -/
theorem val_top2 (B : Int) (l : List Int) {n : Nat} (hl : l.length = n + 2) : val B l = val B (l.take n) + B ^ n * (l.getD n 0 + B * l.getD (n + 1) 0) := by
  have h1 : val B l = val B (l.take (n + 2)) := by rw [List.take_of_length_le (by omega)]
  rw [h1, val_take_succ, val_take_succ, Int.pow_succ, Int.mul_add, Int.mul_assoc]
  omega
theorem val_top3 (B : Int) (l : List Int) {n : Nat} (hl : l.length = n + 3) : val B l = val B (l.take n) + B ^ n * (l.getD n 0 + B * (l.getD (n + 2) 0 * B + l.getD (n + 1) 0)) := by
  have h1 : val B l = val B (l.take (n + 3)) := by rw [List.take_of_length_le (by omega)]
  rw [h1, val_take_succ, val_take_succ, val_take_succ, Int.pow_succ, Int.pow_succ]
  grind
end Go.Abs
end
section
/- What math/bits' functions answer. -/
namespace Go.Abs
open Go.Proofs Go.Dig
theorem meets_add32 : Meets Try.prog 105 ansAdd32 := by
  refine meets_fn noOrc_ok Try.f105 Try.func105 (by kernel_rfl) (fun args r h => ?_)
  unfold ansAdd32 at h
  split at h
  · rename_i x y b
    simp only [Option.some.injEq, Prod.mk.injEq, Bool.and_eq_true, decide_eq_true_eq] at h
    obtain ⟨⟨⟨⟨⟨⟨x1, x2⟩, y1⟩, y2⟩, b1⟩, b2⟩, rfl⟩ := h
    refine ⟨rfl, _, noTab_all, (Add32.rest x y b).trans ?_⟩
    rw [wu64 x1 (by omega), wu64 y1 (by omega), wu64 b1 (by omega), wu64 (n := x + y) (by omega) (by omega), wu64 (n := x + y + b) (by omega) (by omega), fdiv32, wu32_mod, wu32_mod]
    have : (x + y + b) / 4294967296 % 4294967296 = b2i (decide (4294967296 ≤ x + y + b)) := by
      unfold b2i
      by_cases h : 4294967296 ≤ x + y + b
      · rw [decide_eq_true h]; simp only [cond_true]; omega
      · rw [decide_eq_false h]; simp only [cond_false]; omega
    rw [this]
  · cases h
theorem ofInt_wrap (Z : BitVec 32) : BitVec.ofInt 32 (IntKind.u32.wrap (Z.toNat : Int)) = Z := by
  have := Z.isLt
  rw [wu32 (by omega) (by omega), BitVec.ofInt_natCast, BitVec.ofNat_toNat, BitVec.setWidth_eq]
theorem msb_ofInt {x : Int} (h0 : 0 ≤ x) (h1 : x < 4294967296) : (BitVec.ofInt 32 x).msb = decide (2147483648 ≤ x) := by
  obtain ⟨x, rfl⟩ := Int.eq_ofNat_of_zero_le h0
  rw [BitVec.msb_eq_decide, BitVec.ofInt_natCast, BitVec.toNat_ofNat, Nat.mod_eq_of_lt (by omega)]
  exact decide_eq_decide.2 (by omega)
theorem top_bit (Z : BitVec 32) : (IntKind.u32.wrap (Z.toNat : Int)).fdiv (2 ^ 31) = b2i Z.msb := by
  have := Z.isLt
  rw [wu32 (by omega) (by omega), Int.fdiv_eq_ediv_of_nonneg _ (by decide), BitVec.msb_eq_decide]
  unfold b2i
  by_cases h : 2 ^ (32 - 1) ≤ Z.toNat
  · rw [decide_eq_true h]; simp only [cond_true]; omega
  · rw [decide_eq_false h]; simp only [cond_false]; omega
theorem meets_sub32 : Meets Try.prog 104 ansSub32 := by
  refine meets_fn noOrc_ok Try.f104 Try.func104 (by kernel_rfl) (fun args r h => ?_)
  unfold ansSub32 at h
  split at h
  · rename_i x y b
    simp only [Option.some.injEq, Prod.mk.injEq, Bool.and_eq_true, decide_eq_true_eq] at h
    obtain ⟨⟨⟨⟨⟨⟨x1, x2⟩, y1⟩, y2⟩, b1⟩, b2⟩, rfl⟩ := h
    refine ⟨rfl, _, noTab_all, (Sub32.rest x y b).trans ?_⟩
    have ed : IntKind.u32.wrap (IntKind.u32.wrap (x - y) - b) = (x - y - b) % 4294967296 := by rw [wu32_mod, wu32_mod]; omega
    have em : (bif false then (-1 : Int) else IntKind.u32.max) = 4294967295 := rfl
    rw [ed, em]
    generalize hd : (x - y - b) % 4294967296 = d
    have d1 : 0 ≤ d := by omega
    have d2 : d < 4294967296 := by omega
    simp only [ofInt_wrap, top_bit, BitVec.msb_or, BitVec.msb_and, BitVec.msb_xor]
    rw [msb_ofInt x1 x2, msb_ofInt y1 y2, msb_ofInt d1 d2, msb_ofInt (by omega) (by omega)]
    have : (((decide ((2147483648 : Int) ≤ 4294967295) ^^ decide (2147483648 ≤ x)) && decide (2147483648 ≤ y)) || ((decide ((2147483648 : Int) ≤ 4294967295) ^^ (decide (2147483648 ≤ x) ^^ decide (2147483648 ≤ y))) && decide (2147483648 ≤ d))) = decide (x < y + b) := by
      rw [show decide ((2147483648 : Int) ≤ 4294967295) = true from rfl]
      by_cases hx : 2147483648 ≤ x <;> by_cases hy : 2147483648 ≤ y <;> by_cases hdd : 2147483648 ≤ d <;> by_cases hl : x < y + b <;> simp [hx, hy, hdd, hl] <;> omega
    rw [this]
  · cases h
theorem blen_eq {n : Int} (h : 0 < n) {k : Nat} (h1 : 2 ^ k ≤ n) (h2 : n < 2 ^ (k + 1)) : blen n = (k : Int) + 1 := by
  obtain ⟨n, rfl⟩ := Int.eq_ofNat_of_zero_le (Int.le_of_lt h)
  unfold blen
  rw [if_neg (by omega), Int.toNat_natCast]
  have e1 : ((2 ^ k : Nat) : Int) = 2 ^ k := Int.natCast_pow ..
  have e2 : ((2 ^ (k + 1) : Nat) : Int) = 2 ^ (k + 1) := Int.natCast_pow ..
  have : n.log2 = k := (Nat.log2_eq_iff (by omega)).2 ⟨by omega, by omega⟩
  rw [this]
theorem blen_pow {n : Int} (h : 0 < n) : 0 < blen n ∧ 2 ^ (blen n - 1).toNat ≤ n ∧ n < 2 ^ (blen n).toNat := by
  obtain ⟨n, rfl⟩ := Int.eq_ofNat_of_zero_le (Int.le_of_lt h)
  unfold blen
  rw [if_neg (by omega), Int.toNat_natCast]
  have hn : n ≠ 0 := by omega
  obtain ⟨h1, h2⟩ := (Nat.log2_eq_iff hn).1 rfl
  have e1 : ((2 ^ n.log2 : Nat) : Int) = 2 ^ n.log2 := Int.natCast_pow ..
  have e2 : ((2 ^ (n.log2 + 1) : Nat) : Int) = 2 ^ (n.log2 + 1) := Int.natCast_pow ..
  refine ⟨by omega, ?_, ?_⟩
  · rw [show ((n.log2 : Int) + 1 - 1).toNat = n.log2 by omega]; omega
  · rw [show ((n.log2 : Int) + 1).toNat = n.log2 + 1 by omega]; omega
theorem blen_shift {n : Int} (k : Nat) (h : 2 ^ k ≤ n) : blen n = k + blen (n / 2 ^ k) := by
  have hp : (0 : Int) < 2 ^ k := Int.pow_pos (by decide)
  have hq : 1 ≤ n / 2 ^ k := (Int.le_ediv_iff_mul_le hp).2 (by omega)
  obtain ⟨h1, h2, h3⟩ := blen_pow (show 0 < n / 2 ^ k by omega)
  generalize hb : blen (n / 2 ^ k) = b at *
  have h4 : (2 : Int) ^ ((b - 1).toNat) * 2 ^ k ≤ n := (Int.le_ediv_iff_mul_le hp).1 h2
  have h5 : n < 2 ^ b.toNat * 2 ^ k := (Int.ediv_lt_iff_lt_mul hp).1 h3
  rw [← Int.pow_add] at h4 h5
  rw [blen_eq (k := (b - 1).toNat + k) (by omega) h4 (by rw [show (b - 1).toNat + k + 1 = b.toNat + k by omega]; exact h5)]
  omega
theorem len32_of (n : Int) (h0 : 0 ≤ n) (h1 : n < 4294967296) (tab : ByteArray) (ht : ∀ x : Nat, x < 256 → bt tab (x : Int) = blen x) :
    (bif decide (n ≥ 65536) then (bif decide (n.fdiv (2 ^ 16) ≥ 256) then (bif inB (IntKind.u8.wrap ((n.fdiv (2 ^ 16)).fdiv (2 ^ 8))) 256 then some (Res.val (.int .i64 (IntKind.i64.wrap (IntKind.i64.wrap (16 + 8) + IntKind.i64.wrap (bt tab (IntKind.u8.wrap ((n.fdiv (2 ^ 16)).fdiv (2 ^ 8)))))))) else none) else (bif inB (IntKind.u8.wrap (n.fdiv (2 ^ 16))) 256 then some (Res.val (.int .i64 (IntKind.i64.wrap (16 + IntKind.i64.wrap (bt tab (IntKind.u8.wrap (n.fdiv (2 ^ 16)))))))) else none)) else (bif decide (n ≥ 256) then (bif inB (IntKind.u8.wrap (n.fdiv (2 ^ 8))) 256 then some (Res.val (.int .i64 (IntKind.i64.wrap (IntKind.i64.wrap (0 + 8) + IntKind.i64.wrap (bt tab (IntKind.u8.wrap (n.fdiv (2 ^ 8)))))))) else none) else (bif inB (IntKind.u8.wrap n) 256 then some (Res.val (.int .i64 (IntKind.i64.wrap (0 + IntKind.i64.wrap (bt tab (IntKind.u8.wrap n)))))) else none))) = some (Res.val (.int .i64 (blen n))) := by
  have w8 : ∀ x : Int, 0 ≤ x → x < 256 → IntKind.u8.wrap x = x := fun x a b => IntWalk.u8_in x ⟨a, by omega⟩
  have e16 : n.fdiv (2 ^ 16) = n / 65536 := Int.fdiv_eq_ediv_of_nonneg n (by decide)
  have e8 : n.fdiv (2 ^ 8) = n / 256 := Int.fdiv_eq_ediv_of_nonneg n (by decide)
  have e24 : (n / 65536).fdiv (2 ^ 8) = n / 65536 / 256 := Int.fdiv_eq_ediv_of_nonneg _ (by decide)
  have hb : ∀ x : Int, 0 ≤ x → x < 256 → bt tab x = blen x ∧ 0 ≤ blen x ∧ blen x ≤ 8 := by
    intro x hx0 hx1
    obtain ⟨x, rfl⟩ := Int.eq_ofNat_of_zero_le hx0
    refine ⟨ht x (by omega), ?_⟩
    have : ((List.range 256).all fun x => decide (0 ≤ blen (x : Nat)) && decide (blen (x : Nat) ≤ 8)) = true := by kernel_rfl
    have := List.all_eq_true.1 this x (List.mem_range.2 (by omega))
    simpa using this
  rw [e16, e8, e24, show IntKind.i64.wrap (16 + 8) = 24 from rfl, show IntKind.i64.wrap (0 + 8) = 8 from rfl]
  by_cases c1 : n ≥ 65536
  · rw [decide_eq_true c1]
    have s1 := blen_shift (n := n) 16 (by omega)
    have s1 : blen n = 16 + blen (n / 65536) := s1
    by_cases c2 : n / 65536 ≥ 256
    · have s2 := blen_shift (n := n / 65536) 8 (by omega)
      have s2 : blen (n / 65536) = 8 + blen (n / 65536 / 256) := s2
      obtain ⟨q1, q2, q3⟩ := hb (n / 65536 / 256) (by omega) (by omega)
      rw [decide_eq_true c2]
      simp only [cond_true]
      rw [w8 (n / 65536 / 256) (by omega) (by omega), bT (inB_iff.2 (by omega)), q1, w64 (n := blen (n / 65536 / 256)) (by omega) (by omega), w64 (by omega) (by omega), s1, s2]
      congr 3
      omega
    · obtain ⟨q1, q2, q3⟩ := hb (n / 65536) (by omega) (by omega)
      rw [decide_eq_false c2]
      simp only [cond_true, cond_false]
      rw [w8 (n / 65536) (by omega) (by omega), bT (inB_iff.2 (by omega)), q1, w64 (n := blen (n / 65536)) (by omega) (by omega), w64 (by omega) (by omega), s1]
  · rw [decide_eq_false c1]
    by_cases c2 : n ≥ 256
    · have s2 := blen_shift (n := n) 8 (by omega)
      have s2 : blen n = 8 + blen (n / 256) := s2
      obtain ⟨q1, q2, q3⟩ := hb (n / 256) (by omega) (by omega)
      rw [decide_eq_true c2]
      simp only [cond_true, cond_false]
      rw [w8 (n / 256) (by omega) (by omega), bT (inB_iff.2 (by omega)), q1, w64 (n := blen (n / 256)) (by omega) (by omega), w64 (by omega) (by omega), s2]
    · obtain ⟨q1, q2, q3⟩ := hb n (by omega) (by omega)
      rw [decide_eq_false c2]
      simp only [cond_false]
      rw [w8 n (by omega) (by omega), bT (inB_iff.2 (by omega)), q1, w64 (n := blen n) (by omega) (by omega), w64 (by omega) (by omega), Int.zero_add]
theorem meets_len32 : Meets Try.prog 103 ansLen32 := by
  refine meets_fn noOrc_ok Try.f103 Try.func103 (by kernel_rfl) (fun args r h => ?_)
  unfold ansLen32 at h
  split at h
  · rename_i n
    simp only [Option.some.injEq, Prod.mk.injEq, Bool.and_eq_true, decide_eq_true_eq] at h
    obtain ⟨⟨h1, h2⟩, rfl⟩ := h
    refine ⟨rfl, _, noTab_all, (Len32.rest n).trans (len32_of n h1 h2 _ (fun x hx => ?_))⟩
    refine of_decide_eq_true (List.all_eq_true.1 (show ((List.range 256).all fun x => decide (bt _ (x : Nat) = blen (x : Nat))) = true from ?_) x (List.mem_range.2 hx))
    kernel_rfl
  · cases h
theorem meets_lz32 : Meets Try.prog 99 ansLz32 := by
  refine meets_fn (orc_ok (l := Lz32.ans) ⟨meets_len32, trivial⟩) Try.f99 Try.func99 (by kernel_rfl) (fun args r h => ?_)
  unfold ansLz32 at h
  split at h
  · rename_i n
    simp only [Option.some.injEq, Prod.mk.injEq, Bool.and_eq_true, decide_eq_true_eq] at h
    obtain ⟨⟨h1, h2⟩, rfl⟩ := h
    refine ⟨rfl, _, noTab_all, (Lz32.rest n).trans ?_⟩
    have hb : 0 ≤ blen n ∧ blen n ≤ 32 := by
      by_cases h : n = 0
      · rw [h]; decide
      · obtain ⟨b1, b2, b3⟩ := blen_pow (show 0 < n by omega)
        refine ⟨by omega, ?_⟩
        refine Int.not_lt.1 (fun hgt => ?_)
        have : (2 : Int) ^ 32 ≤ 2 ^ (blen n - 1).toNat := by
          obtain ⟨k, hk⟩ : ∃ k, (blen n - 1).toNat = 32 + k := ⟨(blen n - 1).toNat - 32, by omega⟩
          rw [hk, Int.pow_add]
          have : (0 : Int) < 2 ^ k := Int.pow_pos (by decide)
          have h6 : (2 : Int) ^ 32 * 1 ≤ 2 ^ 32 * 2 ^ k := Int.mul_le_mul_of_nonneg_left (by omega) (by decide)
          omega
        have e : (2 : Int) ^ 32 = 4294967296 := rfl
        omega
    rw [decide_eq_true h1, decide_eq_true h2, w64 (by omega) (by omega)]
    rfl
  · cases h
end Go.Abs
end
section
/- What arith.digit answers. -/
namespace Go.Abs
open Go.Proofs Go.Dig
namespace Digit
/-- What is asked of the row, the divisor and the place. -/
structure Pre (u v : List Int) (j n : Nat) : Prop where
  ou : okB 4294967296 u = true
  ov : okB 4294967296 v = true
  lu : u.length ≤ 100000
  hn : v.length = n + 2
  hj : j + (n + 3) ≤ u.length
  top : 2147483648 ≤ v.getD (n + 1) 0
  lt : val 4294967296 (seg u j (n + 3)) < 4294967296 * val 4294967296 v
abbrev U (u : List Int) (j n : Nat) : Int := val 4294967296 (seg u j (n + 3))
abbrev V (v : List Int) : Int := val 4294967296 v
abbrev tp (u : List Int) (j n : Nat) : Int := u.getD (j + (n + 2)) 0 * 4294967296 + u.getD (j + (n + 1)) 0
section
variable {u v : List Int} {j n : Nat}
theorem Pre.V_eq (h : Pre u v j n) : V v = val 4294967296 (v.take n) + 4294967296 ^ n * (v.getD n 0 + 4294967296 * v.getD (n + 1) 0) := val_top2 _ _ h.hn
theorem Pre.U_eq (h : Pre u v j n) : U u j n = val 4294967296 ((seg u j (n + 3)).take n) + 4294967296 ^ n * (u.getD (j + n) 0 + 4294967296 * tp u j n) := by
  unfold U tp
  rw [val_top3 4294967296 (seg u j (n + 3)) (seg_length h.hj), seg_getD u (by omega : n < n + 3), seg_getD u (by omega : n + 1 < n + 3), seg_getD u (by omega : n + 2 < n + 3)]
theorem Pre.V_lo (h : Pre u v j n) : 0 ≤ val 4294967296 (v.take n) ∧ val 4294967296 (v.take n) < 4294967296 ^ n := by
  have h1 := val_lt W_pos (okB_take h.ov n)
  rw [List.length_take, Nat.min_eq_left (by have := h.hn; omega)] at h1
  exact ⟨val_nonneg W_pos (okB_take h.ov n), h1⟩
theorem Pre.U_lo (h : Pre u v j n) : 0 ≤ val 4294967296 ((seg u j (n + 3)).take n) ∧ val 4294967296 ((seg u j (n + 3)).take n) < 4294967296 ^ n := by
  have ok := okB_take (okB_seg h.ou j (n + 3)) n
  have h1 := val_lt W_pos ok
  rw [List.length_take, seg_length h.hj, Nat.min_eq_left (by omega)] at h1
  exact ⟨val_nonneg W_pos ok, h1⟩
theorem pow_pos1 (n : Nat) : (1 : Int) ≤ 4294967296 ^ n := by
  have : (0 : Int) < 4294967296 ^ n := Int.pow_pos (by decide)
  omega
theorem Pre.V_pos (h : Pre u v j n) : 0 < V v := by
  rw [h.V_eq]
  have h1 := h.V_lo.1
  have h2 := h.top
  have h3 := (getD_ok W_pos h.ov n).1
  have := Int.mul_pos (show (0 : Int) < 4294967296 ^ n by have := pow_pos1 n; omega) (show 0 < v.getD n 0 + 4294967296 * v.getD (n + 1) 0 by omega)
  omega
theorem Pre.q_le (h : Pre u v j n) : 0 ≤ U u j n / V v ∧ U u j n / V v * V v ≤ U u j n ∧ U u j n < (U u j n / V v + 1) * V v := by
  have h0 : 0 ≤ U u j n := val_nonneg W_pos (okB_seg h.ou _ _)
  have h1 := h.V_pos
  refine ⟨Int.ediv_nonneg h0 (by omega), Int.ediv_mul_le _ (by omega), ?_⟩
  exact Int.lt_mul_of_ediv_lt h1 (by omega)
theorem Pre.q_lt (h : Pre u v j n) : U u j n / V v < 4294967296 := Int.ediv_lt_of_lt_mul h.V_pos h.lt
/-- The guess as it goes down. -/
def InvG (u v : List Int) (j n : Nat) (g r : Int) : Prop :=
  0 ≤ g ∧ g ≤ 4294967297 ∧ g * v.getD (n + 1) 0 + r = tp u j n ∧ 0 ≤ r ∧ r < 4294967296 ∧ U u j n / V v ≤ g
def PostG (u v : List Int) (j n : Nat) (g : Int) : Prop := 0 ≤ g ∧ g < 4294967296 ∧ U u j n / V v ≤ g ∧ g * V v < U u j n + V v
theorem Pre.dec (h : Pre u v j n) {g r : Int} (hI : InvG u v j n g r) (hg : U u j n / V v ≤ g - 1) :
    (r + v.getD (n + 1) 0 < 4294967296 → InvG u v j n (g - 1) (r + v.getD (n + 1) 0)) ∧ (4294967296 ≤ r + v.getD (n + 1) 0 → PostG u v j n (g - 1)) := by
  obtain ⟨g0, g1, g2, g3, g4, g5⟩ := hI
  have ht := h.top
  have hv1 := getD_ok W_pos h.ov (n + 1)
  have e : (g - 1) * v.getD (n + 1) 0 + (r + v.getD (n + 1) 0) = tp u j n := by rw [Int.sub_mul, Int.one_mul]; omega
  have hq := h.q_le.1
  refine ⟨fun hr => ⟨by omega, by omega, e, by omega, hr, hg⟩, fun hr => ?_⟩
  have hle := KnuthD.le_break (pow_pos1 n) W_pos (show 0 ≤ g - 1 by omega) (by omega) e hr h.V_eq h.V_lo.2 (getD_ok W_pos h.ov n).2 h.U_eq h.U_lo.1 (getD_ok W_pos h.ou (j + n)).1
  have hV := h.V_pos
  refine ⟨by omega, ?_, hg, by omega⟩
  refine Int.not_le.1 (fun hge => ?_)
  have h1 : 4294967296 * V v ≤ (g - 1) * V v := Int.mul_le_mul_of_nonneg_right hge (by omega)
  have h2 : U u j n < 4294967296 * V v := h.lt
  omega
theorem Pre.ix (h : Pre u v j n) : IntKind.i64.wrap ((j : Int) + ((n + 2 : Nat) : Int)) = ((j + (n + 2) : Nat) : Int) ∧ IntKind.i64.wrap (((j + (n + 2) : Nat) : Int) - 1) = ((j + (n + 1) : Nat) : Int) ∧ IntKind.i64.wrap (((j + (n + 2) : Nat) : Int) - 2) = ((j + n : Nat) : Int) ∧ IntKind.i64.wrap (((n + 2 : Nat) : Int) - 1) = ((n + 1 : Nat) : Int) ∧ IntKind.i64.wrap (((n + 2 : Nat) : Int) - 2) = (n : Int) := by
  have h1 := h.hj
  have h2 := h.lu
  refine ⟨?_, ?_, ?_, ?_, ?_⟩ <;> rw [w64 (by omega) (by omega)] <;> omega
theorem guess (h : Pre u v j n) (g r : Int) (hI : InvG u v j n g r) :
    ∃ e S1, Ends T orc L0 D0 (st0 v j (n + 2 : Nat) u g r) e S1 ∧ (e = .exit 0 ∧ ∃ g r, S1 = st0 v j (n + 2 : Nat) u g r ∧ PostG u v j n g) := by
  refine loop_inv2 (fun g r => st0 v j (n + 2 : Nat) u g r) (fun g r => InvG u v j n g r) (fun g r => g.toNat)
    (fun e S1 => e = .exit 0 ∧ ∃ g r, S1 = st0 v j (n + 2 : Nat) u g r ∧ PostG u v j n g) isL0 ?_ g r hI
  intro g r hI
  obtain ⟨g0, g1, g2, g3, g4, g5⟩ := id hI
  have hq := h.q_le.1
  have hql := h.q_lt
  have hv1 := getD_ok W_pos h.ov (n + 1)
  have hv2 := getD_ok W_pos h.ov n
  have hu2 := getD_ok W_pos h.ou (j + n)
  have ht := h.top
  have hn := h.hn
  have hj := h.hj
  obtain ⟨i1, i2, i3, i4, i5⟩ := h.ix
  have hA := KnuthD.ge_first (pow_pos1 n) W_pos hq h.q_le.2.1 h.V_eq h.V_lo.1 h.U_eq h.U_lo.2
  refine ⟨noTab, noTab_all, lands_of (round0 ..) ?_⟩
  have eo : IntKind.u64.wrap ((BitVec.ofInt 64 (IntKind.u64.wrap (r * 2 ^ 32)) ||| BitVec.ofInt 64 (IntKind.u64.wrap (rd u ((j + n : Nat) : Int)))).toNat : Int) = r * 4294967296 + u.getD (j + n) 0 := by
    rw [rd_toNat, Int.toNat_natCast, wu64 hu2.1 (by omega), wu64 (n := r * 2 ^ 32) (by omega) (by omega), or64' 32 hu2.1 (by omega) ⟨r, g3, by rw [Int.mul_comm]⟩ (by omega)]
    omega
  have e1 : IntKind.u64.wrap (rd v ((n + 1 : Nat) : Int)) = v.getD (n + 1) 0 := by rw [rd_toNat, Int.toNat_natCast, wu64 hv1.1 (by omega)]
  have e2 : IntKind.u64.wrap (rd v (n : Int)) = v.getD n 0 := by rw [rd_toNat, Int.toNat_natCast, wu64 hv2.1 (by omega)]
  simp only [lands_bif, lands_some, lands_none, Turns1, Turns2, Turns3, Turns4, Turns5, Turns6, Turns7, Turns8, eq_bif, Option.some.injEq, reduceCtorEq, cond_true, cond_false, Bool.eq_false_iff, ne_eq, inB_iff, decide_eq_true_eq, Bool.and_eq_true, Bool.or_eq_true, Bool.not_eq_true', beq_iff_eq, bne_iff_ne, true_and, and_true, true_implies, implies_true, not_true_eq_false, not_false_eq_true, false_implies, few_iff, i1, i2, i3, i4, i5, eo, e1, e2]
  have er : IntKind.u64.wrap (r + v.getD (n + 1) 0) = r + v.getD (n + 1) 0 := wu64 (by omega) (by omega)
  rw [er]
  have down : U u j n / V v ≤ g - 1 → (4294967296 ≤ r + v.getD (n + 1) 0 → ∃ g1 r1, st0 v j (n + 2 : Nat) u (IntKind.u64.wrap (g - 1)) (r + v.getD (n + 1) 0) = st0 v j (n + 2 : Nat) u g1 r1 ∧ PostG u v j n g1) ∧ (¬ 4294967296 ≤ r + v.getD (n + 1) 0 → ∃ u0 u1, st0 v j (n + 2 : Nat) u (IntKind.u64.wrap (g - 1)) (r + v.getD (n + 1) 0) = st0 v j (n + 2 : Nat) u u0 u1 ∧ InvG u v j n u0 u1 ∧ u0.toNat < g.toNat) := by
    intro hd
    obtain ⟨d1, d2⟩ := h.dec hI hd
    rw [wu64 (n := g - 1) (by omega) (by omega)]
    exact ⟨fun hr => ⟨_, _, rfl, d2 hr⟩, fun hr => ⟨_, _, rfl, d1 (by omega), by omega⟩⟩
  refine ⟨fun hg => ⟨fun _ => ?_, fun hx => hx (by omega)⟩, fun hg => ⟨fun _ => ⟨fun _ => ⟨fun hc => ⟨fun _ => ?_, fun hx => hx (by omega)⟩, fun hc => ?_⟩, fun hx => hx (by omega)⟩, fun hx => hx (by omega)⟩⟩
  · exact down (by omega)
  · have hm := mul_lt_W ⟨g0, by omega⟩ hv2
    rw [wu64 hm.1 (by omega)] at hc
    exact down (KnuthD.ge_step W_pos (by omega) hv2.1 g2 hc hA)
  · have hm := mul_lt_W ⟨g0, by omega⟩ hv2
    rw [wu64 hm.1 (by omega)] at hc
    refine ⟨_, _, rfl, g0, by omega, g5, ?_⟩
    exact KnuthD.le_exit (pow_pos1 n) W_pos g0 (by omega) g2 (by omega) (by omega) hv2.1 h.V_eq h.V_lo.1 h.V_lo.2 h.U_eq h.U_lo.1
/-- The row while it is made less. -/
def InvS (u v : List Int) (j n : Nat) (g : Int) (c b : Int) (i : Nat) (l : List Int) : Prop :=
  i ≤ n + 2 ∧ l.length = u.length ∧ okB 4294967296 l = true ∧ l.take j = u.take j ∧ l.drop (j + (n + 3)) = u.drop (j + (n + 3)) ∧ 0 ≤ c ∧ c < 4294967296 ∧ 0 ≤ b ∧ b ≤ 1 ∧
  val 4294967296 l = val 4294967296 u - 4294967296 ^ j * (g * val 4294967296 (v.take i)) + 4294967296 ^ (i + j) * (c + b)
theorem step_sub (A Q P L g w c b x y d c' b' lo Pk : Int) (h : L = A - Q * (g * w) + P * (c + b)) (hP : P = Q * Pk) (hlo : c + g * y = lo + 4294967296 * c') (hd : x - lo - b = d - 4294967296 * b') :
    L + P * (d - x) = A - Q * (g * (w + Pk * y)) + P * 4294967296 * (c' + b') := by
  have : d = x - lo - b + 4294967296 * b' := by omega
  have h2 : lo = c + g * y - 4294967296 * c' := by omega
  subst this
  subst h2
  subst hP
  grind
theorem set_same {l : List Int} {i m : Nat} {d : Int} (j : Nat) (h1 : j ≤ i) (h2 : i < j + m) : (l.set i d).take j = l.take j ∧ (l.set i d).drop (j + m) = l.drop (j + m) :=
  ⟨List.take_set_of_le h1, List.drop_set_of_lt h2⟩
theorem subLoop (h : Pre u v j n) (g r : Int) (hg : 0 ≤ g ∧ g < 4294967296) :
    ∃ e S1, Ends T orc L1 D1 (st1 v j (n + 2 : Nat) u g r 0 0 0 u) e S1 ∧ (e = .exit 2 ∧ ∃ c b x l, S1 = st1 v j (n + 2 : Nat) u g r c b x l ∧ InvS u v j n g c b (n + 2) l) := by
  refine loop_inv4 (fun c b (i : Nat) l => st1 v j (n + 2 : Nat) u g r c b i l) (fun c b i l => InvS u v j n g c b i l) (fun c b i l => n + 2 - i)
    (fun e S1 => e = .exit 2 ∧ ∃ c b x l, S1 = st1 v j (n + 2 : Nat) u g r c b x l ∧ InvS u v j n g c b (n + 2) l) isL1 ?_ 0 0 0 u ?_
  · intro c b i l hI
    obtain ⟨h1, h2, h3, h4, h5, h6, h7, h8, h9, h10⟩ := id hI
    have hn := h.hn
    have hj := h.hj
    have hlu := h.lu
    have hx := getD_ok W_pos h3 (i + j)
    have hy := getD_ok W_pos h.ov i
    have hp := mul_lt_W hg hy
    have ei : IntKind.i64.wrap ((i : Int) + (j : Int)) = ((i + j : Nat) : Int) := by rw [w64 (by omega) (by omega)]; omega
    refine ⟨noTab, noTab_all, lands_of (round1 ..) ?_⟩
    have e1 : IntKind.u64.wrap (c + IntKind.u64.wrap (g * IntKind.u64.wrap (rd v (i : Int)))) = c + g * v.getD i 0 := by
      rw [rd_toNat, Int.toNat_natCast, wu64 hy.1 (by omega), wu64 hp.1 (by omega), wu64 (by omega) (by omega)]
    rw [e1, ei]
    obtain ⟨t, ht⟩ : ∃ t, c + g * v.getD i 0 = t := ⟨_, rfl⟩
    rw [ht]
    simp only [lands_bif, lands_some, lands_none, Turns1, Turns2, Turns3, Turns4, Turns5, Turns6, Turns7, Turns8, eq_bif, Option.some.injEq, reduceCtorEq, cond_true, cond_false, Bool.eq_false_iff, ne_eq, inB_iff, decide_eq_true_eq, Bool.and_eq_true, Bool.or_eq_true, Bool.not_eq_true', beq_iff_eq, bne_iff_ne, true_and, and_true, true_implies, implies_true, not_true_eq_false, not_false_eq_true, false_implies, few_iff, LessMag.b2i_lt, wi_succ (show i < 4611686018427387904 by omega)]
    simp only [rd_toNat, Int.toNat_natCast, fdiv32, wu32_mod]
    repeat' (first | apply And.intro | intro _)
    all_goals try omega
    · obtain ⟨k1, k2⟩ := set_same (l := l) (d := (l.getD (i + j) 0 - t % 4294967296 - b) % 4294967296) j (show j ≤ i + j by omega) (show i + j < j + (n + 3) by omega)
      refine ⟨_, _, i + 1, _, rfl, ⟨by omega, by rw [List.length_set]; exact h2, okB_set h3 (by omega), k1.trans h4, k2.trans h5, by omega, by omega, by split <;> omega, by split <;> omega, ?_⟩, by omega⟩
      rw [val_set _ _ _ _ (by omega), val_take_succ, show i + 1 + j = i + j + 1 by omega, Int.pow_succ]
      exact step_sub _ _ _ _ _ _ _ _ _ _ _ _ _ (t % 4294967296) (4294967296 ^ i) h10 (by rw [Int.pow_add, Int.mul_comm]) (by omega) (by split <;> omega)
    · obtain rfl : i = n + 2 := by omega
      exact ⟨_, _, _, _, rfl, hI⟩
  · exact ⟨by omega, rfl, h.ou, rfl, rfl, by omega, by omega, by omega, by omega, by simp [val]⟩
/-- The row while the divisor is put back. -/
def InvA (u v : List Int) (j n : Nat) (A : Int) (b : Int) (i : Nat) (l : List Int) : Prop :=
  i ≤ n + 2 ∧ l.length = u.length ∧ okB 4294967296 l = true ∧ l.take j = u.take j ∧ l.drop (j + (n + 3)) = u.drop (j + (n + 3)) ∧ 0 ≤ b ∧ b ≤ 1 ∧
  val 4294967296 l = A + 4294967296 ^ j * val 4294967296 (v.take i) - 4294967296 ^ (i + j) * b
theorem step_add (A Q P L w b x y d b' Pk : Int) (h : L = A + Q * w - P * b) (hP : P = Q * Pk) (hd : x + y + b = d + 4294967296 * b') :
    L + P * (d - x) = A + Q * (w + Pk * y) - P * 4294967296 * b' := by
  have : d = x + y + b - 4294967296 * b' := by omega
  subst this
  subst hP
  grind
theorem b2i_le (x y : Int) : b2i (decide (x ≤ y)) = if x ≤ y then 1 else 0 := by
  unfold b2i; by_cases h : x ≤ y <;> simp [h]
theorem addLoop (h : Pre u v j n) (x2 x3 x7 x8 x9 : Int) (l1 l2 : List Int) (A : Int) (hl : l2.length = u.length) (ol : okB 4294967296 l2 = true) (ht : l2.take j = u.take j) (hd : l2.drop (j + (n + 3)) = u.drop (j + (n + 3))) (hA : val 4294967296 l2 = A) :
    ∃ e S1, Ends T orc L2 D2 (st2 v j (n + 2 : Nat) u x2 x3 x7 l1 x8 0 x9 0 l2) e S1 ∧ (e = .exit 4 ∧ ∃ b x l, S1 = st2 v j (n + 2 : Nat) u x2 x3 x7 l1 x8 b x9 x l ∧ InvA u v j n A b (n + 2) l) := by
  refine loop_inv3 (fun b (i : Nat) l => st2 v j (n + 2 : Nat) u x2 x3 x7 l1 x8 b x9 i l) (fun b i l => InvA u v j n A b i l) (fun b i l => n + 2 - i)
    (fun e S1 => e = .exit 4 ∧ ∃ b x l, S1 = st2 v j (n + 2 : Nat) u x2 x3 x7 l1 x8 b x9 x l ∧ InvA u v j n A b (n + 2) l) isL2 ?_ 0 0 l2 ?_
  · intro b i l hI
    obtain ⟨h1, h2, h3, h4, h5, h6, h7, h8⟩ := id hI
    have hn := h.hn
    have hj := h.hj
    have hlu := h.lu
    have hx := getD_ok W_pos h3 (i + j)
    have hy := getD_ok W_pos h.ov i
    have ei : IntKind.i64.wrap ((i : Int) + (j : Int)) = ((i + j : Nat) : Int) := by rw [w64 (by omega) (by omega)]; omega
    refine ⟨noTab, noTab_all, lands_of (round2 ..) ?_⟩
    rw [ei]
    simp only [lands_bif, lands_some, lands_none, Turns1, Turns2, Turns3, Turns4, Turns5, Turns6, Turns7, Turns8, eq_bif, Option.some.injEq, reduceCtorEq, cond_true, cond_false, Bool.eq_false_iff, ne_eq, inB_iff, decide_eq_true_eq, Bool.and_eq_true, Bool.or_eq_true, Bool.not_eq_true', beq_iff_eq, bne_iff_ne, true_and, and_true, true_implies, implies_true, not_true_eq_false, not_false_eq_true, false_implies, few_iff, b2i_le, wi_succ (show i < 4611686018427387904 by omega)]
    simp only [rd_toNat, Int.toNat_natCast]
    repeat' (first | apply And.intro | intro _)
    all_goals try omega
    · obtain ⟨k1, k2⟩ := set_same (l := l) (d := (l.getD (i + j) 0 + v.getD i 0 + b) % 4294967296) j (show j ≤ i + j by omega) (show i + j < j + (n + 3) by omega)
      refine ⟨_, i + 1, _, rfl, ⟨by omega, by rw [List.length_set]; exact h2, okB_set h3 (by omega), k1.trans h4, k2.trans h5, by split <;> omega, by split <;> omega, ?_⟩, by omega⟩
      rw [val_set _ _ _ _ (by omega), val_take_succ, show i + 1 + j = i + j + 1 by omega, Int.pow_succ]
      exact step_add _ _ _ _ _ _ _ _ _ _ (4294967296 ^ i) h8 (by rw [Int.pow_add, Int.mul_comm]) (by split <;> omega)
    · obtain rfl : i = n + 2 := by omega
      exact ⟨_, _, _, rfl, hI⟩
  · exact ⟨by omega, hl, ol, ht, hd, by omega, by omega, by simp [val, hA]⟩
theorem Pre.pre_j (h : Pre u v j n) : (0 : Int) < 4294967296 ^ j := Int.pow_pos (by decide)
/-- What a row that differs in the segment alone comes to. -/
theorem Pre.seg_of (h : Pre u v j n) {l : List Int} (hl : l.length = u.length) (ht : l.take j = u.take j) (hd : l.drop (j + (n + 3)) = u.drop (j + (n + 3))) {x : Int} (hx : val 4294967296 l = val 4294967296 u + 4294967296 ^ j * x) : val 4294967296 (seg l j (n + 3)) = U u j n + x := by
  have h1 : val 4294967296 u = val 4294967296 (u.take j) + 4294967296 ^ j * U u j n + 4294967296 ^ (j + (n + 3)) * val 4294967296 (u.drop (j + (n + 3))) := seg_val 4294967296 u j (n + 3) h.hj
  have h2 := seg_val 4294967296 l j (n + 3) (by have := h.hj; omega)
  rw [ht, hd] at h2
  have h3 : 4294967296 ^ j * val 4294967296 (seg l j (n + 3)) = 4294967296 ^ j * (U u j n + x) := by
    rw [Int.mul_add]; omega
  exact Int.eq_of_mul_eq_mul_left (by have := h.pre_j; omega) h3
theorem Pre.row (h : Pre u v j n) {l : List Int} (hl : l.length = u.length) (ol : okB 4294967296 l = true) (ht : l.take j = u.take j) (hd : l.drop (j + (n + 3)) = u.drop (j + (n + 3))) (hs : val 4294967296 (seg l j (n + 3)) = U u j n % V v) : l = digU u v j := by
  have hV := h.V_pos
  have hn := h.hn
  have hj := h.hj
  have e : l = l.take j ++ (seg l j (n + 3) ++ l.drop (j + (n + 3))) := by
    unfold seg
    rw [← List.drop_drop, List.take_append_drop, List.take_append_drop]
  rw [e, ht, hd]
  unfold digU
  rw [hn, show n + 2 + 1 = n + 3 by omega, show j + (n + 2) + 1 = j + (n + 3) by omega, List.append_assoc]
  congr 2
  exact dig_eq W_pos (okB_seg ol _ _) (seg_length (by omega)) hs
theorem finish (h : Pre u v j n) : ∃ tab, (∀ C, TabOk T orc tab C) ∧ runTM T orc tab Try.f101 [.ints .u32 u, .ints .u32 v, .int .i64 j, .int .i64 (n + 2 : Nat)] = some (.gave (.ints .u32 (digU u v j)) (.int .u32 (digQ u v j))) := by
  have hn := h.hn
  have hj := h.hj
  have hlu := h.lu
  obtain ⟨i1, i2, i3, i4, i5⟩ := h.ix
  have hv1 := getD_ok W_pos h.ov (n + 1)
  have hu1 := getD_ok W_pos h.ou (j + (n + 1))
  have hu0 := getD_ok W_pos h.ou (j + (n + 2))
  have htop := h.top
  obtain ⟨q0, q1, q2⟩ := h.q_le
  have hql := h.q_lt
  have hV := h.V_pos
  have hmul := mul_lt_W hu0 (show (0 : Int) ≤ 4294967295 ∧ (4294967295 : Int) < 4294967296 by omega)
  have htp0 : 0 ≤ tp u j n := by unfold tp; omega
  have htp1 : tp u j n ≤ 18446744073709551615 := by unfold tp; omega
  -- the first guess
  have hguess : InvG u v j n (tp u j n / v.getD (n + 1) 0) (tp u j n % v.getD (n + 1) 0) := by
    have hA := KnuthD.ge_first (pow_pos1 n) W_pos q0 q1 h.V_eq h.V_lo.1 h.U_eq h.U_lo.2
    have hB := KnuthD.ge_init W_pos q0 (getD_ok W_pos h.ov n).1 (getD_ok W_pos h.ou (j + n)).2 hA
    have hr0 := Int.emod_nonneg (tp u j n) (show v.getD (n + 1) 0 ≠ 0 by omega)
    have hr1 := Int.emod_lt_of_pos (tp u j n) (show 0 < v.getD (n + 1) 0 by omega)
    have hde := Int.emod_add_mul_ediv (tp u j n) (v.getD (n + 1) 0)
    rw [Int.mul_comm] at hde
    refine ⟨Int.ediv_nonneg htp0 (by omega), ?_, by omega, hr0, by omega, (Int.le_ediv_iff_mul_le (by omega)).2 hB⟩
    -- the segment's highest digit isn't above the divisor's
    have hs0 : u.getD (j + (n + 2)) 0 ≤ v.getD (n + 1) 0 := by
      refine Int.not_lt.1 (fun hlt => ?_)
      have e1 := h.U_eq
      have e2 := h.V_eq
      have e3 := h.lt
      have e4 := h.V_lo.2
      have e5 := h.U_lo.1
      have p1 := pow_pos1 n
      have v2 := getD_ok W_pos h.ov n
      have u2 := getD_ok W_pos h.ou (j + n)
      have e3 : U u j n < 4294967296 * V v := e3
      have k1 : 4294967296 ^ n * (v.getD n 0 + 1) ≤ 4294967296 ^ n * 4294967296 := Int.mul_le_mul_of_nonneg_left (by omega) (by omega)
      have k2 : 4294967296 ^ n * (4294967296 * (v.getD (n + 1) 0 + 1)) ≤ 4294967296 ^ n * tp u j n := Int.mul_le_mul_of_nonneg_left (by unfold tp; omega) (by omega)
      have k3 : 0 ≤ 4294967296 ^ n * u.getD (j + n) 0 := Int.mul_nonneg (by omega) u2.1
      have k4 : V v = val 4294967296 (v.take n) + 4294967296 ^ n * v.getD n 0 + 4294967296 * (4294967296 ^ n * v.getD (n + 1) 0) := by rw [e2]; grind
      have k5 : U u j n = val 4294967296 ((seg u j (n + 3)).take n) + 4294967296 ^ n * u.getD (j + n) 0 + 4294967296 * (4294967296 ^ n * tp u j n) := by rw [e1]; grind
      have k6 : 4294967296 ^ n * (4294967296 * (v.getD (n + 1) 0 + 1)) = 4294967296 * (4294967296 ^ n * v.getD (n + 1) 0) + 4294967296 ^ n * 4294967296 := by grind
      rw [Int.mul_add, Int.mul_one] at k1
      omega
    have : tp u j n / v.getD (n + 1) 0 < 4294967298 := by
      refine Int.ediv_lt_of_lt_mul (by omega) ?_
      have : tp u j n ≤ v.getD (n + 1) 0 * 4294967296 + 4294967295 := by
        unfold tp
        have := Int.mul_le_mul_of_nonneg_right hs0 (show (0 : Int) ≤ 4294967296 by decide)
        omega
      omega
    omega
  obtain ⟨e1, S1, hE1, rfl, g, r, rfl, g0, g1, g2, g3⟩ := guess h _ _ hguess
  obtain ⟨e2, S2, hE2, rfl, c, b, x, l, rfl, hS⟩ := subLoop h g r ⟨g0, g1⟩
  obtain ⟨_, s2, s3, s4, s5, s6, s7, s8, s9, s10⟩ := hS
  have ett : IntKind.u64.wrap ((BitVec.ofInt 64 (IntKind.u64.wrap (IntKind.u64.wrap (rd u ((j + (n + 2) : Nat) : Int)) * 2 ^ 32)) ||| BitVec.ofInt 64 (IntKind.u64.wrap (rd u ((j + (n + 1) : Nat) : Int)))).toNat : Int) = tp u j n := by
    rw [rd_toNat, rd_toNat, Int.toNat_natCast, Int.toNat_natCast, wu64 hu0.1 (by omega), wu64 hu1.1 (by omega), wu64 (n := u.getD (j + (n + 2)) 0 * 2 ^ 32) (by omega) (by omega), or64' 32 hu1.1 (by omega) ⟨_, hu0.1, Int.mul_comm _ _⟩ (by omega)]
    unfold tp
    omega
  have ev1 : IntKind.u64.wrap (rd v ((n + 1 : Nat) : Int)) = v.getD (n + 1) 0 := by rw [rd_toNat, Int.toNat_natCast, wu64 hv1.1 (by omega)]
  have etd : (tp u j n).tdiv (v.getD (n + 1) 0) = tp u j n / v.getD (n + 1) 0 := Int.tdiv_eq_ediv_of_nonneg htp0
  have etm : (tp u j n).tmod (v.getD (n + 1) 0) = tp u j n % v.getD (n + 1) 0 := Int.tmod_eq_emod_of_nonneg htp0
  have hgd0 : 0 ≤ tp u j n / v.getD (n + 1) 0 := hguess.1
  have hgd1 := hguess.2.1
  have hx := getD_ok W_pos s3 (j + (n + 2))
  -- the last place
  obtain ⟨d, hd⟩ : ∃ d, (l.getD (j + (n + 2)) 0 - c - b) % 4294967296 = d := ⟨_, rfl⟩
  have hd0 : 0 ≤ d ∧ d < 4294967296 := by omega
  obtain ⟨k1, k2⟩ := set_same (l := l) (d := d) j (show j ≤ j + (n + 2) by omega) (show j + (n + 2) < j + (n + 3) by omega)
  have hlen : (l.set (j + (n + 2)) d).length = u.length := by rw [List.length_set]; exact s2
  have hok : okB 4294967296 (l.set (j + (n + 2)) d) = true := okB_set s3 hd0
  rw [List.take_of_length_le (by omega)] at s10
  have hgv : 4294967296 ^ j * (g * val 4294967296 v) = 4294967296 ^ j * (g * V v) := rfl
  have hval : ∀ b' : Int, l.getD (j + (n + 2)) 0 - c - b = d - 4294967296 * b' → val 4294967296 (l.set (j + (n + 2)) d) = val 4294967296 u + 4294967296 ^ j * (- (g * V v) + 4294967296 ^ (n + 3) * b') := by
    intro b' hb'
    rw [val_set _ _ _ _ (by omega), s10, show n + 2 + j = j + (n + 2) by omega]
    have e1 : (4294967296 : Int) ^ j * (-(g * V v) + 4294967296 ^ (n + 3) * b') = - (4294967296 ^ j * (g * V v)) + 4294967296 ^ (j + (n + 2)) * (4294967296 * b') := by
      have ea : (4294967296 : Int) ^ (j + (n + 2)) = 4294967296 ^ j * 4294967296 ^ (n + 2) := Int.pow_add ..
      have eb : (4294967296 : Int) ^ (n + 3) = 4294967296 ^ (n + 2) * 4294967296 := Int.pow_succ ..
      rw [ea, eb]; grind
    have e2 : d - l.getD (j + (n + 2)) 0 = 4294967296 * b' - (c + b) := by omega
    rw [e1, e2, Int.mul_sub]
    omega
  have hseg0 := val_nonneg W_pos (okB_seg hok j (n + 3))
  have hseg1 := val_lt W_pos (okB_seg hok j (n + 3))
  rw [seg_length (by omega)] at hseg1
  have hgen : ∀ l3 x12 x13, ∃ tab, (∀ C, TabOk T orc tab C) ∧ runTM T orc tab Try.f101 [.ints .u32 u, .ints .u32 v, .int .i64 j, .int .i64 (n + 2 : Nat)] =
      (bif b2i (decide (l.getD (j + (n + 2)) 0 < c + b)) == 0 then some (.gave (.ints .u32 (l.set (j + (n + 2)) d)) (.int .u32 g)) else (bif cdec (Ends T orc L2 D2 (st2 v j (n + 2 : Nat) u g r c l b 0 x 0 (l.set (j + (n + 2)) d)) (.exit 4) (st2 v j (n + 2 : Nat) u g r c l b x12 x x13 l3)) then (bif inB ((j + (n + 2) : Nat) : Int) l3.length then some (.gave (.ints .u32 (l3.set (j + (n + 2)) (IntKind.u32.wrap (l3.getD (j + (n + 2)) 0 + x12)))) (.int .u32 (IntKind.u32.wrap (IntKind.u64.wrap (g - 1))))) else none) else none)) := by
    intro l3 x12 x13
    refine ⟨_, tabOf_all _, (rest u v j (n + 2 : Nat) l3 x12 g r c l b x x13).trans ?_⟩
    rw [i1, i2, i4, ett, ev1, etd, etm, wu64 hgd0 (by omega), cdec_true hE1, cdec_true hE2, wu32 g0 (by omega), wu32 s6 (by omega)]
    have c1 : inB ((j + (n + 2) : Nat) : Int) u.length = true := inB_iff.2 (by omega)
    have c2 : inB ((j + (n + 1) : Nat) : Int) u.length = true := inB_iff.2 (by omega)
    have c3 : inB ((n + 1 : Nat) : Int) v.length = true := inB_iff.2 (by omega)
    have c4 : (!decide (v.getD (n + 1) 0 = 0)) = true := by rw [Bool.not_eq_true', decide_eq_false_iff_not]; omega
    have c5 : inB ((j + (n + 2) : Nat) : Int) l.length = true := inB_iff.2 (by omega)
    have e1 : rd l ((j + (n + 2) : Nat) : Int) = l.getD (j + (n + 2)) 0 := by rw [rd_toNat, Int.toNat_natCast]
    have c6 : (decide (0 ≤ l.getD (j + (n + 2)) 0) && decide (l.getD (j + (n + 2)) 0 < 4294967296) && decide (0 ≤ c) && decide (c < 4294967296) && decide (0 ≤ b) && decide (b ≤ 1)) = true := by
      simp only [Bool.and_eq_true, decide_eq_true_eq]; omega
    have e2 : rd l3 ((j + (n + 2) : Nat) : Int) = l3.getD (j + (n + 2)) 0 := by rw [rd_toNat, Int.toNat_natCast]
    simp only [c1, c2, c3, c4, c5, e1, c6, cond_true, Int.toNat_natCast, hd, e2]
    cases inB ((j + (n + 2) : Nat) : Int) l3.length <;> rfl
  by_cases hb : l.getD (j + (n + 2)) 0 < c + b
  · -- one too many
    have hv := hval 1 (by omega)
    have hs := h.seg_of hlen (k1.trans s4) (k2.trans s5) hv
    rw [Int.mul_one] at hs
    have hgq : g = U u j n / V v + 1 := by
      have h1 : U u j n < g * V v := by omega
      have h2 : ¬ g ≤ U u j n / V v := fun hle => by
        have := Int.mul_le_mul_of_nonneg_right hle (show 0 ≤ V v by omega)
        omega
      have h3 : ¬ U u j n / V v + 2 ≤ g := fun hle => by
        have := Int.mul_le_mul_of_nonneg_right hle (show 0 ≤ V v by omega)
        rw [Int.add_mul] at this
        rw [Int.add_mul] at q2
        omega
      omega
    obtain ⟨e3, S3, hE3, rfl, b3, x3, l3, rfl, _, a2, a3, a4, a5, a6, a7, a8⟩ := addLoop h g r c b x l (l.set (j + (n + 2)) d) _ hlen hok (k1.trans s4) (k2.trans s5) rfl
    obtain ⟨tab, htab, hrun⟩ := hgen l3 b3 x3
    refine ⟨tab, htab, hrun.trans ?_⟩
    have hne : (b2i (decide (l.getD (j + (n + 2)) 0 < c + b)) == 0) = false := by rw [LessMag.b2i_lt, if_pos hb]; rfl
    rw [bF hne, bT (cdec_true hE3), bT (inB_iff.2 (by omega))]
    have hy := getD_ok W_pos a3 (j + (n + 2))
    obtain ⟨d3, hd3⟩ : ∃ d3, IntKind.u32.wrap (l3.getD (j + (n + 2)) 0 + b3) = d3 := ⟨_, rfl⟩
    rw [hd3]
    rw [wu32_mod] at hd3
    have hd30 : 0 ≤ d3 ∧ d3 < 4294967296 := by omega
    obtain ⟨m1, m2⟩ := set_same (l := l3) (d := d3) j (show j ≤ j + (n + 2) by omega) (show j + (n + 2) < j + (n + 3) by omega)
    have hlen3 : (l3.set (j + (n + 2)) d3).length = u.length := by rw [List.length_set]; exact a2
    have hok3 : okB 4294967296 (l3.set (j + (n + 2)) d3) = true := okB_set a3 hd30
    rw [List.take_of_length_le (by omega)] at a8
    have hval3 : ∀ o : Int, l3.getD (j + (n + 2)) 0 + b3 = d3 + 4294967296 * o → val 4294967296 (l3.set (j + (n + 2)) d3) = val 4294967296 u + 4294967296 ^ j * (- (g * V v) + V v + 4294967296 ^ (n + 3) * (1 - o)) := by
      intro o ho
      rw [val_set _ _ _ _ (by omega), a8, hv, show n + 2 + j = j + (n + 2) by omega]
      have e1 : d3 - l3.getD (j + (n + 2)) 0 = b3 - 4294967296 * o := by omega
      have e2 : (4294967296 : Int) ^ (j + (n + 2)) = 4294967296 ^ j * 4294967296 ^ (n + 2) := Int.pow_add ..
      have e3 : (4294967296 : Int) ^ (n + 3) = 4294967296 ^ (n + 2) * 4294967296 := Int.pow_succ ..
      rw [e1, e2, e3]
      generalize (4294967296 : Int) ^ j = P
      generalize (4294967296 : Int) ^ (n + 2) = Q
      show _ + P * V v - _ + _ = _
      generalize V v = VV
      grind
    have hmod : U u j n - g * V v + V v = U u j n % V v := by
      have := Int.emod_add_mul_ediv (U u j n) (V v)
      rw [hgq, Int.add_mul, Int.mul_comm (U u j n / V v)]
      omega
    have hm0 := Int.emod_nonneg (U u j n) (show V v ≠ 0 by omega)
    have hs3 : val 4294967296 (seg (l3.set (j + (n + 2)) d3) j (n + 3)) = U u j n % V v := by
      have hr1 := val_lt W_pos (okB_seg hok3 j (n + 3))
      rw [seg_length (by omega)] at hr1
      by_cases ho : l3.getD (j + (n + 2)) 0 + b3 < 4294967296
      · have := h.seg_of hlen3 (m1.trans a4) (m2.trans a5) (hval3 0 (by omega))
        rw [Int.sub_zero, Int.mul_one] at this
        omega
      · have := h.seg_of hlen3 (m1.trans a4) (m2.trans a5) (hval3 1 (by omega))
        rw [Int.sub_self, Int.mul_zero] at this
        omega
    rw [h.row hlen3 hok3 (m1.trans a4) (m2.trans a5) hs3, wu64 (by omega) (by omega), wu32 (by omega) (by omega)]
    unfold digQ
    rw [hn, show n + 2 + 1 = n + 3 by omega]
    have : g - 1 = val 4294967296 (seg u j (n + 3)) / val 4294967296 v := by
      have : U u j n / V v = val 4294967296 (seg u j (n + 3)) / val 4294967296 v := rfl
      omega
    rw [this]
  · obtain ⟨tab, htab, hrun⟩ := hgen [] 0 0
    refine ⟨tab, htab, hrun.trans ?_⟩
    have hne : (b2i (decide (l.getD (j + (n + 2)) 0 < c + b)) == 0) = true := by rw [LessMag.b2i_lt, if_neg hb]; rfl
    rw [bT hne]
    have hs := h.seg_of hlen (k1.trans s4) (k2.trans s5) (hval 0 (by omega))
    rw [Int.mul_zero, Int.add_zero] at hs
    have hgq : g = U u j n / V v := by
      have h1 : ¬ U u j n / V v + 1 ≤ g := fun hle => by
        have := Int.mul_le_mul_of_nonneg_right hle (show 0 ≤ V v by omega)
        omega
      omega
    have hs3 : val 4294967296 (seg (l.set (j + (n + 2)) d) j (n + 3)) = U u j n % V v := by
      have := Int.emod_add_mul_ediv (U u j n) (V v)
      rw [hs, hgq, Int.mul_comm (U u j n / V v)]
      omega
    rw [h.row hlen hok (k1.trans s4) (k2.trans s5) hs3]
    unfold digQ
    rw [hn, show n + 2 + 1 = n + 3 by omega, hgq]
end
end Digit
theorem meets_digit : Meets Try.prog 101 ansDigit := by
  refine meets_runM T_ok (orc_ok (l := Digit.ans) ⟨meets_sub32, meets_add32, trivial⟩) mixed (fn := Try.f101) Try.func101 (by kernel_rfl) (fun args r h => ?_) (fun row rest x y h => ?_)
  · unfold ansDigit at h
    split at h <;> simp only [Option.some.injEq, Prod.mk.injEq, reduceCtorEq] at h
    · exact ⟨_, _, h.2.symm⟩
    · exact ⟨_, _, h.2.symm⟩
  · unfold ansDigit at h
    split at h
    · rename_i heq; cases heq
    · rename_i u v j n heq
      cases heq
      simp only [Option.some.injEq, Prod.mk.injEq, Res.gave.injEq, digOk, Bool.and_eq_true, few_iff, decide_eq_true_eq] at h
      obtain ⟨⟨⟨⟨⟨⟨⟨⟨⟨⟨hu, hv⟩, ou⟩, ov⟩, hj⟩, hn⟩, hn2⟩, hjl⟩, htop⟩, hlt⟩, rfl, rfl⟩ := h
      obtain ⟨j, rfl⟩ := Int.eq_ofNat_of_zero_le hj
      obtain ⟨k, hk⟩ : ∃ k, v.length = k + 2 := ⟨v.length - 2, by omega⟩
      rw [Int.toNat_natCast] at hjl hlt
      have hp : Digit.Pre u v j k := ⟨ou, ov, hu, hk, by omega, by rw [hk] at htop; exact htop, by rw [hk] at hlt; exact hlt⟩
      obtain ⟨tab, h1, h2⟩ := Digit.finish hp
      rw [hn, hk, Int.toNat_natCast]
      exact runM_tab (h1 _) h2
    · cases h
end Go.Abs
end
section
/- What arith.splitMag answers. -/
namespace Go.Abs
open Go.Proofs Go.Dig
theorem cmpZ_lt (x y : Int) : cmpZ x y < 0 ↔ x < y := by
  unfold cmpZ; split
  · omega
  · split <;> omega
theorem digU_length {u v : List Int} {j : Nat} (h : j + v.length + 1 ≤ u.length) : (digU u v j).length = u.length := by
  unfold digU
  rw [List.length_append, List.length_append, List.length_take, digN_length, List.length_drop]
  omega
namespace SplitMag
/-- What stands there while the digits are found. -/
structure Pre (v : List Int) (A : Int) (lu m : Nat) : Prop where
  ov : okB 4294967296 v = true
  hv : 2 ≤ v.length
  top : 2147483648 ≤ v.getD (v.length - 1) 0
  hlu : lu = m + v.length + 1
  few : lu ≤ 100000
def Inv (v : List Int) (A : Int) (lu m : Nat) (i : Nat) (l q : List Int) : Prop :=
  i ≤ m + 1 ∧ l.length = lu ∧ okB 4294967296 l = true ∧ q.length = m + 1 ∧ okB 4294967296 (q.drop i) = true ∧
  A = val 4294967296 l + val 4294967296 v * (4294967296 ^ i * val 4294967296 (q.drop i)) ∧ val 4294967296 l < val 4294967296 v * 4294967296 ^ i
section
variable {v : List Int} {A : Int} {lu m : Nat}
theorem Pre.V_pos (h : Pre v A lu m) : 0 < val 4294967296 v := by
  have h1 := last_ge W_two h.ov (fun h0 => by
    have h2 := h.top
    have h3 := h.hv
    rw [List.getLast?_eq_getElem?] at h0
    rw [List.getD_eq_getElem?_getD, h0] at h2
    simp at h2) (fun h0 => by have := h.hv; rw [h0] at this; simp at this)
  have := Int.pow_pos (n := 4294967296) (m := v.length - 1) (by decide)
  omega
theorem Pre.next (h : Pre v A lu m) {j : Nat} {l q : List Int} (hI : Inv v A lu m (j + 1) l q) :
    digOk l v j v.length = true ∧ (digU l v j).length = l.length ∧ Inv v A lu m j (digU l v j) (q.set j (digQ l v j)) := by
  obtain ⟨h1, h2, h3, h4, h5, h6, h7⟩ := hI
  have hV := h.V_pos
  have hlu := h.hlu
  have hf := h.few
  have hv2 := h.hv
  have hs := seg_val 4294967296 l j (v.length + 1) (by omega)
  have hp : (0 : Int) < 4294967296 ^ j := Int.pow_pos (by decide)
  have n1 := val_nonneg W_pos (okB_take h3 j)
  have n2 := val_nonneg W_pos (okB_seg h3 j (v.length + 1))
  have n3 := val_nonneg W_pos (okB_drop h3 (j + (v.length + 1)))
  have n4 := val_lt W_pos (okB_take h3 j)
  rw [List.length_take, Nat.min_eq_left (by omega)] at n4
  have n5 := val_lt W_pos h.ov
  have hp2 : (0 : Int) < 4294967296 ^ (j + (v.length + 1)) := Int.pow_pos (by decide)
  have e1 : val 4294967296 v * 4294967296 ^ (j + 1) = 4294967296 ^ j * (4294967296 * val 4294967296 v) := by rw [Int.pow_succ]; grind
  rw [e1] at h7
  generalize hsg : val 4294967296 (seg l j (v.length + 1)) = S at *
  generalize hVV : val 4294967296 v = V at *
  -- nothing stands above
  have hdrop : val 4294967296 (l.drop (j + (v.length + 1))) = 0 := by
    refine Int.le_antisymm (Int.not_lt.1 (fun hgt => ?_)) n3
    have k1 : 4294967296 ^ (j + (v.length + 1)) * 1 ≤ 4294967296 ^ (j + (v.length + 1)) * val 4294967296 (l.drop (j + (v.length + 1))) := Int.mul_le_mul_of_nonneg_left (by omega) (by omega)
    have k2 : (4294967296 : Int) ^ j * (4294967296 * V) ≤ 4294967296 ^ j * (4294967296 * 4294967296 ^ v.length) := Int.mul_le_mul_of_nonneg_left (Int.mul_le_mul_of_nonneg_left (by omega) (by decide)) (by omega)
    have k3 : (4294967296 : Int) ^ (j + (v.length + 1)) = 4294967296 ^ j * (4294967296 * 4294967296 ^ v.length) := by rw [Int.pow_add, Int.pow_succ, Int.mul_comm (4294967296 ^ v.length)]
    have k4 : 0 ≤ 4294967296 ^ j * S := Int.mul_nonneg (by omega) n2
    omega
  rw [hdrop, Int.mul_zero, Int.add_zero] at hs
  have hlt : S < 4294967296 * V := by
    refine Int.not_le.1 (fun hge => ?_)
    have := Int.mul_le_mul_of_nonneg_left hge (show (0 : Int) ≤ 4294967296 ^ j by omega)
    omega
  have hq0 : 0 ≤ S / V := Int.ediv_nonneg n2 (by omega)
  have hq1 : S / V < 4294967296 := Int.ediv_lt_of_lt_mul hV (by omega)
  have hr0 := Int.emod_nonneg S (show V ≠ 0 by omega)
  have hr1 := Int.emod_lt_of_pos S hV
  have hde := Int.emod_add_mul_ediv S V
  have hQ : digQ l v j = S / V := by unfold digQ; rw [hsg, hVV]
  have hlen : (digU l v j).length = l.length := digU_length (by omega)
  have hVB : V < 4294967296 ^ (v.length + 1) := by
    rw [Int.pow_succ]
    have : (4294967296 : Int) ^ v.length * 1 ≤ 4294967296 ^ v.length * 4294967296 := Int.mul_le_mul_of_nonneg_left (by decide) (Int.pow_nonneg (by decide))
    omega
  have hU : val 4294967296 (digU l v j) = val 4294967296 (l.take j) + 4294967296 ^ j * (S % V) := by
    unfold digU
    rw [hsg, hVV, val_append, val_append, List.length_append, List.length_take, Nat.min_eq_left (by omega), digN_length, val_digN W_pos _ _ hr0 (by omega), Nat.add_assoc j v.length 1, hdrop, Int.mul_zero, Int.add_zero]
  have hok : okB 4294967296 (digU l v j) = true := by
    unfold digU
    exact okB_app (okB_app (okB_take h3 j) (digN_ok W_pos _ _)) (okB_drop h3 _)
  refine ⟨?_, hlen, by omega, by omega, hok, by rw [List.length_set]; exact h4, ?_, ?_, ?_⟩
  · unfold digOk
    simp only [Bool.and_eq_true, few_iff, decide_eq_true_eq, Int.toNat_natCast]
    rw [hsg, hVV]
    have ht := h.top
    refine ⟨⟨⟨⟨⟨⟨⟨⟨⟨by omega, by omega⟩, h3⟩, h.ov⟩, by omega⟩, trivial⟩, by omega⟩, by omega⟩, ht⟩, hlt⟩
  · rw [drop_set_cons q _ (by omega), hQ]
    exact okB_cons.2 ⟨⟨hq0, hq1⟩, h5⟩
  · rw [drop_set_cons q _ (by omega), hQ, hU, h6, hs]
    simp only [val]
    rw [Int.pow_succ]
    generalize val 4294967296 (q.drop (j + 1)) = X
    generalize val 4294967296 (l.take j) = Y
    generalize (4294967296 : Int) ^ j = P
    have : P * S = P * (S % V + V * (S / V)) := by rw [hde]
    rw [this]
    generalize S / V = a
    generalize S % V = b
    grind
  · rw [hU, hVV]
    have : 4294967296 ^ j * (S % V + 1) ≤ 4294967296 ^ j * V := Int.mul_le_mul_of_nonneg_left (by omega) (by omega)
    rw [Int.mul_add, Int.mul_one] at this
    rw [Int.mul_comm V]
    omega
end
theorem loop (a b : List Int) (s : Nat) (A : Int) (m : Nat) (hs : 32 - blen (rd b (IntKind.i64.wrap ((b.length : Int) - 1))) = (s : Int)) (lu : Nat) (b0 : Bool) (l q : List Int)
    (hvl : ((leftL b s).take b.length).length = b.length) (hP : Pre ((leftL b s).take b.length) A lu m) (hI : Inv ((leftL b s).take b.length) A lu m (m + 1) l q) :
    ∃ e S1, Ends T orc L0 D0 (st0 a b m b0 l q) e S1 ∧ (e = .exit 0 ∧ ∃ x b1 l q, S1 = st0 a b x b1 l q ∧ Inv ((leftL b s).take b.length) A lu m 0 l q) := by
  have key := loop_inv4 (T := T) (orc := orc) (L := L0) (D := D0) (fun (i : Nat) b1 l q => st0 a b ((i : Int) - 1) b1 l q) (fun i b1 l q => Inv ((leftL b s).take b.length) A lu m i l q) (fun i b1 l q => i)
    (fun e S1 => e = .exit 0 ∧ ∃ x b1 l q, S1 = st0 a b x b1 l q ∧ Inv ((leftL b s).take b.length) A lu m 0 l q) isL0 ?_ (m + 1) b0 l q hI
  · rw [show (((m + 1 : Nat) : Int) - 1) = (m : Int) by omega] at key
    exact key
  · intro i b1 l q hI
    refine ⟨noTab, noTab_all, lands_of (round0 ..) ?_⟩
    rw [hs, Int.toNat_natCast]
    cases i with
    | zero =>
      simp only [lands_bif, lands_some, lands_none, Turns1, Turns2, Turns3, Turns4, Turns5, Turns6, Turns7, Turns8, eq_bif, Option.some.injEq, reduceCtorEq, cond_true, cond_false, Bool.eq_false_iff, ne_eq, inB_iff, decide_eq_true_eq, Bool.and_eq_true, Bool.or_eq_true, Bool.not_eq_true', beq_iff_eq, bne_iff_ne, true_and, and_true, true_implies, implies_true, not_true_eq_false, not_false_eq_true, false_implies, few_iff]
      exact ⟨fun h => absurd h (by omega), fun _ => ⟨_, _, _, _, rfl, hI⟩⟩
    | succ i =>
      obtain ⟨k1, k2, k3⟩ := hP.next hI
      have e0 : (((i + 1 : Nat) : Int) - 1) = (i : Int) := by omega
      have hq := hI.2.2.2.1
      have hi := hI.1
      have hfew := hP.few
      have hlu := hP.hlu
      have k2b : Nat.beq (digU l ((leftL b s).take b.length) i).length l.length = true := by rw [k2]; exact Nat.beq_refl _
      rw [e0]
      simp only [Int.toNat_natCast, k1, k2b, Bool.and_true, cond_true]
      simp only [lands_bif, lands_some, lands_none, Turns1, Turns2, Turns3, Turns4, Turns5, Turns6, Turns7, Turns8, eq_bif, Option.some.injEq, reduceCtorEq, cond_true, cond_false, Bool.eq_false_iff, ne_eq, inB_iff, decide_eq_true_eq, Bool.and_eq_true, Bool.or_eq_true, Bool.not_eq_true', beq_iff_eq, bne_iff_ne, true_and, and_true, true_implies, implies_true, not_true_eq_false, not_false_eq_true, false_implies, few_iff]
      repeat' (first | apply And.intro | intro _)
      all_goals try omega
      exact ⟨i, _, _, _, by rw [w64 (by omega) (by omega)], k3, by omega⟩
theorem shift_ok {b : List Int} (hb : cl 4294967296 b = true) (hv : 0 < val 4294967296 b) (h2 : 2 ≤ b.length) : ∃ s : Nat, s ≤ 31 ∧ 32 - blen (b.getD (b.length - 1) 0) = (s : Int) ∧
    (leftL b s).take b.length = digN 4294967296 b.length (val 4294967296 b * 2 ^ s) ∧ val 4294967296 b * 2 ^ s < 4294967296 ^ b.length ∧ 2147483648 * 4294967296 ^ (b.length - 1) ≤ val 4294967296 b * 2 ^ s := by
  have ob := cl_ok W_two hb
  have ht := getD_ok W_pos ob (b.length - 1)
  have hne : b.getD (b.length - 1) 0 ≠ 0 := by
    have hl := cl_last hb
    rw [List.getLast?_eq_getElem?] at hl
    intro h0
    rw [List.getD_eq_getElem?_getD, List.getElem?_eq_getElem (by omega)] at h0
    rw [List.getElem?_eq_getElem (by omega)] at hl
    exact hl (congrArg some h0)
  have hd : val 4294967296 b = val 4294967296 (b.take (b.length - 1)) + 4294967296 ^ (b.length - 1) * b.getD (b.length - 1) 0 := by
    have := val_take_succ 4294967296 b (b.length - 1)
    rw [show b.length - 1 + 1 = b.length by omega, List.take_of_length_le (Nat.le_refl _)] at this
    exact this
  have hlo0 := val_nonneg W_pos (okB_take ob (b.length - 1))
  have hlo1 := val_lt W_pos (okB_take ob (b.length - 1))
  rw [List.length_take, Nat.min_eq_left (by omega)] at hlo1
  obtain ⟨c1, c2, c3⟩ := blen_pow (show 0 < b.getD (b.length - 1) 0 by omega)
  generalize htt : b.getD (b.length - 1) 0 = t at *
  have hle : blen t ≤ 32 := by
    refine Int.not_lt.1 (fun hgt => ?_)
    have : (2 : Int) ^ 32 ≤ 2 ^ (blen t - 1).toNat := by
      obtain ⟨k, hk⟩ : ∃ k, (blen t - 1).toNat = 32 + k := ⟨(blen t - 1).toNat - 32, by omega⟩
      rw [hk, Int.pow_add]
      have : (0 : Int) < 2 ^ k := Int.pow_pos (by decide)
      have h6 : (2 : Int) ^ 32 * 1 ≤ 2 ^ 32 * 2 ^ k := Int.mul_le_mul_of_nonneg_left (by omega) (by decide)
      omega
    have e : (2 : Int) ^ 32 = 4294967296 := rfl
    omega
  obtain ⟨s, hs⟩ : ∃ s : Nat, 32 - blen t = (s : Int) := ⟨(32 - blen t).toNat, by omega⟩
  have hs31 : s ≤ 31 := by omega
  obtain ⟨p1, p2⟩ := two_pow_31 hs31
  have hb1 : (blen t).toNat = 32 - s := by omega
  have hb2 : (blen t - 1).toNat = 31 - s := by omega
  rw [hb1] at c3
  rw [hb2] at c2
  have e32 := two_pow_32 hs31
  have e31 : (2 : Int) ^ s * 2 ^ (31 - s) = 2147483648 := by rw [← Int.pow_add, show s + (31 - s) = 31 by omega]; rfl
  have d1 : 2 ^ s * (t + 1) ≤ 2 ^ s * 2 ^ (32 - s) := Int.mul_le_mul_of_nonneg_left (by omega) (by omega)
  have d2 : (2 : Int) ^ s * 2 ^ (31 - s) ≤ 2 ^ s * t := Int.mul_le_mul_of_nonneg_left c2 (by omega)
  rw [e32] at d1
  rw [e31] at d2
  have hP : (0 : Int) < 4294967296 ^ (b.length - 1) := Int.pow_pos (by decide)
  have hPl : (4294967296 : Int) ^ b.length = 4294967296 ^ (b.length - 1) * 4294967296 := by rw [← Int.pow_succ, show (b.length - 1).succ = b.length by omega]
  have g1 : val 4294967296 b * 2 ^ s < 4294967296 ^ b.length := by
    have q1 : (val 4294967296 b + 1) * 2 ^ s ≤ (4294967296 ^ (b.length - 1) * (t + 1)) * 2 ^ s := Int.mul_le_mul_of_nonneg_right (by rw [Int.mul_add, Int.mul_one]; omega) (by omega)
    have q2 : (4294967296 ^ (b.length - 1) * (t + 1)) * 2 ^ s ≤ 4294967296 ^ (b.length - 1) * 4294967296 := by
      have : (4294967296 ^ (b.length - 1) * (t + 1)) * 2 ^ s = 4294967296 ^ (b.length - 1) * (2 ^ s * (t + 1)) := by grind
      rw [this]
      exact Int.mul_le_mul_of_nonneg_left d1 (by omega)
    rw [Int.add_mul, Int.one_mul] at q1
    omega
  have g2 : 2147483648 * 4294967296 ^ (b.length - 1) ≤ val 4294967296 b * 2 ^ s := by
    have q1 : (4294967296 ^ (b.length - 1) * t) * 2 ^ s ≤ val 4294967296 b * 2 ^ s := Int.mul_le_mul_of_nonneg_right (by omega) (by omega)
    have q2 : 4294967296 ^ (b.length - 1) * 2147483648 ≤ 4294967296 ^ (b.length - 1) * (2 ^ s * t) := Int.mul_le_mul_of_nonneg_left d2 (by omega)
    have : (4294967296 ^ (b.length - 1) * t) * 2 ^ s = 4294967296 ^ (b.length - 1) * (2 ^ s * t) := by grind
    rw [Int.mul_comm 2147483648]
    omega
  refine ⟨s, hs31, hs, ?_, g1, g2⟩
  unfold leftL
  rw [Int.toNat_natCast, digN_succ W_pos, List.take_append_of_le_length (by rw [digN_length]; exact Nat.le_refl _), List.take_of_length_le (by rw [digN_length]; exact Nat.le_refl _)]
end SplitMag
theorem meets_splitMag : Meets Try.prog 90 ansSplitMag := by
  refine meets_fn (orc_ok (l := SplitMag.ans) ⟨meets_cmpMag, meets_part, meets_lz32, meets_left, meets_right, meets_digit, trivial⟩) Try.f90 Try.func90 (by kernel_rfl) (fun args r h => ?_)
  unfold ansSplitMag at h
  split at h
  · rename_i a b
    simp only [Option.some.injEq, Prod.mk.injEq, Bool.and_eq_true, decide_eq_true_eq] at h
    obtain ⟨⟨⟨⟨ha, hb⟩, hv⟩, hla⟩, rfl⟩ := h
    have oa := cl_ok W_two ha
    have ob := cl_ok W_two hb
    have la := (cl_iff.1 ha).1
    have lb := (cl_iff.1 hb).1
    have fa : few a = true := few_iff.2 la
    have fb : few b = true := few_iff.2 lb
    have va0 := val_nonneg W_pos oa
    refine ⟨rfl, ?_⟩
    by_cases hlt : val 4294967296 a < val 4294967296 b
    · refine ⟨_, tabOf_all _, (SplitMag.rest a b [] [] 0 false).trans ?_⟩
      rw [ha, hb, decide_eq_true ((cmpZ_lt _ _).2 hlt)]
      simp only [Bool.and_self, cond_true, splitQ, splitR, decide_eq_true hlt]
    · have hge : val 4294967296 b ≤ val 4294967296 a := by omega
      have hll : b.length ≤ a.length := Nat.not_lt.1 (fun h => by
        have := val_lt_of_length W_two oa ob (cl_last hb) h
        omega)
      have hbn : b ≠ [] := fun h => by rw [h] at hv; simp [val] at hv
      have hb0 : 0 < b.length := List.length_pos_iff.2 hbn
      by_cases h1 : b.length = 1
      · refine ⟨_, tabOf_all _, (SplitMag.rest a b [] [] 0 false).trans ?_⟩
        obtain ⟨d, rfl⟩ : ∃ d, b = [d] := by
          match b, h1 with
          | [d], _ => exact ⟨d, rfl⟩
        rw [val_one] at hlt hge hv
        have hd := okB_iff.1 ob d (by simp)
        rw [ha, hb, decide_eq_false (fun h => hlt (by have := (cmpZ_lt _ _).1 h; rw [val_one] at this; exact this)), fa, oa]
        have er : rd [d] 0 = d := rfl
        rw [er, decide_eq_true hv, decide_eq_true hd.2]
        simp only [splitQ, splitR, val_one, decide_eq_false hlt, List.length_singleton, digN]
        have hm0 := Int.emod_nonneg (val 4294967296 a) (show d ≠ 0 by omega)
        have hm1 := Int.emod_lt_of_pos (val 4294967296 a) hv
        rw [Int.emod_eq_of_lt hm0 (by omega)]
        rfl
      · have h2 : 2 ≤ b.length := by omega
        obtain ⟨s, hs31, hs, hvd, hb1, hb2⟩ := SplitMag.shift_ok hb hv h2
        obtain ⟨p1, p2⟩ := two_pow_31 hs31
        have ew : IntKind.i64.wrap ((b.length : Int) - 1) = ((b.length - 1 : Nat) : Int) := by rw [w64 (by omega) (by omega)]; omega
        have hs2 : 32 - blen (rd b (IntKind.i64.wrap ((b.length : Int) - 1))) = (s : Int) := by rw [ew, rd_toNat, Int.toNat_natCast]; exact hs
        have hvl : ((leftL b s).take b.length).length = b.length := by rw [hvd, digN_length]
        have hvb0 : 0 ≤ val 4294967296 b * 2 ^ s := Int.mul_nonneg (by omega) (by omega)
        have hvv : val 4294967296 ((leftL b s).take b.length) = val 4294967296 b * 2 ^ s := by rw [hvd, val_digN W_pos _ _ hvb0 hb1]
        have hvo : okB 4294967296 ((leftL b s).take b.length) = true := by rw [hvd]; exact digN_ok W_pos _ _
        have hA0 : 0 ≤ val 4294967296 a * 2 ^ s := Int.mul_nonneg va0 (by omega)
        have hA1 : val 4294967296 a * 2 ^ s < 4294967296 ^ a.length * 2 ^ s := Int.mul_lt_mul_of_pos_right (val_lt W_pos oa) (by omega)
        have hPa : (0 : Int) < 4294967296 ^ a.length := Int.pow_pos (by decide)
        have hA2 : val 4294967296 a * 2 ^ s < 4294967296 ^ (a.length + 1) := by
          rw [Int.pow_succ]
          have : (4294967296 : Int) ^ a.length * 2 ^ s ≤ 4294967296 ^ a.length * 4294967296 := Int.mul_le_mul_of_nonneg_left (by omega) (by omega)
          omega
        have hul : (leftL a s).length = a.length + 1 := by unfold leftL; rw [digN_length]
        have huo : okB 4294967296 (leftL a s) = true := by unfold leftL; exact digN_ok W_pos _ _
        have huv : val 4294967296 (leftL a s) = val 4294967296 a * 2 ^ s := by unfold leftL; rw [Int.toNat_natCast, val_digN W_pos _ _ hA0 hA2]
        have htop : 2147483648 ≤ ((leftL b s).take b.length).getD (((leftL b s).take b.length).length - 1) 0 := by
          rw [hvl]
          generalize (leftL b s).take b.length = v at *
          have hd : val 4294967296 v = val 4294967296 (v.take (b.length - 1)) + 4294967296 ^ (b.length - 1) * v.getD (b.length - 1) 0 := by
            have := val_take_succ 4294967296 v (b.length - 1)
            rw [show b.length - 1 + 1 = b.length by omega, List.take_of_length_le (by omega)] at this
            exact this
          have hlo1 := val_lt W_pos (okB_take hvo (b.length - 1))
          rw [List.length_take, Nat.min_eq_left (by omega)] at hlo1
          refine Int.not_lt.1 (fun hgt => ?_)
          have : 4294967296 ^ (b.length - 1) * (v.getD (b.length - 1) 0 + 1) ≤ 4294967296 ^ (b.length - 1) * 2147483648 := Int.mul_le_mul_of_nonneg_left (by omega) (Int.pow_nonneg (by decide))
          rw [Int.mul_add, Int.mul_one] at this
          rw [Int.mul_comm 2147483648] at hb2
          omega
        have hP : SplitMag.Pre ((leftL b s).take b.length) (val 4294967296 a * 2 ^ s) (a.length + 1) (a.length - b.length) := ⟨hvo, by omega, htop, by rw [hvl]; omega, by omega⟩
        have hI0 : SplitMag.Inv ((leftL b s).take b.length) (val 4294967296 a * 2 ^ s) (a.length + 1) (a.length - b.length) (a.length - b.length + 1) (leftL a s) (zeros (a.length - b.length + 1)) := by
          refine ⟨Nat.le_refl _, hul, huo, by simp, ?_, ?_, ?_⟩
          · rw [List.drop_of_length_le (by simp)]; rfl
          · rw [List.drop_of_length_le (by simp), huv]; simp [val]
          · rw [huv, hvv]
            have k1 : 2147483648 * 4294967296 ^ (b.length - 1) * 4294967296 ^ (a.length - b.length + 1) ≤ val 4294967296 b * 2 ^ s * 4294967296 ^ (a.length - b.length + 1) := Int.mul_le_mul_of_nonneg_right hb2 (Int.pow_nonneg (by decide))
            rw [Int.mul_assoc, ← Int.pow_add, show b.length - 1 + (a.length - b.length + 1) = a.length by omega] at k1
            have k2 : (4294967296 : Int) ^ a.length * 2 ^ s ≤ 4294967296 ^ a.length * 2147483648 := Int.mul_le_mul_of_nonneg_left p2 (by omega)
            rw [Int.mul_comm _ 2147483648] at k2
            omega
        obtain ⟨e1, S1, hE1, rfl, x, b1, l, q, rfl, _, r2, r3, r4, r5, r6, r7⟩ := SplitMag.loop a b s _ _ hs2 _ true _ _ hvl hP hI0
        rw [List.drop_zero] at r5 r6
        rw [Int.pow_zero, Int.one_mul, hvv] at r6
        rw [Int.pow_zero, Int.mul_one, hvv] at r7
        have rl0 := val_nonneg W_pos r3
        have hbs : 0 < val 4294967296 b * 2 ^ s := Int.mul_pos hv (by omega)
        have hq : val 4294967296 q = val 4294967296 a / val 4294967296 b := by
          have k1 : val 4294967296 a * 2 ^ s / (val 4294967296 b * 2 ^ s) = val 4294967296 a / val 4294967296 b := Int.mul_ediv_mul_of_pos_left _ _ (by omega)
          rw [← k1, r6, Int.add_mul_ediv_left _ _ (by omega), Int.ediv_eq_zero_of_lt rl0 r7, Int.zero_add]
        have hr : val 4294967296 l = val 4294967296 a % val 4294967296 b * 2 ^ s := by
          have k1 := Int.emod_add_mul_ediv (val 4294967296 a) (val 4294967296 b)
          rw [hq] at r6
          have k2 : (val 4294967296 a % val 4294967296 b + val 4294967296 b * (val 4294967296 a / val 4294967296 b)) * 2 ^ s = val 4294967296 l + val 4294967296 b * 2 ^ s * (val 4294967296 a / val 4294967296 b) := by rw [k1]; exact r6
          rw [Int.add_mul] at k2
          have k3 : val 4294967296 b * (val 4294967296 a / val 4294967296 b) * 2 ^ s = val 4294967296 b * 2 ^ s * (val 4294967296 a / val 4294967296 b) := by grind
          omega
        have hlt2 : val 4294967296 (l.take b.length) = val 4294967296 l := by
          have k1 : val 4294967296 l = val 4294967296 (l.take b.length) + 4294967296 ^ b.length * val 4294967296 (l.drop b.length) := by
            conv => lhs; rw [← List.take_append_drop b.length l]
            rw [val_append, List.length_take, Nat.min_eq_left (by omega)]
          have k2 := val_nonneg W_pos (okB_drop r3 b.length)
          have k3 := val_nonneg W_pos (okB_take r3 b.length)
          have k4 : val 4294967296 (l.drop b.length) = 0 := by
            refine Int.le_antisymm (Int.not_lt.1 (fun hgt => ?_)) k2
            have : (4294967296 : Int) ^ b.length * 1 ≤ 4294967296 ^ b.length * val 4294967296 (l.drop b.length) := Int.mul_le_mul_of_nonneg_left (by omega) (Int.pow_nonneg (by decide))
            omega
          rw [k4, Int.mul_zero, Int.add_zero] at k1
          exact k1.symm
        refine ⟨_, tabOf_all _, (SplitMag.rest a b q l x b1).trans ?_⟩
        have htl := getD_ok W_pos ob (b.length - 1)
        have em1 : IntKind.i64.wrap (((a.length + 1 : Nat) : Int) - (b.length : Int)) = ((a.length + 1 - b.length : Nat) : Int) := by rw [w64 (by omega) (by omega)]; omega
        have em2 : IntKind.i64.wrap (((a.length + 1 - b.length : Nat) : Int) - 1) = ((a.length - b.length : Nat) : Int) := by rw [w64 (by omega) (by omega)]; omega
        have em3 : IntKind.i64.wrap (((a.length - b.length : Nat) : Int) + 1) = ((a.length - b.length + 1 : Nat) : Int) := by rw [w64 (by omega) (by omega)]; omega
        have hlb2 : (leftL b s).length = b.length + 1 := by unfold leftL; rw [digN_length]
        have hc1 : decide (cmpZ (val 4294967296 a) (val 4294967296 b) < 0) = false := decide_eq_false (fun h => hlt ((cmpZ_lt _ _).1 h))
        have hc2 : ((b.length : Int) == 1) = false := by rw [beq_eq_false_iff_ne]; omega
        have hc3 : inB ((b.length - 1 : Nat) : Int) b.length = true := inB_iff.2 (by omega)
        have hft : few (l.take b.length) = true := few_iff.2 (by rw [List.length_take]; omega)
        rw [hs2, ew]
        simp only [Int.toNat_natCast, hvl, hul, em1, em2, em3, cdec_true hE1, ha, hb, hc1, hc2, hc3, fa, fb, oa, ob, hft, okB_take r3, hlb2, rd_toNat, decide_eq_true htl.1, decide_eq_true htl.2, decide_eq_true (show (0 : Int) ≤ (s : Int) by omega), decide_eq_true (show (s : Int) ≤ 31 by omega), decide_eq_true (show (b.length : Int) ≤ ((b.length + 1 : Nat) : Int) by omega), decide_eq_true (show (0 : Int) ≤ ((a.length - b.length + 1 : Nat) : Int) by omega), decide_eq_true (Int.le_refl ((a.length - b.length + 1 : Nat) : Int)), decide_eq_true (show (a.length - b.length + 1) * 4 ≤ 281474976710656 by omega), decide_eq_true (show (b.length : Int) ≤ (l.length : Int) by omega)]
        simp only [Bool.and_self, cond_true, cond_false, splitQ, splitR, decide_eq_false hlt]
        have hc4 : (b.length == 1) = false := by rw [beq_eq_false_iff_ne]; omega
        rw [hc4]
        simp only [cond_false]
        rw [show q = digN 4294967296 (a.length - b.length + 1) (val 4294967296 a / val 4294967296 b) from dig_eq W_pos r5 r4 hq]
        have : rightL (l.take b.length) (s : Int) = digN 4294967296 b.length (val 4294967296 a % val 4294967296 b) := by
          unfold rightL
          rw [hlt2, hr, Int.toNat_natCast, List.length_take, Nat.min_eq_left (by omega), Int.mul_ediv_cancel _ (by omega)]
        rw [this]
  · cases h
end Go.Abs
end
section
/- What arith's functions answer, in whole numbers: signs, bits, sums, products. -/
namespace Go.Abs
open Go.Proofs Go.Dig
theorem val_lb (z : Int) : val 4294967296 (lb 4294967296 z) = az z := lb_val W_two z
theorem val_lb10 (z : Int) : val 10 (lb 10 z) = az z := lb_val (by decide) z
theorem num_lbW (z : Int) : num 4294967296 (sg z) (lb 4294967296 z) = z := num_lb W_two z
theorem num_lb10 (z : Int) : num 10 (sg z) (lb 10 z) = z := num_lb (by decide) z
theorem okW_lb (z : Int) : okB 4294967296 (lb 4294967296 z) = true := lb_ok W_two z
theorem ok10_lb (z : Int) : okB 10 (lb 10 z) = true := lb_ok (by decide) z
theorem cnW (z : Int) : cn 4294967296 (sg z) (lb 4294967296 z) = decide (z.natAbs < Lim) := cn_lb W_two z
theorem cn10 (z : Int) : cn 10 (sg z) (lb 10 z) = decide (z.natAbs < Lim) := cn_lb (by decide) z
theorem clW {z : Int} (h : z.natAbs < Lim) : cl 4294967296 (lb 4294967296 z) = true := cl_lb h
theorem fewW {z : Int} (h : z.natAbs < Lim) : few (lb 4294967296 z) = true := few_lb h
set_option exponentiation.threshold 20000 in
/-- A number that is held is not too large for anything. -/
theorem big_1024 : (2 : Nat) ^ 1024 * 2 ^ 1024 < Lim := Nat.lt_of_not_le (fun h => by
  have : Nat.ble (Lim) (2 ^ 1024 * 2 ^ 1024) = true := Nat.ble_eq_true_of_le h
  have h2 : Nat.ble (Lim) (2 ^ 1024 * 2 ^ 1024) = false := by kernel_rfl
  rw [h2] at this
  cases this)
theorem fits_iff {z : Int} : fits z = true ↔ z.natAbs < 2 ^ 1024 := by unfold fits; exact decide_eq_true_iff
set_option exponentiation.threshold 20000 in
theorem small_of_fits {z : Int} (h : fits z = true) : z.natAbs < Lim := by
  have h1 := fits_iff.1 h
  have h2 := big_1024
  have h3 : (1 : Nat) ≤ 2 ^ 1024 := Nat.one_le_two_pow
  have h4 : 2 ^ 1024 * 1 ≤ (2 : Nat) ^ 1024 * 2 ^ 1024 := Nat.mul_le_mul_left _ h3
  generalize (2 : Nat) ^ 1024 = K at *
  generalize Lim = L at *
  omega
set_option exponentiation.threshold 20000 in
theorem small_add {x y : Int} (hx : fits x = true) (hy : fits y = true) : (x + y).natAbs < Lim := by
  have h1 := fits_iff.1 hx
  have h2 := fits_iff.1 hy
  have h3 := big_1024
  have h5 : (2 : Nat) ≤ 2 ^ 1024 := Nat.le_of_ble_eq_true (by kernel_rfl)
  have h4 : 2 ^ 1024 * 2 ≤ (2 : Nat) ^ 1024 * 2 ^ 1024 := Nat.mul_le_mul_left _ h5
  generalize (2 : Nat) ^ 1024 = K at *
  generalize Lim = L at *
  omega
set_option exponentiation.threshold 20000 in
theorem small_mul {x y : Int} (hx : fits x = true) (hy : fits y = true) : (x * y).natAbs < Lim := by
  have h1 := fits_iff.1 hx
  have h2 := fits_iff.1 hy
  have h3 := big_1024
  have h4 : x.natAbs * y.natAbs ≤ 2 ^ 1024 * 2 ^ 1024 := Nat.mul_le_mul (Nat.le_of_lt h1) (Nat.le_of_lt h2)
  rw [Int.natAbs_mul]
  exact Nat.lt_of_le_of_lt h4 h3
theorem az_nonneg (z : Int) : 0 ≤ az z := by unfold az; omega
theorem hz_of {z : Int} (h : fits z = true) : hz z = z := by unfold hz; rw [h]; rfl
theorem he_of {z : Int} (h : fits z = true) : he z = 0 := by unfold he; rw [h]; rfl
theorem blen_le {z : Int} (h : 0 ≤ z) (k : Nat) : blen z ≤ k ↔ z < 2 ^ k := by
  by_cases h0 : z = 0
  · subst h0
    have : (0 : Int) < 2 ^ k := Int.pow_pos (by decide)
    simp [blen, this]
  · obtain ⟨b1, b2, b3⟩ := blen_pow (show 0 < z by omega)
    constructor
    · intro hk
      obtain ⟨m, hm⟩ : ∃ m, k = (blen z).toNat + m := ⟨k - (blen z).toNat, by omega⟩
      rw [hm, Int.pow_add]
      have hp : (0 : Int) < 2 ^ m := Int.pow_pos (by decide)
      have : (2 : Int) ^ (blen z).toNat * 1 ≤ 2 ^ (blen z).toNat * 2 ^ m := Int.mul_le_mul_of_nonneg_left (by omega) (by omega)
      omega
    · intro hk
      refine Int.not_lt.1 (fun hgt => ?_)
      obtain ⟨m, hm⟩ : ∃ m, (blen z - 1).toNat = k + m := ⟨(blen z - 1).toNat - k, by omega⟩
      rw [hm, Int.pow_add] at b2
      have hp : (0 : Int) < 2 ^ m := Int.pow_pos (by decide)
      have : (2 : Int) ^ k * 1 ≤ 2 ^ k * 2 ^ m := Int.mul_le_mul_of_nonneg_left (by omega) (Int.pow_nonneg (by decide))
      omega
set_option exponentiation.threshold 20000 in
theorem fits_blen (z : Int) : fits z = decide (blen (az z) ≤ 1024) := by
  rw [Bool.eq_iff_iff, fits_iff, decide_eq_true_eq]
  have h := blen_le (az_nonneg z) 1024
  have h : blen (az z) ≤ 1024 ↔ az z < 2 ^ 1024 := h
  rw [h]
  unfold az
  have e : ((2 ^ 1024 : Nat) : Int) = (2 : Int) ^ 1024 := Int.natCast_pow ..
  rw [← e]
  exact (Int.ofNat_lt).symm
theorem meets_sign : Meets Try.prog 45 ansSign := by
  refine meets_fn noOrc_ok Try.f45 Try.func45 (by kernel_rfl) (fun args r h => ?_)
  unfold ansSign at h
  split at h
  · rename_i s l
    simp only [Option.some.injEq, Prod.mk.injEq] at h
    obtain ⟨h, rfl⟩ := h
    obtain ⟨z, rfl, rfl, hz⟩ := (cn_iff W_two).1 h
    refine ⟨rfl, _, noTab_all, (Sign.rest _ _).trans ?_⟩
    have hnil := lb_nil W_two (z := z)
    rw [num_lbW]
    unfold cmpZ
    by_cases h0 : z = 0
    · subst h0; rfl
    · have : ((lb 4294967296 z).length : Int) ≠ 0 := by
        intro h; exact h0 (hnil.1 (List.eq_nil_of_length_eq_zero (by omega)))
      have e1 : (((lb 4294967296 z).length : Int) == 0) = false := by rw [beq_eq_false_iff_ne]; exact this
      rw [e1]
      unfold sg
      by_cases h1 : z < 0
      · rw [decide_eq_true h1, if_pos h1]; rfl
      · rw [decide_eq_false h1, if_neg h1, if_pos (by omega)]; rfl
  · cases h
theorem blen_lb {z : Int} (h0 : z ≠ 0) : blen (az z) = 32 * ((lb 4294967296 z).length - 1 : Nat) + blen ((lb 4294967296 z).getD ((lb 4294967296 z).length - 1) 0) := by
  have ok := okW_lb z
  have hn : lb 4294967296 z ≠ [] := fun h => h0 ((lb_nil W_two).1 h)
  have hl : 0 < (lb 4294967296 z).length := List.length_pos_iff.2 hn
  have hlast := lb_last 4294967296 z
  have hv := val_lb z
  generalize lb 4294967296 z = l at *
  obtain ⟨n, hn2⟩ : ∃ n, l.length = n + 1 := ⟨l.length - 1, by omega⟩
  rw [hn2, Nat.add_sub_cancel]
  have hd : val 4294967296 l = val 4294967296 (l.take n) + 4294967296 ^ n * l.getD n 0 := by
    have := val_take_succ 4294967296 l n
    rw [List.take_of_length_le (by omega)] at this
    exact this
  have ht := getD_ok W_pos ok n
  have hne : l.getD n 0 ≠ 0 := by
    rw [List.getLast?_eq_getElem?, hn2, Nat.add_sub_cancel, List.getElem?_eq_getElem (by omega)] at hlast
    rw [getD_at (by omega)]
    intro h; exact hlast (congrArg some h)
  have lo0 := val_nonneg W_pos (okB_take ok n)
  have lo1 := val_lt W_pos (okB_take ok n)
  rw [List.length_take, Nat.min_eq_left (by omega)] at lo1
  obtain ⟨c1, c2, c3⟩ := blen_pow (show 0 < l.getD n 0 by omega)
  generalize l.getD n 0 = t at *
  have e32 : (4294967296 : Int) ^ n = 2 ^ (32 * n) := by rw [Int.pow_mul]; rfl
  have hP : (0 : Int) < 4294967296 ^ n := Int.pow_pos (by decide)
  have g1 : 4294967296 ^ n * 2 ^ (blen t - 1).toNat ≤ 4294967296 ^ n * t := Int.mul_le_mul_of_nonneg_left c2 (by omega)
  have g2 : 4294967296 ^ n * (t + 1) ≤ 4294967296 ^ n * 2 ^ (blen t).toNat := Int.mul_le_mul_of_nonneg_left (by omega) (by omega)
  rw [Int.mul_add, Int.mul_one] at g2
  have g3 : (2 : Int) ^ (32 * n + (blen t - 1).toNat) = 4294967296 ^ n * 2 ^ (blen t - 1).toNat := by rw [Int.pow_add, e32]
  have g4 : (2 : Int) ^ (32 * n + (blen t - 1).toNat + 1) = 4294967296 ^ n * 2 ^ (blen t).toNat := by rw [show 32 * n + (blen t - 1).toNat + 1 = 32 * n + (blen t).toNat by omega, Int.pow_add, e32]
  rw [← hv, blen_eq (k := 32 * n + (blen t - 1).toNat) (by have := Int.mul_pos hP (show 0 < t by omega); omega) (by omega) (by omega)]
  omega
theorem blen_top {t : Int} (h0 : 0 ≤ t) (h1 : t < 4294967296) : 0 ≤ blen t ∧ blen t ≤ 32 := by
  refine ⟨?_, (blen_le h0 32).2 h1⟩
  by_cases h : t = 0
  · subst h; decide
  · have := (blen_pow (show 0 < t by omega)).1; omega
theorem meets_bits : Meets Try.prog 96 ansBits := by
  refine meets_fn (orc_ok (l := Bits.ans) ⟨meets_len32, trivial⟩) Try.f96 Try.func96 (by kernel_rfl) (fun args r h => ?_)
  unfold ansBits at h
  split at h
  · rename_i s l
    simp only [Option.some.injEq, Prod.mk.injEq] at h
    obtain ⟨h, rfl⟩ := h
    obtain ⟨z, rfl, rfl, hz⟩ := (cn_iff W_two).1 h
    refine ⟨rfl, _, noTab_all, (Bits.rest _ _).trans ?_⟩
    rw [num_lbW]
    have hlen := lb_length hz
    by_cases h0 : z = 0
    · subst h0; rfl
    · have hn : lb 4294967296 z ≠ [] := fun h => h0 ((lb_nil W_two).1 h)
      have hl : 0 < (lb 4294967296 z).length := List.length_pos_iff.2 hn
      have hb := blen_lb h0
      have ht := getD_ok W_pos (okW_lb z) ((lb 4294967296 z).length - 1)
      obtain ⟨t0, t1⟩ := blen_top ht.1 ht.2
      have e1 : (((lb 4294967296 z).length : Int) == 0) = false := by rw [beq_eq_false_iff_ne]; omega
      have e2 : IntKind.i64.wrap (((lb 4294967296 z).length : Int) - 1) = (((lb 4294967296 z).length - 1 : Nat) : Int) := by rw [w64 (by omega) (by omega)]; omega
      rw [e1, e2, bT (inB_iff.2 (by omega)), rd_toNat, Int.toNat_natCast, decide_eq_true ht.1, decide_eq_true ht.2, w64 (n := 32 * _) (by omega) (by omega), w64 (by omega) (by omega), hb]
      rfl
  · cases h
theorem meets_held : Meets Try.prog 78 ansHeld := by
  refine meets_fn (orc_ok (l := Held.ans) ⟨meets_bits, trivial⟩) Try.f78 Try.func78 (by kernel_rfl) (fun args r h => ?_)
  unfold ansHeld at h
  split at h
  · rename_i s l
    simp only [Option.some.injEq, Prod.mk.injEq] at h
    obtain ⟨h, rfl⟩ := h
    refine ⟨rfl, _, noTab_all, (Held.rest _ _).trans ?_⟩
    rw [h]
    obtain ⟨z, rfl, rfl, hz⟩ := (cn_iff W_two).1 h
    rw [num_lbW]
    have hf := fits_blen z
    by_cases hb : blen (az z) ≤ 1024
    · rw [decide_eq_true hb] at hf
      rw [decide_eq_false (by omega), hz_of hf, he_of hf]
      rfl
    · rw [decide_eq_false hb] at hf
      rw [decide_eq_true (by omega)]
      unfold Abs.hz he
      rw [hf]
      rfl
  · cases h
theorem okB_two {B x y : Int} (hx : 0 ≤ x ∧ x < B) (hy : 0 ≤ y ∧ y < B) : okB B [x, y] = true := okB_cons.2 ⟨hx, okB_one hy⟩
theorem meets_from : Meets Try.prog 61 ansFrom := by
  refine meets_fn (orc_ok (l := From.ans) ⟨meets_norm, trivial⟩) Try.f61 Try.func61 (by kernel_rfl) (fun args r h => ?_)
  unfold ansFrom at h
  split at h
  · rename_i n
    simp only [Option.some.injEq, Prod.mk.injEq, i64B, Bool.and_eq_true, decide_eq_true_eq] at h
    obtain ⟨⟨h0, h1⟩, rfl⟩ := h
    refine ⟨rfl, _, noTab_all, (From.rest n).trans ?_⟩
    have key : ∀ u : Int, 0 ≤ u → u ≤ 18446744073709551615 → okB 4294967296 [IntKind.u32.wrap u, IntKind.u32.wrap (u.fdiv (2 ^ 32))] = true ∧ val 4294967296 [IntKind.u32.wrap u, IntKind.u32.wrap (u.fdiv (2 ^ 32))] = u := by
      intro u u0 u1
      rw [fdiv32, wu32_mod, wu32_mod]
      refine ⟨okB_two (by omega) (by omega), ?_⟩
      simp only [val]
      omega
    by_cases hn : n < 0
    · have e1 : IntKind.u64.wrap (0 - IntKind.u64.wrap n) = -n := by rw [wu64_mod, wu64_mod]; omega
      obtain ⟨k1, k2⟩ := key (-n) (by omega) (by omega)
      rw [decide_eq_true hn, e1, k1]
      have : num 4294967296 true [IntKind.u32.wrap (-n), IntKind.u32.wrap ((-n).fdiv (2 ^ 32))] = n := by
        unfold num; rw [k2]; simp
      rw [this]
      rfl
    · have e1 : IntKind.u64.wrap n = n := wu64 (by omega) (by omega)
      obtain ⟨k1, k2⟩ := key n (by omega) (by omega)
      rw [decide_eq_false hn, e1, k1]
      have : num 4294967296 false [IntKind.u32.wrap n, IntKind.u32.wrap (n.fdiv (2 ^ 32))] = n := by
        unfold num; rw [k2]; simp
      rw [this]
      rfl
  · cases h
theorem meets_neg : Meets Try.prog 62 ansNeg := by
  refine meets_fn (orc_ok (l := Neg.ans) ⟨meets_norm, trivial⟩) Try.f62 Try.func62 (by kernel_rfl) (fun args r h => ?_)
  unfold ansNeg at h
  split at h
  · rename_i s l
    simp only [Option.some.injEq, Prod.mk.injEq] at h
    obtain ⟨h, rfl⟩ := h
    obtain ⟨z, rfl, rfl, hz⟩ := (cn_iff W_two).1 h
    refine ⟨rfl, _, noTab_all, (Neg.rest _ _).trans ?_⟩
    rw [num_lbW, fewW hz, okW_lb]
    by_cases h0 : z = 0
    · subst h0; rfl
    · have hn : lb 4294967296 z ≠ [] := fun h => h0 ((lb_nil W_two).1 h)
      have hl : 0 < (lb 4294967296 z).length := List.length_pos_iff.2 hn
      have e1 : (((lb 4294967296 z).length : Int) == 0) = false := by rw [beq_eq_false_iff_ne]; omega
      have : num 4294967296 (!sg z) (lb 4294967296 z) = -z := by
        unfold num sg
        rw [val_lb]
        unfold az
        by_cases h1 : z < 0
        · rw [decide_eq_true h1]; simp; omega
        · rw [decide_eq_false h1]; simp; omega
      rw [e1, this]
      rfl
  · cases h
theorem meets_abs : Meets Try.prog 93 ansAbs := by
  refine meets_fn (orc_ok (l := Abs_.ans) ⟨meets_norm, trivial⟩) Try.f93 Try.func93 (by kernel_rfl) (fun args r h => ?_)
  unfold ansAbs at h
  split at h
  · rename_i s l
    simp only [Option.some.injEq, Prod.mk.injEq] at h
    obtain ⟨h, rfl⟩ := h
    obtain ⟨z, rfl, rfl, hz⟩ := (cn_iff W_two).1 h
    refine ⟨rfl, _, noTab_all, (Abs_.rest _ _).trans ?_⟩
    have : num 4294967296 false (lb 4294967296 z) = az z := by unfold num; rw [val_lb]; rfl
    rw [num_lbW, fewW hz, okW_lb, this]
    rfl
  · cases h
theorem meets_cmp : Meets Try.prog 57 ansCmp := by
  refine meets_fn (orc_ok (l := Cmp.ans) ⟨meets_cmpMag, trivial⟩) Try.f57 Try.func57 (by kernel_rfl) (fun args r h => ?_)
  unfold ansCmp at h
  split at h
  · rename_i s l t m
    simp only [Option.some.injEq, Prod.mk.injEq, Bool.and_eq_true] at h
    obtain ⟨⟨h, k⟩, rfl⟩ := h
    obtain ⟨x, rfl, rfl, hx⟩ := (cn_iff W_two).1 h
    obtain ⟨y, rfl, rfl, hy⟩ := (cn_iff W_two).1 k
    refine ⟨rfl, _, noTab_all, (Cmp.rest _ _ _ _).trans ?_⟩
    rw [num_lbW, num_lbW, clW hx, clW hy, val_lb, val_lb]
    unfold sg cmpZ az
    by_cases h1 : x < 0 <;> by_cases h2 : y < 0 <;> simp only [h1, h2, decide_true, decide_false, beq_self_eq_true, Bool.not_true, Bool.not_false, cond_true, cond_false, Bool.and_self, Bool.true_beq, Bool.false_beq, Option.some.injEq, Res.val.injEq, AV.int.injEq, true_and] <;> (repeat' split) <;> omega
  · cases h
end Go.Abs
end
section
/- What arith's functions answer, in whole numbers: sums, products, quotients, common divisors. -/
namespace Go.Abs
open Go.Proofs Go.Dig
/-- The number of a sign and a list with a value. -/
theorem num_of {B : Int} {s : Bool} {l : List Int} {v : Int} (h : val B l = v) : num B s l = bif s then -v else v := by unfold num; rw [h]
theorem plusL_len (a b : List Int) : (plusL a b).length = max a.length b.length + 1 := digN_length ..
theorem lessL_len (a b : List Int) : (lessL a b).length = a.length := digN_length ..
theorem timesL_len (a b : List Int) : (timesL a b).length = a.length + b.length := digN_length ..
theorem plusL_ok (a b : List Int) : okB 4294967296 (plusL a b) = true := digN_ok W_pos _ _
theorem lessL_ok (a b : List Int) : okB 4294967296 (lessL a b) = true := digN_ok W_pos _ _
theorem timesL_ok (a b : List Int) : okB 4294967296 (timesL a b) = true := digN_ok W_pos _ _
theorem pow_mono {B : Int} (hB : 1 ≤ B) {m n : Nat} (h : m ≤ n) : B ^ m ≤ B ^ n := by
  obtain ⟨k, rfl⟩ : ∃ k, n = m + k := ⟨n - m, by omega⟩
  rw [Int.pow_add]
  have h1 : (0 : Int) < B ^ k := Int.pow_pos (by omega)
  have h2 : (0 : Int) ≤ B ^ m := Int.pow_nonneg (by omega)
  have : B ^ m * 1 ≤ B ^ m * B ^ k := Int.mul_le_mul_of_nonneg_left (by omega) h2
  omega
theorem plusL_val {a b : List Int} (ha : okB 4294967296 a = true) (hb : okB 4294967296 b = true) : val 4294967296 (plusL a b) = val 4294967296 a + val 4294967296 b := by
  have a0 := val_nonneg W_pos ha
  have b0 := val_nonneg W_pos hb
  have a1 := val_lt W_pos ha
  have b1 := val_lt W_pos hb
  have a2 := pow_mono (B := 4294967296) (by decide) (Nat.le_max_left a.length b.length)
  have b2 := pow_mono (B := 4294967296) (by decide) (Nat.le_max_right a.length b.length)
  unfold plusL
  refine val_digN W_pos _ _ (by omega) ?_
  rw [Int.pow_succ]
  have : (0 : Int) < 4294967296 ^ max a.length b.length := Int.pow_pos (by decide)
  omega
theorem lessL_val {a b : List Int} (ha : okB 4294967296 a = true) (hb : okB 4294967296 b = true) (h : val 4294967296 b ≤ val 4294967296 a) : val 4294967296 (lessL a b) = val 4294967296 a - val 4294967296 b := by
  have b0 := val_nonneg W_pos hb
  have a1 := val_lt W_pos ha
  exact val_digN W_pos _ _ (by omega) (by omega)
theorem timesL_val {a b : List Int} (ha : okB 4294967296 a = true) (hb : okB 4294967296 b = true) : val 4294967296 (timesL a b) = val 4294967296 a * val 4294967296 b := by
  have a0 := val_nonneg W_pos ha
  have b0 := val_nonneg W_pos hb
  have a1 := val_lt W_pos ha
  have b1 := val_lt W_pos hb
  unfold timesL
  refine val_digN W_pos _ _ (Int.mul_nonneg a0 b0) ?_
  rw [Int.pow_add]
  have h1 : val 4294967296 a * val 4294967296 b ≤ val 4294967296 a * 4294967296 ^ b.length := Int.mul_le_mul_of_nonneg_left (by omega) a0
  have h2 : val 4294967296 a * 4294967296 ^ b.length < 4294967296 ^ a.length * 4294967296 ^ b.length := Int.mul_lt_mul_of_pos_right a1 (Int.pow_pos (by decide))
  omega
/-- Signs and amounts. -/
theorem sg_cases (z : Int) : (sg z = true ∧ z < 0 ∧ az z = -z) ∨ (sg z = false ∧ 0 ≤ z ∧ az z = z) := by
  unfold sg az
  by_cases h : z < 0
  · exact .inl ⟨decide_eq_true h, h, by omega⟩
  · exact .inr ⟨decide_eq_false h, by omega, by omega⟩
theorem lb_len_le {x y : Int} (h : az x ≤ az y) : (lb 4294967296 x).length ≤ (lb 4294967296 y).length := by
  refine Nat.not_lt.1 (fun hlt => ?_)
  have := val_lt_of_length W_two (okW_lb y) (okW_lb x) (lb_last _ _) hlt
  rw [val_lb, val_lb] at this
  omega
theorem meets_plus : Meets Try.prog 79 ansPlus := by
  refine meets_fn (orc_ok (l := Plus.ans) ⟨meets_norm, meets_cmpMag, meets_plusMag, meets_lessMag meets_sub32, trivial⟩) Try.f79 Try.func79 (by kernel_rfl) (fun args r h => ?_)
  unfold ansPlus at h
  split at h
  · rename_i s l t m
    simp only [Option.some.injEq, Prod.mk.injEq, Bool.and_eq_true] at h
    obtain ⟨⟨h, k⟩, rfl⟩ := h
    obtain ⟨x, rfl, rfl, hx⟩ := (cn_iff W_two).1 h
    obtain ⟨y, rfl, rfl, hy⟩ := (cn_iff W_two).1 k
    refine ⟨rfl, _, noTab_all, (Plus.rest _ _ _ _).trans ?_⟩
    have lx := lb_length hx
    have ly := lb_length hy
    have f1 : few (plusL (lb 4294967296 x) (lb 4294967296 y)) = true := few_iff.2 (by rw [plusL_len]; omega)
    have f2 : few (lessL (lb 4294967296 x) (lb 4294967296 y)) = true := few_iff.2 (by rw [lessL_len]; omega)
    have f3 : few (lessL (lb 4294967296 y) (lb 4294967296 x)) = true := few_iff.2 (by rw [lessL_len]; omega)
    have hge : cmpZ (az x) (az y) ≥ 0 ↔ az y ≤ az x := by have := cmpZ_lt (az x) (az y); omega
    rw [num_lbW, num_lbW]
    simp only [fewW hx, fewW hy, okW_lb, clW hx, clW hy, f1, f2, f3, plusL_ok, lessL_ok, val_lb, Bool.and_self, Bool.true_and, cond_true]
    by_cases hc : az y ≤ az x
    · have d1 : decide (cmpZ (az x) (az y) ≥ 0) = true := decide_eq_true (hge.2 hc)
      have e2 : val 4294967296 (lessL (lb 4294967296 x) (lb 4294967296 y)) = az x - az y := by rw [lessL_val (okW_lb x) (okW_lb y) (by rw [val_lb, val_lb]; exact hc), val_lb, val_lb]
      have e1 : val 4294967296 (plusL (lb 4294967296 x) (lb 4294967296 y)) = az x + az y := by rw [plusL_val (okW_lb x) (okW_lb y), val_lb, val_lb]
      rw [d1, decide_eq_true (lb_len_le hc), decide_eq_true hc, num_of e1, num_of e2]
      rcases sg_cases x with ⟨a1, a2, a3⟩ | ⟨a1, a2, a3⟩ <;> rcases sg_cases y with ⟨b1, b2, b3⟩ | ⟨b1, b2, b3⟩ <;> rw [a1, b1, a3, b3] <;> simp only [beq_self_eq_true, Bool.and_self, cond_true, cond_false, Bool.true_beq, Bool.false_beq, Bool.not_true, Bool.not_false] <;> congr 4 <;> omega
    · have d1 : decide (cmpZ (az x) (az y) ≥ 0) = false := decide_eq_false (fun h => hc (hge.1 h))
      have hc2 : az x ≤ az y := by omega
      have e2 : val 4294967296 (lessL (lb 4294967296 y) (lb 4294967296 x)) = az y - az x := by rw [lessL_val (okW_lb y) (okW_lb x) (by rw [val_lb, val_lb]; exact hc2), val_lb, val_lb]
      have e1 : val 4294967296 (plusL (lb 4294967296 x) (lb 4294967296 y)) = az x + az y := by rw [plusL_val (okW_lb x) (okW_lb y), val_lb, val_lb]
      rw [d1, decide_eq_true (lb_len_le hc2), decide_eq_true hc2, num_of e1, num_of e2]
      rcases sg_cases x with ⟨a1, a2, a3⟩ | ⟨a1, a2, a3⟩ <;> rcases sg_cases y with ⟨b1, b2, b3⟩ | ⟨b1, b2, b3⟩ <;> rw [a1, b1, a3, b3] <;> simp only [beq_self_eq_true, Bool.and_self, cond_true, cond_false, Bool.true_beq, Bool.false_beq, Bool.not_true, Bool.not_false] <;> congr 4 <;> omega
  · cases h
theorem meets_add : Meets Try.prog 56 ansAdd := by
  refine meets_fn (orc_ok (l := Add.ans) ⟨meets_held, meets_plus, trivial⟩) Try.f56 Try.func56 (by kernel_rfl) (fun args r h => ?_)
  unfold ansAdd at h
  split at h
  · rename_i s l t m
    simp only [Option.some.injEq, Prod.mk.injEq, Bool.and_eq_true] at h
    obtain ⟨⟨⟨⟨h, k⟩, f1⟩, f2⟩, rfl⟩ := h
    refine ⟨rfl, _, noTab_all, (Add.rest _ _ _ _).trans ?_⟩
    rw [h, k, cnW, decide_eq_true (small_add f1 f2), N_eq]
    rfl
  · cases h
theorem meets_mul : Meets Try.prog 75 ansMul := by
  refine meets_fn (orc_ok (l := Mul.ans) ⟨meets_held, meets_norm, meets_timesMag, trivial⟩) Try.f75 Try.func75 (by kernel_rfl) (fun args r h => ?_)
  unfold ansMul at h
  split at h
  · rename_i s l t m
    simp only [Option.some.injEq, Prod.mk.injEq, Bool.and_eq_true] at h
    obtain ⟨⟨⟨⟨h, k⟩, f1⟩, f2⟩, rfl⟩ := h
    obtain ⟨x, rfl, rfl, hx⟩ := (cn_iff W_two).1 h
    obtain ⟨y, rfl, rfl, hy⟩ := (cn_iff W_two).1 k
    rw [num_lbW] at f1 f2
    refine ⟨rfl, _, noTab_all, (Mul.rest _ _ _ _).trans ?_⟩
    have lx := lb_length hx
    have ly := lb_length hy
    have g1 : few (timesL (lb 4294967296 x) (lb 4294967296 y)) = true := few_iff.2 (by rw [timesL_len]; omega)
    have e1 : num 4294967296 (!sg x == sg y) (timesL (lb 4294967296 x) (lb 4294967296 y)) = x * y := by
      rw [num_of (timesL_val (okW_lb x) (okW_lb y)), val_lb, val_lb]
      rcases sg_cases x with ⟨a1, a2, a3⟩ | ⟨a1, a2, a3⟩ <;> rcases sg_cases y with ⟨b1, b2, b3⟩ | ⟨b1, b2, b3⟩ <;> rw [a1, b1, a3, b3] <;> simp [Int.neg_mul, Int.mul_neg]
    rw [fewW hx, fewW hy, okW_lb, okW_lb, g1, timesL_ok, e1, cnW, decide_eq_true (small_mul f1 f2), N_eq, num_lbW, num_lbW]
    rfl
  · cases h
end Go.Abs
end
section
/- What arith's functions answer, in whole numbers: quotients, common divisors, sums of lists. -/
namespace Go.Abs
open Go.Proofs Go.Dig
/-- Quotient and rest of two numbers, by amounts. -/
theorem split_vals {x y : Int} (hx : x.natAbs < Lim) (hy : y.natAbs < Lim) (h0 : y ≠ 0) :
    okB 4294967296 (splitQ (lb 4294967296 x) (lb 4294967296 y)) = true ∧ few (splitQ (lb 4294967296 x) (lb 4294967296 y)) = true ∧ val 4294967296 (splitQ (lb 4294967296 x) (lb 4294967296 y)) = az x / az y ∧
    okB 4294967296 (splitR (lb 4294967296 x) (lb 4294967296 y)) = true ∧ few (splitR (lb 4294967296 x) (lb 4294967296 y)) = true ∧ val 4294967296 (splitR (lb 4294967296 x) (lb 4294967296 y)) = az x % az y := by
  have lx := lb_length hx
  have ly := lb_length hy
  have ax := az_nonneg x
  have ay : 0 < az y := by unfold az; omega
  have vx := val_lt W_pos (okW_lb x)
  have vy := val_lt W_pos (okW_lb y)
  rw [val_lb] at vx vy
  have q0 : 0 ≤ az x / az y := Int.ediv_nonneg ax (by omega)
  have r0 := Int.emod_nonneg (az x) (show az y ≠ 0 by omega)
  have r1 := Int.emod_lt_of_pos (az x) ay
  unfold splitQ splitR
  rw [val_lb, val_lb]
  by_cases hlt : az x < az y
  · rw [decide_eq_true hlt]
    simp only [cond_true]
    refine ⟨rfl, few_iff.2 (by simp), ?_, okW_lb x, fewW hx, ?_⟩
    · rw [Int.ediv_eq_zero_of_lt ax hlt]; rfl
    · rw [val_lb, Int.emod_eq_of_lt ax hlt]
  · rw [decide_eq_false hlt]
    simp only [cond_false]
    refine ⟨?_, ?_, ?_, digN_ok W_pos _ _, few_iff.2 (by rw [digN_length]; omega), val_digN W_pos _ _ r0 (by omega)⟩
    · cases ((lb 4294967296 y).length == 1) with
      | true => exact limbs_ok W_pos _
      | false => exact digN_ok W_pos _ _
    · have hq : az x / az y < 4294967296 ^ (lb 4294967296 x).length := Int.lt_of_le_of_lt (Int.ediv_le_self _ ax) vx
      cases ((lb 4294967296 y).length == 1) with
      | true => exact few_iff.2 (by have := limbs_length W_two q0 hq; simp only [cond_true]; omega)
      | false => exact few_iff.2 (by simp only [cond_false]; rw [digN_length]; omega)
    · cases hb : ((lb 4294967296 y).length == 1) with
      | true => exact limbs_val W_two q0
      | false =>
        refine val_digN W_pos _ _ q0 ?_
        have hyn : lb 4294967296 y ≠ [] := fun h => h0 ((lb_nil W_two).1 h)
        have hyl : 0 < (lb 4294967296 y).length := List.length_pos_iff.2 hyn
        have hge := last_ge W_two (okW_lb y) (lb_last _ _) hyn
        rw [val_lb] at hge
        have hxl : (lb 4294967296 y).length ≤ (lb 4294967296 x).length := lb_len_le (by omega)
        refine Int.ediv_lt_of_lt_mul ay ?_
        have e : (4294967296 : Int) ^ ((lb 4294967296 x).length) = 4294967296 ^ ((lb 4294967296 y).length - 1) * 4294967296 ^ ((lb 4294967296 x).length - (lb 4294967296 y).length + 1) := by
          rw [← Int.pow_add]; congr 1; omega
        have := Int.mul_le_mul_of_nonneg_right hge (show (0 : Int) ≤ 4294967296 ^ ((lb 4294967296 x).length - (lb 4294967296 y).length + 1) from Int.pow_nonneg (by decide))
        have hk : az x < az y * 4294967296 ^ ((lb 4294967296 x).length - (lb 4294967296 y).length + 1) := Int.lt_of_lt_of_le (by rw [← e]; exact vx) this
        rw [Int.mul_comm]
        exact hk
theorem div_of {x y q r : Int} (h : r + y * q = x) (hr : (0 < y ∧ 0 ≤ r ∧ r < y) ∨ (y < 0 ∧ y < r ∧ r ≤ 0)) : dq x y = q ∧ dr x y = r := by
  unfold dq dr
  rcases hr with ⟨h1, h2, h3⟩ | ⟨h1, h2, h3⟩
  · rw [if_neg (by omega), if_neg (by omega)]
    exact (Int.fdiv_fmod_unique h1).2 ⟨h, h2, h3⟩
  · rw [if_neg (by omega), if_neg (by omega)]
    exact (Int.fdiv_fmod_unique' h1).2 ⟨h, h2, h3⟩
theorem nat_le_of_lt {a b : Int} {L : Nat} (h : a.natAbs ≤ b.natAbs) (hb : b.natAbs < L) : a.natAbs < L := Nat.lt_of_le_of_lt h hb
theorem meets_div : Meets Try.prog 67 ansDiv := by
  refine meets_fn (orc_ok (l := Div.ans) ⟨meets_norm, meets_sign, meets_splitMag, meets_plus, meets_from, trivial⟩) Try.f67 Try.func67 (by kernel_rfl) (fun args r h => ?_)
  unfold ansDiv at h
  split at h
  · rename_i s l t m
    simp only [Option.some.injEq, Prod.mk.injEq, Bool.and_eq_true] at h
    obtain ⟨⟨h, k⟩, rfl⟩ := h
    refine ⟨rfl, _, noTab_all, (Div.rest _ _ _ _).trans ?_⟩
    rw [k]
    obtain ⟨x, rfl, rfl, hx⟩ := (cn_iff W_two).1 h
    obtain ⟨y, rfl, rfl, hy⟩ := (cn_iff W_two).1 k
    rw [num_lbW, num_lbW]
    by_cases h0 : y = 0
    · subst h0
      have : (cmpZ 0 0 == 0) = true := rfl
      rw [this]
      simp only [cond_true, dq, dr, dc, if_true]
      rfl
    · obtain ⟨q1, q2, q3, r1, r2, r3⟩ := split_vals hx hy h0
      have hc : (cmpZ y 0 == 0) = false := by
        rw [beq_eq_false_iff_ne]; unfold cmpZ
        split
        · omega
        · split <;> omega
      have ay : 0 < az y := by unfold az; omega
      have lx := lb_length hx
      have m0 := Int.emod_nonneg (az x) (show az y ≠ 0 by omega)
      have m1 := Int.emod_lt_of_pos (az x) ay
      have d0 : 0 ≤ az x / az y := Int.ediv_nonneg (az_nonneg x) (by omega)
      have d1 : az x / az y ≤ az x := Int.ediv_le_self _ (az_nonneg x)
      have hde := Int.emod_add_mul_ediv (az x) (az y)
      have hR := num_of (s := sg x) r3
      have hQ := num_of (s := (!sg x == sg y)) q3
      have hxx : az x = x.natAbs := rfl
      have hyy : az y = y.natAbs := rfl
      have sR : (num 4294967296 (sg x) (splitR (lb 4294967296 x) (lb 4294967296 y))).natAbs < Lim := by
        refine nat_le_of_lt ?_ hy
        rw [hR]; cases sg x <;> simp only [cond_true, cond_false] <;> omega
      have sQ : (num 4294967296 (!sg x == sg y) (splitQ (lb 4294967296 x) (lb 4294967296 y))).natAbs < Lim := by
        refine nat_le_of_lt ?_ hx
        rw [hQ]; cases (!sg x == sg y) <;> simp only [cond_true, cond_false] <;> omega
      rw [hc, clW hx, clW hy, val_lb, decide_eq_true ay, decide_eq_true (show (lb 4294967296 x).length ≤ 50000 by omega), q1, q2, r1, r2, N_eq, N_eq, cnW, cnW, decide_eq_true sR, decide_eq_true sQ]
      have hc0 : (cmpZ (num 4294967296 (sg x) (splitR (lb 4294967296 x) (lb 4294967296 y))) 0 != 0) = decide (num 4294967296 (sg x) (splitR (lb 4294967296 x) (lb 4294967296 y)) ≠ 0) := by
        rw [Bool.eq_iff_iff, bne_iff_ne, decide_eq_true_eq]; unfold cmpZ
        split
        · constructor <;> intro <;> omega
        · split
          · constructor <;> intro <;> omega
          · constructor <;> intro <;> omega
      rw [hc0, hR, hQ]
      simp only [Bool.and_self, Bool.and_true, Bool.true_and, cond_true, cond_false, dc, if_neg h0]
      generalize hA : az x / az y = A at *
      generalize hB : az x % az y = B at *
      rcases sg_cases x with ⟨a1, a2, a3⟩ | ⟨a1, a2, a3⟩ <;> rcases sg_cases y with ⟨b1, b2, b3⟩ | ⟨b1, b2, b3⟩ <;> rw [a1, b1] <;> rw [a3, b3] at hde <;> rw [b3] at m1 <;> by_cases hB0 : B = 0
      all_goals simp only [beq_self_eq_true, Bool.true_beq, Bool.false_beq, Bool.not_true, Bool.not_false, cond_true, cond_false, Bool.not_eq_true', ne_eq]
      · obtain ⟨u1, u2⟩ := div_of (x := x) (y := y) (q := A) (r := -B) (by rw [Int.neg_mul] at hde; omega) (by omega)
        rw [u1, u2, hB0]; simp
      · obtain ⟨u1, u2⟩ := div_of (x := x) (y := y) (q := A) (r := -B) (by rw [Int.neg_mul] at hde; omega) (by omega)
        rw [u1, u2, decide_eq_true (by omega)]; simp
      · obtain ⟨u1, u2⟩ := div_of (x := x) (y := y) (q := -A) (r := -B) (by rw [Int.mul_neg]; omega) (by omega)
        rw [u1, u2, hB0]; simp
      · obtain ⟨u1, u2⟩ := div_of (x := x) (y := y) (q := -A + -1) (r := -B + y) (by rw [Int.mul_add, Int.mul_neg, Int.mul_neg, Int.mul_one]; omega) (by omega)
        rw [u1, u2, decide_eq_true (by omega)]; simp
      · obtain ⟨u1, u2⟩ := div_of (x := x) (y := y) (q := -A) (r := B) (by rw [Int.neg_mul] at hde; rw [Int.mul_neg]; omega) (by omega)
        rw [u1, u2, hB0]; simp
      · obtain ⟨u1, u2⟩ := div_of (x := x) (y := y) (q := -A + -1) (r := B + y) (by rw [Int.neg_mul] at hde; rw [Int.mul_add, Int.mul_neg, Int.mul_neg, Int.mul_one]; omega) (by omega)
        rw [u1, u2, decide_eq_true (by omega)]; simp
      · obtain ⟨u1, u2⟩ := div_of (x := x) (y := y) (q := A) (r := B) hde (by omega)
        rw [u1, u2, hB0]; simp
      · obtain ⟨u1, u2⟩ := div_of (x := x) (y := y) (q := A) (r := B) hde (by omega)
        rw [u1, u2, decide_eq_true (by omega)]; simp
  · cases h
namespace Gcd
theorem loop (s : Bool) (l : List Int) (t : Bool) (m : List Int) (x y : Nat) (hx : x < Lim) (hy : y < Lim) :
    ∃ e S1, Ends T orc L0 D0 (st0 s l t m (sg x) (lb 4294967296 x) (sg y) (lb 4294967296 y)) e S1 ∧ (e = .exit 0 ∧ ∃ b k, S1 = st0 s l t m (sg (Nat.gcd x y : Nat)) (lb 4294967296 (Nat.gcd x y : Nat)) b k) := by
  refine loop_inv2 (fun (a b : Nat) => st0 s l t m (sg a) (lb 4294967296 a) (sg b) (lb 4294967296 b)) (fun a b => a < Lim ∧ b < Lim ∧ Nat.gcd a b = Nat.gcd x y) (fun a b => b)
    (fun e S1 => e = .exit 0 ∧ ∃ b k, S1 = st0 s l t m (sg (Nat.gcd x y : Nat)) (lb 4294967296 (Nat.gcd x y : Nat)) b k) isL0 ?_ x y ⟨hx, hy, rfl⟩
  intro a b ⟨ha, hb, hg⟩
  refine ⟨noTab, noTab_all, lands_of (round0 ..) ?_⟩
  have sa : ((a : Int)).natAbs < Lim := by rw [Int.natAbs_natCast]; exact ha
  have sb : ((b : Int)).natAbs < Lim := by rw [Int.natAbs_natCast]; exact hb
  rw [cnW, decide_eq_true sb, num_lbW]
  simp only [cond_true]
  by_cases h0 : b = 0
  · subst h0
    have : (cmpZ ((0 : Nat) : Int) 0 != 0) = false := rfl
    rw [this]
    simp only [cond_false, lands_some, Turns2]
    rw [← hg, Nat.gcd_zero_right]
    exact ⟨trivial, _, _, rfl⟩
  · have hc : (cmpZ (b : Int) 0 != 0) = true := by
      rw [bne_iff_ne]; unfold cmpZ; rw [if_neg (by omega), if_pos (by omega)]; decide
    obtain ⟨q1, q2, q3, r1, r2, r3⟩ := split_vals sa sb (by omega)
    have lx := lb_length sa
    have eb : az (b : Int) = (b : Int) := rfl
    have ea : az (a : Int) = (a : Int) := rfl
    have hR := num_of (s := false) r3
    rw [ea, eb] at hR
    rw [hc, clW sa, clW sb, val_lb, eb, decide_eq_true (show (0 : Int) < (b : Int) by omega), decide_eq_true (show (lb 4294967296 (a : Int)).length ≤ 50000 by omega), r1, r2, hR]
    simp only [Bool.and_self, cond_true, cond_false, lands_some, Turns2]
    refine ⟨b, a % b, by rw [Int.natCast_emod], ⟨hb, Nat.lt_of_le_of_lt (Nat.mod_le a b) ha, ?_⟩, Nat.mod_lt _ (by omega)⟩
    rw [← hg, Nat.gcd_comm b, ← Nat.gcd_rec, Nat.gcd_comm]
end Gcd
theorem meets_gcd : Meets Try.prog 71 ansGcd := by
  refine meets_fn (orc_ok (l := Gcd.ans) ⟨meets_norm, meets_abs, meets_sign, meets_splitMag, trivial⟩) Try.f71 Try.func71 (by kernel_rfl) (fun args r h => ?_)
  unfold ansGcd at h
  split at h
  · rename_i s l t m
    simp only [Option.some.injEq, Prod.mk.injEq, Bool.and_eq_true] at h
    obtain ⟨⟨h, k⟩, rfl⟩ := h
    obtain ⟨x, hs, hl, hx⟩ := (cn_iff W_two).1 h
    obtain ⟨y, ht, hm, hy⟩ := (cn_iff W_two).1 k
    obtain ⟨e1, S1, hE1, rfl, b, q, rfl⟩ := Gcd.loop s l t m x.natAbs y.natAbs hx hy
    have nx : num 4294967296 s l = x := by rw [hs, hl]; exact num_lbW x
    have ny : num 4294967296 t m = y := by rw [ht, hm]; exact num_lbW y
    refine ⟨rfl, _, tabOf_all _, (Gcd.rest s l t m (sg (Nat.gcd x.natAbs y.natAbs : Nat)) (lb 4294967296 (Nat.gcd x.natAbs y.natAbs : Nat)) b q).trans ?_⟩
    have sx : sg ((x.natAbs : Nat) : Int) = false := decide_eq_false (by omega)
    have sy : sg ((y.natAbs : Nat) : Int) = false := decide_eq_false (by omega)
    rw [sx, sy] at hE1
    rw [h, k, nx, ny]
    have e := cdec_true hE1
    unfold az
    rw [e]
    rfl
  · cases h
end Go.Abs
end
section
/- What the reference's functions of layer 1 answer: digits (1). -/
namespace Go.Abs
open Go.Proofs Go.Dig
theorem T_pos : (0 : Int) < 10 := by decide
theorem T_two : (2 : Int) ≤ 10 := by decide
theorem M_num {s : Bool} {l : List Int} (h : okB 10 l = true) : M (num 10 s l) = .agg [.bool (s && !(strip l).isEmpty), .ints .i64 (strip l)] := by
  unfold M
  rw [lb_num T_two h, sg_num T_two h]
namespace RTrim
theorem loop (neg : Bool) (l : List Int) (hl : l.length ≤ 100000) :
    ∃ e S1, Ends T noOrc L0 D0 (st0 neg l l.length) e S1 ∧ (e = .exit 0 ∧ ∃ k : Nat, S1 = st0 neg l k ∧ k ≤ l.length ∧ l.take k = strip l) := by
  refine loop_inv1 (fun (i : Nat) => st0 neg l i) (fun i => i ≤ l.length ∧ strip (l.take i) = strip l) (fun i => i)
    (fun e S1 => e = .exit 0 ∧ ∃ k : Nat, S1 = st0 neg l k ∧ k ≤ l.length ∧ l.take k = strip l) isL0 ?_ l.length ?_
  · intro i ⟨h1, h2⟩
    refine ⟨noTab, noTab_all, ?_⟩
    rw [round0]
    cases i with
    | zero =>
      simp only [lands_bif, lands_some, lands_none, Turns1, Turns2, Turns3, Turns4, Turns5, Turns6, Turns7, Turns8, eq_bif, Option.some.injEq, reduceCtorEq, cond_true, cond_false, Bool.eq_false_iff, ne_eq, inB_iff, decide_eq_true_eq, Bool.and_eq_true, Bool.or_eq_true, Bool.not_eq_true', beq_iff_eq, bne_iff_ne, true_and, and_true, true_implies, implies_true, not_true_eq_false, not_false_eq_true, false_implies, few_iff]
      refine ⟨fun h => by omega, fun _ => ⟨0, rfl, h1, ?_⟩⟩
      rw [← h2]; rfl
    | succ i =>
      simp only [lands_bif, lands_some, lands_none, Turns1, Turns2, Turns3, Turns4, Turns5, Turns6, Turns7, Turns8, eq_bif, Option.some.injEq, reduceCtorEq, cond_true, cond_false, Bool.eq_false_iff, ne_eq, inB_iff, decide_eq_true_eq, Bool.and_eq_true, Bool.or_eq_true, Bool.not_eq_true', beq_iff_eq, bne_iff_ne, true_and, and_true, true_implies, implies_true, not_true_eq_false, not_false_eq_true, false_implies, few_iff, wi_pred (show i < 4611686018427387904 by omega)]
      simp only [rd_toNat, Int.toNat_natCast]
      repeat' (first | apply And.intro | intro _)
      all_goals try omega
      · rename_i h3
        exact ⟨i, rfl, ⟨by omega, by rw [← h2, take_succ_getD l (by omega), h3, strip_zero]⟩, by omega⟩
      · rename_i h3
        refine ⟨i + 1, rfl, h1, ?_⟩
        rw [← h2, strip_of_last]
        rw [take_succ_getD l (by omega), List.getLast?_append]
        simpa using h3
  · exact ⟨Nat.le_refl _, by rw [List.take_length]⟩
end RTrim
theorem meets_rtrim : Meets Try.prog 85 anrTrim := by
  refine meets_fn noOrc_ok Try.f85 Try.func85 (by kernel_rfl) (fun args r h => ?_)
  unfold anrTrim at h
  split at h
  · rename_i s l
    simp only [Option.some.injEq, Prod.mk.injEq, Bool.and_eq_true, few_iff] at h
    obtain ⟨⟨hl, ol⟩, rfl⟩ := h
    obtain ⟨e1, S1, hE1, rfl, k, rfl, hk, hs⟩ := RTrim.loop s l hl
    refine ⟨rfl, _, tabOf_all _, (RTrim.rest s l k).trans ?_⟩
    rw [M_num ol, ← hs]
    simp only [cdec_true hE1, cond_true, Int.toNat_natCast, List.nil_append]
    cases k with
    | zero => simp
    | succ k =>
      have hne : (l.take (k + 1)).isEmpty = false := by
        rw [List.isEmpty_eq_false_iff]
        intro h0
        have := congrArg List.length h0
        rw [List.length_take, Nat.min_eq_left hk, List.length_nil] at this
        omega
      have e1 : (((k + 1 : Nat) : Int) == 0) = false := by rw [beq_eq_false_iff_ne]; omega
      rw [hne]
      refine (bF e1).trans ((bT ?_).trans ((bT ?_).trans ?_))
      · rw [Bool.and_eq_true, decide_eq_true_eq, decide_eq_true_eq]; omega
      · rw [Bool.true_and, decide_eq_true_eq, List.length_take]; omega
      · simp
  · cases h
namespace RCmpMag
theorem at_lt {a b : List Int} {i : Nat} (ha : okB 10 a = true) (hb : okB 10 b = true) (hd : a.drop (i + 1) = b.drop (i + 1)) (hai : i < a.length) (hbi : i < b.length) (h : a.getD i 0 < b.getD i 0) : val 10 a < val 10 b := by
  have e1 : val 10 a = val 10 (a.take i) + 10 ^ i * a.getD i 0 + 10 ^ (i + 1) * val 10 (a.drop (i + 1)) := by
    conv => lhs; rw [← List.take_append_drop (i + 1) a]
    rw [val_append, List.length_take, Nat.min_eq_left (by omega), val_take_succ]
  have e2 : val 10 b = val 10 (b.take i) + 10 ^ i * b.getD i 0 + 10 ^ (i + 1) * val 10 (b.drop (i + 1)) := by
    conv => lhs; rw [← List.take_append_drop (i + 1) b]
    rw [val_append, List.length_take, Nat.min_eq_left (by omega), val_take_succ]
  rw [e1, e2, hd]
  have h1 := val_lt T_pos (okB_take ha i)
  rw [List.length_take, Nat.min_eq_left (by omega)] at h1
  have h2 := val_nonneg T_pos (okB_take hb i)
  have h3 : (10 : Int) ^ i * (a.getD i 0 + 1) ≤ 10 ^ i * b.getD i 0 := Int.mul_le_mul_of_nonneg_left (by omega) (Int.pow_nonneg (by decide))
  rw [Int.mul_add, Int.mul_one] at h3
  omega
def Post (a b : List Int) (e : Ex) (S1 : St) : Prop := (e = .exit 0 ∧ a = b ∧ ∃ x, S1 = st0 a b x) ∨ (e = .ret ∧ ∃ x c, S1 = st0x0 a b c x ∧ c = cmpZ (val 10 a) (val 10 b))
theorem loop (a b : List Int) (ha : okB 10 a = true) (hb : okB 10 b = true) (hab : a.length = b.length) (hl : a.length ≤ 100000) :
    ∃ e S1, Ends T noOrc L0 D0 (st0 a b ((a.length : Int) - 1)) e S1 ∧ Post a b e S1 := by
  refine loop_inv1 (fun (i : Nat) => st0 a b ((i : Int) - 1)) (fun i => i ≤ a.length ∧ a.drop i = b.drop i) (fun i => i) (Post a b) isL0 ?_ a.length ?_
  · intro i ⟨h1, h2⟩
    refine ⟨noTab, noTab_all, ?_⟩
    rw [round0]
    cases i with
    | zero =>
      simp only [lands_bif, lands_some, lands_none, Turns1, Turns2, Turns3, Turns4, Turns5, Turns6, Turns7, Turns8, eq_bif, Option.some.injEq, reduceCtorEq, cond_true, cond_false, Bool.eq_false_iff, ne_eq, inB_iff, decide_eq_true_eq, Bool.and_eq_true, Bool.or_eq_true, Bool.not_eq_true', beq_iff_eq, bne_iff_ne, true_and, and_true, true_implies, implies_true, not_true_eq_false, not_false_eq_true, false_implies, few_iff]
      refine ⟨fun h => by omega, fun _ => .inl ⟨rfl, by simpa using h2, _, rfl⟩⟩
    | succ i =>
      have e0 : (((i + 1 : Nat) : Int) - 1) = (i : Int) := by omega
      rw [e0]
      simp only [lands_bif, lands_some, lands_none, Turns1, Turns2, Turns3, Turns4, Turns5, Turns6, Turns7, Turns8, eq_bif, Option.some.injEq, reduceCtorEq, cond_true, cond_false, Bool.eq_false_iff, ne_eq, inB_iff, decide_eq_true_eq, Bool.and_eq_true, Bool.or_eq_true, Bool.not_eq_true', beq_iff_eq, bne_iff_ne, true_and, and_true, true_implies, implies_true, not_true_eq_false, not_false_eq_true, false_implies, few_iff]
      simp only [rd_toNat, Int.toNat_natCast]
      repeat' (first | apply And.intro | intro _)
      all_goals try omega
      · rename_i h3
        have := at_lt ha hb h2 (by omega) (by omega) h3
        exact .inr ⟨rfl, _, _, rfl, by unfold cmpZ; rw [if_pos this]⟩
      · rename_i h3
        have := at_lt hb ha h2.symm (by omega) (by omega) h3
        exact .inr ⟨rfl, _, _, rfl, by unfold cmpZ; rw [if_neg (by omega), if_pos this]⟩
      · rename_i h3 _ _ h4
        refine ⟨i, by rw [w64 (by omega) (by omega)], ⟨by omega, ?_⟩, by omega⟩
        have e3 : a.getD i 0 = b.getD i 0 := by omega
        rw [List.drop_eq_getElem_cons (by omega), List.drop_eq_getElem_cons (by omega : i < b.length), h2]
        rw [getD_at (by omega), getD_at (by omega)] at e3
        rw [e3]
  · exact ⟨Nat.le_refl _, by rw [List.drop_length, hab, List.drop_length]⟩
end RCmpMag
theorem meets_rcmpMag : Meets Try.prog 87 anrCmpMag := by
  refine meets_fn noOrc_ok Try.f87 Try.func87 (by kernel_rfl) (fun args r h => ?_)
  unfold anrCmpMag at h
  split at h
  · rename_i a b
    simp only [Option.some.injEq, Prod.mk.injEq, Bool.and_eq_true] at h
    obtain ⟨⟨ha, hb⟩, rfl⟩ := h
    have oa := cl_ok T_two ha
    have ob := cl_ok T_two hb
    have la := (cl_iff.1 ha).1
    have lb := (cl_iff.1 hb).1
    have key : (a.length : Int) ≠ b.length → cmpZ (val 10 a) (val 10 b) = if a.length < b.length then -1 else 1 := by
      intro h
      unfold cmpZ
      by_cases hlt : a.length < b.length
      · have := val_lt_of_length T_two oa ob (cl_last hb) hlt
        rw [if_pos this, if_pos hlt]
      · have := val_lt_of_length T_two ob oa (cl_last ha) (by omega)
        rw [if_neg (by omega), if_pos this, if_neg hlt]
    refine ⟨rfl, ?_⟩
    have hw : IntKind.i64.wrap ((a.length : Int) - 1) = (a.length : Int) - 1 := w64 (by omega) (by omega)
    by_cases hab : a.length = b.length
    · obtain ⟨e1, S1, hE1, ⟨rfl, hab2, x, rfl⟩ | ⟨rfl, x, c, rfl, hc⟩⟩ := RCmpMag.loop a b oa ob hab la
      · refine ⟨_, tabOf_all _, (RCmpMag.rest_1 a b x).trans ?_⟩
        rw [hw]
        simp only [lands_bif, lands_some, lands_none, Turns1, Turns2, Turns3, Turns4, Turns5, Turns6, Turns7, Turns8, eq_bif, Option.some.injEq, reduceCtorEq, cond_true, cond_false, Bool.eq_false_iff, ne_eq, inB_iff, decide_eq_true_eq, Bool.and_eq_true, Bool.or_eq_true, Bool.not_eq_true', beq_iff_eq, bne_iff_ne, true_and, and_true, true_implies, implies_true, not_true_eq_false, not_false_eq_true, false_implies, few_iff, cdec_true hE1]
        refine ⟨fun h => absurd (by omega) h, fun _ => ?_⟩
        rw [hab2]; unfold cmpZ; simp
      · refine ⟨_, tabOf_all _, (RCmpMag.rest_0 a b c x).trans ?_⟩
        rw [hw]
        simp only [lands_bif, lands_some, lands_none, Turns1, Turns2, Turns3, Turns4, Turns5, Turns6, Turns7, Turns8, eq_bif, Option.some.injEq, reduceCtorEq, cond_true, cond_false, Bool.eq_false_iff, ne_eq, inB_iff, decide_eq_true_eq, Bool.and_eq_true, Bool.or_eq_true, Bool.not_eq_true', beq_iff_eq, bne_iff_ne, true_and, and_true, true_implies, implies_true, not_true_eq_false, not_false_eq_true, false_implies, few_iff, cdec_true hE1]
        refine ⟨fun h => absurd (by omega) h, fun _ => ?_⟩
        rw [hc]
    · refine ⟨_, tabOf_all _, (RCmpMag.rest_1 a b 0).trans ?_⟩
      simp only [lands_bif, lands_some, lands_none, Turns1, Turns2, Turns3, Turns4, Turns5, Turns6, Turns7, Turns8, eq_bif, Option.some.injEq, reduceCtorEq, cond_true, cond_false, Bool.eq_false_iff, ne_eq, inB_iff, decide_eq_true_eq, Bool.and_eq_true, Bool.or_eq_true, Bool.not_eq_true', beq_iff_eq, bne_iff_ne, true_and, and_true, true_implies, implies_true, not_true_eq_false, not_false_eq_true, false_implies, few_iff]
      refine ⟨fun h => ?_, fun h => absurd (by omega) h⟩
      rw [key h]
      refine ⟨fun h => by rw [if_pos (by omega)], fun h => by rw [if_neg (by omega)]⟩
  · cases h

theorem cl_of_num {z : Int} {l : List Int} (hl : l = lb 10 z) (hz : z.natAbs < Lim) : cl 10 l = true := by rw [hl]; exact cl_lb10 hz
end Go.Abs
end
section
/- What the reference's functions of layer 1 answer: digits (2). -/
namespace Go.Abs
open Go.Proofs Go.Dig
theorem tm10 {n : Int} (h : 0 ≤ n) : n.tmod 10 = n % 10 := Int.tmod_eq_emod_of_nonneg h
theorem td10 {n : Int} (h : 0 ≤ n) : n.tdiv 10 = n / 10 := Int.tdiv_eq_ediv_of_nonneg h
theorem okB_snoc {B : Int} {l : List Int} {d : Int} (h : okB B l = true) (hd : 0 ≤ d ∧ d < B) : okB B (l ++ [d]) = true := okB_app h (okB_one hd)
theorem val_snoc (B : Int) (l : List Int) (d : Int) : val B (l ++ [d]) = val B l + B ^ l.length * d := by rw [val_append, val_one]
namespace RPlusMag
def Inv (a b : List Int) (i : Nat) (c : Int) (l : List Int) : Prop :=
  l.length = i ∧ okB 10 l = true ∧ 0 ≤ c ∧ c ≤ 1 ∧ val 10 l + 10 ^ i * c = val 10 (a.take i) + val 10 (b.take i) ∧ (i ≤ max a.length b.length ∨ (i = max a.length b.length + 1 ∧ c = 0 ∧ (10 : Int) ^ max a.length b.length ≤ val 10 a + val 10 b))
theorem Inv.next {a b l : List Int} {n : Nat} {c t : Int} (oa : okB 10 a = true) (ob : okB 10 b = true) (h : Inv a b n c l) (hn : n < a.length ∨ n < b.length ∨ c > 0) (e : t = c + a.getD n 0 + b.getD n 0) : Inv a b (n + 1) (t / 10) (l ++ [t % 10]) := by
  obtain ⟨h1, h2, h3, h4, h5, h6⟩ := h
  have hai := getD_ok T_pos oa n
  have hbi := getD_ok T_pos ob n
  refine ⟨by rw [List.length_append, h1]; rfl, okB_snoc h2 (by omega), by omega, by omega, ?_, ?_⟩
  · rw [val_snoc, h1, val_take_succ, val_take_succ, Int.pow_succ]
    have := carry_step 10 (10 ^ n) (val 10 l) _ c (t % 10) (t / 10) (a.getD n 0 + b.getD n 0) h5 (by omega)
    rw [Int.mul_add] at this
    omega
  · rcases h6 with h6 | ⟨h6, h7, h8⟩
    · by_cases hm : n < max a.length b.length
      · left; omega
      · right
        obtain rfl : n = max a.length b.length := by omega
        rw [getD_none (l := a) (by omega), getD_none (l := b) (by omega)] at e
        obtain rfl : c = 1 := by omega
        refine ⟨rfl, by omega, ?_⟩
        rw [List.take_of_length_le (by omega), List.take_of_length_le (by omega), Int.mul_one] at h5
        have := val_nonneg T_pos h2
        omega
    · omega
theorem Inv.fin {a b l : List Int} {i : Nat} {c : Int} (h : Inv a b i c l) (ha : a.length ≤ i) (hb : b.length ≤ i) (hc : c ≤ 0) : l = plusD a b := by
  obtain ⟨h1, h2, h3, h4, h5, h6⟩ := h
  obtain rfl : c = 0 := by omega
  rw [List.take_of_length_le ha, List.take_of_length_le hb, Int.mul_zero, Int.add_zero] at h5
  unfold plusD
  rcases h6 with h6 | ⟨h6, h7, h8⟩
  · obtain rfl : i = max a.length b.length := by omega
    have h9 := val_lt T_pos h2
    rw [h1] at h9
    rw [bT (decide_eq_true (by omega))]
    exact dig_eq T_pos h2 h1 h5
  · rw [bF (decide_eq_false (by omega))]
    exact dig_eq T_pos h2 (by omega) h5
theorem loop (a b : List Int) (ha : okB 10 a = true) (hb : okB 10 b = true) (hla : a.length ≤ 100000) (hlb : b.length ≤ 100000) :
    ∃ e S1, Ends T noOrc L0 D0 (st0 a b 0 0 []) e S1 ∧ (e = .exit 0 ∧ ∃ c x, S1 = st0 a b c x (plusD a b)) := by
  refine loop_inv3 (fun c (i : Nat) l => st0 a b c i l) (fun c i l => Inv a b i c l) (fun c i l => 200000 - i)
    (fun e S1 => e = .exit 0 ∧ ∃ c x, S1 = st0 a b c x (plusD a b)) isL0 ?_ 0 0 [] ?_
  · intro c i l h
    obtain ⟨h1, h2, h3, h4, h5, h6⟩ := id h
    refine ⟨noTab, noTab_all, ?_⟩
    have hbi := getD_ok T_pos hb i
    have hai := getD_ok T_pos ha i
    rw [round0]
    have e1 : IntKind.i64.wrap (c + a.getD i 0) = c + a.getD i 0 := w64 (by omega) (by omega)
    have e2 : IntKind.i64.wrap (c + a.getD i 0 + b.getD i 0) = c + a.getD i 0 + b.getD i 0 := w64 (by omega) (by omega)
    have e3 : IntKind.i64.wrap (c + b.getD i 0) = c + b.getD i 0 := w64 (by omega) (by omega)
    have m1 := tm10 (n := c + a.getD i 0) (by omega)
    have m2 := tm10 (n := c + a.getD i 0 + b.getD i 0) (by omega)
    have m3 := tm10 (n := c + b.getD i 0) (by omega)
    have m4 := tm10 h3
    have d1 := td10 (n := c + a.getD i 0) (by omega)
    have d2 := td10 (n := c + a.getD i 0 + b.getD i 0) (by omega)
    have d3 := td10 (n := c + b.getD i 0) (by omega)
    have d4 := td10 h3
    have w1 : IntKind.i64.wrap ((c + a.getD i 0) / 10) = (c + a.getD i 0) / 10 := w64 (by omega) (by omega)
    have w2 : IntKind.i64.wrap ((c + a.getD i 0 + b.getD i 0) / 10) = (c + a.getD i 0 + b.getD i 0) / 10 := w64 (by omega) (by omega)
    have w3 : IntKind.i64.wrap ((c + b.getD i 0) / 10) = (c + b.getD i 0) / 10 := w64 (by omega) (by omega)
    have w4 : IntKind.i64.wrap (c / 10) = c / 10 := w64 (by omega) (by omega)
    simp only [lands_bif, lands_some, lands_none, Turns1, Turns2, Turns3, Turns4, Turns5, Turns6, Turns7, Turns8, eq_bif, Option.some.injEq, reduceCtorEq, cond_true, cond_false, Bool.eq_false_iff, ne_eq, inB_iff, decide_eq_true_eq, Bool.and_eq_true, Bool.or_eq_true, Bool.not_eq_true', beq_iff_eq, bne_iff_ne, true_and, and_true, true_implies, implies_true, not_true_eq_false, not_false_eq_true, false_implies, few_iff, rd_toNat, Int.toNat_natCast, List.length_append, List.length_cons, List.length_nil, e1, e2, e3, m1, m2, m3, m4, d1, d2, d3, d4, w1, w2, w3, w4, wi_succ (show i < 4611686018427387904 by omega)]
    have za : ¬ (i : Int) < (a.length : Int) → a.getD i 0 = 0 := fun h => getD_none (by omega)
    have zb : ¬ (i : Int) < (b.length : Int) → b.getD i 0 = 0 := fun h => getD_none (by omega)
    repeat' (first | apply And.intro | intro _)
    all_goals try omega
    all_goals first
      | exact ⟨_, i + 1, _, rfl, h.next ha hb (by omega) (by omega), by omega⟩
      | exact ⟨_, _, by rw [h.fin (by omega) (by omega) (by omega)]⟩
      | skip
  · simp [Inv, okB, val]
end RPlusMag
theorem meets_rplus : Meets Try.prog 86 anrPlusMag := by
  refine meets_fn noOrc_ok Try.f86 Try.func86 (by kernel_rfl) (fun args r h => ?_)
  unfold anrPlusMag at h
  split at h
  · rename_i a b
    simp only [Option.some.injEq, Prod.mk.injEq, Bool.and_eq_true, few_iff] at h
    obtain ⟨⟨⟨⟨ha, hb⟩, oa⟩, ob⟩, rfl⟩ := h
    obtain ⟨e1, S1, hE1, rfl, c, x, rfl⟩ := RPlusMag.loop a b oa ob ha hb
    exact ⟨rfl, _, tabOf_all _, (RPlusMag.rest a b _ c x).trans (bT (cdec_true hE1))⟩
  · cases h
namespace RLessMag
def Inv (a b : List Int) (n : Nat) (c : Int) (l : List Int) : Prop :=
  n ≤ a.length ∧ l.length = n ∧ okB 10 l = true ∧ 0 ≤ c ∧ c ≤ 1 ∧ val 10 l - 10 ^ n * c = val 10 (a.take n) - val 10 (b.take n)
theorem Inv.next {a b l : List Int} {n : Nat} {c d c' : Int} (h : Inv a b n c l) (hn : n < a.length) (hd : 0 ≤ d ∧ d < 10) (hc : 0 ≤ c' ∧ c' ≤ 1) (e : a.getD n 0 - b.getD n 0 - c = d - 10 * c') : Inv a b (n + 1) c' (l ++ [d]) := by
  obtain ⟨h1, h2, h3, h4, h5, h6⟩ := h
  refine ⟨by omega, by rw [List.length_append, h2]; rfl, okB_snoc h3 hd, hc.1, hc.2, ?_⟩
  rw [val_snoc, h2, val_take_succ, val_take_succ, Int.pow_succ]
  have := carry_step 10 (10 ^ n) (val 10 l) (val 10 (a.take n) - val 10 (b.take n)) (-c) d (-c') (a.getD n 0 - b.getD n 0) (by rw [← h6, Int.mul_neg]; omega) (by omega)
  rw [Int.mul_neg, Int.mul_sub] at this
  omega
theorem Inv.fin {a b l : List Int} {c : Int} (hab : b.length ≤ a.length) (hle : val 10 b ≤ val 10 a) (h : Inv a b a.length c l) : l = lessD a b := by
  obtain ⟨h1, h2, h3, h4, h5, h6⟩ := h
  rw [List.take_of_length_le (Nat.le_refl _), List.take_of_length_le hab] at h6
  have h7 := val_lt T_pos h3
  rw [h2] at h7
  have : c = 0 := by
    rcases (by omega : c = 0 ∨ c = 1) with h | h
    · exact h
    · rw [h, Int.mul_one] at h6; omega
  rw [this] at h6
  exact dig_eq T_pos h3 h2 (by omega)
theorem loop (a b : List Int) (ha : okB 10 a = true) (hb : okB 10 b = true) (hla : a.length ≤ 100000) (hab : b.length ≤ a.length) (hle : val 10 b ≤ val 10 a) :
    ∃ e S1, Ends T noOrc L0 D0 (st0 a b 0 0 []) e S1 ∧ (e = .exit 0 ∧ ∃ c x, S1 = st0 a b c x (lessD a b)) := by
  refine loop_inv3 (fun c (i : Nat) l => st0 a b c i l) (fun c i l => Inv a b i c l) (fun c i l => a.length - i)
    (fun e S1 => e = .exit 0 ∧ ∃ c x, S1 = st0 a b c x (lessD a b)) isL0 ?_ 0 0 [] ?_
  · intro c i l h
    obtain ⟨h1, h2, h3, h4, h5, h6⟩ := id h
    refine ⟨noTab, noTab_all, ?_⟩
    have hbi := getD_ok T_pos hb i
    have hai := getD_ok T_pos ha i
    rw [round0]
    have e1 : IntKind.i64.wrap (a.getD i 0 - c) = a.getD i 0 - c := w64 (by omega) (by omega)
    have e2 : IntKind.i64.wrap (a.getD i 0 - c - b.getD i 0) = a.getD i 0 - c - b.getD i 0 := w64 (by omega) (by omega)
    have e3 : IntKind.i64.wrap (a.getD i 0 - c + 10) = a.getD i 0 - c + 10 := w64 (by omega) (by omega)
    have e4 : IntKind.i64.wrap (a.getD i 0 - c - b.getD i 0 + 10) = a.getD i 0 - c - b.getD i 0 + 10 := w64 (by omega) (by omega)
    simp only [lands_bif, lands_some, lands_none, Turns1, Turns2, Turns3, Turns4, Turns5, Turns6, Turns7, Turns8, eq_bif, Option.some.injEq, reduceCtorEq, cond_true, cond_false, Bool.eq_false_iff, ne_eq, inB_iff, decide_eq_true_eq, Bool.and_eq_true, Bool.or_eq_true, Bool.not_eq_true', beq_iff_eq, bne_iff_ne, true_and, and_true, true_implies, implies_true, not_true_eq_false, not_false_eq_true, false_implies, few_iff, rd_toNat, Int.toNat_natCast, List.length_append, List.length_cons, List.length_nil, e1, e2, e3, e4, wi_succ (show i < 4611686018427387904 by omega)]
    have zb : ¬ (i : Int) < (b.length : Int) → b.getD i 0 = 0 := fun h => getD_none (by omega)
    repeat' (first | apply And.intro | intro _)
    all_goals try omega
    all_goals first
      | exact ⟨_, i + 1, _, rfl, h.next (by omega) (by omega) (by omega) (by omega), by omega⟩
      | (obtain rfl : i = a.length := by omega
         exact ⟨_, _, by rw [h.fin hab hle]⟩)
      | skip
  · simp [Inv, okB, val]
end RLessMag
theorem meets_rless : Meets Try.prog 88 anrLessMag := by
  refine meets_fn noOrc_ok Try.f88 Try.func88 (by kernel_rfl) (fun args r h => ?_)
  unfold anrLessMag at h
  split at h
  · rename_i a b
    simp only [Option.some.injEq, Prod.mk.injEq, Bool.and_eq_true, few_iff, decide_eq_true_eq] at h
    obtain ⟨⟨⟨⟨⟨⟨ha, hb⟩, oa⟩, ob⟩, hab⟩, hle⟩, rfl⟩ := h
    obtain ⟨e1, S1, hE1, rfl, c, x, rfl⟩ := RLessMag.loop a b oa ob ha hab hle
    exact ⟨rfl, _, tabOf_all _, (RLessMag.rest a b _ c x).trans (bT (cdec_true hE1))⟩
  · cases h
theorem meets_rabs : Meets Try.prog 95 anrAbs := by
  refine meets_fn (orc_ok (l := RAbs.ans) ⟨meets_rtrim, trivial⟩) Try.f95 Try.func95 (by kernel_rfl) (fun args r h => ?_)
  unfold anrAbs at h
  split at h
  · rename_i s l
    simp only [Option.some.injEq, Prod.mk.injEq] at h
    obtain ⟨h1, rfl⟩ := h
    obtain ⟨x, hs, hl, hx⟩ := (cn_iff T_two).1 h1
    refine ⟨rfl, _, noTab_all, (RAbs.rest s l).trans ?_⟩
    rw [show num 10 s l = x by rw [hs, hl]; exact num_lb10 x, show num 10 false l = az x by rw [hl]; exact val_lb10 x, hl, few_lb10 hx, ok10_lb]
    rfl
  · cases h
theorem plusD_ok (a b : List Int) : okB 10 (plusD a b) = true := by
  unfold plusD
  cases decide (val 10 a + val 10 b < 10 ^ max a.length b.length) <;> exact digN_ok T_pos _ _
theorem plusD_len (a b : List Int) : (plusD a b).length ≤ max a.length b.length + 1 := by
  unfold plusD
  cases decide (val 10 a + val 10 b < 10 ^ max a.length b.length) <;> simp only [cond_true, cond_false] <;> rw [digN_length] <;> omega
theorem plusD_val {a b : List Int} (oa : okB 10 a = true) (ob : okB 10 b = true) : val 10 (plusD a b) = val 10 a + val 10 b := by
  have a0 := val_nonneg T_pos oa
  have b0 := val_nonneg T_pos ob
  have a1 := val_lt T_pos oa
  have b1 := val_lt T_pos ob
  have p1 := pow_mono (B := 10) (by decide) (show a.length ≤ max a.length b.length by omega)
  have p2 := pow_mono (B := 10) (by decide) (show b.length ≤ max a.length b.length by omega)
  unfold plusD
  by_cases h : val 10 a + val 10 b < 10 ^ max a.length b.length
  · rw [decide_eq_true h]
    exact val_digN T_pos _ _ (by omega) h
  · rw [decide_eq_false h]
    exact val_digN T_pos _ _ (by omega) (by rw [Int.pow_succ]; omega)
theorem lessD_ok (a b : List Int) : okB 10 (lessD a b) = true := digN_ok T_pos _ _
theorem lessD_len (a b : List Int) : (lessD a b).length = a.length := digN_length ..
theorem lessD_val {a b : List Int} (oa : okB 10 a = true) (ob : okB 10 b = true) (h : val 10 b ≤ val 10 a) : val 10 (lessD a b) = val 10 a - val 10 b :=
  val_digN T_pos _ _ (by omega) (by have := val_lt T_pos oa; have := val_nonneg T_pos ob; omega)
theorem lb10_len_le {x y : Int} (h : az x ≤ az y) : (lb 10 x).length ≤ (lb 10 y).length := by
  refine Nat.le_of_not_lt (fun hlt => ?_)
  have := val_lt_of_length T_two (ok10_lb y) (ok10_lb x) (lb_last _ _) hlt
  rw [val_lb10, val_lb10] at this
  omega
theorem meets_radd : Meets Try.prog 63 anrAdd := by
  refine meets_fn (orc_ok (l := RAdd.ans) ⟨meets_rtrim, meets_rcmpMag, meets_rplus, meets_rless, trivial⟩) Try.f63 Try.func63 (by kernel_rfl) (fun args r h => ?_)
  unfold anrAdd at h
  split at h
  · rename_i s l t m
    simp only [Option.some.injEq, Prod.mk.injEq, Bool.and_eq_true] at h
    obtain ⟨⟨h1, h2⟩, rfl⟩ := h
    obtain ⟨x, hs, hl, hx⟩ := (cn_iff T_two).1 h1
    obtain ⟨y, ht, hm, hy⟩ := (cn_iff T_two).1 h2
    refine ⟨rfl, _, noTab_all, (RAdd.rest s l t m).trans ?_⟩
    have nx : num 10 s l = x := by rw [hs, hl]; exact num_lb10 x
    have ny : num 10 t m = y := by rw [ht, hm]; exact num_lb10 y
    have vx : val 10 l = az x := by rw [hl]; exact val_lb10 x
    have vy : val 10 m = az y := by rw [hm]; exact val_lb10 y
    have ol : okB 10 l = true := by rw [hl]; exact ok10_lb x
    have om : okB 10 m = true := by rw [hm]; exact ok10_lb y
    have fl : few l = true := by rw [hl]; exact few_lb10 hx
    have fm : few m = true := by rw [hm]; exact few_lb10 hy
    have ll : l.length ≤ 10000 := by rw [hl]; exact lb10_length hx
    have lm : m.length ≤ 10000 := by rw [hm]; exact lb10_length hy
    have pl := plusD_len l m
    have pv := plusD_val ol om
    rw [nx, ny]
    have c1 : (few l && few m && okB 10 l && okB 10 m) = true := by rw [fl, fm, ol, om]; rfl
    have c2 : (few (plusD l m) && okB 10 (plusD l m)) = true := by rw [plusD_ok, few_iff.2 (show (plusD l m).length ≤ 100000 by omega)]; rfl
    rw [vx, vy] at pv
    have hsx := sg_cases x
    have hsy := sg_cases y
    rw [← hs] at hsx
    rw [← ht] at hsy
    by_cases hst : s = t
    · refine (bT (by rw [hst]; exact beq_self_eq_true _)).trans ((bT c1).trans ((bT c2).trans ?_))
      rw [show num 10 s (plusD l m) = x + y by rw [num_of pv]; subst hst; cases s <;> simp only [cond_true, cond_false] <;> simp at hsx hsy <;> omega]
    · have hne : (s == t) = false := by rw [beq_eq_false_iff_ne]; exact hst
      refine (bF hne).trans ((bT (by rw [cl_of_num hl hx, cl_of_num hm hy]; rfl)).trans ?_)
      by_cases hle : az y ≤ az x
      · have hln : m.length ≤ l.length := by rw [hl, hm]; exact lb10_len_le hle
        refine (bT (decide_eq_true (by rw [vx, vy]; unfold cmpZ; (repeat' split) <;> omega))).trans ((bT ?_).trans ((bT ?_).trans ?_))
        · rw [c1, decide_eq_true hln, vx, vy, decide_eq_true hle]; rfl
        · rw [lessD_ok, few_iff.2 (show (lessD l m).length ≤ 100000 by rw [lessD_len]; omega)]; rfl
        · have lv := lessD_val ol om (by omega)
          rw [vx, vy] at lv
          rw [show num 10 s (lessD l m) = x + y by rw [num_of lv]; revert hst; cases s <;> cases t <;> simp only [cond_true, cond_false] <;> simp at hsx hsy ⊢ <;> omega]
      · have hln : l.length ≤ m.length := by rw [hl, hm]; exact lb10_len_le (by omega)
        refine (bF (decide_eq_false (by rw [vx, vy]; unfold cmpZ; (repeat' split) <;> omega))).trans ((bT ?_).trans ((bT ?_).trans ?_))
        · rw [fl, fm, ol, om, decide_eq_true hln, vx, vy, decide_eq_true (show az x ≤ az y by omega)]; rfl
        · rw [lessD_ok, few_iff.2 (show (lessD m l).length ≤ 100000 by rw [lessD_len]; omega)]; rfl
        · have lv := lessD_val om ol (by omega)
          rw [vx, vy] at lv
          rw [show num 10 t (lessD m l) = x + y by rw [num_of lv]; revert hst; cases s <;> cases t <;> simp only [cond_true, cond_false] <;> simp at hsx hsy ⊢ <;> omega]
  · cases h
end Go.Abs
end
section
/- What the reference's functions of layer 1 answer: division of amounts. -/
namespace Go.Abs
open Go.Proofs Go.Dig
theorem set_zero {L : List Int} {i : Nat} (h : L.getD i 0 = 0) : L.set i ((0 : Nat) : Int) = L := by
  refine List.ext_getElem? (fun j => ?_)
  by_cases hj : i = j
  · subst hj
    by_cases hl : i < L.length
    · rw [List.getElem?_set_self hl]
      rw [getD_at hl] at h
      rw [List.getElem?_eq_getElem hl, h]; rfl
    · rw [List.getElem?_eq_none (by rw [List.length_set]; omega), List.getElem?_eq_none (by omega)]
  · rw [List.getElem?_set_ne hj]
theorem limbs_zero : limbs 10 0 = [] := rfl
theorem cl_limbs {V : Int} {n : Nat} (h0 : 0 ≤ V) (hn : V < 10 ^ n) (h : n ≤ 100000) : cl 10 (limbs 10 V) = true := by
  rw [cl_iff, limbs_val T_two h0]
  exact ⟨Nat.le_trans (limbs_length T_two h0 hn) h, rfl, h0⟩
theorem ends_peel {T : Tbl} {orc : Orc} {L : Code} {D : List Nat} {tab : Tab} {S S' S1 : St} {e : Ex} (hL : ∃ a, L = .loop a) (ht : ∀ C, TabOk T orc tab C) (h : goL T orc tab D L S = some (.normal, S')) (hn : Ends T orc L D S' e S1) : Ends T orc L D S e S1 := by
  obtain ⟨a, rfl⟩ := hL
  exact ends_next (ht _) h hn
theorem ends_leave {T : Tbl} {orc : Orc} {L : Code} {D : List Nat} {tab : Tab} {S S' : St} {i : Nat} (hL : ∃ a, L = .loop a) (ht : ∀ C, TabOk T orc tab C) (h : goL T orc tab D L S = some (.exit i, S')) : Ends T orc L D S (.exit i) S' := by
  obtain ⟨a, rfl⟩ := hL
  exact ends_exit (ht _) h
namespace RSplit
theorem innerA (a b : List Int) (i : Nat) (hi : i < a.length) (l8 : List Int) (L : List Int) (hb : cl 10 b = true) (hB : 0 < val 10 b) (R : Int) (h0 : 0 ≤ R) (hR : R < 10 * val 10 b) (hn : R < 10 ^ a.length) (ha : a.length ≤ 50000) (hL : L.length = a.length) (hz : L.getD i 0 = 0) :
    ∃ e S1, Ends T orc L1 D1 (st1 a b (limbs 10 R) i l8 L) e S1 ∧ (e = .exit 2 ∧ S1 = st1 a b (limbs 10 (R % val 10 b)) i l8 (L.set i (R / val 10 b))) := by
  have hLs : L.set i ((0 : Nat) : Int) = L := set_zero hz
  have g0 : st1 a b (limbs 10 R) i l8 L = st1 a b (limbs 10 (R - ((0 : Nat) : Int) * val 10 b)) i l8 (L.set i ((0 : Nat) : Int)) := by rw [hLs]; simp
  rw [g0]
  refine loop_inv1 (fun (k : Nat) => st1 a b (limbs 10 (R - k * val 10 b)) i l8 (L.set i k)) (fun k => (k : Int) * val 10 b ≤ R) (fun k => 10 - k)
    (fun e S1 => e = .exit 2 ∧ S1 = st1 a b (limbs 10 (R % val 10 b)) i l8 (L.set i (R / val 10 b))) isL1 ?_ 0 ?_
  · intro k hk
    refine ⟨noTab, noTab_all, lands_of (round1 ..) ?_⟩
    have hk9 : k ≤ 9 := by
      refine Nat.le_of_lt_succ (Nat.lt_of_not_le (fun h => ?_))
      have : (10 : Int) * val 10 b ≤ k * val 10 b := Int.mul_le_mul_of_nonneg_right (by omega) (by omega)
      omega
    obtain ⟨V, hV⟩ : ∃ V, V = R - k * val 10 b := ⟨_, rfl⟩
    have hkB : 0 ≤ (k : Int) * val 10 b := Int.mul_nonneg (by omega) (by omega)
    have cV := cl_limbs (V := V) (n := a.length) (by omega) (by omega) (by omega)
    have vV : val 10 (limbs 10 V) = V := limbs_val T_two (by omega)
    have lV : (limbs 10 V).length ≤ a.length := limbs_length T_two (by omega) (by omega)
    have ob := cl_ok T_two hb
    have oV := cl_ok T_two cV
    rw [← hV]
    refine lands_bif.2 ⟨fun _ => ?_, fun h => by rw [cV, hb] at h; cases h⟩
    refine lands_bif.2 ⟨fun h => ?_, fun h => ?_⟩
    · have hle : val 10 b ≤ V := by
        rw [decide_eq_true_eq, vV] at h
        unfold cmpZ at h
        split at h <;> omega
      have hln : b.length ≤ (limbs 10 V).length := by
        refine Nat.le_of_not_lt (fun hlt => ?_)
        have := val_lt_of_length T_two oV ob (cl_last hb) hlt
        omega
      have lv := lessD_val oV ob (by rw [vV]; exact hle)
      rw [vV] at lv
      have ll := lessD_len (limbs 10 V) b
      refine lands_bif.2 ⟨fun _ => ?_, fun h => ?_⟩
      · refine lands_bif.2 ⟨fun _ => ?_, fun h => ?_⟩
        · refine lands_bif.2 ⟨fun _ => ?_, fun h => ?_⟩
          · refine lands_bif.2 ⟨fun _ => lands_some.2 ⟨k + 1, ?_, ?_, ?_⟩, fun h => ?_⟩
            · have e1 : lb 10 (num 10 false (lessD (limbs 10 V) b)) = limbs 10 (R - ((k + 1 : Nat) : Int) * val 10 b) := by
                unfold lb
                rw [show num 10 false (lessD (limbs 10 V) b) = V - val 10 b from lv]
                congr 1
                rw [Int.natCast_add, Int.add_mul, Int.natCast_one, Int.one_mul]; omega
              have e2 : (L.set i (k : Int)).set (Int.toNat (i : Int)) (IntKind.i64.wrap (rd (L.set i (k : Int)) (i : Int) + 1)) = L.set i ((k + 1 : Nat) : Int) := by
                rw [rd_toNat, Int.toNat_natCast, getD_set_self (by omega), List.set_set, wi_succ (by omega)]
              rw [e1, e2]
            · show ((k + 1 : Nat) : Int) * val 10 b ≤ R
              rw [Int.natCast_add, Int.add_mul, Int.natCast_one, Int.one_mul]; omega
            · show 10 - (k + 1) < 10 - k
              omega
            · rw [inB_iff.2 (by rw [List.length_set]; omega)] at h; cases h
          · rw [inB_iff.2 (by rw [List.length_set]; omega)] at h; cases h
        · rw [lessD_ok, few_iff.2 (show (lessD (limbs 10 V) b).length ≤ 100000 by omega)] at h; cases h
      · rw [(cl_iff (B := 10)).1 hb |>.1 |> few_iff.2, few_iff.2 (show (limbs 10 V).length ≤ 100000 by omega), ob, oV, decide_eq_true hln, vV, decide_eq_true hle] at h; cases h
    · have hlt : V < val 10 b := by
        rw [decide_eq_false_iff_not, vV] at h
        unfold cmpZ at h
        split at h
        · assumption
        · split at h <;> omega
      have hq : R / val 10 b = k := by
        rw [Int.ediv_eq_iff_of_pos hB]
        have : ((k : Int) + 1) * val 10 b = k * val 10 b + val 10 b := by rw [Int.add_mul, Int.one_mul]
        omega
      have hm : R % val 10 b = V := by
        rw [Int.emod_def, hq, Int.mul_comm]; omega
      rw [hq, hm]
      exact lands_some.2 ⟨rfl, rfl⟩
  · show ((0 : Nat) : Int) * val 10 b ≤ R
    simp [h0]
theorem innerB (a b : List Int) (i : Nat) (hi : a.length = i + 1)  (L : List Int) (hb : cl 10 b = true) (hB : 0 < val 10 b) (R : Int) (h0 : 0 ≤ R) (hR : R < 10 * val 10 b) (hn : R < 10 ^ a.length) (ha : a.length ≤ 50000) (hL : L.length = a.length) (hz : L.getD i 0 = 0) :
    ∃ e S1, Ends T orc L1a D1a (st1a a b (limbs 10 R) L) e S1 ∧ (e = .exit 2 ∧ S1 = st1a a b (limbs 10 (R % val 10 b)) (L.set i (R / val 10 b))) := by
  have hLs : L.set i ((0 : Nat) : Int) = L := set_zero hz
  have g0 : st1a a b (limbs 10 R) L = st1a a b (limbs 10 (R - ((0 : Nat) : Int) * val 10 b)) (L.set i ((0 : Nat) : Int)) := by rw [hLs]; simp
  rw [g0]
  refine loop_inv1 (fun (k : Nat) => st1a a b (limbs 10 (R - k * val 10 b)) (L.set i k)) (fun k => (k : Int) * val 10 b ≤ R) (fun k => 10 - k)
    (fun e S1 => e = .exit 2 ∧ S1 = st1a a b (limbs 10 (R % val 10 b)) (L.set i (R / val 10 b))) isL1a ?_ 0 ?_
  · intro k hk
    refine ⟨noTab, noTab_all, lands_of (round1a ..) ?_⟩
    have hk9 : k ≤ 9 := by
      refine Nat.le_of_lt_succ (Nat.lt_of_not_le (fun h => ?_))
      have : (10 : Int) * val 10 b ≤ k * val 10 b := Int.mul_le_mul_of_nonneg_right (by omega) (by omega)
      omega
    obtain ⟨V, hV⟩ : ∃ V, V = R - k * val 10 b := ⟨_, rfl⟩
    have hkB : 0 ≤ (k : Int) * val 10 b := Int.mul_nonneg (by omega) (by omega)
    have cV := cl_limbs (V := V) (n := a.length) (by omega) (by omega) (by omega)
    have vV : val 10 (limbs 10 V) = V := limbs_val T_two (by omega)
    have lV : (limbs 10 V).length ≤ a.length := limbs_length T_two (by omega) (by omega)
    have ob := cl_ok T_two hb
    have oV := cl_ok T_two cV
    rw [← hV]
    have ew : IntKind.i64.wrap ((a.length : Int) - 1) = (i : Int) := by rw [w64 (by omega) (by omega)]; omega
    rw [ew]
    refine lands_bif.2 ⟨fun _ => ?_, fun h => by rw [cV, hb] at h; cases h⟩
    refine lands_bif.2 ⟨fun h => ?_, fun h => ?_⟩
    · have hle : val 10 b ≤ V := by
        rw [decide_eq_true_eq, vV] at h
        unfold cmpZ at h
        split at h <;> omega
      have hln : b.length ≤ (limbs 10 V).length := by
        refine Nat.le_of_not_lt (fun hlt => ?_)
        have := val_lt_of_length T_two oV ob (cl_last hb) hlt
        omega
      have lv := lessD_val oV ob (by rw [vV]; exact hle)
      rw [vV] at lv
      have ll := lessD_len (limbs 10 V) b
      refine lands_bif.2 ⟨fun _ => ?_, fun h => ?_⟩
      · refine lands_bif.2 ⟨fun _ => ?_, fun h => ?_⟩
        · refine lands_bif.2 ⟨fun _ => ?_, fun h => ?_⟩
          · refine lands_bif.2 ⟨fun _ => lands_some.2 ⟨k + 1, ?_, ?_, ?_⟩, fun h => ?_⟩
            · have e1 : lb 10 (num 10 false (lessD (limbs 10 V) b)) = limbs 10 (R - ((k + 1 : Nat) : Int) * val 10 b) := by
                unfold lb
                rw [show num 10 false (lessD (limbs 10 V) b) = V - val 10 b from lv]
                congr 1
                rw [Int.natCast_add, Int.add_mul, Int.natCast_one, Int.one_mul]; omega
              have e2 : (L.set i (k : Int)).set (Int.toNat (i : Int)) (IntKind.i64.wrap (rd (L.set i (k : Int)) (i : Int) + 1)) = L.set i ((k + 1 : Nat) : Int) := by
                rw [rd_toNat, Int.toNat_natCast, getD_set_self (by omega), List.set_set, wi_succ (by omega)]
              rw [e1, e2]
            · show ((k + 1 : Nat) : Int) * val 10 b ≤ R
              rw [Int.natCast_add, Int.add_mul, Int.natCast_one, Int.one_mul]; omega
            · show 10 - (k + 1) < 10 - k
              omega
            · rw [inB_iff.2 (by rw [List.length_set]; omega)] at h; cases h
          · rw [inB_iff.2 (by rw [List.length_set]; omega)] at h; cases h
        · rw [lessD_ok, few_iff.2 (show (lessD (limbs 10 V) b).length ≤ 100000 by omega)] at h; cases h
      · rw [(cl_iff (B := 10)).1 hb |>.1 |> few_iff.2, few_iff.2 (show (limbs 10 V).length ≤ 100000 by omega), ob, oV, decide_eq_true hln, vV, decide_eq_true hle] at h; cases h
    · have hlt : V < val 10 b := by
        rw [decide_eq_false_iff_not, vV] at h
        unfold cmpZ at h
        split at h
        · assumption
        · split at h <;> omega
      have hq : R / val 10 b = k := by
        rw [Int.ediv_eq_iff_of_pos hB]
        have : ((k : Int) + 1) * val 10 b = k * val 10 b + val 10 b := by rw [Int.add_mul, Int.one_mul]
        omega
      have hm : R % val 10 b = V := by
        rw [Int.emod_def, hq, Int.mul_comm]; omega
      rw [hq, hm]
      exact lands_some.2 ⟨rfl, rfl⟩
  · show ((0 : Nat) : Int) * val 10 b ≤ R
    simp [h0]

theorem drop_val (a : List Int) {i : Nat} (h : i < a.length) : val 10 (a.drop i) = a.getD i 0 + 10 * val 10 (a.drop (i + 1)) := by
  rw [List.drop_eq_getElem_cons h, getD_at h]
  rfl
theorem okB_drop {l : List Int} (h : okB 10 l = true) (n : Nat) : okB 10 (l.drop n) = true := okB_iff.2 fun d hd => okB_iff.1 h d (List.mem_of_mem_drop hd)
/-- One digit more. -/
theorem div_step {A d B : Int} (hB : 0 < B) (h0 : 0 ≤ A) (hd : 0 ≤ d ∧ d < 10) : 0 ≤ 10 * (A % B) + d ∧ 10 * (A % B) + d < 10 * B ∧ (d + 10 * A) / B = 10 * (A / B) + (10 * (A % B) + d) / B ∧ (d + 10 * A) % B = (10 * (A % B) + d) % B := by
  have h1 := Int.emod_nonneg A (show B ≠ 0 by omega)
  have h2 := Int.emod_lt_of_pos A hB
  have h3 := Int.mul_ediv_add_emod A B
  have e : d + 10 * A = 10 * (A % B) + d + B * (10 * (A / B)) := by
    have : B * (10 * (A / B)) = 10 * (B * (A / B)) := by rw [← Int.mul_assoc, Int.mul_comm B 10, Int.mul_assoc]
    omega
  refine ⟨by omega, by omega, ?_, ?_⟩
  · rw [e, Int.add_mul_ediv_left _ _ (by omega)]; omega
  · rw [e, Int.add_mul_emod_self_left]
theorem dig_lt {R B : Int} (hB : 0 < B) (h0 : 0 ≤ R) (hR : R < 10 * B) : 0 ≤ R / B ∧ R / B < 10 := by
  refine ⟨Int.ediv_nonneg h0 (by omega), ?_⟩
  exact Int.ediv_lt_of_lt_mul hB hR
def Inv (a b : List Int) (i : Nat) (l8 l9 : List Int) : Prop :=
  i ≤ a.length ∧ l8 = limbs 10 (val 10 (a.drop i) % val 10 b) ∧ l9.length = a.length ∧ okB 10 l9 = true ∧ val 10 l9 = 10 ^ i * (val 10 (a.drop i) / val 10 b) ∧ ∀ j, j < i → l9.getD j 0 = 0
theorem Inv.next {a b : List Int} {i : Nat} {l8 l9 : List Int} (oa : okB 10 a = true) (hB : 0 < val 10 b) (h : Inv a b (i + 1) l8 l9) {R : Int} (hR : R = 10 * (val 10 (a.drop (i + 1)) % val 10 b) + a.getD i 0) : Inv a b i (limbs 10 (R % val 10 b)) (l9.set i (R / val 10 b)) := by
  obtain ⟨h1, h2, h3, h4, h5, h6⟩ := h
  have hd := getD_ok T_pos oa i
  have hA := val_nonneg T_pos (okB_drop oa (i + 1))
  obtain ⟨k1, k2, k3, k4⟩ := div_step hB hA hd
  rw [← hR] at k1 k2 k3 k4
  refine ⟨by omega, by rw [drop_val a (i := i) (by omega), k4], by rw [List.length_set]; exact h3, okB_set h4 (dig_lt hB k1 k2), ?_, fun j hj => by rw [getD_set_ne (by omega)]; exact h6 j (by omega)⟩
  rw [val_set _ _ _ _ (by omega), h6 i (by omega), h5, drop_val a (i := i) (by omega), k3, Int.pow_succ]
  grind
theorem Inv.fin {a b l8 l9 : List Int} (oa : okB 10 a = true) (hB : 0 < val 10 b) (h : Inv a b 0 l8 l9) : l8 = limbs 10 (val 10 a % val 10 b) ∧ l9 = splitD a b := by
  obtain ⟨h1, h2, h3, h4, h5, h6⟩ := h
  rw [List.drop_zero] at h2 h5
  refine ⟨h2, dig_eq T_pos h4 h3 ?_⟩
  rw [h5]
  simp
theorem small_R {a b : List Int} (oa : okB 10 a = true) (hB : 0 < val 10 b) {i : Nat} (hi : i < a.length) : 10 * (val 10 (a.drop (i + 1)) % val 10 b) + a.getD i 0 < 10 ^ a.length := by
  have hd := getD_ok T_pos oa i
  have hA := val_nonneg T_pos (okB_drop oa (i + 1))
  have h1 : val 10 (a.drop (i + 1)) % val 10 b ≤ val 10 (a.drop (i + 1)) := by
    have h3 := Int.mul_ediv_add_emod (val 10 (a.drop (i + 1))) (val 10 b)
    have h4 : 0 ≤ val 10 b * (val 10 (a.drop (i + 1)) / val 10 b) := Int.mul_nonneg (by omega) (Int.ediv_nonneg hA (by omega))
    omega
  have h2 := val_lt T_pos (okB_drop oa i)
  rw [drop_val a hi] at h2
  rw [List.length_drop] at h2
  have h3 := pow_mono (B := 10) (by decide) (show a.length - i ≤ a.length by omega)
  omega
theorem outer (a b : List Int) (oa : okB 10 a = true) (hb : cl 10 b = true) (hB : 0 < val 10 b) (ha : a.length ≤ 50000) (n : Nat) (l8 l9 : List Int) (hI : Inv a b n l8 l9) :
    ∃ e S1, Ends T orc L0 D0 (st0 a b l8 ((n : Int) - 1) l9) e S1 ∧ (e = .exit 0 ∧ ∃ x l m, S1 = st0 a b l x m ∧ Inv a b 0 l m) := by
  refine loop_inv3 (fun (i : Nat) l8 l9 => st0 a b l8 ((i : Int) - 1) l9) (fun i l8 l9 => Inv a b i l8 l9) (fun i _ _ => i)
    (fun e S1 => e = .exit 0 ∧ ∃ x l m, S1 = st0 a b l x m ∧ Inv a b 0 l m) isL0 ?_ n l8 l9 hI
  intro i l8 l9 h
  obtain ⟨h1, h2, h3, h4, h5, h6⟩ := id h
  cases i with
  | zero =>
    refine ⟨_, tabOf_all _, lands_of (round0 a b l8 ((0 : Nat) - 1 : Int) l9 l8 l9) ?_⟩
    rw [decide_eq_false (by omega)]
    exact lands_some.2 ⟨rfl, _, _, _, rfl, h⟩
  | succ i =>
    have hd := getD_ok T_pos oa i
    have hA := val_nonneg T_pos (okB_drop oa (i + 1))
    obtain ⟨k1, k2, k3, k4⟩ := div_step hB hA hd
    have hs := small_R oa hB (show i < a.length by omega)
    obtain ⟨R, hR⟩ : ∃ R, R = 10 * (val 10 (a.drop (i + 1)) % val 10 b) + a.getD i 0 := ⟨_, rfl⟩
    rw [← hR] at k1 k2 hs
    have hm0 := Int.emod_nonneg (val 10 (a.drop (i + 1))) (show val 10 b ≠ 0 by omega)
    have o8 : okB 10 l8 = true := by rw [h2]; exact limbs_ok T_pos _
    have v8 : val 10 l8 = val 10 (a.drop (i + 1)) % val 10 b := by rw [h2]; exact limbs_val T_two hm0
    have n8 : l8.length ≤ 50000 := by
      rw [h2]
      exact Nat.le_trans (limbs_length T_two (n := a.length) hm0 (by omega)) ha
    obtain ⟨e1, S1, hE1, rfl, rfl⟩ := innerA a b i (by omega) l8 l9 hb hB R k1 k2 hs ha h3 (h6 i (by omega))
    have ei : (((i + 1 : Nat) : Int) - 1) = (i : Int) := by omega
    refine ⟨_, tabOf_all _, lands_of (round0 a b l8 _ l9 (limbs 10 (R % val 10 b)) (l9.set i (R / val 10 b))) ?_⟩
    rw [ei]
    have el : lb 10 (num 10 false (rd a (i : Int) :: l8)) = limbs 10 R := by
      unfold lb
      congr 1
      rw [rd_toNat, Int.toNat_natCast, show num 10 false (a.getD i 0 :: l8) = a.getD i 0 + 10 * val 10 l8 from rfl, v8]
      omega
    rw [el, cdec_true hE1]
    refine lands_bif.2 ⟨fun _ => ?_, fun h => by rw [decide_eq_true (show (i : Int) ≥ 0 by omega)] at h; cases h⟩
    refine lands_bif.2 ⟨fun _ => ?_, fun h => by rw [inB_iff.2 (by omega)] at h; cases h⟩
    refine lands_bif.2 ⟨fun _ => ?_, fun h => by rw [Bool.true_and, decide_eq_false_iff_not, List.length_cons] at h; omega⟩
    refine lands_bif.2 ⟨fun _ => ?_, fun h => by rw [few_iff.2 (show (rd a (i : Int) :: l8).length ≤ 100000 by rw [List.length_cons]; omega), okB_cons.2 ⟨by rw [rd_toNat, Int.toNat_natCast]; exact hd, o8⟩] at h; cases h⟩
    refine lands_some.2 ⟨i, _, _, ?_, h.next oa hB hR, by show i < i + 1; omega⟩
    rw [w64 (by omega) (by omega)]
end RSplit
theorem meets_rsplit : Meets Try.prog 91 anrSplit := by
  refine meets_fn (orc_ok (l := RSplit.ans) ⟨meets_rtrim, meets_rcmpMag, meets_rless, trivial⟩) Try.f91 Try.func91 (by kernel_rfl) (fun args r h => ?_)
  unfold anrSplit at h
  split at h
  · rename_i a b
    simp only [Option.some.injEq, Prod.mk.injEq, Bool.and_eq_true, decide_eq_true_eq] at h
    obtain ⟨⟨⟨⟨ha, hb⟩, hB⟩, hl⟩, rfl⟩ := h
    have oa := cl_ok T_two ha
    have c1 : (true && decide ((a.length : Int) ≤ (a.length : Int)) && decide ((a.length : Int).toNat * 8 ≤ 281474976710656)) = true := by
      rw [Bool.true_and, Bool.and_eq_true, decide_eq_true_eq, decide_eq_true_eq]; omega
    refine ⟨rfl, ?_⟩
    cases hn : a.length with
    | zero =>
      have ha0 : a = [] := List.eq_nil_of_length_eq_zero hn
      subst ha0
      have hE : Ends T RSplit.orc RSplit.L0 RSplit.D0 (RSplit.st0e [] b) (.exit 0) (RSplit.st0e [] b) :=
        ends_leave RSplit.isL0 (tabOf_all _) (RSplit.round0e [] b [] [])
      refine ⟨_, tabOf_all _, (RSplit.rest_1 [] b).trans ?_⟩
      refine (bT c1).trans ((bT (cdec_true hE)).trans ?_)
      unfold splitD
      simp [val, limbs_zero, digN]
    | succ n =>
      have hd := getD_ok T_pos oa n
      have hs := RSplit.small_R oa hB (show n < a.length by omega)
      have hdr : a.drop (n + 1) = [] := List.drop_of_length_le (by omega)
      have hA : val 10 (a.drop (n + 1)) = 0 := by rw [hdr]; rfl
      obtain ⟨k1, k2, k3, k4⟩ := RSplit.div_step (A := val 10 (a.drop (n + 1))) hB (by omega) hd
      obtain ⟨R, hR⟩ : ∃ R, R = 10 * (val 10 (a.drop (n + 1)) % val 10 b) + a.getD n 0 := ⟨_, rfl⟩
      rw [← hR] at k1 k2 hs
      obtain ⟨e1, S1, hE1, rfl, rfl⟩ := RSplit.innerB a b n hn (zeros a.length) hb hB R k1 k2 hs hl (by simp) (getD_zeros _ _)
      have h0 : RSplit.Inv a b (n + 1) [] (zeros a.length) := by
        refine ⟨by omega, ?_, by simp, okB_zeros T_pos _, ?_, fun j _ => getD_zeros _ _⟩
        · rw [hA, Int.zero_emod]; exact limbs_zero.symm
        · rw [hA, Int.zero_ediv, val_zeros, Int.mul_zero]
      obtain ⟨e2, S2, hE2, rfl, x, l, m, rfl, hI⟩ := RSplit.outer a b oa hb hB hl n _ _ (h0.next oa hB hR)
      obtain ⟨rfl, rfl⟩ := hI.fin oa hB
      have ew : IntKind.i64.wrap ((a.length : Int) - 1) = (n : Int) := by rw [w64 (by omega) (by omega)]; omega
      have ew2 : IntKind.i64.wrap ((n : Int) - 1) = (n : Int) - 1 := w64 (by omega) (by omega)
      have el : lb 10 (num 10 false [rd a (n : Int)]) = limbs 10 R := by
        unfold lb
        congr 1
        rw [rd_toNat, Int.toNat_natCast, show num 10 false [a.getD n 0] = a.getD n 0 + 10 * 0 from rfl, hR, hA, Int.zero_emod]
        omega
      have hE : Ends T RSplit.orc RSplit.L0 RSplit.D0 (RSplit.st0e a b) (.exit 0) (RSplit.st0 a b (limbs 10 (val 10 a % val 10 b)) x (splitD a b)) := by
        refine ends_peel RSplit.isL0 (tabOf_all _) ((RSplit.round0e a b (limbs 10 (R % val 10 b)) ((zeros a.length).set n (R / val 10 b))).trans ?_) hE2
        rw [ew, el, Int.toNat_natCast, cdec_true hE1]
        refine (bT (decide_eq_true (by omega))).trans ((bT (inB_iff.2 (by omega))).trans ((bT ?_).trans ?_))
        · rw [Bool.true_and]
          exact okB_cons.2 ⟨by rw [rd_toNat, Int.toNat_natCast]; exact hd, rfl⟩
        · rw [ew2]; rfl
      refine ⟨_, tabOf_all _, (RSplit.rest_0 a b (splitD a b) (limbs 10 (val 10 a % val 10 b)) x).trans ?_⟩
      exact (bT c1).trans (bT (cdec_true hE))
  · cases h
end Go.Abs
end
section
/- States and rounds of arith's functions, as a program of this session printed them (3). -/
set_option maxRecDepth 10000
namespace Go.Abs
open Go.Proofs Go.Dig
namespace Parse
abbrev ans : Ans := [(82, ansNorm), (78, ansHeld), (81, ansScale)]
abbrev orc : Orc := orcOf ans
noncomputable def L0 : Code := lp Try.f58 0
theorem isL0 : ∃ a, L0 = .loop a := ⟨_, rfl⟩
abbrev D0 : List Nat := [0, 2, 3, 4, 5, 13, 14, 15, 16, 17, 21, 22, 23, 24, 25, 26, 27, 28, 40, 42, 43, 44]
abbrev st0 (s : ByteArray) (b0 : Bool) (x0 : Int) : St := ⟨.str s :: tops 1 (.ptr 2 0 0 :: .int .i64 (0) :: .str (s.extract 1 s.size) :: .bool (bt s (0) == 45) :: tops 7 (.str s :: .str s :: .int .i64 (↑s.size : Int) :: .bool (decide ((↑s.size : Int) > 0)) :: .bool true :: tops 3 (.bool (bt s (0) == 45) :: .bool (bt s (0) == 45) :: .str s :: .str (s.extract 1 s.size) :: .str (s.extract 1 s.size) :: .int .i64 (↑(s.extract 1 s.size).size : Int) :: .bool ((↑(s.extract 1 s.size).size : Int) == 0) :: .bool false :: tops 11 (.bool b0 :: tops 1 (.str (s.extract 1 s.size) :: .int .i64 (↑(s.extract 1 s.size).size : Int) :: .int .i64 x0 :: tops 58 ([])))))), nos 2 (varE [(false, .bool false), (true, .ints .u32 [])] :: nos 100 ([]))⟩
abbrev st0x0 (s : ByteArray) (x1 : Int) (b0 : Bool) (x0 : Int) : St := ⟨.str s :: tops 1 (.ptr 2 0 0 :: .int .i64 x1 :: .str (s.extract 1 s.size) :: .bool (bt s (0) == 45) :: tops 7 (.str s :: .str s :: .int .i64 (↑s.size : Int) :: .bool (decide ((↑s.size : Int) > 0)) :: .bool true :: tops 3 (.bool (bt s (0) == 45) :: .bool (bt s (0) == 45) :: .str s :: .str (s.extract 1 s.size) :: .str (s.extract 1 s.size) :: .int .i64 (↑(s.extract 1 s.size).size : Int) :: .bool ((↑(s.extract 1 s.size).size : Int) == 0) :: .bool false :: tops 11 (.bool b0 :: tops 1 (.str (s.extract 1 s.size) :: .int .i64 (↑(s.extract 1 s.size).size : Int) :: .int .i64 x0 :: tops 58 ([])))))), nos 2 (varE [(false, .bool false), (true, .ints .u32 [])] :: nos 100 ([]))⟩
theorem round0 (s : ByteArray) (b0 : Bool) (x0 : Int) : goL T orc (noTab) D0 L0 (st0 s b0 x0) =
    (bif decide (x0 < (↑(s.extract 1 s.size).size : Int)) then (bif inB x0 (s.extract 1 s.size).size then (bif decide (bt (s.extract 1 s.size) x0 < 48) then some (.ret, st0x0 s (10) b0 x0) else (bif inB x0 (s.extract 1 s.size).size then (bif decide (bt (s.extract 1 s.size) x0 > 57) then some (.ret, st0x0 s (10) b0 x0) else some (.normal, st0 s b0 (IntKind.i64.wrap (x0 + 1)))) else none)) else none) else some (.exit 0, st0 s b0 x0)) := by kernel_rfl
-- loop 0 ends ret st0x0 s x1 b0 x0
-- loop 0 ends exit0 st0 s b0 x0
noncomputable def L0a : Code := lp Try.f58 0
theorem isL0a : ∃ a, L0a = .loop a := ⟨_, rfl⟩
abbrev D0a : List Nat := [0, 2, 3, 4, 5, 13, 14, 15, 16, 17, 21, 22, 25, 26, 27, 28, 40, 42, 43, 44]
abbrev st0a (s : ByteArray) (b6 : Bool) (b7 : Bool) (b8 : Bool) (x4 : Int) : St := ⟨.str s :: tops 1 (.ptr 2 0 0 :: .int .i64 (0) :: .str s :: .bool b6 :: tops 7 (.str s :: .str s :: .int .i64 (↑s.size : Int) :: .bool (decide ((↑s.size : Int) > 0)) :: .bool b7 :: tops 3 (.bool b6 :: .bool b6 :: tops 2 (.str s :: .int .i64 (↑s.size : Int) :: .bool ((↑s.size : Int) == 0) :: .bool false :: tops 11 (.bool b8 :: tops 1 (.str s :: .int .i64 (↑s.size : Int) :: .int .i64 x4 :: tops 58 ([]))))))), nos 2 (varE [(false, .bool false), (true, .ints .u32 [])] :: nos 100 ([]))⟩
abbrev st0ax0 (s : ByteArray) (x5 : Int) (b6 : Bool) (b7 : Bool) (b8 : Bool) (x4 : Int) : St := ⟨.str s :: tops 1 (.ptr 2 0 0 :: .int .i64 x5 :: .str s :: .bool b6 :: tops 7 (.str s :: .str s :: .int .i64 (↑s.size : Int) :: .bool (decide ((↑s.size : Int) > 0)) :: .bool b7 :: tops 3 (.bool b6 :: .bool b6 :: tops 2 (.str s :: .int .i64 (↑s.size : Int) :: .bool ((↑s.size : Int) == 0) :: .bool false :: tops 11 (.bool b8 :: tops 1 (.str s :: .int .i64 (↑s.size : Int) :: .int .i64 x4 :: tops 58 ([]))))))), nos 2 (varE [(false, .bool false), (true, .ints .u32 [])] :: nos 100 ([]))⟩
theorem round0a (s : ByteArray) (b6 : Bool) (b7 : Bool) (b8 : Bool) (x4 : Int) : goL T orc (noTab) D0a L0a (st0a s b6 b7 b8 x4) =
    (bif decide (x4 < (↑s.size : Int)) then (bif inB x4 s.size then (bif decide (bt s x4 < 48) then some (.ret, st0ax0 s (10) b6 b7 b8 x4) else (bif inB x4 s.size then (bif decide (bt s x4 > 57) then some (.ret, st0ax0 s (10) b6 b7 b8 x4) else some (.normal, st0a s b6 b7 b8 (IntKind.i64.wrap (x4 + 1)))) else none)) else none) else some (.exit 0, st0a s b6 b7 b8 x4)) := by kernel_rfl
-- loop 0a ends ret st0ax0 s x5 b6 b7 b8 x4
-- loop 0a ends exit0 st0a s b6 b7 b8 x4
noncomputable def L2 : Code := lp Try.f58 2
theorem isL2 : ∃ a, L2 = .loop a := ⟨_, rfl⟩
abbrev D2 : List Nat := [0, 2, 3, 4, 5, 7, 8, 9, 10, 11, 13, 14, 15, 16, 17, 21, 22, 25, 26, 27, 28, 40, 42, 43, 44, 59, 60, 61, 63, 64, 65, 66, 69, 70, 71, 72, 73, 74, 75, 76, 77, 78, 79]
abbrev st2 (s : ByteArray) (b12 : Bool) (x15 : Int) (x16 : Int) (x17 : Int) (b13 : Bool) (b14 : Bool) (x8 : Int) (x18 : Int) (l0 : List Int) : St := ⟨.str s :: tops 1 (.ptr 2 0 0 :: .int .i64 (0) :: .str s :: .bool b12 :: tops 1 (.sl 7 0 0 :: .int .i64 x15 :: .str (s.extract x15.toNat (bif false then if (↑s.size : Int) > IntKind.i64.wrap (x15 + 9) then (↑s.size : Int) else IntKind.i64.wrap (x15 + 9) else if (↑s.size : Int) < IntKind.i64.wrap (x15 + 9) then (↑s.size : Int) else IntKind.i64.wrap (x15 + 9)).toNat) :: .int .u32 x16 :: .int .u32 x17 :: tops 1 (.str s :: .str s :: .int .i64 (↑s.size : Int) :: .bool (decide ((↑s.size : Int) > 0)) :: .bool b13 :: tops 3 (.bool b12 :: .bool b12 :: tops 2 (.str s :: .int .i64 (↑s.size : Int) :: .bool ((↑s.size : Int) == 0) :: .bool false :: tops 11 (.bool b14 :: tops 1 (.str s :: .int .i64 (↑s.size : Int) :: .int .i64 x8 :: tops 14 (.str s :: .int .i64 (↑s.size : Int) :: .bool (decide ((↑s.size : Int) > 343)) :: tops 1 (.int .i64 x15 :: .str s :: .int .i64 (↑s.size : Int) :: .bool (decide (x15 < (↑s.size : Int))) :: tops 2 (.str s :: .int .i64 x15 :: .int .i64 x15 :: .int .i64 (IntKind.i64.wrap (x15 + 9)) :: .str s :: .int .i64 (↑s.size : Int) :: .int .i64 (bif false then if (↑s.size : Int) > IntKind.i64.wrap (x15 + 9) then (↑s.size : Int) else IntKind.i64.wrap (x15 + 9) else if (↑s.size : Int) < IntKind.i64.wrap (x15 + 9) then (↑s.size : Int) else IntKind.i64.wrap (x15 + 9)) :: .str (s.extract x15.toNat (bif false then if (↑s.size : Int) > IntKind.i64.wrap (x15 + 9) then (↑s.size : Int) else IntKind.i64.wrap (x15 + 9) else if (↑s.size : Int) < IntKind.i64.wrap (x15 + 9) then (↑s.size : Int) else IntKind.i64.wrap (x15 + 9)).toNat) :: .str (s.extract x15.toNat (bif false then if (↑s.size : Int) > IntKind.i64.wrap (x15 + 9) then (↑s.size : Int) else IntKind.i64.wrap (x15 + 9) else if (↑s.size : Int) < IntKind.i64.wrap (x15 + 9) then (↑s.size : Int) else IntKind.i64.wrap (x15 + 9)).toNat) :: .int .i64 (↑(s.extract x15.toNat (bif false then if (↑s.size : Int) > IntKind.i64.wrap (x15 + 9) then (↑s.size : Int) else IntKind.i64.wrap (x15 + 9) else if (↑s.size : Int) < IntKind.i64.wrap (x15 + 9) then (↑s.size : Int) else IntKind.i64.wrap (x15 + 9)).toNat).size : Int) :: .int .i64 x18 :: tops 23 ([]))))))))))), nos 2 (varE [(false, .bool false), (true, .ints .u32 [])] :: nos 4 (rowE (.ints .u32 l0) :: nos 95 ([])))⟩
theorem round2 (s : ByteArray) (b12 : Bool) (x15 : Int) (x16 : Int) (x17 : Int) (b13 : Bool) (b14 : Bool) (x8 : Int) (x18 : Int) (l0 : List Int) : goL T orc (noTab) D2 L2 (st2 s b12 x15 x16 x17 b13 b14 x8 x18 l0) =
    (bif decide (x18 < (↑(s.extract x15.toNat (bif false then if (↑s.size : Int) > IntKind.i64.wrap (x15 + 9) then (↑s.size : Int) else IntKind.i64.wrap (x15 + 9) else if (↑s.size : Int) < IntKind.i64.wrap (x15 + 9) then (↑s.size : Int) else IntKind.i64.wrap (x15 + 9)).toNat).size : Int)) then (bif inB x18 (s.extract x15.toNat (bif false then if (↑s.size : Int) > IntKind.i64.wrap (x15 + 9) then (↑s.size : Int) else IntKind.i64.wrap (x15 + 9) else if (↑s.size : Int) < IntKind.i64.wrap (x15 + 9) then (↑s.size : Int) else IntKind.i64.wrap (x15 + 9)).toNat).size then some (.normal, st2 s b12 x15 (IntKind.u32.wrap (IntKind.u32.wrap (x16 * 10) + IntKind.u32.wrap (IntKind.u8.wrap (bt (s.extract x15.toNat (bif false then if (↑s.size : Int) > IntKind.i64.wrap (x15 + 9) then (↑s.size : Int) else IntKind.i64.wrap (x15 + 9) else if (↑s.size : Int) < IntKind.i64.wrap (x15 + 9) then (↑s.size : Int) else IntKind.i64.wrap (x15 + 9)).toNat) x18 - 48)))) (IntKind.u32.wrap (x17 * 10)) b13 b14 x8 (IntKind.i64.wrap (x18 + 1)) l0) else none) else some (.exit 4, st2 s b12 x15 x16 x17 b13 b14 x8 x18 l0)) := by kernel_rfl
-- loop 2 ends exit4 st2 s b12 x15 x16 x17 b13 b14 x8 x18 l0
noncomputable def L1 : Code := lp Try.f58 1
theorem isL1 : ∃ a, L1 = .loop a := ⟨_, rfl⟩
abbrev D1 : List Nat := [0, 2, 3, 4, 5, 7, 8, 13, 14, 15, 16, 17, 21, 22, 25, 26, 27, 28, 40, 42, 43, 44, 59, 60, 61]
abbrev st1 (s : ByteArray) (b12 : Bool) (x15 : Int) (b13 : Bool) (b14 : Bool) (x8 : Int) (l0 : List Int) : St := ⟨.str s :: tops 1 (.ptr 2 0 0 :: .int .i64 (0) :: .str s :: .bool b12 :: tops 1 (.sl 7 0 0 :: .int .i64 x15 :: tops 4 (.str s :: .str s :: .int .i64 (↑s.size : Int) :: .bool (decide ((↑s.size : Int) > 0)) :: .bool b13 :: tops 3 (.bool b12 :: .bool b12 :: tops 2 (.str s :: .int .i64 (↑s.size : Int) :: .bool ((↑s.size : Int) == 0) :: .bool false :: tops 11 (.bool b14 :: tops 1 (.str s :: .int .i64 (↑s.size : Int) :: .int .i64 x8 :: tops 14 (.str s :: .int .i64 (↑s.size : Int) :: .bool (decide ((↑s.size : Int) > 343)) :: tops 41 ([]))))))))), nos 2 (varE [(false, .bool false), (true, .ints .u32 [])] :: nos 4 (rowE (.ints .u32 l0) :: nos 95 ([])))⟩
theorem round1 (s : ByteArray) (b12 : Bool) (x15 : Int) (b13 : Bool) (b14 : Bool) (x8 : Int) (l0 : List Int) (x20 : Int) (x19 : Int) (x21 : Int) : goL T orc (tabOf T orc [(22, 2585025616625118797550854632251396893418309473431785164950648237226251597721781646332670859523748775088636340792802323394286, .exit 4, st2 s b12 x15 x19 x20 b13 b14 x8 x21 l0)]) D1 L1 (st1 s b12 x15 b13 b14 x8 l0) =
    (bif decide (x15 < (↑s.size : Int)) then (bif decide (0 ≤ x15) && decide (x15 ≤ bif false then if (↑s.size : Int) > IntKind.i64.wrap (x15 + 9) then (↑s.size : Int) else IntKind.i64.wrap (x15 + 9) else if (↑s.size : Int) < IntKind.i64.wrap (x15 + 9) then (↑s.size : Int) else IntKind.i64.wrap (x15 + 9)) && decide ((bif false then if (↑s.size : Int) > IntKind.i64.wrap (x15 + 9) then (↑s.size : Int) else IntKind.i64.wrap (x15 + 9) else if (↑s.size : Int) < IntKind.i64.wrap (x15 + 9) then (↑s.size : Int) else IntKind.i64.wrap (x15 + 9)) ≤ (↑s.size : Int)) then (bif cdec (Ends T orc L2 D2 (st2 s b12 x15 (0) (1) b13 b14 x8 (0) l0) (.exit 4) (st2 s b12 x15 x19 x20 b13 b14 x8 x21 l0)) then (bif few l0 && okB (4294967296) l0 && decide (0 ≤ x20) && decide (x20 < 4294967296) && decide (0 ≤ x19) && decide (x19 < 4294967296) then some (.normal, st1 s b12 (IntKind.i64.wrap (x15 + 9)) b13 b14 x8 (scaleL l0 x20 x19)) else none) else none) else none) else some (.exit 2, st1 s b12 x15 b13 b14 x8 l0)) := by kernel_rfl
-- loop 1 ends exit2 st1 s b12 x15 b13 b14 x8 l0
noncomputable def L2a : Code := lp Try.f58 2
theorem isL2a : ∃ a, L2a = .loop a := ⟨_, rfl⟩
abbrev D2a : List Nat := [0, 2, 3, 4, 5, 7, 8, 9, 10, 11, 13, 14, 15, 16, 17, 21, 22, 23, 24, 25, 26, 27, 28, 40, 42, 43, 44, 59, 60, 61, 63, 64, 65, 66, 69, 70, 71, 72, 73, 74, 75, 76, 77, 78, 79]
abbrev st2a (s : ByteArray) (x30 : Int) (x31 : Int) (x32 : Int) (b15 : Bool) (x23 : Int) (x33 : Int) (l2 : List Int) : St := ⟨.str s :: tops 1 (.ptr 2 0 0 :: .int .i64 (0) :: .str (s.extract 1 s.size) :: .bool (bt s (0) == 45) :: tops 1 (.sl 7 0 0 :: .int .i64 x30 :: .str ((s.extract 1 s.size).extract x30.toNat (bif false then if (↑(s.extract 1 s.size).size : Int) > IntKind.i64.wrap (x30 + 9) then (↑(s.extract 1 s.size).size : Int) else IntKind.i64.wrap (x30 + 9) else if (↑(s.extract 1 s.size).size : Int) < IntKind.i64.wrap (x30 + 9) then (↑(s.extract 1 s.size).size : Int) else IntKind.i64.wrap (x30 + 9)).toNat) :: .int .u32 x31 :: .int .u32 x32 :: tops 1 (.str s :: .str s :: .int .i64 (↑s.size : Int) :: .bool (decide ((↑s.size : Int) > 0)) :: .bool true :: tops 3 (.bool (bt s (0) == 45) :: .bool (bt s (0) == 45) :: .str s :: .str (s.extract 1 s.size) :: .str (s.extract 1 s.size) :: .int .i64 (↑(s.extract 1 s.size).size : Int) :: .bool ((↑(s.extract 1 s.size).size : Int) == 0) :: .bool false :: tops 11 (.bool b15 :: tops 1 (.str (s.extract 1 s.size) :: .int .i64 (↑(s.extract 1 s.size).size : Int) :: .int .i64 x23 :: tops 14 (.str (s.extract 1 s.size) :: .int .i64 (↑(s.extract 1 s.size).size : Int) :: .bool (decide ((↑(s.extract 1 s.size).size : Int) > 343)) :: tops 1 (.int .i64 x30 :: .str (s.extract 1 s.size) :: .int .i64 (↑(s.extract 1 s.size).size : Int) :: .bool (decide (x30 < (↑(s.extract 1 s.size).size : Int))) :: tops 2 (.str (s.extract 1 s.size) :: .int .i64 x30 :: .int .i64 x30 :: .int .i64 (IntKind.i64.wrap (x30 + 9)) :: .str (s.extract 1 s.size) :: .int .i64 (↑(s.extract 1 s.size).size : Int) :: .int .i64 (bif false then if (↑(s.extract 1 s.size).size : Int) > IntKind.i64.wrap (x30 + 9) then (↑(s.extract 1 s.size).size : Int) else IntKind.i64.wrap (x30 + 9) else if (↑(s.extract 1 s.size).size : Int) < IntKind.i64.wrap (x30 + 9) then (↑(s.extract 1 s.size).size : Int) else IntKind.i64.wrap (x30 + 9)) :: .str ((s.extract 1 s.size).extract x30.toNat (bif false then if (↑(s.extract 1 s.size).size : Int) > IntKind.i64.wrap (x30 + 9) then (↑(s.extract 1 s.size).size : Int) else IntKind.i64.wrap (x30 + 9) else if (↑(s.extract 1 s.size).size : Int) < IntKind.i64.wrap (x30 + 9) then (↑(s.extract 1 s.size).size : Int) else IntKind.i64.wrap (x30 + 9)).toNat) :: .str ((s.extract 1 s.size).extract x30.toNat (bif false then if (↑(s.extract 1 s.size).size : Int) > IntKind.i64.wrap (x30 + 9) then (↑(s.extract 1 s.size).size : Int) else IntKind.i64.wrap (x30 + 9) else if (↑(s.extract 1 s.size).size : Int) < IntKind.i64.wrap (x30 + 9) then (↑(s.extract 1 s.size).size : Int) else IntKind.i64.wrap (x30 + 9)).toNat) :: .int .i64 (↑((s.extract 1 s.size).extract x30.toNat (bif false then if (↑(s.extract 1 s.size).size : Int) > IntKind.i64.wrap (x30 + 9) then (↑(s.extract 1 s.size).size : Int) else IntKind.i64.wrap (x30 + 9) else if (↑(s.extract 1 s.size).size : Int) < IntKind.i64.wrap (x30 + 9) then (↑(s.extract 1 s.size).size : Int) else IntKind.i64.wrap (x30 + 9)).toNat).size : Int) :: .int .i64 x33 :: tops 23 ([])))))))))), nos 2 (varE [(false, .bool false), (true, .ints .u32 [])] :: nos 4 (rowE (.ints .u32 l2) :: nos 95 ([])))⟩
theorem round2a (s : ByteArray) (x30 : Int) (x31 : Int) (x32 : Int) (b15 : Bool) (x23 : Int) (x33 : Int) (l2 : List Int) : goL T orc (noTab) D2a L2a (st2a s x30 x31 x32 b15 x23 x33 l2) =
    (bif decide (x33 < (↑((s.extract 1 s.size).extract x30.toNat (bif false then if (↑(s.extract 1 s.size).size : Int) > IntKind.i64.wrap (x30 + 9) then (↑(s.extract 1 s.size).size : Int) else IntKind.i64.wrap (x30 + 9) else if (↑(s.extract 1 s.size).size : Int) < IntKind.i64.wrap (x30 + 9) then (↑(s.extract 1 s.size).size : Int) else IntKind.i64.wrap (x30 + 9)).toNat).size : Int)) then (bif inB x33 ((s.extract 1 s.size).extract x30.toNat (bif false then if (↑(s.extract 1 s.size).size : Int) > IntKind.i64.wrap (x30 + 9) then (↑(s.extract 1 s.size).size : Int) else IntKind.i64.wrap (x30 + 9) else if (↑(s.extract 1 s.size).size : Int) < IntKind.i64.wrap (x30 + 9) then (↑(s.extract 1 s.size).size : Int) else IntKind.i64.wrap (x30 + 9)).toNat).size then some (.normal, st2a s x30 (IntKind.u32.wrap (IntKind.u32.wrap (x31 * 10) + IntKind.u32.wrap (IntKind.u8.wrap (bt ((s.extract 1 s.size).extract x30.toNat (bif false then if (↑(s.extract 1 s.size).size : Int) > IntKind.i64.wrap (x30 + 9) then (↑(s.extract 1 s.size).size : Int) else IntKind.i64.wrap (x30 + 9) else if (↑(s.extract 1 s.size).size : Int) < IntKind.i64.wrap (x30 + 9) then (↑(s.extract 1 s.size).size : Int) else IntKind.i64.wrap (x30 + 9)).toNat) x33 - 48)))) (IntKind.u32.wrap (x32 * 10)) b15 x23 (IntKind.i64.wrap (x33 + 1)) l2) else none) else some (.exit 4, st2a s x30 x31 x32 b15 x23 x33 l2)) := by kernel_rfl
-- loop 2a ends exit4 st2a s x30 x31 x32 b15 x23 x33 l2
noncomputable def L1a : Code := lp Try.f58 1
theorem isL1a : ∃ a, L1a = .loop a := ⟨_, rfl⟩
abbrev D1a : List Nat := [0, 2, 3, 4, 5, 7, 8, 13, 14, 15, 16, 17, 21, 22, 23, 24, 25, 26, 27, 28, 40, 42, 43, 44, 59, 60, 61]
abbrev st1a (s : ByteArray) (x30 : Int) (b15 : Bool) (x23 : Int) (l2 : List Int) : St := ⟨.str s :: tops 1 (.ptr 2 0 0 :: .int .i64 (0) :: .str (s.extract 1 s.size) :: .bool (bt s (0) == 45) :: tops 1 (.sl 7 0 0 :: .int .i64 x30 :: tops 4 (.str s :: .str s :: .int .i64 (↑s.size : Int) :: .bool (decide ((↑s.size : Int) > 0)) :: .bool true :: tops 3 (.bool (bt s (0) == 45) :: .bool (bt s (0) == 45) :: .str s :: .str (s.extract 1 s.size) :: .str (s.extract 1 s.size) :: .int .i64 (↑(s.extract 1 s.size).size : Int) :: .bool ((↑(s.extract 1 s.size).size : Int) == 0) :: .bool false :: tops 11 (.bool b15 :: tops 1 (.str (s.extract 1 s.size) :: .int .i64 (↑(s.extract 1 s.size).size : Int) :: .int .i64 x23 :: tops 14 (.str (s.extract 1 s.size) :: .int .i64 (↑(s.extract 1 s.size).size : Int) :: .bool (decide ((↑(s.extract 1 s.size).size : Int) > 343)) :: tops 41 ([])))))))), nos 2 (varE [(false, .bool false), (true, .ints .u32 [])] :: nos 4 (rowE (.ints .u32 l2) :: nos 95 ([])))⟩
theorem round1a (s : ByteArray) (x30 : Int) (b15 : Bool) (x23 : Int) (l2 : List Int) (x35 : Int) (x34 : Int) (x36 : Int) : goL T orc (tabOf T orc [(22, 2585025616625118797550854630691125113272957186682296653022108216012557278656570443285417810059861709772309064018216736452334, .exit 4, st2a s x30 x34 x35 b15 x23 x36 l2)]) D1a L1a (st1a s x30 b15 x23 l2) =
    (bif decide (x30 < (↑(s.extract 1 s.size).size : Int)) then (bif decide (0 ≤ x30) && decide (x30 ≤ bif false then if (↑(s.extract 1 s.size).size : Int) > IntKind.i64.wrap (x30 + 9) then (↑(s.extract 1 s.size).size : Int) else IntKind.i64.wrap (x30 + 9) else if (↑(s.extract 1 s.size).size : Int) < IntKind.i64.wrap (x30 + 9) then (↑(s.extract 1 s.size).size : Int) else IntKind.i64.wrap (x30 + 9)) && decide ((bif false then if (↑(s.extract 1 s.size).size : Int) > IntKind.i64.wrap (x30 + 9) then (↑(s.extract 1 s.size).size : Int) else IntKind.i64.wrap (x30 + 9) else if (↑(s.extract 1 s.size).size : Int) < IntKind.i64.wrap (x30 + 9) then (↑(s.extract 1 s.size).size : Int) else IntKind.i64.wrap (x30 + 9)) ≤ (↑(s.extract 1 s.size).size : Int)) then (bif cdec (Ends T orc L2a D2a (st2a s x30 (0) (1) b15 x23 (0) l2) (.exit 4) (st2a s x30 x34 x35 b15 x23 x36 l2)) then (bif few l2 && okB (4294967296) l2 && decide (0 ≤ x35) && decide (x35 < 4294967296) && decide (0 ≤ x34) && decide (x34 < 4294967296) then some (.normal, st1a s (IntKind.i64.wrap (x30 + 9)) b15 x23 (scaleL l2 x35 x34)) else none) else none) else none) else some (.exit 2, st1a s x30 b15 x23 l2)) := by kernel_rfl
-- loop 1a ends exit2 st1a s x30 b15 x23 l2
theorem rest_0 (s : ByteArray) (x6 : Int) (b9 : Bool) (b10 : Bool) (b11 : Bool) (x7 : Int) (x2 : Int) (b1 : Bool) (x3 : Int) : runT T orc (tabOf T orc [(8, 2585025628590623854992277685469035784553465991325676146883346425763788658036205756010234607550307971754212937460549868777198, .ret, st0x0 s x2 b1 x3), (8, 2585025628590623854992277687029307564698818278075164658811886446977482977101416959057487657014195037070540214235135455719150, .ret, st0ax0 s x6 b9 b10 b11 x7)]) Try.f58 [.str s] =
    (bif decide ((↑s.size : Int) > 0) then (bif inB (0) s.size then (bif bt s (0) == 45 then (bif true && decide (1 ≤ (↑s.size : Int)) then (bif (↑(s.extract 1 s.size).size : Int) == 0 then some (.val (.tup [.agg [.bool false, .ints .u32 []], .int .i64 (10)])) else (bif inB (0) (s.extract 1 s.size).size then (bif bt (s.extract 1 s.size) (0) == 48 then (bif decide ((↑(s.extract 1 s.size).size : Int) > 1) then some (.val (.tup [.agg [.bool false, .ints .u32 []], .int .i64 (10)])) else (bif bt s (0) == 45 then some (.val (.tup [.agg [.bool false, .ints .u32 []], .int .i64 (10)])) else (bif cdec (Ends T orc L0 D0 (st0 s (bt s (0) == 45) (0)) .ret (st0x0 s x2 b1 x3)) then some (.val (.tup [.agg [.bool false, .ints .u32 []], .int .i64 x2])) else none))) else (bif cdec (Ends T orc L0 D0 (st0 s (false) (0)) .ret (st0x0 s x2 b1 x3)) then some (.val (.tup [.agg [.bool false, .ints .u32 []], .int .i64 x2])) else none)) else none)) else none) else (bif (↑s.size : Int) == 0 then some (.val (.tup [.agg [.bool false, .ints .u32 []], .int .i64 (10)])) else (bif inB (0) s.size then (bif bt s (0) == 48 then (bif decide ((↑s.size : Int) > 1) then some (.val (.tup [.agg [.bool false, .ints .u32 []], .int .i64 (10)])) else (bif bt s (0) == 45 then some (.val (.tup [.agg [.bool false, .ints .u32 []], .int .i64 (10)])) else (bif cdec (Ends T orc L0a D0a (st0a s (bt s (0) == 45) (true) (bt s (0) == 45) (0)) .ret (st0ax0 s x6 b9 b10 b11 x7)) then some (.val (.tup [.agg [.bool false, .ints .u32 []], .int .i64 x6])) else none))) else (bif cdec (Ends T orc L0a D0a (st0a s (bt s (0) == 45) (true) (false) (0)) .ret (st0ax0 s x6 b9 b10 b11 x7)) then some (.val (.tup [.agg [.bool false, .ints .u32 []], .int .i64 x6])) else none)) else none))) else none) else (bif (↑s.size : Int) == 0 then some (.val (.tup [.agg [.bool false, .ints .u32 []], .int .i64 (10)])) else (bif inB (0) s.size then (bif bt s (0) == 48 then (bif decide ((↑s.size : Int) > 1) then some (.val (.tup [.agg [.bool false, .ints .u32 []], .int .i64 (10)])) else (bif cdec (Ends T orc L0a D0a (st0a s (false) (false) (false) (0)) .ret (st0ax0 s x6 b9 b10 b11 x7)) then some (.val (.tup [.agg [.bool false, .ints .u32 []], .int .i64 x6])) else none)) else (bif cdec (Ends T orc L0a D0a (st0a s (false) (false) (false) (0)) .ret (st0ax0 s x6 b9 b10 b11 x7)) then some (.val (.tup [.agg [.bool false, .ints .u32 []], .int .i64 x6])) else none)) else none))) := by kernel_rfl
theorem rest_1 (s : ByteArray) (b12 : Bool) (l1 : List Int) (b13 : Bool) (b14 : Bool) (x8 : Int) (x22 : Int) (x2 : Int) (b1 : Bool) (x3 : Int) : runT T orc (tabOf T orc [(8, 2585025628590623854992277685469035784553465991325676146883346425763788658036205756010234607550307971754212937460549868777198, .ret, st0x0 s x2 b1 x3), (8, 2585025628590623854992277687029307564698818278075164658811886446977482977101416959057487657014195037070540214235135455719150, .exit 0, st0a s b12 b13 b14 x8), (17, 2585025616739239178733000736461002534577496938266024331367201316383660280611729922488402123137553331067272718842187672907502, .exit 2, st1 s b12 x22 b13 b14 x8 l1)]) Try.f58 [.str s] =
    (bif decide ((↑s.size : Int) > 0) then (bif inB (0) s.size then (bif bt s (0) == 45 then (bif true && decide (1 ≤ (↑s.size : Int)) then (bif (↑(s.extract 1 s.size).size : Int) == 0 then some (.val (.tup [.agg [.bool false, .ints .u32 []], .int .i64 (10)])) else (bif inB (0) (s.extract 1 s.size).size then (bif bt (s.extract 1 s.size) (0) == 48 then (bif decide ((↑(s.extract 1 s.size).size : Int) > 1) then some (.val (.tup [.agg [.bool false, .ints .u32 []], .int .i64 (10)])) else (bif bt s (0) == 45 then some (.val (.tup [.agg [.bool false, .ints .u32 []], .int .i64 (10)])) else (bif cdec (Ends T orc L0 D0 (st0 s (bt s (0) == 45) (0)) .ret (st0x0 s x2 b1 x3)) then some (.val (.tup [.agg [.bool false, .ints .u32 []], .int .i64 x2])) else none))) else (bif cdec (Ends T orc L0 D0 (st0 s (false) (0)) .ret (st0x0 s x2 b1 x3)) then some (.val (.tup [.agg [.bool false, .ints .u32 []], .int .i64 x2])) else none)) else none)) else none) else (bif (↑s.size : Int) == 0 then some (.val (.tup [.agg [.bool false, .ints .u32 []], .int .i64 (10)])) else (bif inB (0) s.size then (bif bt s (0) == 48 then (bif decide ((↑s.size : Int) > 1) then some (.val (.tup [.agg [.bool false, .ints .u32 []], .int .i64 (10)])) else (bif bt s (0) == 45 then some (.val (.tup [.agg [.bool false, .ints .u32 []], .int .i64 (10)])) else (bif cdec (Ends T orc L0a D0a (st0a s (bt s (0) == 45) (true) (bt s (0) == 45) (0)) (.exit 0) (st0a s b12 b13 b14 x8)) then (bif decide ((↑s.size : Int) > 343) then some (.val (.tup [.agg [.bool false, .ints .u32 []], .int .i64 (11)])) else (bif cdec (Ends T orc L1 D1 (st1 s b12 (0) b13 b14 x8 ([])) (.exit 2) (st1 s b12 x22 b13 b14 x8 l1)) then (bif few l1 && okB (4294967296) l1 then (bif cn (4294967296) (sg (num (4294967296) b12 l1)) (lb (4294967296) (num (4294967296) b12 l1)) then some (.val (.tup [R (hz (N (4294967296) (num (4294967296) b12 l1))), .int .i64 (he (N (4294967296) (num (4294967296) b12 l1)))])) else none) else none) else none)) else none))) else (bif cdec (Ends T orc L0a D0a (st0a s (bt s (0) == 45) (true) (false) (0)) (.exit 0) (st0a s b12 b13 b14 x8)) then (bif decide ((↑s.size : Int) > 343) then some (.val (.tup [.agg [.bool false, .ints .u32 []], .int .i64 (11)])) else (bif cdec (Ends T orc L1 D1 (st1 s b12 (0) b13 b14 x8 ([])) (.exit 2) (st1 s b12 x22 b13 b14 x8 l1)) then (bif few l1 && okB (4294967296) l1 then (bif cn (4294967296) (sg (num (4294967296) b12 l1)) (lb (4294967296) (num (4294967296) b12 l1)) then some (.val (.tup [R (hz (N (4294967296) (num (4294967296) b12 l1))), .int .i64 (he (N (4294967296) (num (4294967296) b12 l1)))])) else none) else none) else none)) else none)) else none))) else none) else (bif (↑s.size : Int) == 0 then some (.val (.tup [.agg [.bool false, .ints .u32 []], .int .i64 (10)])) else (bif inB (0) s.size then (bif bt s (0) == 48 then (bif decide ((↑s.size : Int) > 1) then some (.val (.tup [.agg [.bool false, .ints .u32 []], .int .i64 (10)])) else (bif cdec (Ends T orc L0a D0a (st0a s (false) (false) (false) (0)) (.exit 0) (st0a s b12 b13 b14 x8)) then (bif decide ((↑s.size : Int) > 343) then some (.val (.tup [.agg [.bool false, .ints .u32 []], .int .i64 (11)])) else (bif cdec (Ends T orc L1 D1 (st1 s b12 (0) b13 b14 x8 ([])) (.exit 2) (st1 s b12 x22 b13 b14 x8 l1)) then (bif few l1 && okB (4294967296) l1 then (bif cn (4294967296) (sg (num (4294967296) b12 l1)) (lb (4294967296) (num (4294967296) b12 l1)) then some (.val (.tup [R (hz (N (4294967296) (num (4294967296) b12 l1))), .int .i64 (he (N (4294967296) (num (4294967296) b12 l1)))])) else none) else none) else none)) else none)) else (bif cdec (Ends T orc L0a D0a (st0a s (false) (false) (false) (0)) (.exit 0) (st0a s b12 b13 b14 x8)) then (bif decide ((↑s.size : Int) > 343) then some (.val (.tup [.agg [.bool false, .ints .u32 []], .int .i64 (11)])) else (bif cdec (Ends T orc L1 D1 (st1 s b12 (0) b13 b14 x8 ([])) (.exit 2) (st1 s b12 x22 b13 b14 x8 l1)) then (bif few l1 && okB (4294967296) l1 then (bif cn (4294967296) (sg (num (4294967296) b12 l1)) (lb (4294967296) (num (4294967296) b12 l1)) then some (.val (.tup [R (hz (N (4294967296) (num (4294967296) b12 l1))), .int .i64 (he (N (4294967296) (num (4294967296) b12 l1)))])) else none) else none) else none)) else none)) else none))) := by kernel_rfl
theorem rest_2 (s : ByteArray) (x38 : Int) (b23 : Bool) (b24 : Bool) (b25 : Bool) (x39 : Int) (l3 : List Int) (b15 : Bool) (x23 : Int) (x37 : Int) : runT T orc (tabOf T orc [(8, 2585025628590623854992277685469035784553465991325676146883346425763788658036205756010234607550307971754212937460549868777198, .exit 0, st0 s b15 x23), (17, 2585025616739239178733000734900730754432144651516535819438661295169965961546518719441149073673666265750945442067602085965550, .exit 2, st1a s x37 b15 x23 l3), (8, 2585025628590623854992277687029307564698818278075164658811886446977482977101416959057487657014195037070540214235135455719150, .ret, st0ax0 s x38 b23 b24 b25 x39)]) Try.f58 [.str s] =
    (bif decide ((↑s.size : Int) > 0) then (bif inB (0) s.size then (bif bt s (0) == 45 then (bif true && decide (1 ≤ (↑s.size : Int)) then (bif (↑(s.extract 1 s.size).size : Int) == 0 then some (.val (.tup [.agg [.bool false, .ints .u32 []], .int .i64 (10)])) else (bif inB (0) (s.extract 1 s.size).size then (bif bt (s.extract 1 s.size) (0) == 48 then (bif decide ((↑(s.extract 1 s.size).size : Int) > 1) then some (.val (.tup [.agg [.bool false, .ints .u32 []], .int .i64 (10)])) else (bif bt s (0) == 45 then some (.val (.tup [.agg [.bool false, .ints .u32 []], .int .i64 (10)])) else (bif cdec (Ends T orc L0 D0 (st0 s (bt s (0) == 45) (0)) (.exit 0) (st0 s b15 x23)) then (bif decide ((↑(s.extract 1 s.size).size : Int) > 343) then some (.val (.tup [.agg [.bool false, .ints .u32 []], .int .i64 (11)])) else (bif cdec (Ends T orc L1a D1a (st1a s (0) b15 x23 ([])) (.exit 2) (st1a s x37 b15 x23 l3)) then (bif few l3 && okB (4294967296) l3 then (bif cn (4294967296) (sg (num (4294967296) (bt s (0) == 45) l3)) (lb (4294967296) (num (4294967296) (bt s (0) == 45) l3)) then some (.val (.tup [R (hz (N (4294967296) (num (4294967296) (bt s (0) == 45) l3))), .int .i64 (he (N (4294967296) (num (4294967296) (bt s (0) == 45) l3)))])) else none) else none) else none)) else none))) else (bif cdec (Ends T orc L0 D0 (st0 s (false) (0)) (.exit 0) (st0 s b15 x23)) then (bif decide ((↑(s.extract 1 s.size).size : Int) > 343) then some (.val (.tup [.agg [.bool false, .ints .u32 []], .int .i64 (11)])) else (bif cdec (Ends T orc L1a D1a (st1a s (0) b15 x23 ([])) (.exit 2) (st1a s x37 b15 x23 l3)) then (bif few l3 && okB (4294967296) l3 then (bif cn (4294967296) (sg (num (4294967296) (bt s (0) == 45) l3)) (lb (4294967296) (num (4294967296) (bt s (0) == 45) l3)) then some (.val (.tup [R (hz (N (4294967296) (num (4294967296) (bt s (0) == 45) l3))), .int .i64 (he (N (4294967296) (num (4294967296) (bt s (0) == 45) l3)))])) else none) else none) else none)) else none)) else none)) else none) else (bif (↑s.size : Int) == 0 then some (.val (.tup [.agg [.bool false, .ints .u32 []], .int .i64 (10)])) else (bif inB (0) s.size then (bif bt s (0) == 48 then (bif decide ((↑s.size : Int) > 1) then some (.val (.tup [.agg [.bool false, .ints .u32 []], .int .i64 (10)])) else (bif bt s (0) == 45 then some (.val (.tup [.agg [.bool false, .ints .u32 []], .int .i64 (10)])) else (bif cdec (Ends T orc L0a D0a (st0a s (bt s (0) == 45) (true) (bt s (0) == 45) (0)) .ret (st0ax0 s x38 b23 b24 b25 x39)) then some (.val (.tup [.agg [.bool false, .ints .u32 []], .int .i64 x38])) else none))) else (bif cdec (Ends T orc L0a D0a (st0a s (bt s (0) == 45) (true) (false) (0)) .ret (st0ax0 s x38 b23 b24 b25 x39)) then some (.val (.tup [.agg [.bool false, .ints .u32 []], .int .i64 x38])) else none)) else none))) else none) else (bif (↑s.size : Int) == 0 then some (.val (.tup [.agg [.bool false, .ints .u32 []], .int .i64 (10)])) else (bif inB (0) s.size then (bif bt s (0) == 48 then (bif decide ((↑s.size : Int) > 1) then some (.val (.tup [.agg [.bool false, .ints .u32 []], .int .i64 (10)])) else (bif cdec (Ends T orc L0a D0a (st0a s (false) (false) (false) (0)) .ret (st0ax0 s x38 b23 b24 b25 x39)) then some (.val (.tup [.agg [.bool false, .ints .u32 []], .int .i64 x38])) else none)) else (bif cdec (Ends T orc L0a D0a (st0a s (false) (false) (false) (0)) .ret (st0ax0 s x38 b23 b24 b25 x39)) then some (.val (.tup [.agg [.bool false, .ints .u32 []], .int .i64 x38])) else none)) else none))) := by kernel_rfl
theorem rest_3 (s : ByteArray) (b29 : Bool) (l4 : List Int) (b26 : Bool) (b27 : Bool) (b28 : Bool) (x40 : Int) (x41 : Int) (b30 : Bool) (b31 : Bool) (x42 : Int) (l3 : List Int) (b15 : Bool) (x23 : Int) (x37 : Int) : runT T orc (tabOf T orc [(8, 2585025628590623854992277685469035784553465991325676146883346425763788658036205756010234607550307971754212937460549868777198, .exit 0, st0 s b15 x23), (17, 2585025616739239178733000734900730754432144651516535819438661295169965961546518719441149073673666265750945442067602085965550, .exit 2, st1a s x37 b15 x23 l3), (8, 2585025628590623854992277687029307564698818278075164658811886446977482977101416959057487657014195037070540214235135455719150, .exit 0, st0a s b26 b27 b28 x40), (17, 2585025616739239178733000736461002534577496938266024331367201316383660280611729922488402123137553331067272718842187672907502, .exit 2, st1 s b29 x41 b30 b31 x42 l4)]) Try.f58 [.str s] =
    (bif decide ((↑s.size : Int) > 0) then (bif inB (0) s.size then (bif bt s (0) == 45 then (bif true && decide (1 ≤ (↑s.size : Int)) then (bif (↑(s.extract 1 s.size).size : Int) == 0 then some (.val (.tup [.agg [.bool false, .ints .u32 []], .int .i64 (10)])) else (bif inB (0) (s.extract 1 s.size).size then (bif bt (s.extract 1 s.size) (0) == 48 then (bif decide ((↑(s.extract 1 s.size).size : Int) > 1) then some (.val (.tup [.agg [.bool false, .ints .u32 []], .int .i64 (10)])) else (bif bt s (0) == 45 then some (.val (.tup [.agg [.bool false, .ints .u32 []], .int .i64 (10)])) else (bif cdec (Ends T orc L0 D0 (st0 s (bt s (0) == 45) (0)) (.exit 0) (st0 s b15 x23)) then (bif decide ((↑(s.extract 1 s.size).size : Int) > 343) then some (.val (.tup [.agg [.bool false, .ints .u32 []], .int .i64 (11)])) else (bif cdec (Ends T orc L1a D1a (st1a s (0) b15 x23 ([])) (.exit 2) (st1a s x37 b15 x23 l3)) then (bif few l3 && okB (4294967296) l3 then (bif cn (4294967296) (sg (num (4294967296) (bt s (0) == 45) l3)) (lb (4294967296) (num (4294967296) (bt s (0) == 45) l3)) then some (.val (.tup [R (hz (N (4294967296) (num (4294967296) (bt s (0) == 45) l3))), .int .i64 (he (N (4294967296) (num (4294967296) (bt s (0) == 45) l3)))])) else none) else none) else none)) else none))) else (bif cdec (Ends T orc L0 D0 (st0 s (false) (0)) (.exit 0) (st0 s b15 x23)) then (bif decide ((↑(s.extract 1 s.size).size : Int) > 343) then some (.val (.tup [.agg [.bool false, .ints .u32 []], .int .i64 (11)])) else (bif cdec (Ends T orc L1a D1a (st1a s (0) b15 x23 ([])) (.exit 2) (st1a s x37 b15 x23 l3)) then (bif few l3 && okB (4294967296) l3 then (bif cn (4294967296) (sg (num (4294967296) (bt s (0) == 45) l3)) (lb (4294967296) (num (4294967296) (bt s (0) == 45) l3)) then some (.val (.tup [R (hz (N (4294967296) (num (4294967296) (bt s (0) == 45) l3))), .int .i64 (he (N (4294967296) (num (4294967296) (bt s (0) == 45) l3)))])) else none) else none) else none)) else none)) else none)) else none) else (bif (↑s.size : Int) == 0 then some (.val (.tup [.agg [.bool false, .ints .u32 []], .int .i64 (10)])) else (bif inB (0) s.size then (bif bt s (0) == 48 then (bif decide ((↑s.size : Int) > 1) then some (.val (.tup [.agg [.bool false, .ints .u32 []], .int .i64 (10)])) else (bif bt s (0) == 45 then some (.val (.tup [.agg [.bool false, .ints .u32 []], .int .i64 (10)])) else (bif cdec (Ends T orc L0a D0a (st0a s (bt s (0) == 45) (true) (bt s (0) == 45) (0)) (.exit 0) (st0a s b26 b27 b28 x40)) then (bif decide ((↑s.size : Int) > 343) then some (.val (.tup [.agg [.bool false, .ints .u32 []], .int .i64 (11)])) else (bif cdec (Ends T orc L1 D1 (st1 s b26 (0) b27 b28 x40 ([])) (.exit 2) (st1 s b29 x41 b30 b31 x42 l4)) then (bif few l4 && okB (4294967296) l4 then (bif cn (4294967296) (sg (num (4294967296) b29 l4)) (lb (4294967296) (num (4294967296) b29 l4)) then some (.val (.tup [R (hz (N (4294967296) (num (4294967296) b29 l4))), .int .i64 (he (N (4294967296) (num (4294967296) b29 l4)))])) else none) else none) else none)) else none))) else (bif cdec (Ends T orc L0a D0a (st0a s (bt s (0) == 45) (true) (false) (0)) (.exit 0) (st0a s b26 b27 b28 x40)) then (bif decide ((↑s.size : Int) > 343) then some (.val (.tup [.agg [.bool false, .ints .u32 []], .int .i64 (11)])) else (bif cdec (Ends T orc L1 D1 (st1 s b26 (0) b27 b28 x40 ([])) (.exit 2) (st1 s b29 x41 b30 b31 x42 l4)) then (bif few l4 && okB (4294967296) l4 then (bif cn (4294967296) (sg (num (4294967296) b29 l4)) (lb (4294967296) (num (4294967296) b29 l4)) then some (.val (.tup [R (hz (N (4294967296) (num (4294967296) b29 l4))), .int .i64 (he (N (4294967296) (num (4294967296) b29 l4)))])) else none) else none) else none)) else none)) else none))) else none) else (bif (↑s.size : Int) == 0 then some (.val (.tup [.agg [.bool false, .ints .u32 []], .int .i64 (10)])) else (bif inB (0) s.size then (bif bt s (0) == 48 then (bif decide ((↑s.size : Int) > 1) then some (.val (.tup [.agg [.bool false, .ints .u32 []], .int .i64 (10)])) else (bif cdec (Ends T orc L0a D0a (st0a s (false) (false) (false) (0)) (.exit 0) (st0a s b26 b27 b28 x40)) then (bif decide ((↑s.size : Int) > 343) then some (.val (.tup [.agg [.bool false, .ints .u32 []], .int .i64 (11)])) else (bif cdec (Ends T orc L1 D1 (st1 s b26 (0) b27 b28 x40 ([])) (.exit 2) (st1 s b29 x41 b30 b31 x42 l4)) then (bif few l4 && okB (4294967296) l4 then (bif cn (4294967296) (sg (num (4294967296) b29 l4)) (lb (4294967296) (num (4294967296) b29 l4)) then some (.val (.tup [R (hz (N (4294967296) (num (4294967296) b29 l4))), .int .i64 (he (N (4294967296) (num (4294967296) b29 l4)))])) else none) else none) else none)) else none)) else (bif cdec (Ends T orc L0a D0a (st0a s (false) (false) (false) (0)) (.exit 0) (st0a s b26 b27 b28 x40)) then (bif decide ((↑s.size : Int) > 343) then some (.val (.tup [.agg [.bool false, .ints .u32 []], .int .i64 (11)])) else (bif cdec (Ends T orc L1 D1 (st1 s b26 (0) b27 b28 x40 ([])) (.exit 2) (st1 s b29 x41 b30 b31 x42 l4)) then (bif few l4 && okB (4294967296) l4 then (bif cn (4294967296) (sg (num (4294967296) b29 l4)) (lb (4294967296) (num (4294967296) b29 l4)) then some (.val (.tup [R (hz (N (4294967296) (num (4294967296) b29 l4))), .int .i64 (he (N (4294967296) (num (4294967296) b29 l4)))])) else none) else none) else none)) else none)) else none))) := by kernel_rfl
end Parse
end Go.Abs
end
section
/- States and rounds of arith's functions, as a program of this session printed them (4). -/
set_option maxRecDepth 10000
namespace Go.Abs
open Go.Proofs Go.Dig
namespace Text
abbrev ans : Ans := [(72, ansPart)]
abbrev orc : Orc := orcOf ans
noncomputable def L1 : Code := lp Try.f26 1
theorem isL1 : ∃ a, L1 = .loop a := ⟨_, rfl⟩
abbrev D1 : List Nat := [0, 1, 2, 3, 4, 5, 6, 9, 10, 11, 12, 13, 14, 15, 16, 17, 18, 19, 20, 21, 22]
abbrev st1 (s : Bool) (l : List Int) (l2 : List Int) (x4 : Int) (x5 : Int) (l4 : List Int) : St := ⟨.agg [.bool s, .ints .u32 l] :: .ptr 1 0 0 :: .str { data := #[] } :: .sl 3 0 0 :: .ints .u32 (limbs (4294967296) (val (4294967296) l2 / 1000000000)) :: .int .u32 x4 :: .int .i64 x5 :: tops 2 (.ptr 1 0 1 :: .ints .u32 l :: .int .i64 (↑l.length : Int) :: .bool ((↑l.length : Int) == 0) :: .ptr 1 0 1 :: .ints .u32 l :: .ints .u32 l2 :: .int .i64 (↑l2.length : Int) :: .bool (decide ((↑l2.length : Int) > 0)) :: .tup [.ints .u32 (limbs (4294967296) (val (4294967296) l2 / 1000000000)), .int .u32 (val (4294967296) l2 % 1000000000)] :: .ints .u32 l2 :: .tup [.ints .u32 (limbs (4294967296) (val (4294967296) l2 / 1000000000)), .int .u32 (val (4294967296) l2 % 1000000000)] :: .ints .u32 (limbs (4294967296) (val (4294967296) l2 / 1000000000)) :: .int .u32 (val (4294967296) l2 % 1000000000) :: tops 53 ([])), nos 1 (varE [(false, .bool s), (false, .ints .u32 l)] :: nos 1 (rowE (.ints .u8 l4) :: nos 72 ([])))⟩
theorem round1 (s : Bool) (l : List Int) (l2 : List Int) (x4 : Int) (x5 : Int) (l4 : List Int) : goL T orc (noTab) D1 L1 (st1 s l l2 x4 x5 l4) =
    (bif decide (x5 < 9) then (bif decide ((↑(limbs (4294967296) (val (4294967296) l2 / 1000000000)).length : Int) > 0) then (bif true && decide ((l4 ++ [IntKind.u8.wrap (IntKind.u32.wrap (48 + x4.tmod (10)))]).length * 1 ≤ 140737488355328) then some (.normal, st1 s l l2 (IntKind.u32.wrap (x4.tdiv (10))) (IntKind.i64.wrap (x5 + 1)) (l4 ++ [IntKind.u8.wrap (IntKind.u32.wrap (48 + x4.tmod (10)))])) else none) else (bif decide (x4 > 0) then (bif true && decide ((l4 ++ [IntKind.u8.wrap (IntKind.u32.wrap (48 + x4.tmod (10)))]).length * 1 ≤ 140737488355328) then some (.normal, st1 s l l2 (IntKind.u32.wrap (x4.tdiv (10))) (IntKind.i64.wrap (x5 + 1)) (l4 ++ [IntKind.u8.wrap (IntKind.u32.wrap (48 + x4.tmod (10)))])) else none) else some (.exit 2, st1 s l l2 x4 x5 l4))) else some (.exit 2, st1 s l l2 x4 x5 l4)) := by kernel_rfl
-- loop 1 ends exit2 st1 s l l2 x4 x5 l4
noncomputable def L0 : Code := lp Try.f26 0
theorem isL0 : ∃ a, L0 = .loop a := ⟨_, rfl⟩
abbrev D0 : List Nat := [0, 1, 2, 3, 4, 9, 10, 11, 12, 13, 14]
abbrev st0 (s : Bool) (l : List Int) (l2 : List Int) (l3 : List Int) : St := ⟨.agg [.bool s, .ints .u32 l] :: .ptr 1 0 0 :: .str { data := #[] } :: .sl 3 0 0 :: .ints .u32 l2 :: tops 4 (.ptr 1 0 1 :: .ints .u32 l :: .int .i64 (↑l.length : Int) :: .bool ((↑l.length : Int) == 0) :: .ptr 1 0 1 :: .ints .u32 l :: tops 61 ([])), nos 1 (varE [(false, .bool s), (false, .ints .u32 l)] :: nos 1 (rowE (.ints .u8 l3) :: nos 72 ([])))⟩
theorem round0 (s : Bool) (l : List Int) (l2 : List Int) (l3 : List Int) (l5 : List Int) (x6 : Int) (x7 : Int) : goL T orc (tabOf T orc [(9, 15434055826790135822470426309716605157525547871637213005085072231847775149465239827614985966, .exit 2, st1 s l l2 x6 x7 l5)]) D0 L0 (st0 s l l2 l3) =
    (bif decide ((↑l2.length : Int) > 0) then (bif few l2 && okB (4294967296) l2 && true && true then (bif cdec (Ends T orc L1 D1 (st1 s l l2 (val (4294967296) l2 % 1000000000) (0) l3) (.exit 2) (st1 s l l2 x6 x7 l5)) then some (.normal, st0 s l (limbs (4294967296) (val (4294967296) l2 / 1000000000)) l5) else none) else none) else some (.exit 0, st0 s l l2 l3)) := by kernel_rfl
-- loop 0 ends exit0 st0 s l l2 l3
noncomputable def L2 : Code := lp Try.f26 2
theorem isL2 : ∃ a, L2 = .loop a := ⟨_, rfl⟩
abbrev D2 : List Nat := [0, 1, 2, 3, 4, 7, 8, 9, 10, 11, 12, 13, 14, 45, 46, 47, 48, 49, 50, 51, 52]
abbrev st2 (s : Bool) (l : List Int) (l6 : List Int) (x8 : Int) (x9 : Int) (l7 : List Int) (l8 : List Int) : St := ⟨.agg [.bool s, .ints .u32 l] :: .ptr 1 0 0 :: .str { data := #[] } :: .sl 3 0 0 :: .ints .u32 l6 :: tops 2 (.int .i64 x8 :: .int .i64 x9 :: .ptr 1 0 1 :: .ints .u32 l :: .int .i64 (↑l.length : Int) :: .bool ((↑l.length : Int) == 0) :: .ptr 1 0 1 :: .ints .u32 l :: tops 30 (.ptr 1 0 0 :: .bool s :: tops 1 (.sl 48 0 0 :: .sl 49 0 0 :: .sl 3 0 0 :: .int .i64 (↑(l7 ++ [45]).length : Int) :: .int .i64 (IntKind.i64.wrap ((↑(l7 ++ [45]).length : Int) - 1)) :: tops 23 ([])))), nos 1 (varE [(false, .bool s), (false, .ints .u32 l)] :: nos 1 (rowE (.ints .u8 l8) :: nos 44 (rowE (.ints .u8 [45]) :: { g := 0, pg := 0, o := some (AObj.row { g := 0, own := false, v := .top }) } :: nos 26 ([]))))⟩
theorem round2 (s : Bool) (l : List Int) (l6 : List Int) (x8 : Int) (x9 : Int) (l7 : List Int) (l8 : List Int) : goL T orc (noTab) D2 L2 (st2 s l l6 x8 x9 l7 l8) =
    (bif decide (x8 < x9) then (bif inB x9 l8.length then (bif inB x8 l8.length then (bif inB x8 l8.length then (bif inB x9 (l8.set x8.toNat (rd l8 x9)).length then some (.normal, st2 s l l6 (IntKind.i64.wrap (x8 + 1)) (IntKind.i64.wrap (x9 - 1)) l7 ((l8.set x8.toNat (rd l8 x9)).set x9.toNat (rd l8 x8))) else none) else none) else none) else none) else some (.exit 4, st2 s l l6 x8 x9 l7 l8)) := by kernel_rfl
-- loop 2 ends exit4 st2 s l l6 x8 x9 l7 l8
noncomputable def L2a : Code := lp Try.f26 2
theorem isL2a : ∃ a, L2a = .loop a := ⟨_, rfl⟩
abbrev D2a : List Nat := [0, 1, 2, 3, 4, 7, 8, 9, 10, 11, 12, 13, 14, 45, 46, 50, 51, 52]
abbrev st2a (s : Bool) (l : List Int) (l6 : List Int) (x12 : Int) (x13 : Int) (l7 : List Int) (l10 : List Int) : St := ⟨.agg [.bool s, .ints .u32 l] :: .ptr 1 0 0 :: .str { data := #[] } :: .sl 3 0 0 :: .ints .u32 l6 :: tops 2 (.int .i64 x12 :: .int .i64 x13 :: .ptr 1 0 1 :: .ints .u32 l :: .int .i64 (↑l.length : Int) :: .bool ((↑l.length : Int) == 0) :: .ptr 1 0 1 :: .ints .u32 l :: tops 30 (.ptr 1 0 0 :: .bool s :: tops 3 (.sl 3 0 0 :: .int .i64 (↑l7.length : Int) :: .int .i64 (IntKind.i64.wrap ((↑l7.length : Int) - 1)) :: tops 23 ([])))), nos 1 (varE [(false, .bool s), (false, .ints .u32 l)] :: nos 1 (rowE (.ints .u8 l10) :: nos 72 ([])))⟩
theorem round2a (s : Bool) (l : List Int) (l6 : List Int) (x12 : Int) (x13 : Int) (l7 : List Int) (l10 : List Int) : goL T orc (noTab) D2a L2a (st2a s l l6 x12 x13 l7 l10) =
    (bif decide (x12 < x13) then (bif inB x13 l10.length then (bif inB x12 l10.length then (bif inB x12 l10.length then (bif inB x13 (l10.set x12.toNat (rd l10 x13)).length then some (.normal, st2a s l l6 (IntKind.i64.wrap (x12 + 1)) (IntKind.i64.wrap (x13 - 1)) l7 ((l10.set x12.toNat (rd l10 x13)).set x13.toNat (rd l10 x12))) else none) else none) else none) else none) else some (.exit 4, st2a s l l6 x12 x13 l7 l10)) := by kernel_rfl
-- loop 2a ends exit4 st2a s l l6 x12 x13 l7 l10
theorem rest (s : Bool) (l : List Int) (l11 : List Int) (l6 : List Int) (l7 : List Int) (x14 : Int) (x15 : Int) (l9 : List Int) (x10 : Int) (x11 : Int) : runT T orc (tabOf T orc [(5, 15434082659904209709542942231877832302031806041980364213475750064431526063267439400497114862, .exit 0, st0 s l l6 l7), (16, 15434082555087357858496525075334599536407372846674721766738814902332179473980859833014742766, .exit 4, st2 s l l6 x10 x11 l7 l9), (16, 15434082555087357858496525075334599536407372846674721766740194106185227787569688246102191854, .exit 4, st2a s l l6 x14 x15 l7 l11)]) Try.f26 [.agg [.bool s, .ints .u32 l]] =
    (bif (↑l.length : Int) == 0 then some (.val (.str { data := #[48] })) else (bif cdec (Ends T orc L0 D0 (st0 s l l ([])) (.exit 0) (st0 s l l6 l7)) then (bif s then (bif true && decide ((l7 ++ [45]).length * 1 ≤ 140737488355328) then (bif cdec (Ends T orc L2 D2 (st2 s l l6 (0) (IntKind.i64.wrap ((↑(l7 ++ [45]).length : Int) - 1)) l7 (l7 ++ [45])) (.exit 4) (st2 s l l6 x10 x11 l7 l9)) then some (.val (.str (strOf l9))) else none) else none) else (bif cdec (Ends T orc L2a D2a (st2a s l l6 (0) (IntKind.i64.wrap ((↑l7.length : Int) - 1)) l7 l7) (.exit 4) (st2a s l l6 x14 x15 l7 l11)) then some (.val (.str (strOf l11))) else none)) else none)) := by kernel_rfl
end Text
end Go.Abs
end
section
/- What arith.Text and arith.Small answer. -/
namespace Go.Abs
open Go.Proofs Go.Dig
/-- A number's digits, cut at a place. -/
theorem limbs_split {B : Int} (hB : 2 ≤ B) {v : Int} (h0 : 0 ≤ v) (k : Nat) (h : 0 < v / B ^ k) : limbs B v = digN B k v ++ limbs B (v / B ^ k) := by
  have hq : 0 ≤ v / B ^ k := by omega
  have hn : limbs B (v / B ^ k) ≠ [] := fun hc => by have := (limbs_nil hB hq).1 hc; omega
  have ok : okB B (digN B k v ++ limbs B (v / B ^ k)) = true := okB_app (digN_ok (by omega) _ _) (limbs_ok (by omega) _)
  have hl : (digN B k v ++ limbs B (v / B ^ k)).getLast? ≠ some 0 := by
    rw [List.getLast?_append]
    cases hg : (limbs B (v / B ^ k)).getLast? with
    | none => exact absurd (List.getLast?_eq_none_iff.1 hg) hn
    | some d =>
      intro h
      simp at h
      exact limbs_last B (v / B ^ k) (by rw [hg, h])
  have hp : (0 : Int) < B ^ k := Int.pow_pos (by omega)
  have hv : val B (digN B k v ++ limbs B (v / B ^ k)) = v := by
    rw [val_append, digN_length, limbs_val hB hq]
    have h1 : digN B k v = digN B k (v % B ^ k) := by
      have : ∀ (k : Nat) (v w : Int), digN B k (v + B ^ k * w) = digN B k v := by
        intro k
        induction k with
        | zero => intro v w; rfl
        | succ k ih =>
          intro v w
          simp only [digN]
          have e : B ^ (k + 1) * w = B * (B ^ k * w) := by rw [Int.pow_succ, Int.mul_comm (B ^ k) B, Int.mul_assoc]
          rw [e, Int.add_mul_emod_self_left, Int.add_mul_ediv_left _ _ (by omega), ih]
      have h2 := this k (v % B ^ k) (v / B ^ k)
      rw [Int.emod_add_mul_ediv] at h2
      exact h2
    rw [h1, val_digN (by omega) _ _ (Int.emod_nonneg _ (by omega)) (Int.emod_lt_of_pos _ hp), Int.emod_add_mul_ediv]
  have := limbs_self hB ok hl
  rw [hv] at this
  exact this
theorem digN_emod {B : Int} (hB : 0 < B) (k : Nat) (v : Int) : digN B k (v % B ^ k) = digN B k v := by
  have : ∀ (k : Nat) (v w : Int), digN B k (v + B ^ k * w) = digN B k v := by
    intro k
    induction k with
    | zero => intro v w; rfl
    | succ k ih =>
      intro v w
      simp only [digN]
      have e : B ^ (k + 1) * w = B * (B ^ k * w) := by rw [Int.pow_succ, Int.mul_comm (B ^ k) B, Int.mul_assoc]
      rw [e, Int.add_mul_emod_self_left, Int.add_mul_ediv_left _ _ (by omega), ih]
  have h2 := this k (v % B ^ k) (v / B ^ k)
  rw [Int.emod_add_mul_ediv] at h2
  exact h2.symm
def asc (l : List Int) : List Int := l.map (· + 48)
theorem asc_len (l : List Int) : (asc l).length = l.length := List.length_map ..
theorem asc_app (l m : List Int) : asc (l ++ m) = asc l ++ asc m := List.map_append ..
namespace Text
/-- The digits of a piece, behind what was found. -/
theorem inner (s : Bool) (l : List Int) (v : Int) (l3 : List Int) (hv : 0 ≤ v) (h3 : l3.length ≤ 100000) :
    ∃ e S1, Ends T orc L1 D1 (st1 s l (limbs 4294967296 v) (v % 1000000000) 0 l3) e S1 ∧ (e = .exit 2 ∧ ∃ x k, S1 = st1 s l (limbs 4294967296 v) x k (l3 ++ asc (if 0 < v / 1000000000 then digN 10 9 v else limbs 10 v))) := by
  have hq : 0 ≤ v / 1000000000 := by omega
  have hvl : val 4294967296 (limbs 4294967296 v) = v := limbs_val W_two hv
  have hnl : ((limbs 4294967296 (v / 1000000000)).length : Int) > 0 ↔ 0 < v / 1000000000 := by
    have := limbs_nil W_two hq
    constructor
    · intro h
      refine Int.lt_of_not_ge (fun hc => ?_)
      have : v / 1000000000 = 0 := by omega
      rw [this] at h
      simp [limbs, digN, strip] at h
    · intro h
      have : limbs 4294967296 (v / 1000000000) ≠ [] := fun hc => by have := this.1 hc; omega
      have := List.length_pos_iff.2 this
      omega
  obtain ⟨r, hr⟩ : ∃ r, v % 1000000000 = r := ⟨_, rfl⟩
  rw [hr]
  refine loop_inv3 (fun x (k : Nat) l4 => st1 s l (limbs 4294967296 v) x k l4) (fun x k l4 => k ≤ 9 ∧ x = r / 10 ^ k ∧ l4 = l3 ++ asc (digN 10 k r) ∧ (0 < v / 1000000000 ∨ k = 0 ∨ 0 < r / 10 ^ (k - 1))) (fun x k l4 => 9 - k)
    (fun e S1 => e = .exit 2 ∧ ∃ x k, S1 = st1 s l (limbs 4294967296 v) x k (l3 ++ asc (if 0 < v / 1000000000 then digN 10 9 v else limbs 10 v))) isL1 ?_ r 0 l3 ?_
  · intro x k l4 ⟨k1, k2, k3, k4⟩
    refine ⟨noTab, noTab_all, lands_of (round1 ..) ?_⟩
    rw [hvl]
    have hp : (0 : Int) < 10 ^ k := Int.pow_pos (by decide)
    have hx0 : 0 ≤ x := by rw [k2]; exact Int.ediv_nonneg (by omega) (by omega)
    have hx1 : x ≤ r := by rw [k2]; exact Int.ediv_le_self _ (by omega)
    have em : x.tmod 10 = x % 10 := Int.tmod_eq_emod_of_nonneg hx0
    have ed : x.tdiv 10 = x / 10 := Int.tdiv_eq_ediv_of_nonneg hx0
    have ew : IntKind.u8.wrap (IntKind.u32.wrap (48 + x.tmod 10)) = x % 10 + 48 := by
      rw [em, wu32 (by omega) (by omega), IntWalk.u8_in _ ⟨by omega, by omega⟩]; omega
    have ed2 : IntKind.u32.wrap (x.tdiv 10) = x / 10 := by rw [ed, wu32 (by omega) (by omega)]
    have hlen : (l4 ++ [x % 10 + 48]).length * 1 ≤ 140737488355328 := by
      rw [List.length_append, k3, List.length_append, asc_len, digN_length, List.length_singleton]; omega
    have next : k < 9 → 0 < x ∨ 0 < v / 1000000000 → k + 1 ≤ 9 ∧ x / 10 = r / 10 ^ (k + 1) ∧ l4 ++ [x % 10 + 48] = l3 ++ asc (digN 10 (k + 1) r) ∧ (0 < v / 1000000000 ∨ k + 1 = 0 ∨ 0 < r / 10 ^ (k + 1 - 1)) := by
      intro hk hor
      refine ⟨by omega, ?_, ?_, ?_⟩
      · rw [k2, Int.pow_succ, Int.ediv_ediv_of_nonneg (by omega)]
      · rw [k3, digN_succ (by decide), asc_app, List.append_assoc, k2]; rfl
      · rw [Nat.add_sub_cancel, ← k2]; omega
    have fin : (0 < v / 1000000000 → k = 9) → (¬ 0 < v / 1000000000 → x = 0) → l4 = l3 ++ asc (if 0 < v / 1000000000 then digN 10 9 v else limbs 10 v) := by
      intro f1 f2
      rw [k3]
      by_cases hb : 0 < v / 1000000000
      · rw [if_pos hb, f1 hb, ← hr]
        have := digN_emod (B := 10) (by decide) 9 v
        rw [show (10 : Int) ^ 9 = 1000000000 from rfl] at this
        rw [this]
      · rw [if_neg hb]
        have hvr : r = v := by omega
        have hx := f2 hb
        rw [hvr] at k2 k4 ⊢
        have hlt : v < 10 ^ k := by
          refine Int.not_le.1 (fun hc => ?_)
          have : 1 ≤ v / 10 ^ k := (Int.le_ediv_iff_mul_le hp).2 (by omega)
          omega
        rw [← limbs_of (by decide) hv hlt, strip_of_last]
        rcases k4 with k4 | k4 | k4
        · exact absurd k4 hb
        · rw [k4]; simp [digN]
        · cases k with
          | zero => simp [digN]
          | succ k =>
            rw [digN_succ (by decide), List.getLast?_append]
            rw [Nat.add_sub_cancel] at k4
            have : v / 10 ^ k < 10 := by
              have hp2 : (0 : Int) < 10 ^ k := Int.pow_pos (by decide)
              refine Int.ediv_lt_of_lt_mul hp2 ?_
              rw [Int.mul_comm, ← Int.pow_succ]; exact hlt
            have : v / 10 ^ k % 10 ≠ 0 := by omega
            simpa using this
    rw [ew, ed2]
    by_cases hk : k < 9
    · rw [decide_eq_true (show (k : Int) < 9 by omega), decide_eq_true hlen, wi_succ (show k < 4611686018427387904 by omega)]
      by_cases hb : 0 < v / 1000000000
      · rw [decide_eq_true (hnl.2 hb)]
        simp only [Bool.and_self, cond_true, lands_some, Turns3]
        exact ⟨_, k + 1, _, rfl, next hk (.inr hb), by omega⟩
      · rw [decide_eq_false (fun h => hb (hnl.1 h))]
        by_cases hx : x > 0
        · rw [decide_eq_true hx]
          simp only [Bool.and_self, cond_true, cond_false, lands_some, Turns3]
          exact ⟨_, k + 1, _, rfl, next hk (.inl hx), by omega⟩
        · rw [decide_eq_false hx]
          simp only [cond_true, cond_false, lands_some, Turns3]
          exact ⟨trivial, _, _, by rw [fin (fun h => absurd h hb) (fun _ => by omega)]⟩
    · rw [decide_eq_false (show ¬ (k : Int) < 9 by omega)]
      simp only [cond_false, lands_some, Turns3]
      have h9 : k = 9 := by omega
      have hx0 : x = 0 := by
        rw [k2, h9, show (10 : Int) ^ 9 = 1000000000 from rfl]
        omega
      exact ⟨trivial, _, _, by rw [fin (fun _ => h9) (fun _ => hx0)]⟩
  · exact ⟨by omega, by simp, by simp [digN, asc], .inr (.inl rfl)⟩
theorem outer (s : Bool) (l : List Int) (V : Int) (hV : 0 ≤ V) (hd : (limbs 10 V).length ≤ 20000) (hl : l = limbs 4294967296 V) (hlen : (limbs 4294967296 V).length ≤ 10000) :
    ∃ e S1, Ends T orc L0 D0 (st0 s l l []) e S1 ∧ (e = .exit 0 ∧ ∃ m, S1 = st0 s l m (asc (limbs 10 V))) := by
  have key := loop_inv2 (T := T) (orc := orc) (L := L0) (D := D0) (fun (v : Int) l3 => st0 s l (limbs 4294967296 v) l3) (fun v l3 => 0 ≤ v ∧ v ≤ V ∧ ∃ ds, l3 = asc ds ∧ ds ++ limbs 10 v = limbs 10 V) (fun v l3 => v.toNat)
    (fun e S1 => e = .exit 0 ∧ ∃ m, S1 = st0 s l m (asc (limbs 10 V))) isL0 ?_ V [] ⟨hV, Int.le_refl _, [], rfl, rfl⟩
  · rw [← hl] at key; exact key
  · intro v l3 ⟨v0, v1, ds, hds, hap⟩
    have hdl : ds.length ≤ 20000 := by
      have := congrArg List.length hap
      rw [List.length_append] at this
      omega
    have hvl : val 4294967296 (limbs 4294967296 v) = v := limbs_val W_two v0
    by_cases hv : v = 0
    · subst hv
      refine ⟨_, tabOf_all _, lands_of (round0 s l _ l3 [] 0 0) ?_⟩
      have e0 : limbs 4294967296 0 = [] := rfl
      have e1 : limbs 10 0 = [] := rfl
      rw [e0]
      simp only [List.length_nil, lands_bif, lands_some, lands_none, Turns1, Turns2, Turns3, Turns4, Turns5, Turns6, Turns7, Turns8, eq_bif, Option.some.injEq, reduceCtorEq, cond_true, cond_false, Bool.eq_false_iff, ne_eq, inB_iff, decide_eq_true_eq, Bool.and_eq_true, Bool.or_eq_true, Bool.not_eq_true', beq_iff_eq, bne_iff_ne, true_and, and_true, true_implies, implies_true, not_true_eq_false, not_false_eq_true, false_implies, few_iff]
      refine ⟨fun h => absurd h (by decide), fun _ => ⟨[], ?_⟩⟩
      rw [e1, List.append_nil] at hap
      rw [← hap, hds]
    · obtain ⟨e1, S1, hE1, rfl, x, k, rfl⟩ := inner s l v l3 v0 (by rw [hds, asc_len]; omega)
      refine ⟨_, tabOf_all _, lands_of (round0 s l _ l3 (l3 ++ asc (if 0 < v / 1000000000 then digN 10 9 v else limbs 10 v)) x k) ?_⟩
      have hne : limbs 4294967296 v ≠ [] := fun h => hv ((limbs_nil W_two v0).1 h)
      have hpos := List.length_pos_iff.2 hne
      have hfew : few (limbs 4294967296 v) = true := by
        refine few_iff.2 ?_
        have := limbs_length W_two v0 (n := (limbs 4294967296 V).length) (by
          have := val_lt W_pos (limbs_ok W_pos V)
          rw [limbs_val W_two hV] at this
          omega)
        omega
      rw [hvl, hfew, limbs_ok W_pos, decide_eq_true (show ((limbs 4294967296 v).length : Int) > 0 by omega), cdec_true hE1]
      simp only [Bool.and_self, cond_true, lands_some, Turns2]
      refine ⟨v / 1000000000, _, rfl, ⟨by omega, by omega, ds ++ (if 0 < v / 1000000000 then digN 10 9 v else limbs 10 v), by rw [hds, asc_app], ?_⟩, by omega⟩
      rw [← hap, List.append_assoc]
      congr 1
      by_cases hb : 0 < v / 1000000000
      · rw [if_pos hb]
        exact (limbs_split (by decide) v0 9 hb).symm
      · rw [if_neg hb, show v / 1000000000 = 0 by omega]
        exact List.append_nil _
/-- A row turned about in its place. -/
def Turned (L : List Int) (i : Nat) (l : List Int) : Prop := l.length = L.length ∧ ∀ k, k < L.length → l.getD k 0 = if k < i ∨ L.length < i + k + 1 then L.getD (L.length - 1 - k) 0 else L.getD k 0
theorem turned_next {L l : List Int} {i : Nat} (h : Turned L i l) (hi : i + i + 1 < L.length) : Turned L (i + 1) ((l.set i (l.getD (L.length - 1 - i) 0)).set (L.length - 1 - i) (l.getD i 0)) := by
  obtain ⟨h1, h2⟩ := h
  refine ⟨by simp [h1], fun k hk => ?_⟩
  by_cases e1 : k = L.length - 1 - i
  · subst e1
    rw [getD_set_self (by rw [List.length_set]; omega), h2 i (by omega), if_neg (by omega), if_pos (by omega)]
    congr 1; omega
  · rw [getD_set_ne (Ne.symm e1)]
    by_cases e2 : k = i
    · subst e2
      rw [getD_set_self (by omega), h2 _ (by omega), if_neg (by omega), if_pos (by omega)]
    · rw [getD_set_ne (Ne.symm e2), h2 k hk]
      by_cases e3 : k < i ∨ L.length < i + k + 1
      · rw [if_pos e3, if_pos (by omega)]
      · rw [if_neg e3, if_neg (by omega)]
theorem turned_end {L l : List Int} {i : Nat} (h : Turned L i l) (hi : L.length ≤ i + i + 1) : l = L.reverse := by
  obtain ⟨h1, h2⟩ := h
  apply List.ext_getElem (by simp [h1])
  intro k q1 q2
  have := h2 k (by omega)
  rw [getD_at q1] at this
  rw [this, List.getElem_reverse]
  by_cases e : k < i ∨ L.length < i + k + 1
  · rw [if_pos e, getD_at (by omega)]
  · rw [if_neg e, getD_at (by omega)]
    congr 1; omega
theorem turned_zero (L : List Int) : Turned L 0 L := ⟨rfl, fun k hk => by rw [if_neg (by omega)]⟩
theorem turn (s : Bool) (l m l7 : List Int) (L : List Int) (hL : L.length ≤ 100000) :
    ∃ e S1, Ends T orc L2 D2 (st2 s l m 0 ((L.length : Int) - 1) l7 L) e S1 ∧ (e = .exit 4 ∧ ∃ x y, S1 = st2 s l m x y l7 L.reverse) := by
  refine loop_inv2 (fun (i : Nat) l8 => st2 s l m i ((L.length : Int) - 1 - i) l7 l8) (fun i l8 => Turned L i l8 ∧ i ≤ L.length) (fun i l8 => L.length - i)
    (fun e S1 => e = .exit 4 ∧ ∃ x y, S1 = st2 s l m x y l7 L.reverse) isL2 ?_ 0 L ⟨turned_zero L, by omega⟩ |> fun h => by simpa using h
  intro i l8 ⟨h, hi⟩
  refine ⟨noTab, noTab_all, lands_of (round2 ..) ?_⟩
  have hl := h.1
  by_cases hc : i + i + 1 < L.length
  · have e1 : ((L.length : Int) - 1 - i) = ((L.length - 1 - i : Nat) : Int) := by omega
    have e2 : IntKind.i64.wrap (((L.length - 1 - i : Nat) : Int) - 1) = (L.length : Int) - 1 - ((i + 1 : Nat) : Int) := by rw [w64 (by omega) (by omega)]; omega
    rw [e1, e2, wi_succ (show i < 4611686018427387904 by omega), decide_eq_true (show (i : Int) < ((L.length - 1 - i : Nat) : Int) by omega)]
    simp only [lands_bif, lands_some, lands_none, Turns1, Turns2, Turns3, Turns4, Turns5, Turns6, Turns7, Turns8, eq_bif, Option.some.injEq, reduceCtorEq, cond_true, cond_false, Bool.eq_false_iff, ne_eq, inB_iff, decide_eq_true_eq, Bool.and_eq_true, Bool.or_eq_true, Bool.not_eq_true', beq_iff_eq, bne_iff_ne, true_and, and_true, true_implies, implies_true, not_true_eq_false, not_false_eq_true, false_implies, few_iff, List.length_set]
    simp only [rd_toNat, Int.toNat_natCast]
    repeat' (first | apply And.intro | intro _)
    all_goals try omega
    exact ⟨i + 1, _, rfl, ⟨turned_next h hc, by omega⟩, by omega⟩
  · rw [decide_eq_false (show ¬ (i : Int) < ((L.length : Int) - 1 - i) by omega)]
    simp only [cond_false, lands_some, Turns2]
    exact ⟨trivial, _, _, by rw [turned_end h (by omega)]⟩
theorem turna (s : Bool) (l m l7 : List Int) (L : List Int) (hL : L.length ≤ 100000) :
    ∃ e S1, Ends T orc L2a D2a (st2a s l m 0 ((L.length : Int) - 1) l7 L) e S1 ∧ (e = .exit 4 ∧ ∃ x y, S1 = st2a s l m x y l7 L.reverse) := by
  refine loop_inv2 (fun (i : Nat) l8 => st2a s l m i ((L.length : Int) - 1 - i) l7 l8) (fun i l8 => Turned L i l8 ∧ i ≤ L.length) (fun i l8 => L.length - i)
    (fun e S1 => e = .exit 4 ∧ ∃ x y, S1 = st2a s l m x y l7 L.reverse) isL2a ?_ 0 L ⟨turned_zero L, by omega⟩ |> fun h => by simpa using h
  intro i l8 ⟨h, hi⟩
  refine ⟨noTab, noTab_all, lands_of (round2a ..) ?_⟩
  have hl := h.1
  by_cases hc : i + i + 1 < L.length
  · have e1 : ((L.length : Int) - 1 - i) = ((L.length - 1 - i : Nat) : Int) := by omega
    have e2 : IntKind.i64.wrap (((L.length - 1 - i : Nat) : Int) - 1) = (L.length : Int) - 1 - ((i + 1 : Nat) : Int) := by rw [w64 (by omega) (by omega)]; omega
    rw [e1, e2, wi_succ (show i < 4611686018427387904 by omega), decide_eq_true (show (i : Int) < ((L.length - 1 - i : Nat) : Int) by omega)]
    simp only [lands_bif, lands_some, lands_none, Turns1, Turns2, Turns3, Turns4, Turns5, Turns6, Turns7, Turns8, eq_bif, Option.some.injEq, reduceCtorEq, cond_true, cond_false, Bool.eq_false_iff, ne_eq, inB_iff, decide_eq_true_eq, Bool.and_eq_true, Bool.or_eq_true, Bool.not_eq_true', beq_iff_eq, bne_iff_ne, true_and, and_true, true_implies, implies_true, not_true_eq_false, not_false_eq_true, false_implies, few_iff, List.length_set]
    simp only [rd_toNat, Int.toNat_natCast]
    repeat' (first | apply And.intro | intro _)
    all_goals try omega
    exact ⟨i + 1, _, rfl, ⟨turned_next h hc, by omega⟩, by omega⟩
  · rw [decide_eq_false (show ¬ (i : Int) < ((L.length : Int) - 1 - i) by omega)]
    simp only [cond_false, lands_some, Turns2]
    exact ⟨trivial, _, _, by rw [turned_end h (by omega)]⟩
end Text
theorem asc_dig (l : List Int) : (asc l).reverse = dig l := by
  unfold asc dig
  rw [List.map_reverse]
theorem small_digits {z : Int} (h : z.natAbs < Lim) : (limbs 10 (az z)).length ≤ 10000 := lb10_length h
theorem meets_text : Meets Try.prog 26 ansText := by
  refine meets_fn (orc_ok (l := Text.ans) ⟨meets_part, trivial⟩) Try.f26 Try.func26 (by kernel_rfl) (fun args r h => ?_)
  unfold ansText at h
  split at h
  · rename_i s l
    simp only [Option.some.injEq, Prod.mk.injEq] at h
    obtain ⟨h, rfl⟩ := h
    obtain ⟨z, hs, hl, hz⟩ := (cn_iff W_two).1 h
    have nz : num 4294967296 s l = z := by rw [hs, hl]; exact num_lbW z
    rw [nz]
    refine ⟨rfl, ?_⟩
    by_cases h0 : z = 0
    · refine ⟨_, tabOf_all _, (Text.rest s l [] [] [] 0 0 [] 0 0).trans ?_⟩
      rw [hl, h0]
      have : (((lb 4294967296 0).length : Int) == 0) = true := rfl
      have ht : txt 0 = ⟨#[48]⟩ := by kernel_rfl
      rw [this, cond_true, ht]
    · have hn : lb 4294967296 z ≠ [] := fun h => h0 ((lb_nil W_two).1 h)
      have hlz : l = limbs 4294967296 (az z) := hl
      have hlp : 0 < l.length := by rw [hl]; exact List.length_pos_iff.2 hn
      have hd := small_digits hz
      have hlw : (limbs 4294967296 (az z)).length ≤ 1100 := lb_length hz
      obtain ⟨e1, S1, hE1, rfl, m, rfl⟩ := Text.outer s l (az z) (az_nonneg z) (by omega) hlz (by omega)
      have hne : ((l.length : Int) == 0) = false := by rw [beq_eq_false_iff_ne]; omega
      have htx : txtL z = (if z < 0 then [45] else []) ++ dig (limbs 10 (az z)) := by unfold txtL; rw [if_neg h0]; rfl
      have hal : (asc (limbs 10 (az z))).length ≤ 10000 := by rw [asc_len]; exact hd
      by_cases hneg : z < 0
      · have hs1 : s = true := by rw [hs]; exact decide_eq_true hneg
        obtain ⟨e2, S2, hE2, rfl, x, y, rfl⟩ := Text.turn s l m (asc (limbs 10 (az z))) (asc (limbs 10 (az z)) ++ [45]) (by rw [List.length_append, List.length_singleton]; omega)
        refine ⟨_, tabOf_all _, (Text.rest s l [] m (asc (limbs 10 (az z))) 0 0 ((asc (limbs 10 (az z)) ++ [45]).reverse) x y).trans ?_⟩
        have hw : IntKind.i64.wrap (((asc (limbs 10 (az z)) ++ [45]).length : Int) - 1) = ((asc (limbs 10 (az z)) ++ [45]).length : Int) - 1 := by
          rw [w64 (by omega) (by rw [List.length_append, List.length_singleton]; omega)]
        have hlen : ((asc (limbs 10 (az z)) ++ [45]).length * 1 ≤ 140737488355328) := by rw [List.length_append, List.length_singleton]; omega
        rw [hne, cdec_true hE1, hw, cdec_true hE2, decide_eq_true hlen]
        have ht : (asc (limbs 10 (az z)) ++ [45]).reverse = txtL z := by rw [htx, if_pos hneg, List.reverse_append, asc_dig]; rfl
        rw [ht, hs1]
        rfl
      · have hs1 : s = false := by rw [hs]; exact decide_eq_false hneg
        obtain ⟨e2, S2, hE2, rfl, x, y, rfl⟩ := Text.turna s l m (asc (limbs 10 (az z))) (asc (limbs 10 (az z))) (by omega)
        refine ⟨_, tabOf_all _, (Text.rest s l ((asc (limbs 10 (az z))).reverse) m (asc (limbs 10 (az z))) x y [] 0 0).trans ?_⟩
        have hw : IntKind.i64.wrap (((asc (limbs 10 (az z))).length : Int) - 1) = ((asc (limbs 10 (az z))).length : Int) - 1 := by
          rw [w64 (by omega) (by omega)]
        rw [hne, cdec_true hE1, hw, cdec_true hE2]
        have ht : (asc (limbs 10 (az z))).reverse = txtL z := by rw [htx, if_neg hneg, asc_dig]; rfl
        rw [ht, hs1]
        rfl
  · cases h
end Go.Abs
end
