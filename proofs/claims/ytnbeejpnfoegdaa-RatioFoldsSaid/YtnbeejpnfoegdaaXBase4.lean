/- What the rows of this seat rest on, part 4: an abstract machine for the model, proved sound, and the functions that the statements reach. No conditions. -/
import Derived.Test.YtnbeejpnfoegdaaXBase3
set_option linter.unusedVariables false
set_option linter.unusedSimpArgs false
set_option linter.unnecessarySimpa false
set_option linter.unusedSectionVars false
section
/- What arith.splitMag answers. -/
namespace Go.Abs
open Go.Proofs Go.Dig
theorem cmpZ_lt (x y : Int) : cmpZ x y < 0 ↔ x < y := by
  unfold cmpZ; split
  · omega
  · split <;> omega
theorem digU_length {u v : List Int} {j : Nat} (h : j + v.length + 1 ≤ u.length) : (digU u v j).length = u.length := by
  unfold digU
  rw [List.length_append, List.length_append, List.length_take, digN_length, List.length_drop]
  omega
namespace SplitMag
/-- What stands there while the digits are found. -/
structure Pre (v : List Int) (A : Int) (lu m : Nat) : Prop where
  ov : okB 4294967296 v = true
  hv : 2 ≤ v.length
  top : 2147483648 ≤ v.getD (v.length - 1) 0
  hlu : lu = m + v.length + 1
  few : lu ≤ 100000
def Inv (v : List Int) (A : Int) (lu m : Nat) (i : Nat) (l q : List Int) : Prop :=
  i ≤ m + 1 ∧ l.length = lu ∧ okB 4294967296 l = true ∧ q.length = m + 1 ∧ okB 4294967296 (q.drop i) = true ∧
  A = val 4294967296 l + val 4294967296 v * (4294967296 ^ i * val 4294967296 (q.drop i)) ∧ val 4294967296 l < val 4294967296 v * 4294967296 ^ i
section
variable {v : List Int} {A : Int} {lu m : Nat}
theorem Pre.V_pos (h : Pre v A lu m) : 0 < val 4294967296 v := by
  have h1 := last_ge W_two h.ov (fun h0 => by
    have h2 := h.top
    have h3 := h.hv
    rw [List.getLast?_eq_getElem?] at h0
    rw [List.getD_eq_getElem?_getD, h0] at h2
    simp at h2) (fun h0 => by have := h.hv; rw [h0] at this; simp at this)
  have := Int.pow_pos (n := 4294967296) (m := v.length - 1) (by decide)
  omega
theorem Pre.next (h : Pre v A lu m) {j : Nat} {l q : List Int} (hI : Inv v A lu m (j + 1) l q) :
    digOk l v j v.length = true ∧ (digU l v j).length = l.length ∧ Inv v A lu m j (digU l v j) (q.set j (digQ l v j)) := by
  obtain ⟨h1, h2, h3, h4, h5, h6, h7⟩ := hI
  have hV := h.V_pos
  have hlu := h.hlu
  have hf := h.few
  have hv2 := h.hv
  have hs := seg_val 4294967296 l j (v.length + 1) (by omega)
  have hp : (0 : Int) < 4294967296 ^ j := Int.pow_pos (by decide)
  have n1 := val_nonneg W_pos (okB_take h3 j)
  have n2 := val_nonneg W_pos (okB_seg h3 j (v.length + 1))
  have n3 := val_nonneg W_pos (okB_drop h3 (j + (v.length + 1)))
  have n4 := val_lt W_pos (okB_take h3 j)
  rw [List.length_take, Nat.min_eq_left (by omega)] at n4
  have n5 := val_lt W_pos h.ov
  have hp2 : (0 : Int) < 4294967296 ^ (j + (v.length + 1)) := Int.pow_pos (by decide)
  have e1 : val 4294967296 v * 4294967296 ^ (j + 1) = 4294967296 ^ j * (4294967296 * val 4294967296 v) := by rw [Int.pow_succ]; grind
  rw [e1] at h7
  generalize hsg : val 4294967296 (seg l j (v.length + 1)) = S at *
  generalize hVV : val 4294967296 v = V at *
  -- nothing stands above
  have hdrop : val 4294967296 (l.drop (j + (v.length + 1))) = 0 := by
    refine Int.le_antisymm (Int.not_lt.1 (fun hgt => ?_)) n3
    have k1 : 4294967296 ^ (j + (v.length + 1)) * 1 ≤ 4294967296 ^ (j + (v.length + 1)) * val 4294967296 (l.drop (j + (v.length + 1))) := Int.mul_le_mul_of_nonneg_left (by omega) (by omega)
    have k2 : (4294967296 : Int) ^ j * (4294967296 * V) ≤ 4294967296 ^ j * (4294967296 * 4294967296 ^ v.length) := Int.mul_le_mul_of_nonneg_left (Int.mul_le_mul_of_nonneg_left (by omega) (by decide)) (by omega)
    have k3 : (4294967296 : Int) ^ (j + (v.length + 1)) = 4294967296 ^ j * (4294967296 * 4294967296 ^ v.length) := by rw [Int.pow_add, Int.pow_succ, Int.mul_comm (4294967296 ^ v.length)]
    have k4 : 0 ≤ 4294967296 ^ j * S := Int.mul_nonneg (by omega) n2
    omega
  rw [hdrop, Int.mul_zero, Int.add_zero] at hs
  have hlt : S < 4294967296 * V := by
    refine Int.not_le.1 (fun hge => ?_)
    have := Int.mul_le_mul_of_nonneg_left hge (show (0 : Int) ≤ 4294967296 ^ j by omega)
    omega
  have hq0 : 0 ≤ S / V := Int.ediv_nonneg n2 (by omega)
  have hq1 : S / V < 4294967296 := Int.ediv_lt_of_lt_mul hV (by omega)
  have hr0 := Int.emod_nonneg S (show V ≠ 0 by omega)
  have hr1 := Int.emod_lt_of_pos S hV
  have hde := Int.emod_add_mul_ediv S V
  have hQ : digQ l v j = S / V := by unfold digQ; rw [hsg, hVV]
  have hlen : (digU l v j).length = l.length := digU_length (by omega)
  have hVB : V < 4294967296 ^ (v.length + 1) := by
    rw [Int.pow_succ]
    have : (4294967296 : Int) ^ v.length * 1 ≤ 4294967296 ^ v.length * 4294967296 := Int.mul_le_mul_of_nonneg_left (by decide) (Int.pow_nonneg (by decide))
    omega
  have hU : val 4294967296 (digU l v j) = val 4294967296 (l.take j) + 4294967296 ^ j * (S % V) := by
    unfold digU
    rw [hsg, hVV, val_append, val_append, List.length_append, List.length_take, Nat.min_eq_left (by omega), digN_length, val_digN W_pos _ _ hr0 (by omega), Nat.add_assoc j v.length 1, hdrop, Int.mul_zero, Int.add_zero]
  have hok : okB 4294967296 (digU l v j) = true := by
    unfold digU
    exact okB_app (okB_app (okB_take h3 j) (digN_ok W_pos _ _)) (okB_drop h3 _)
  refine ⟨?_, hlen, by omega, by omega, hok, by rw [List.length_set]; exact h4, ?_, ?_, ?_⟩
  · unfold digOk
    simp only [Bool.and_eq_true, few_iff, decide_eq_true_eq, Int.toNat_natCast]
    rw [hsg, hVV]
    have ht := h.top
    refine ⟨⟨⟨⟨⟨⟨⟨⟨⟨by omega, by omega⟩, h3⟩, h.ov⟩, by omega⟩, trivial⟩, by omega⟩, by omega⟩, ht⟩, hlt⟩
  · rw [drop_set_cons q _ (by omega), hQ]
    exact okB_cons.2 ⟨⟨hq0, hq1⟩, h5⟩
  · rw [drop_set_cons q _ (by omega), hQ, hU, h6, hs]
    simp only [val]
    rw [Int.pow_succ]
    generalize val 4294967296 (q.drop (j + 1)) = X
    generalize val 4294967296 (l.take j) = Y
    generalize (4294967296 : Int) ^ j = P
    have : P * S = P * (S % V + V * (S / V)) := by rw [hde]
    rw [this]
    generalize S / V = a
    generalize S % V = b
    grind
  · rw [hU, hVV]
    have : 4294967296 ^ j * (S % V + 1) ≤ 4294967296 ^ j * V := Int.mul_le_mul_of_nonneg_left (by omega) (by omega)
    rw [Int.mul_add, Int.mul_one] at this
    rw [Int.mul_comm V]
    omega
end
theorem loop (a b : List Int) (s : Nat) (A : Int) (m : Nat) (hs : 32 - blen (rd b (IntKind.i64.wrap ((b.length : Int) - 1))) = (s : Int)) (lu : Nat) (b0 : Bool) (l q : List Int)
    (hvl : ((leftL b s).take b.length).length = b.length) (hP : Pre ((leftL b s).take b.length) A lu m) (hI : Inv ((leftL b s).take b.length) A lu m (m + 1) l q) :
    ∃ e S1, Ends T orc L0 D0 (st0 a b m b0 l q) e S1 ∧ (e = .exit 0 ∧ ∃ x b1 l q, S1 = st0 a b x b1 l q ∧ Inv ((leftL b s).take b.length) A lu m 0 l q) := by
  have key := loop_inv4 (T := T) (orc := orc) (L := L0) (D := D0) (fun (i : Nat) b1 l q => st0 a b ((i : Int) - 1) b1 l q) (fun i b1 l q => Inv ((leftL b s).take b.length) A lu m i l q) (fun i b1 l q => i)
    (fun e S1 => e = .exit 0 ∧ ∃ x b1 l q, S1 = st0 a b x b1 l q ∧ Inv ((leftL b s).take b.length) A lu m 0 l q) isL0 ?_ (m + 1) b0 l q hI
  · rw [show (((m + 1 : Nat) : Int) - 1) = (m : Int) by omega] at key
    exact key
  · intro i b1 l q hI
    refine ⟨noTab, noTab_all, lands_of (round0 ..) ?_⟩
    rw [hs, Int.toNat_natCast]
    cases i with
    | zero =>
      simp only [lands_bif, lands_some, lands_none, Turns1, Turns2, Turns3, Turns4, Turns5, Turns6, Turns7, Turns8, eq_bif, Option.some.injEq, reduceCtorEq, cond_true, cond_false, Bool.eq_false_iff, ne_eq, inB_iff, decide_eq_true_eq, Bool.and_eq_true, Bool.or_eq_true, Bool.not_eq_true', beq_iff_eq, bne_iff_ne, true_and, and_true, true_implies, implies_true, not_true_eq_false, not_false_eq_true, false_implies, few_iff]
      exact ⟨fun h => absurd h (by omega), fun _ => ⟨_, _, _, _, rfl, hI⟩⟩
    | succ i =>
      obtain ⟨k1, k2, k3⟩ := hP.next hI
      have e0 : (((i + 1 : Nat) : Int) - 1) = (i : Int) := by omega
      have hq := hI.2.2.2.1
      have hi := hI.1
      have hfew := hP.few
      have hlu := hP.hlu
      have k2b : Nat.beq (digU l ((leftL b s).take b.length) i).length l.length = true := by rw [k2]; exact Nat.beq_refl _
      rw [e0]
      simp only [Int.toNat_natCast, k1, k2b, Bool.and_true, cond_true]
      simp only [lands_bif, lands_some, lands_none, Turns1, Turns2, Turns3, Turns4, Turns5, Turns6, Turns7, Turns8, eq_bif, Option.some.injEq, reduceCtorEq, cond_true, cond_false, Bool.eq_false_iff, ne_eq, inB_iff, decide_eq_true_eq, Bool.and_eq_true, Bool.or_eq_true, Bool.not_eq_true', beq_iff_eq, bne_iff_ne, true_and, and_true, true_implies, implies_true, not_true_eq_false, not_false_eq_true, false_implies, few_iff]
      repeat' (first | apply And.intro | intro _)
      all_goals try omega
      exact ⟨i, _, _, _, by rw [w64 (by omega) (by omega)], k3, by omega⟩
theorem shift_ok {b : List Int} (hb : cl 4294967296 b = true) (hv : 0 < val 4294967296 b) (h2 : 2 ≤ b.length) : ∃ s : Nat, s ≤ 31 ∧ 32 - blen (b.getD (b.length - 1) 0) = (s : Int) ∧
    (leftL b s).take b.length = digN 4294967296 b.length (val 4294967296 b * 2 ^ s) ∧ val 4294967296 b * 2 ^ s < 4294967296 ^ b.length ∧ 2147483648 * 4294967296 ^ (b.length - 1) ≤ val 4294967296 b * 2 ^ s := by
  have ob := cl_ok W_two hb
  have ht := getD_ok W_pos ob (b.length - 1)
  have hne : b.getD (b.length - 1) 0 ≠ 0 := by
    have hl := cl_last hb
    rw [List.getLast?_eq_getElem?] at hl
    intro h0
    rw [List.getD_eq_getElem?_getD, List.getElem?_eq_getElem (by omega)] at h0
    rw [List.getElem?_eq_getElem (by omega)] at hl
    exact hl (congrArg some h0)
  have hd : val 4294967296 b = val 4294967296 (b.take (b.length - 1)) + 4294967296 ^ (b.length - 1) * b.getD (b.length - 1) 0 := by
    have := val_take_succ 4294967296 b (b.length - 1)
    rw [show b.length - 1 + 1 = b.length by omega, List.take_of_length_le (Nat.le_refl _)] at this
    exact this
  have hlo0 := val_nonneg W_pos (okB_take ob (b.length - 1))
  have hlo1 := val_lt W_pos (okB_take ob (b.length - 1))
  rw [List.length_take, Nat.min_eq_left (by omega)] at hlo1
  obtain ⟨c1, c2, c3⟩ := blen_pow (show 0 < b.getD (b.length - 1) 0 by omega)
  generalize htt : b.getD (b.length - 1) 0 = t at *
  have hle : blen t ≤ 32 := by
    refine Int.not_lt.1 (fun hgt => ?_)
    have : (2 : Int) ^ 32 ≤ 2 ^ (blen t - 1).toNat := by
      obtain ⟨k, hk⟩ : ∃ k, (blen t - 1).toNat = 32 + k := ⟨(blen t - 1).toNat - 32, by omega⟩
      rw [hk, Int.pow_add]
      have : (0 : Int) < 2 ^ k := Int.pow_pos (by decide)
      have h6 : (2 : Int) ^ 32 * 1 ≤ 2 ^ 32 * 2 ^ k := Int.mul_le_mul_of_nonneg_left (by omega) (by decide)
      omega
    have e : (2 : Int) ^ 32 = 4294967296 := rfl
    omega
  obtain ⟨s, hs⟩ : ∃ s : Nat, 32 - blen t = (s : Int) := ⟨(32 - blen t).toNat, by omega⟩
  have hs31 : s ≤ 31 := by omega
  obtain ⟨p1, p2⟩ := two_pow_31 hs31
  have hb1 : (blen t).toNat = 32 - s := by omega
  have hb2 : (blen t - 1).toNat = 31 - s := by omega
  rw [hb1] at c3
  rw [hb2] at c2
  have e32 := two_pow_32 hs31
  have e31 : (2 : Int) ^ s * 2 ^ (31 - s) = 2147483648 := by rw [← Int.pow_add, show s + (31 - s) = 31 by omega]; rfl
  have d1 : 2 ^ s * (t + 1) ≤ 2 ^ s * 2 ^ (32 - s) := Int.mul_le_mul_of_nonneg_left (by omega) (by omega)
  have d2 : (2 : Int) ^ s * 2 ^ (31 - s) ≤ 2 ^ s * t := Int.mul_le_mul_of_nonneg_left c2 (by omega)
  rw [e32] at d1
  rw [e31] at d2
  have hP : (0 : Int) < 4294967296 ^ (b.length - 1) := Int.pow_pos (by decide)
  have hPl : (4294967296 : Int) ^ b.length = 4294967296 ^ (b.length - 1) * 4294967296 := by rw [← Int.pow_succ, show (b.length - 1).succ = b.length by omega]
  have g1 : val 4294967296 b * 2 ^ s < 4294967296 ^ b.length := by
    have q1 : (val 4294967296 b + 1) * 2 ^ s ≤ (4294967296 ^ (b.length - 1) * (t + 1)) * 2 ^ s := Int.mul_le_mul_of_nonneg_right (by rw [Int.mul_add, Int.mul_one]; omega) (by omega)
    have q2 : (4294967296 ^ (b.length - 1) * (t + 1)) * 2 ^ s ≤ 4294967296 ^ (b.length - 1) * 4294967296 := by
      have : (4294967296 ^ (b.length - 1) * (t + 1)) * 2 ^ s = 4294967296 ^ (b.length - 1) * (2 ^ s * (t + 1)) := by grind
      rw [this]
      exact Int.mul_le_mul_of_nonneg_left d1 (by omega)
    rw [Int.add_mul, Int.one_mul] at q1
    omega
  have g2 : 2147483648 * 4294967296 ^ (b.length - 1) ≤ val 4294967296 b * 2 ^ s := by
    have q1 : (4294967296 ^ (b.length - 1) * t) * 2 ^ s ≤ val 4294967296 b * 2 ^ s := Int.mul_le_mul_of_nonneg_right (by omega) (by omega)
    have q2 : 4294967296 ^ (b.length - 1) * 2147483648 ≤ 4294967296 ^ (b.length - 1) * (2 ^ s * t) := Int.mul_le_mul_of_nonneg_left d2 (by omega)
    have : (4294967296 ^ (b.length - 1) * t) * 2 ^ s = 4294967296 ^ (b.length - 1) * (2 ^ s * t) := by grind
    rw [Int.mul_comm 2147483648]
    omega
  refine ⟨s, hs31, hs, ?_, g1, g2⟩
  unfold leftL
  rw [Int.toNat_natCast, digN_succ W_pos, List.take_append_of_le_length (by rw [digN_length]; exact Nat.le_refl _), List.take_of_length_le (by rw [digN_length]; exact Nat.le_refl _)]
end SplitMag
theorem meets_splitMag : Meets Try.prog 67 ansSplitMag := by
  refine meets_fn (orc_ok (l := SplitMag.ans) ⟨meets_cmpMag, meets_part, meets_lz32, meets_left, meets_right, meets_digit, trivial⟩) Try.f67 Try.func67 (by kernel_rfl) (fun args r h => ?_)
  unfold ansSplitMag at h
  split at h
  · rename_i a b
    simp only [Option.some.injEq, Prod.mk.injEq, Bool.and_eq_true, decide_eq_true_eq] at h
    obtain ⟨⟨⟨⟨ha, hb⟩, hv⟩, hla⟩, rfl⟩ := h
    have oa := cl_ok W_two ha
    have ob := cl_ok W_two hb
    have la := (cl_iff.1 ha).1
    have lb := (cl_iff.1 hb).1
    have fa : few a = true := few_iff.2 la
    have fb : few b = true := few_iff.2 lb
    have va0 := val_nonneg W_pos oa
    refine ⟨rfl, ?_⟩
    by_cases hlt : val 4294967296 a < val 4294967296 b
    · refine ⟨_, tabOf_all _, (SplitMag.rest a b [] [] 0 false).trans ?_⟩
      rw [ha, hb, decide_eq_true ((cmpZ_lt _ _).2 hlt)]
      simp only [Bool.and_self, cond_true, splitQ, splitR, decide_eq_true hlt]
    · have hge : val 4294967296 b ≤ val 4294967296 a := by omega
      have hll : b.length ≤ a.length := Nat.not_lt.1 (fun h => by
        have := val_lt_of_length W_two oa ob (cl_last hb) h
        omega)
      have hbn : b ≠ [] := fun h => by rw [h] at hv; simp [val] at hv
      have hb0 : 0 < b.length := List.length_pos_iff.2 hbn
      by_cases h1 : b.length = 1
      · refine ⟨_, tabOf_all _, (SplitMag.rest a b [] [] 0 false).trans ?_⟩
        obtain ⟨d, rfl⟩ : ∃ d, b = [d] := by
          match b, h1 with
          | [d], _ => exact ⟨d, rfl⟩
        rw [val_one] at hlt hge hv
        have hd := okB_iff.1 ob d (by simp)
        rw [ha, hb, decide_eq_false (fun h => hlt (by have := (cmpZ_lt _ _).1 h; rw [val_one] at this; exact this)), fa, oa]
        have er : rd [d] 0 = d := rfl
        rw [er, decide_eq_true hv, decide_eq_true hd.2]
        simp only [splitQ, splitR, val_one, decide_eq_false hlt, List.length_singleton, digN]
        have hm0 := Int.emod_nonneg (val 4294967296 a) (show d ≠ 0 by omega)
        have hm1 := Int.emod_lt_of_pos (val 4294967296 a) hv
        rw [Int.emod_eq_of_lt hm0 (by omega)]
        rfl
      · have h2 : 2 ≤ b.length := by omega
        obtain ⟨s, hs31, hs, hvd, hb1, hb2⟩ := SplitMag.shift_ok hb hv h2
        obtain ⟨p1, p2⟩ := two_pow_31 hs31
        have ew : IntKind.i64.wrap ((b.length : Int) - 1) = ((b.length - 1 : Nat) : Int) := by rw [w64 (by omega) (by omega)]; omega
        have hs2 : 32 - blen (rd b (IntKind.i64.wrap ((b.length : Int) - 1))) = (s : Int) := by rw [ew, rd_toNat, Int.toNat_natCast]; exact hs
        have hvl : ((leftL b s).take b.length).length = b.length := by rw [hvd, digN_length]
        have hvb0 : 0 ≤ val 4294967296 b * 2 ^ s := Int.mul_nonneg (by omega) (by omega)
        have hvv : val 4294967296 ((leftL b s).take b.length) = val 4294967296 b * 2 ^ s := by rw [hvd, val_digN W_pos _ _ hvb0 hb1]
        have hvo : okB 4294967296 ((leftL b s).take b.length) = true := by rw [hvd]; exact digN_ok W_pos _ _
        have hA0 : 0 ≤ val 4294967296 a * 2 ^ s := Int.mul_nonneg va0 (by omega)
        have hA1 : val 4294967296 a * 2 ^ s < 4294967296 ^ a.length * 2 ^ s := Int.mul_lt_mul_of_pos_right (val_lt W_pos oa) (by omega)
        have hPa : (0 : Int) < 4294967296 ^ a.length := Int.pow_pos (by decide)
        have hA2 : val 4294967296 a * 2 ^ s < 4294967296 ^ (a.length + 1) := by
          rw [Int.pow_succ]
          have : (4294967296 : Int) ^ a.length * 2 ^ s ≤ 4294967296 ^ a.length * 4294967296 := Int.mul_le_mul_of_nonneg_left (by omega) (by omega)
          omega
        have hul : (leftL a s).length = a.length + 1 := by unfold leftL; rw [digN_length]
        have huo : okB 4294967296 (leftL a s) = true := by unfold leftL; exact digN_ok W_pos _ _
        have huv : val 4294967296 (leftL a s) = val 4294967296 a * 2 ^ s := by unfold leftL; rw [Int.toNat_natCast, val_digN W_pos _ _ hA0 hA2]
        have htop : 2147483648 ≤ ((leftL b s).take b.length).getD (((leftL b s).take b.length).length - 1) 0 := by
          rw [hvl]
          generalize (leftL b s).take b.length = v at *
          have hd : val 4294967296 v = val 4294967296 (v.take (b.length - 1)) + 4294967296 ^ (b.length - 1) * v.getD (b.length - 1) 0 := by
            have := val_take_succ 4294967296 v (b.length - 1)
            rw [show b.length - 1 + 1 = b.length by omega, List.take_of_length_le (by omega)] at this
            exact this
          have hlo1 := val_lt W_pos (okB_take hvo (b.length - 1))
          rw [List.length_take, Nat.min_eq_left (by omega)] at hlo1
          refine Int.not_lt.1 (fun hgt => ?_)
          have : 4294967296 ^ (b.length - 1) * (v.getD (b.length - 1) 0 + 1) ≤ 4294967296 ^ (b.length - 1) * 2147483648 := Int.mul_le_mul_of_nonneg_left (by omega) (Int.pow_nonneg (by decide))
          rw [Int.mul_add, Int.mul_one] at this
          rw [Int.mul_comm 2147483648] at hb2
          omega
        have hP : SplitMag.Pre ((leftL b s).take b.length) (val 4294967296 a * 2 ^ s) (a.length + 1) (a.length - b.length) := ⟨hvo, by omega, htop, by rw [hvl]; omega, by omega⟩
        have hI0 : SplitMag.Inv ((leftL b s).take b.length) (val 4294967296 a * 2 ^ s) (a.length + 1) (a.length - b.length) (a.length - b.length + 1) (leftL a s) (zeros (a.length - b.length + 1)) := by
          refine ⟨Nat.le_refl _, hul, huo, by simp, ?_, ?_, ?_⟩
          · rw [List.drop_of_length_le (by simp)]; rfl
          · rw [List.drop_of_length_le (by simp), huv]; simp [val]
          · rw [huv, hvv]
            have k1 : 2147483648 * 4294967296 ^ (b.length - 1) * 4294967296 ^ (a.length - b.length + 1) ≤ val 4294967296 b * 2 ^ s * 4294967296 ^ (a.length - b.length + 1) := Int.mul_le_mul_of_nonneg_right hb2 (Int.pow_nonneg (by decide))
            rw [Int.mul_assoc, ← Int.pow_add, show b.length - 1 + (a.length - b.length + 1) = a.length by omega] at k1
            have k2 : (4294967296 : Int) ^ a.length * 2 ^ s ≤ 4294967296 ^ a.length * 2147483648 := Int.mul_le_mul_of_nonneg_left p2 (by omega)
            rw [Int.mul_comm _ 2147483648] at k2
            omega
        obtain ⟨e1, S1, hE1, rfl, x, b1, l, q, rfl, _, r2, r3, r4, r5, r6, r7⟩ := SplitMag.loop a b s _ _ hs2 _ true _ _ hvl hP hI0
        rw [List.drop_zero] at r5 r6
        rw [Int.pow_zero, Int.one_mul, hvv] at r6
        rw [Int.pow_zero, Int.mul_one, hvv] at r7
        have rl0 := val_nonneg W_pos r3
        have hbs : 0 < val 4294967296 b * 2 ^ s := Int.mul_pos hv (by omega)
        have hq : val 4294967296 q = val 4294967296 a / val 4294967296 b := by
          have k1 : val 4294967296 a * 2 ^ s / (val 4294967296 b * 2 ^ s) = val 4294967296 a / val 4294967296 b := Int.mul_ediv_mul_of_pos_left _ _ (by omega)
          rw [← k1, r6, Int.add_mul_ediv_left _ _ (by omega), Int.ediv_eq_zero_of_lt rl0 r7, Int.zero_add]
        have hr : val 4294967296 l = val 4294967296 a % val 4294967296 b * 2 ^ s := by
          have k1 := Int.emod_add_mul_ediv (val 4294967296 a) (val 4294967296 b)
          rw [hq] at r6
          have k2 : (val 4294967296 a % val 4294967296 b + val 4294967296 b * (val 4294967296 a / val 4294967296 b)) * 2 ^ s = val 4294967296 l + val 4294967296 b * 2 ^ s * (val 4294967296 a / val 4294967296 b) := by rw [k1]; exact r6
          rw [Int.add_mul] at k2
          have k3 : val 4294967296 b * (val 4294967296 a / val 4294967296 b) * 2 ^ s = val 4294967296 b * 2 ^ s * (val 4294967296 a / val 4294967296 b) := by grind
          omega
        have hlt2 : val 4294967296 (l.take b.length) = val 4294967296 l := by
          have k1 : val 4294967296 l = val 4294967296 (l.take b.length) + 4294967296 ^ b.length * val 4294967296 (l.drop b.length) := by
            conv => lhs; rw [← List.take_append_drop b.length l]
            rw [val_append, List.length_take, Nat.min_eq_left (by omega)]
          have k2 := val_nonneg W_pos (okB_drop r3 b.length)
          have k3 := val_nonneg W_pos (okB_take r3 b.length)
          have k4 : val 4294967296 (l.drop b.length) = 0 := by
            refine Int.le_antisymm (Int.not_lt.1 (fun hgt => ?_)) k2
            have : (4294967296 : Int) ^ b.length * 1 ≤ 4294967296 ^ b.length * val 4294967296 (l.drop b.length) := Int.mul_le_mul_of_nonneg_left (by omega) (Int.pow_nonneg (by decide))
            omega
          rw [k4, Int.mul_zero, Int.add_zero] at k1
          exact k1.symm
        refine ⟨_, tabOf_all _, (SplitMag.rest a b q l x b1).trans ?_⟩
        have htl := getD_ok W_pos ob (b.length - 1)
        have em1 : IntKind.i64.wrap (((a.length + 1 : Nat) : Int) - (b.length : Int)) = ((a.length + 1 - b.length : Nat) : Int) := by rw [w64 (by omega) (by omega)]; omega
        have em2 : IntKind.i64.wrap (((a.length + 1 - b.length : Nat) : Int) - 1) = ((a.length - b.length : Nat) : Int) := by rw [w64 (by omega) (by omega)]; omega
        have em3 : IntKind.i64.wrap (((a.length - b.length : Nat) : Int) + 1) = ((a.length - b.length + 1 : Nat) : Int) := by rw [w64 (by omega) (by omega)]; omega
        have hlb2 : (leftL b s).length = b.length + 1 := by unfold leftL; rw [digN_length]
        have hc1 : decide (cmpZ (val 4294967296 a) (val 4294967296 b) < 0) = false := decide_eq_false (fun h => hlt ((cmpZ_lt _ _).1 h))
        have hc2 : ((b.length : Int) == 1) = false := by rw [beq_eq_false_iff_ne]; omega
        have hc3 : inB ((b.length - 1 : Nat) : Int) b.length = true := inB_iff.2 (by omega)
        have hft : few (l.take b.length) = true := few_iff.2 (by rw [List.length_take]; omega)
        rw [hs2, ew]
        simp only [Int.toNat_natCast, hvl, hul, em1, em2, em3, cdec_true hE1, ha, hb, hc1, hc2, hc3, fa, fb, oa, ob, hft, okB_take r3, hlb2, rd_toNat, decide_eq_true htl.1, decide_eq_true htl.2, decide_eq_true (show (0 : Int) ≤ (s : Int) by omega), decide_eq_true (show (s : Int) ≤ 31 by omega), decide_eq_true (show (b.length : Int) ≤ ((b.length + 1 : Nat) : Int) by omega), decide_eq_true (show (0 : Int) ≤ ((a.length - b.length + 1 : Nat) : Int) by omega), decide_eq_true (Int.le_refl ((a.length - b.length + 1 : Nat) : Int)), decide_eq_true (show (a.length - b.length + 1) * 4 ≤ 281474976710656 by omega), decide_eq_true (show (b.length : Int) ≤ (l.length : Int) by omega)]
        simp only [Bool.and_self, cond_true, cond_false, splitQ, splitR, decide_eq_false hlt]
        have hc4 : (b.length == 1) = false := by rw [beq_eq_false_iff_ne]; omega
        rw [hc4]
        simp only [cond_false]
        rw [show q = digN 4294967296 (a.length - b.length + 1) (val 4294967296 a / val 4294967296 b) from dig_eq W_pos r5 r4 hq]
        have : rightL (l.take b.length) (s : Int) = digN 4294967296 b.length (val 4294967296 a % val 4294967296 b) := by
          unfold rightL
          rw [hlt2, hr, Int.toNat_natCast, List.length_take, Nat.min_eq_left (by omega), Int.mul_ediv_cancel _ (by omega)]
        rw [this]
  · cases h
end Go.Abs
end
section
/- What arith's functions answer, in whole numbers: signs, bits, sums, products. -/
namespace Go.Abs
open Go.Proofs Go.Dig
theorem val_lb (z : Int) : val 4294967296 (lb 4294967296 z) = az z := lb_val W_two z
theorem val_lb10 (z : Int) : val 10 (lb 10 z) = az z := lb_val (by decide) z
theorem num_lbW (z : Int) : num 4294967296 (sg z) (lb 4294967296 z) = z := num_lb W_two z
theorem num_lb10 (z : Int) : num 10 (sg z) (lb 10 z) = z := num_lb (by decide) z
theorem okW_lb (z : Int) : okB 4294967296 (lb 4294967296 z) = true := lb_ok W_two z
theorem ok10_lb (z : Int) : okB 10 (lb 10 z) = true := lb_ok (by decide) z
theorem cnW (z : Int) : cn 4294967296 (sg z) (lb 4294967296 z) = decide (z.natAbs < Lim) := cn_lb W_two z
theorem cn10 (z : Int) : cn 10 (sg z) (lb 10 z) = decide (z.natAbs < Lim) := cn_lb (by decide) z
theorem clW {z : Int} (h : z.natAbs < Lim) : cl 4294967296 (lb 4294967296 z) = true := cl_lb h
theorem fewW {z : Int} (h : z.natAbs < Lim) : few (lb 4294967296 z) = true := few_lb h
set_option exponentiation.threshold 20000 in
/-- A number that is held is not too large for anything. -/
theorem big_1024 : (2 : Nat) ^ 1024 * 2 ^ 1024 < Lim := Nat.lt_of_not_le (fun h => by
  have : Nat.ble (Lim) (2 ^ 1024 * 2 ^ 1024) = true := Nat.ble_eq_true_of_le h
  have h2 : Nat.ble (Lim) (2 ^ 1024 * 2 ^ 1024) = false := by kernel_rfl
  rw [h2] at this
  cases this)
theorem fits_iff {z : Int} : fits z = true ↔ z.natAbs < 2 ^ 1024 := by unfold fits; exact decide_eq_true_iff
set_option exponentiation.threshold 20000 in
theorem small_of_fits {z : Int} (h : fits z = true) : z.natAbs < Lim := by
  have h1 := fits_iff.1 h
  have h2 := big_1024
  have h3 : (1 : Nat) ≤ 2 ^ 1024 := Nat.one_le_two_pow
  have h4 : 2 ^ 1024 * 1 ≤ (2 : Nat) ^ 1024 * 2 ^ 1024 := Nat.mul_le_mul_left _ h3
  generalize (2 : Nat) ^ 1024 = K at *
  generalize Lim = L at *
  omega
set_option exponentiation.threshold 20000 in
theorem small_add {x y : Int} (hx : fits x = true) (hy : fits y = true) : (x + y).natAbs < Lim := by
  have h1 := fits_iff.1 hx
  have h2 := fits_iff.1 hy
  have h3 := big_1024
  have h5 : (2 : Nat) ≤ 2 ^ 1024 := Nat.le_of_ble_eq_true (by kernel_rfl)
  have h4 : 2 ^ 1024 * 2 ≤ (2 : Nat) ^ 1024 * 2 ^ 1024 := Nat.mul_le_mul_left _ h5
  generalize (2 : Nat) ^ 1024 = K at *
  generalize Lim = L at *
  omega
set_option exponentiation.threshold 20000 in
theorem small_mul {x y : Int} (hx : fits x = true) (hy : fits y = true) : (x * y).natAbs < Lim := by
  have h1 := fits_iff.1 hx
  have h2 := fits_iff.1 hy
  have h3 := big_1024
  have h4 : x.natAbs * y.natAbs ≤ 2 ^ 1024 * 2 ^ 1024 := Nat.mul_le_mul (Nat.le_of_lt h1) (Nat.le_of_lt h2)
  rw [Int.natAbs_mul]
  exact Nat.lt_of_le_of_lt h4 h3
theorem az_nonneg (z : Int) : 0 ≤ az z := by unfold az; omega
theorem fits_hz (z : Int) : fits (hz z) = true := by
  unfold hz
  cases h : fits z with
  | true => exact h
  | false => kernel_rfl
theorem hz_of {z : Int} (h : fits z = true) : hz z = z := by unfold hz; rw [h]; rfl
theorem he_of {z : Int} (h : fits z = true) : he z = 0 := by unfold he; rw [h]; rfl
theorem he_zero {z : Int} : he z = 0 ↔ fits z = true := by
  unfold he
  cases fits z <;> simp
theorem he_cases (z : Int) : he z = 0 ∨ he z = 11 := by
  unfold he
  cases fits z <;> simp
theorem blen_le {z : Int} (h : 0 ≤ z) (k : Nat) : blen z ≤ k ↔ z < 2 ^ k := by
  by_cases h0 : z = 0
  · subst h0
    have : (0 : Int) < 2 ^ k := Int.pow_pos (by decide)
    simp [blen, this]
  · obtain ⟨b1, b2, b3⟩ := blen_pow (show 0 < z by omega)
    constructor
    · intro hk
      obtain ⟨m, hm⟩ : ∃ m, k = (blen z).toNat + m := ⟨k - (blen z).toNat, by omega⟩
      rw [hm, Int.pow_add]
      have hp : (0 : Int) < 2 ^ m := Int.pow_pos (by decide)
      have : (2 : Int) ^ (blen z).toNat * 1 ≤ 2 ^ (blen z).toNat * 2 ^ m := Int.mul_le_mul_of_nonneg_left (by omega) (by omega)
      omega
    · intro hk
      refine Int.not_lt.1 (fun hgt => ?_)
      obtain ⟨m, hm⟩ : ∃ m, (blen z - 1).toNat = k + m := ⟨(blen z - 1).toNat - k, by omega⟩
      rw [hm, Int.pow_add] at b2
      have hp : (0 : Int) < 2 ^ m := Int.pow_pos (by decide)
      have : (2 : Int) ^ k * 1 ≤ 2 ^ k * 2 ^ m := Int.mul_le_mul_of_nonneg_left (by omega) (Int.pow_nonneg (by decide))
      omega
set_option exponentiation.threshold 20000 in
theorem fits_blen (z : Int) : fits z = decide (blen (az z) ≤ 1024) := by
  rw [Bool.eq_iff_iff, fits_iff, decide_eq_true_eq]
  have h := blen_le (az_nonneg z) 1024
  have h : blen (az z) ≤ 1024 ↔ az z < 2 ^ 1024 := h
  rw [h]
  unfold az
  have e : ((2 ^ 1024 : Nat) : Int) = (2 : Int) ^ 1024 := Int.natCast_pow ..
  rw [← e]
  exact (Int.ofNat_lt).symm
theorem meets_sign : Meets Try.prog 21 ansSign := by
  refine meets_fn noOrc_ok Try.f21 Try.func21 (by kernel_rfl) (fun args r h => ?_)
  unfold ansSign at h
  split at h
  · rename_i s l
    simp only [Option.some.injEq, Prod.mk.injEq] at h
    obtain ⟨h, rfl⟩ := h
    obtain ⟨z, rfl, rfl, hz⟩ := (cn_iff W_two).1 h
    refine ⟨rfl, _, noTab_all, (Sign.rest _ _).trans ?_⟩
    have hnil := lb_nil W_two (z := z)
    rw [num_lbW]
    unfold cmpZ
    by_cases h0 : z = 0
    · subst h0; rfl
    · have : ((lb 4294967296 z).length : Int) ≠ 0 := by
        intro h; exact h0 (hnil.1 (List.eq_nil_of_length_eq_zero (by omega)))
      have e1 : (((lb 4294967296 z).length : Int) == 0) = false := by rw [beq_eq_false_iff_ne]; exact this
      rw [e1]
      unfold sg
      by_cases h1 : z < 0
      · rw [decide_eq_true h1, if_pos h1]; rfl
      · rw [decide_eq_false h1, if_neg h1, if_pos (by omega)]; rfl
  · cases h
theorem blen_lb {z : Int} (h0 : z ≠ 0) : blen (az z) = 32 * ((lb 4294967296 z).length - 1 : Nat) + blen ((lb 4294967296 z).getD ((lb 4294967296 z).length - 1) 0) := by
  have ok := okW_lb z
  have hn : lb 4294967296 z ≠ [] := fun h => h0 ((lb_nil W_two).1 h)
  have hl : 0 < (lb 4294967296 z).length := List.length_pos_iff.2 hn
  have hlast := lb_last 4294967296 z
  have hv := val_lb z
  generalize lb 4294967296 z = l at *
  obtain ⟨n, hn2⟩ : ∃ n, l.length = n + 1 := ⟨l.length - 1, by omega⟩
  rw [hn2, Nat.add_sub_cancel]
  have hd : val 4294967296 l = val 4294967296 (l.take n) + 4294967296 ^ n * l.getD n 0 := by
    have := val_take_succ 4294967296 l n
    rw [List.take_of_length_le (by omega)] at this
    exact this
  have ht := getD_ok W_pos ok n
  have hne : l.getD n 0 ≠ 0 := by
    rw [List.getLast?_eq_getElem?, hn2, Nat.add_sub_cancel, List.getElem?_eq_getElem (by omega)] at hlast
    rw [getD_at (by omega)]
    intro h; exact hlast (congrArg some h)
  have lo0 := val_nonneg W_pos (okB_take ok n)
  have lo1 := val_lt W_pos (okB_take ok n)
  rw [List.length_take, Nat.min_eq_left (by omega)] at lo1
  obtain ⟨c1, c2, c3⟩ := blen_pow (show 0 < l.getD n 0 by omega)
  generalize l.getD n 0 = t at *
  have e32 : (4294967296 : Int) ^ n = 2 ^ (32 * n) := by rw [Int.pow_mul]; rfl
  have hP : (0 : Int) < 4294967296 ^ n := Int.pow_pos (by decide)
  have g1 : 4294967296 ^ n * 2 ^ (blen t - 1).toNat ≤ 4294967296 ^ n * t := Int.mul_le_mul_of_nonneg_left c2 (by omega)
  have g2 : 4294967296 ^ n * (t + 1) ≤ 4294967296 ^ n * 2 ^ (blen t).toNat := Int.mul_le_mul_of_nonneg_left (by omega) (by omega)
  rw [Int.mul_add, Int.mul_one] at g2
  have g3 : (2 : Int) ^ (32 * n + (blen t - 1).toNat) = 4294967296 ^ n * 2 ^ (blen t - 1).toNat := by rw [Int.pow_add, e32]
  have g4 : (2 : Int) ^ (32 * n + (blen t - 1).toNat + 1) = 4294967296 ^ n * 2 ^ (blen t).toNat := by rw [show 32 * n + (blen t - 1).toNat + 1 = 32 * n + (blen t).toNat by omega, Int.pow_add, e32]
  rw [← hv, blen_eq (k := 32 * n + (blen t - 1).toNat) (by have := Int.mul_pos hP (show 0 < t by omega); omega) (by omega) (by omega)]
  omega
theorem blen_top {t : Int} (h0 : 0 ≤ t) (h1 : t < 4294967296) : 0 ≤ blen t ∧ blen t ≤ 32 := by
  refine ⟨?_, (blen_le h0 32).2 h1⟩
  by_cases h : t = 0
  · subst h; decide
  · have := (blen_pow (show 0 < t by omega)).1; omega
theorem meets_bits : Meets Try.prog 84 ansBits := by
  refine meets_fn (orc_ok (l := Bits.ans) ⟨meets_len32, trivial⟩) Try.f84 Try.func84 (by kernel_rfl) (fun args r h => ?_)
  unfold ansBits at h
  split at h
  · rename_i s l
    simp only [Option.some.injEq, Prod.mk.injEq] at h
    obtain ⟨h, rfl⟩ := h
    obtain ⟨z, rfl, rfl, hz⟩ := (cn_iff W_two).1 h
    refine ⟨rfl, _, noTab_all, (Bits.rest _ _).trans ?_⟩
    rw [num_lbW]
    have hlen := lb_length hz
    by_cases h0 : z = 0
    · subst h0; rfl
    · have hn : lb 4294967296 z ≠ [] := fun h => h0 ((lb_nil W_two).1 h)
      have hl : 0 < (lb 4294967296 z).length := List.length_pos_iff.2 hn
      have hb := blen_lb h0
      have ht := getD_ok W_pos (okW_lb z) ((lb 4294967296 z).length - 1)
      obtain ⟨t0, t1⟩ := blen_top ht.1 ht.2
      have e1 : (((lb 4294967296 z).length : Int) == 0) = false := by rw [beq_eq_false_iff_ne]; omega
      have e2 : IntKind.i64.wrap (((lb 4294967296 z).length : Int) - 1) = (((lb 4294967296 z).length - 1 : Nat) : Int) := by rw [w64 (by omega) (by omega)]; omega
      rw [e1, e2, bT (inB_iff.2 (by omega)), rd_toNat, Int.toNat_natCast, decide_eq_true ht.1, decide_eq_true ht.2, w64 (n := 32 * _) (by omega) (by omega), w64 (by omega) (by omega), hb]
      rfl
  · cases h
theorem meets_held : Meets Try.prog 57 ansHeld := by
  refine meets_fn (orc_ok (l := Held.ans) ⟨meets_bits, trivial⟩) Try.f57 Try.func57 (by kernel_rfl) (fun args r h => ?_)
  unfold ansHeld at h
  split at h
  · rename_i s l
    simp only [Option.some.injEq, Prod.mk.injEq] at h
    obtain ⟨h, rfl⟩ := h
    refine ⟨rfl, _, noTab_all, (Held.rest _ _).trans ?_⟩
    rw [h]
    obtain ⟨z, rfl, rfl, hz⟩ := (cn_iff W_two).1 h
    rw [num_lbW]
    have hf := fits_blen z
    by_cases hb : blen (az z) ≤ 1024
    · rw [decide_eq_true hb] at hf
      rw [decide_eq_false (by omega), hz_of hf, he_of hf]
      rfl
    · rw [decide_eq_false hb] at hf
      rw [decide_eq_true (by omega)]
      unfold Abs.hz he
      rw [hf]
      rfl
  · cases h
theorem okB_two {B x y : Int} (hx : 0 ≤ x ∧ x < B) (hy : 0 ≤ y ∧ y < B) : okB B [x, y] = true := okB_cons.2 ⟨hx, okB_one hy⟩
theorem meets_from : Meets Try.prog 47 ansFrom := by
  refine meets_fn (orc_ok (l := From.ans) ⟨meets_norm, trivial⟩) Try.f47 Try.func47 (by kernel_rfl) (fun args r h => ?_)
  unfold ansFrom at h
  split at h
  · rename_i n
    simp only [Option.some.injEq, Prod.mk.injEq, i64B, Bool.and_eq_true, decide_eq_true_eq] at h
    obtain ⟨⟨h0, h1⟩, rfl⟩ := h
    refine ⟨rfl, _, noTab_all, (From.rest n).trans ?_⟩
    have key : ∀ u : Int, 0 ≤ u → u ≤ 18446744073709551615 → okB 4294967296 [IntKind.u32.wrap u, IntKind.u32.wrap (u.fdiv (2 ^ 32))] = true ∧ val 4294967296 [IntKind.u32.wrap u, IntKind.u32.wrap (u.fdiv (2 ^ 32))] = u := by
      intro u u0 u1
      rw [fdiv32, wu32_mod, wu32_mod]
      refine ⟨okB_two (by omega) (by omega), ?_⟩
      simp only [val]
      omega
    by_cases hn : n < 0
    · have e1 : IntKind.u64.wrap (0 - IntKind.u64.wrap n) = -n := by rw [wu64_mod, wu64_mod]; omega
      obtain ⟨k1, k2⟩ := key (-n) (by omega) (by omega)
      rw [decide_eq_true hn, e1, k1]
      have : num 4294967296 true [IntKind.u32.wrap (-n), IntKind.u32.wrap ((-n).fdiv (2 ^ 32))] = n := by
        unfold num; rw [k2]; simp
      rw [this]
      rfl
    · have e1 : IntKind.u64.wrap n = n := wu64 (by omega) (by omega)
      obtain ⟨k1, k2⟩ := key n (by omega) (by omega)
      rw [decide_eq_false hn, e1, k1]
      have : num 4294967296 false [IntKind.u32.wrap n, IntKind.u32.wrap (n.fdiv (2 ^ 32))] = n := by
        unfold num; rw [k2]; simp
      rw [this]
      rfl
  · cases h
theorem meets_neg : Meets Try.prog 62 ansNeg := by
  refine meets_fn (orc_ok (l := Neg.ans) ⟨meets_norm, trivial⟩) Try.f62 Try.func62 (by kernel_rfl) (fun args r h => ?_)
  unfold ansNeg at h
  split at h
  · rename_i s l
    simp only [Option.some.injEq, Prod.mk.injEq] at h
    obtain ⟨h, rfl⟩ := h
    obtain ⟨z, rfl, rfl, hz⟩ := (cn_iff W_two).1 h
    refine ⟨rfl, _, noTab_all, (Neg.rest _ _).trans ?_⟩
    rw [num_lbW, fewW hz, okW_lb]
    by_cases h0 : z = 0
    · subst h0; rfl
    · have hn : lb 4294967296 z ≠ [] := fun h => h0 ((lb_nil W_two).1 h)
      have hl : 0 < (lb 4294967296 z).length := List.length_pos_iff.2 hn
      have e1 : (((lb 4294967296 z).length : Int) == 0) = false := by rw [beq_eq_false_iff_ne]; omega
      have : num 4294967296 (!sg z) (lb 4294967296 z) = -z := by
        unfold num sg
        rw [val_lb]
        unfold az
        by_cases h1 : z < 0
        · rw [decide_eq_true h1]; simp; omega
        · rw [decide_eq_false h1]; simp; omega
      rw [e1, this]
      rfl
  · cases h
theorem meets_abs : Meets Try.prog 66 ansAbs := by
  refine meets_fn (orc_ok (l := Abs_.ans) ⟨meets_norm, trivial⟩) Try.f66 Try.func66 (by kernel_rfl) (fun args r h => ?_)
  unfold ansAbs at h
  split at h
  · rename_i s l
    simp only [Option.some.injEq, Prod.mk.injEq] at h
    obtain ⟨h, rfl⟩ := h
    obtain ⟨z, rfl, rfl, hz⟩ := (cn_iff W_two).1 h
    refine ⟨rfl, _, noTab_all, (Abs_.rest _ _).trans ?_⟩
    have : num 4294967296 false (lb 4294967296 z) = az z := by unfold num; rw [val_lb]; rfl
    rw [num_lbW, fewW hz, okW_lb, this]
    rfl
  · cases h
theorem meets_cmp : Meets Try.prog 34 ansCmp := by
  refine meets_fn (orc_ok (l := Cmp.ans) ⟨meets_cmpMag, trivial⟩) Try.f34 Try.func34 (by kernel_rfl) (fun args r h => ?_)
  unfold ansCmp at h
  split at h
  · rename_i s l t m
    simp only [Option.some.injEq, Prod.mk.injEq, Bool.and_eq_true] at h
    obtain ⟨⟨h, k⟩, rfl⟩ := h
    obtain ⟨x, rfl, rfl, hx⟩ := (cn_iff W_two).1 h
    obtain ⟨y, rfl, rfl, hy⟩ := (cn_iff W_two).1 k
    refine ⟨rfl, _, noTab_all, (Cmp.rest _ _ _ _).trans ?_⟩
    rw [num_lbW, num_lbW, clW hx, clW hy, val_lb, val_lb]
    unfold sg cmpZ az
    by_cases h1 : x < 0 <;> by_cases h2 : y < 0 <;> simp only [h1, h2, decide_true, decide_false, beq_self_eq_true, Bool.not_true, Bool.not_false, cond_true, cond_false, Bool.and_self, Bool.true_beq, Bool.false_beq, Option.some.injEq, Res.val.injEq, AV.int.injEq, true_and] <;> (repeat' split) <;> omega
  · cases h
end Go.Abs
end
section
/- What arith's functions answer, in whole numbers: sums, products, quotients, common divisors. -/
namespace Go.Abs
open Go.Proofs Go.Dig
/-- The number of a sign and a list with a value. -/
theorem num_of {B : Int} {s : Bool} {l : List Int} {v : Int} (h : val B l = v) : num B s l = bif s then -v else v := by unfold num; rw [h]
theorem plusL_len (a b : List Int) : (plusL a b).length = max a.length b.length + 1 := digN_length ..
theorem lessL_len (a b : List Int) : (lessL a b).length = a.length := digN_length ..
theorem timesL_len (a b : List Int) : (timesL a b).length = a.length + b.length := digN_length ..
theorem plusL_ok (a b : List Int) : okB 4294967296 (plusL a b) = true := digN_ok W_pos _ _
theorem lessL_ok (a b : List Int) : okB 4294967296 (lessL a b) = true := digN_ok W_pos _ _
theorem timesL_ok (a b : List Int) : okB 4294967296 (timesL a b) = true := digN_ok W_pos _ _
theorem pow_mono {B : Int} (hB : 1 ≤ B) {m n : Nat} (h : m ≤ n) : B ^ m ≤ B ^ n := by
  obtain ⟨k, rfl⟩ : ∃ k, n = m + k := ⟨n - m, by omega⟩
  rw [Int.pow_add]
  have h1 : (0 : Int) < B ^ k := Int.pow_pos (by omega)
  have h2 : (0 : Int) ≤ B ^ m := Int.pow_nonneg (by omega)
  have : B ^ m * 1 ≤ B ^ m * B ^ k := Int.mul_le_mul_of_nonneg_left (by omega) h2
  omega
theorem plusL_val {a b : List Int} (ha : okB 4294967296 a = true) (hb : okB 4294967296 b = true) : val 4294967296 (plusL a b) = val 4294967296 a + val 4294967296 b := by
  have a0 := val_nonneg W_pos ha
  have b0 := val_nonneg W_pos hb
  have a1 := val_lt W_pos ha
  have b1 := val_lt W_pos hb
  have a2 := pow_mono (B := 4294967296) (by decide) (Nat.le_max_left a.length b.length)
  have b2 := pow_mono (B := 4294967296) (by decide) (Nat.le_max_right a.length b.length)
  unfold plusL
  refine val_digN W_pos _ _ (by omega) ?_
  rw [Int.pow_succ]
  have : (0 : Int) < 4294967296 ^ max a.length b.length := Int.pow_pos (by decide)
  omega
theorem lessL_val {a b : List Int} (ha : okB 4294967296 a = true) (hb : okB 4294967296 b = true) (h : val 4294967296 b ≤ val 4294967296 a) : val 4294967296 (lessL a b) = val 4294967296 a - val 4294967296 b := by
  have b0 := val_nonneg W_pos hb
  have a1 := val_lt W_pos ha
  exact val_digN W_pos _ _ (by omega) (by omega)
theorem timesL_val {a b : List Int} (ha : okB 4294967296 a = true) (hb : okB 4294967296 b = true) : val 4294967296 (timesL a b) = val 4294967296 a * val 4294967296 b := by
  have a0 := val_nonneg W_pos ha
  have b0 := val_nonneg W_pos hb
  have a1 := val_lt W_pos ha
  have b1 := val_lt W_pos hb
  unfold timesL
  refine val_digN W_pos _ _ (Int.mul_nonneg a0 b0) ?_
  rw [Int.pow_add]
  have h1 : val 4294967296 a * val 4294967296 b ≤ val 4294967296 a * 4294967296 ^ b.length := Int.mul_le_mul_of_nonneg_left (by omega) a0
  have h2 : val 4294967296 a * 4294967296 ^ b.length < 4294967296 ^ a.length * 4294967296 ^ b.length := Int.mul_lt_mul_of_pos_right a1 (Int.pow_pos (by decide))
  omega
/-- Signs and amounts. -/
theorem sg_cases (z : Int) : (sg z = true ∧ z < 0 ∧ az z = -z) ∨ (sg z = false ∧ 0 ≤ z ∧ az z = z) := by
  unfold sg az
  by_cases h : z < 0
  · exact .inl ⟨decide_eq_true h, h, by omega⟩
  · exact .inr ⟨decide_eq_false h, by omega, by omega⟩
theorem lb_len_le {x y : Int} (h : az x ≤ az y) : (lb 4294967296 x).length ≤ (lb 4294967296 y).length := by
  refine Nat.not_lt.1 (fun hlt => ?_)
  have := val_lt_of_length W_two (okW_lb y) (okW_lb x) (lb_last _ _) hlt
  rw [val_lb, val_lb] at this
  omega
theorem meets_plus : Meets Try.prog 73 ansPlus := by
  refine meets_fn (orc_ok (l := Plus.ans) ⟨meets_norm, meets_cmpMag, meets_plusMag, meets_lessMag meets_sub32, trivial⟩) Try.f73 Try.func73 (by kernel_rfl) (fun args r h => ?_)
  unfold ansPlus at h
  split at h
  · rename_i s l t m
    simp only [Option.some.injEq, Prod.mk.injEq, Bool.and_eq_true] at h
    obtain ⟨⟨h, k⟩, rfl⟩ := h
    obtain ⟨x, rfl, rfl, hx⟩ := (cn_iff W_two).1 h
    obtain ⟨y, rfl, rfl, hy⟩ := (cn_iff W_two).1 k
    refine ⟨rfl, _, noTab_all, (Plus.rest _ _ _ _).trans ?_⟩
    have lx := lb_length hx
    have ly := lb_length hy
    have f1 : few (plusL (lb 4294967296 x) (lb 4294967296 y)) = true := few_iff.2 (by rw [plusL_len]; omega)
    have f2 : few (lessL (lb 4294967296 x) (lb 4294967296 y)) = true := few_iff.2 (by rw [lessL_len]; omega)
    have f3 : few (lessL (lb 4294967296 y) (lb 4294967296 x)) = true := few_iff.2 (by rw [lessL_len]; omega)
    have hge : cmpZ (az x) (az y) ≥ 0 ↔ az y ≤ az x := by have := cmpZ_lt (az x) (az y); omega
    rw [num_lbW, num_lbW]
    simp only [fewW hx, fewW hy, okW_lb, clW hx, clW hy, f1, f2, f3, plusL_ok, lessL_ok, val_lb, Bool.and_self, Bool.true_and, cond_true]
    by_cases hc : az y ≤ az x
    · have d1 : decide (cmpZ (az x) (az y) ≥ 0) = true := decide_eq_true (hge.2 hc)
      have e2 : val 4294967296 (lessL (lb 4294967296 x) (lb 4294967296 y)) = az x - az y := by rw [lessL_val (okW_lb x) (okW_lb y) (by rw [val_lb, val_lb]; exact hc), val_lb, val_lb]
      have e1 : val 4294967296 (plusL (lb 4294967296 x) (lb 4294967296 y)) = az x + az y := by rw [plusL_val (okW_lb x) (okW_lb y), val_lb, val_lb]
      rw [d1, decide_eq_true (lb_len_le hc), decide_eq_true hc, num_of e1, num_of e2]
      rcases sg_cases x with ⟨a1, a2, a3⟩ | ⟨a1, a2, a3⟩ <;> rcases sg_cases y with ⟨b1, b2, b3⟩ | ⟨b1, b2, b3⟩ <;> rw [a1, b1, a3, b3] <;> simp only [beq_self_eq_true, Bool.and_self, cond_true, cond_false, Bool.true_beq, Bool.false_beq, Bool.not_true, Bool.not_false] <;> congr 4 <;> omega
    · have d1 : decide (cmpZ (az x) (az y) ≥ 0) = false := decide_eq_false (fun h => hc (hge.1 h))
      have hc2 : az x ≤ az y := by omega
      have e2 : val 4294967296 (lessL (lb 4294967296 y) (lb 4294967296 x)) = az y - az x := by rw [lessL_val (okW_lb y) (okW_lb x) (by rw [val_lb, val_lb]; exact hc2), val_lb, val_lb]
      have e1 : val 4294967296 (plusL (lb 4294967296 x) (lb 4294967296 y)) = az x + az y := by rw [plusL_val (okW_lb x) (okW_lb y), val_lb, val_lb]
      rw [d1, decide_eq_true (lb_len_le hc2), decide_eq_true hc2, num_of e1, num_of e2]
      rcases sg_cases x with ⟨a1, a2, a3⟩ | ⟨a1, a2, a3⟩ <;> rcases sg_cases y with ⟨b1, b2, b3⟩ | ⟨b1, b2, b3⟩ <;> rw [a1, b1, a3, b3] <;> simp only [beq_self_eq_true, Bool.and_self, cond_true, cond_false, Bool.true_beq, Bool.false_beq, Bool.not_true, Bool.not_false] <;> congr 4 <;> omega
  · cases h
theorem meets_add : Meets Try.prog 31 ansAdd := by
  refine meets_fn (orc_ok (l := Add.ans) ⟨meets_held, meets_plus, trivial⟩) Try.f31 Try.func31 (by kernel_rfl) (fun args r h => ?_)
  unfold ansAdd at h
  split at h
  · rename_i s l t m
    simp only [Option.some.injEq, Prod.mk.injEq, Bool.and_eq_true] at h
    obtain ⟨⟨⟨⟨h, k⟩, f1⟩, f2⟩, rfl⟩ := h
    refine ⟨rfl, _, noTab_all, (Add.rest _ _ _ _).trans ?_⟩
    rw [h, k, cnW, decide_eq_true (small_add f1 f2), N_eq]
    rfl
  · cases h
theorem meets_mul : Meets Try.prog 72 ansMul := by
  refine meets_fn (orc_ok (l := Mul.ans) ⟨meets_held, meets_norm, meets_timesMag, trivial⟩) Try.f72 Try.func72 (by kernel_rfl) (fun args r h => ?_)
  unfold ansMul at h
  split at h
  · rename_i s l t m
    simp only [Option.some.injEq, Prod.mk.injEq, Bool.and_eq_true] at h
    obtain ⟨⟨⟨⟨h, k⟩, f1⟩, f2⟩, rfl⟩ := h
    obtain ⟨x, rfl, rfl, hx⟩ := (cn_iff W_two).1 h
    obtain ⟨y, rfl, rfl, hy⟩ := (cn_iff W_two).1 k
    rw [num_lbW] at f1 f2
    refine ⟨rfl, _, noTab_all, (Mul.rest _ _ _ _).trans ?_⟩
    have lx := lb_length hx
    have ly := lb_length hy
    have g1 : few (timesL (lb 4294967296 x) (lb 4294967296 y)) = true := few_iff.2 (by rw [timesL_len]; omega)
    have e1 : num 4294967296 (!sg x == sg y) (timesL (lb 4294967296 x) (lb 4294967296 y)) = x * y := by
      rw [num_of (timesL_val (okW_lb x) (okW_lb y)), val_lb, val_lb]
      rcases sg_cases x with ⟨a1, a2, a3⟩ | ⟨a1, a2, a3⟩ <;> rcases sg_cases y with ⟨b1, b2, b3⟩ | ⟨b1, b2, b3⟩ <;> rw [a1, b1, a3, b3] <;> simp [Int.neg_mul, Int.mul_neg]
    rw [fewW hx, fewW hy, okW_lb, okW_lb, g1, timesL_ok, e1, cnW, decide_eq_true (small_mul f1 f2), N_eq, num_lbW, num_lbW]
    rfl
  · cases h
end Go.Abs
end
section
/- What arith's functions answer, in whole numbers: quotients, common divisors, sums of lists. -/
namespace Go.Abs
open Go.Proofs Go.Dig
/-- Quotient and rest of two numbers, by amounts. -/
theorem split_vals {x y : Int} (hx : x.natAbs < Lim) (hy : y.natAbs < Lim) (h0 : y ≠ 0) :
    okB 4294967296 (splitQ (lb 4294967296 x) (lb 4294967296 y)) = true ∧ few (splitQ (lb 4294967296 x) (lb 4294967296 y)) = true ∧ val 4294967296 (splitQ (lb 4294967296 x) (lb 4294967296 y)) = az x / az y ∧
    okB 4294967296 (splitR (lb 4294967296 x) (lb 4294967296 y)) = true ∧ few (splitR (lb 4294967296 x) (lb 4294967296 y)) = true ∧ val 4294967296 (splitR (lb 4294967296 x) (lb 4294967296 y)) = az x % az y := by
  have lx := lb_length hx
  have ly := lb_length hy
  have ax := az_nonneg x
  have ay : 0 < az y := by unfold az; omega
  have vx := val_lt W_pos (okW_lb x)
  have vy := val_lt W_pos (okW_lb y)
  rw [val_lb] at vx vy
  have q0 : 0 ≤ az x / az y := Int.ediv_nonneg ax (by omega)
  have r0 := Int.emod_nonneg (az x) (show az y ≠ 0 by omega)
  have r1 := Int.emod_lt_of_pos (az x) ay
  unfold splitQ splitR
  rw [val_lb, val_lb]
  by_cases hlt : az x < az y
  · rw [decide_eq_true hlt]
    simp only [cond_true]
    refine ⟨rfl, few_iff.2 (by simp), ?_, okW_lb x, fewW hx, ?_⟩
    · rw [Int.ediv_eq_zero_of_lt ax hlt]; rfl
    · rw [val_lb, Int.emod_eq_of_lt ax hlt]
  · rw [decide_eq_false hlt]
    simp only [cond_false]
    refine ⟨?_, ?_, ?_, digN_ok W_pos _ _, few_iff.2 (by rw [digN_length]; omega), val_digN W_pos _ _ r0 (by omega)⟩
    · cases ((lb 4294967296 y).length == 1) with
      | true => exact limbs_ok W_pos _
      | false => exact digN_ok W_pos _ _
    · have hq : az x / az y < 4294967296 ^ (lb 4294967296 x).length := Int.lt_of_le_of_lt (Int.ediv_le_self _ ax) vx
      cases ((lb 4294967296 y).length == 1) with
      | true => exact few_iff.2 (by have := limbs_length W_two q0 hq; simp only [cond_true]; omega)
      | false => exact few_iff.2 (by simp only [cond_false]; rw [digN_length]; omega)
    · cases hb : ((lb 4294967296 y).length == 1) with
      | true => exact limbs_val W_two q0
      | false =>
        refine val_digN W_pos _ _ q0 ?_
        have hyn : lb 4294967296 y ≠ [] := fun h => h0 ((lb_nil W_two).1 h)
        have hyl : 0 < (lb 4294967296 y).length := List.length_pos_iff.2 hyn
        have hge := last_ge W_two (okW_lb y) (lb_last _ _) hyn
        rw [val_lb] at hge
        have hxl : (lb 4294967296 y).length ≤ (lb 4294967296 x).length := lb_len_le (by omega)
        refine Int.ediv_lt_of_lt_mul ay ?_
        have e : (4294967296 : Int) ^ ((lb 4294967296 x).length) = 4294967296 ^ ((lb 4294967296 y).length - 1) * 4294967296 ^ ((lb 4294967296 x).length - (lb 4294967296 y).length + 1) := by
          rw [← Int.pow_add]; congr 1; omega
        have := Int.mul_le_mul_of_nonneg_right hge (show (0 : Int) ≤ 4294967296 ^ ((lb 4294967296 x).length - (lb 4294967296 y).length + 1) from Int.pow_nonneg (by decide))
        have hk : az x < az y * 4294967296 ^ ((lb 4294967296 x).length - (lb 4294967296 y).length + 1) := Int.lt_of_lt_of_le (by rw [← e]; exact vx) this
        rw [Int.mul_comm]
        exact hk
theorem div_of {x y q r : Int} (h : r + y * q = x) (hr : (0 < y ∧ 0 ≤ r ∧ r < y) ∨ (y < 0 ∧ y < r ∧ r ≤ 0)) : dq x y = q ∧ dr x y = r := by
  unfold dq dr
  rcases hr with ⟨h1, h2, h3⟩ | ⟨h1, h2, h3⟩
  · rw [if_neg (by omega), if_neg (by omega)]
    exact (Int.fdiv_fmod_unique h1).2 ⟨h, h2, h3⟩
  · rw [if_neg (by omega), if_neg (by omega)]
    exact (Int.fdiv_fmod_unique' h1).2 ⟨h, h2, h3⟩
theorem nat_le_of_lt {a b : Int} {L : Nat} (h : a.natAbs ≤ b.natAbs) (hb : b.natAbs < L) : a.natAbs < L := Nat.lt_of_le_of_lt h hb
theorem meets_div : Meets Try.prog 74 ansDiv := by
  refine meets_fn (orc_ok (l := Div.ans) ⟨meets_norm, meets_sign, meets_splitMag, meets_plus, meets_from, trivial⟩) Try.f74 Try.func74 (by kernel_rfl) (fun args r h => ?_)
  unfold ansDiv at h
  split at h
  · rename_i s l t m
    simp only [Option.some.injEq, Prod.mk.injEq, Bool.and_eq_true] at h
    obtain ⟨⟨h, k⟩, rfl⟩ := h
    refine ⟨rfl, _, noTab_all, (Div.rest _ _ _ _).trans ?_⟩
    rw [k]
    obtain ⟨x, rfl, rfl, hx⟩ := (cn_iff W_two).1 h
    obtain ⟨y, rfl, rfl, hy⟩ := (cn_iff W_two).1 k
    rw [num_lbW, num_lbW]
    by_cases h0 : y = 0
    · subst h0
      have : (cmpZ 0 0 == 0) = true := rfl
      rw [this]
      simp only [cond_true, dq, dr, dc, if_true]
      rfl
    · obtain ⟨q1, q2, q3, r1, r2, r3⟩ := split_vals hx hy h0
      have hc : (cmpZ y 0 == 0) = false := by
        rw [beq_eq_false_iff_ne]; unfold cmpZ
        split
        · omega
        · split <;> omega
      have ay : 0 < az y := by unfold az; omega
      have lx := lb_length hx
      have m0 := Int.emod_nonneg (az x) (show az y ≠ 0 by omega)
      have m1 := Int.emod_lt_of_pos (az x) ay
      have d0 : 0 ≤ az x / az y := Int.ediv_nonneg (az_nonneg x) (by omega)
      have d1 : az x / az y ≤ az x := Int.ediv_le_self _ (az_nonneg x)
      have hde := Int.emod_add_mul_ediv (az x) (az y)
      have hR := num_of (s := sg x) r3
      have hQ := num_of (s := (!sg x == sg y)) q3
      have hxx : az x = x.natAbs := rfl
      have hyy : az y = y.natAbs := rfl
      have sR : (num 4294967296 (sg x) (splitR (lb 4294967296 x) (lb 4294967296 y))).natAbs < Lim := by
        refine nat_le_of_lt ?_ hy
        rw [hR]; cases sg x <;> simp only [cond_true, cond_false] <;> omega
      have sQ : (num 4294967296 (!sg x == sg y) (splitQ (lb 4294967296 x) (lb 4294967296 y))).natAbs < Lim := by
        refine nat_le_of_lt ?_ hx
        rw [hQ]; cases (!sg x == sg y) <;> simp only [cond_true, cond_false] <;> omega
      rw [hc, clW hx, clW hy, val_lb, decide_eq_true ay, decide_eq_true (show (lb 4294967296 x).length ≤ 50000 by omega), q1, q2, r1, r2, N_eq, N_eq, cnW, cnW, decide_eq_true sR, decide_eq_true sQ]
      have hc0 : (cmpZ (num 4294967296 (sg x) (splitR (lb 4294967296 x) (lb 4294967296 y))) 0 != 0) = decide (num 4294967296 (sg x) (splitR (lb 4294967296 x) (lb 4294967296 y)) ≠ 0) := by
        rw [Bool.eq_iff_iff, bne_iff_ne, decide_eq_true_eq]; unfold cmpZ
        split
        · constructor <;> intro <;> omega
        · split
          · constructor <;> intro <;> omega
          · constructor <;> intro <;> omega
      rw [hc0, hR, hQ]
      simp only [Bool.and_self, Bool.and_true, Bool.true_and, cond_true, cond_false, dc, if_neg h0]
      generalize hA : az x / az y = A at *
      generalize hB : az x % az y = B at *
      rcases sg_cases x with ⟨a1, a2, a3⟩ | ⟨a1, a2, a3⟩ <;> rcases sg_cases y with ⟨b1, b2, b3⟩ | ⟨b1, b2, b3⟩ <;> rw [a1, b1] <;> rw [a3, b3] at hde <;> rw [b3] at m1 <;> by_cases hB0 : B = 0
      all_goals simp only [beq_self_eq_true, Bool.true_beq, Bool.false_beq, Bool.not_true, Bool.not_false, cond_true, cond_false, Bool.not_eq_true', ne_eq]
      · obtain ⟨u1, u2⟩ := div_of (x := x) (y := y) (q := A) (r := -B) (by rw [Int.neg_mul] at hde; omega) (by omega)
        rw [u1, u2, hB0]; simp
      · obtain ⟨u1, u2⟩ := div_of (x := x) (y := y) (q := A) (r := -B) (by rw [Int.neg_mul] at hde; omega) (by omega)
        rw [u1, u2, decide_eq_true (by omega)]; simp
      · obtain ⟨u1, u2⟩ := div_of (x := x) (y := y) (q := -A) (r := -B) (by rw [Int.mul_neg]; omega) (by omega)
        rw [u1, u2, hB0]; simp
      · obtain ⟨u1, u2⟩ := div_of (x := x) (y := y) (q := -A + -1) (r := -B + y) (by rw [Int.mul_add, Int.mul_neg, Int.mul_neg, Int.mul_one]; omega) (by omega)
        rw [u1, u2, decide_eq_true (by omega)]; simp
      · obtain ⟨u1, u2⟩ := div_of (x := x) (y := y) (q := -A) (r := B) (by rw [Int.neg_mul] at hde; rw [Int.mul_neg]; omega) (by omega)
        rw [u1, u2, hB0]; simp
      · obtain ⟨u1, u2⟩ := div_of (x := x) (y := y) (q := -A + -1) (r := B + y) (by rw [Int.neg_mul] at hde; rw [Int.mul_add, Int.mul_neg, Int.mul_neg, Int.mul_one]; omega) (by omega)
        rw [u1, u2, decide_eq_true (by omega)]; simp
      · obtain ⟨u1, u2⟩ := div_of (x := x) (y := y) (q := A) (r := B) hde (by omega)
        rw [u1, u2, hB0]; simp
      · obtain ⟨u1, u2⟩ := div_of (x := x) (y := y) (q := A) (r := B) hde (by omega)
        rw [u1, u2, decide_eq_true (by omega)]; simp
  · cases h
namespace Gcd
theorem loop (s : Bool) (l : List Int) (t : Bool) (m : List Int) (x y : Nat) (hx : x < Lim) (hy : y < Lim) :
    ∃ e S1, Ends T orc L0 D0 (st0 s l t m (sg x) (lb 4294967296 x) (sg y) (lb 4294967296 y)) e S1 ∧ (e = .exit 0 ∧ ∃ b k, S1 = st0 s l t m (sg (Nat.gcd x y : Nat)) (lb 4294967296 (Nat.gcd x y : Nat)) b k) := by
  refine loop_inv2 (fun (a b : Nat) => st0 s l t m (sg a) (lb 4294967296 a) (sg b) (lb 4294967296 b)) (fun a b => a < Lim ∧ b < Lim ∧ Nat.gcd a b = Nat.gcd x y) (fun a b => b)
    (fun e S1 => e = .exit 0 ∧ ∃ b k, S1 = st0 s l t m (sg (Nat.gcd x y : Nat)) (lb 4294967296 (Nat.gcd x y : Nat)) b k) isL0 ?_ x y ⟨hx, hy, rfl⟩
  intro a b ⟨ha, hb, hg⟩
  refine ⟨noTab, noTab_all, lands_of (round0 ..) ?_⟩
  have sa : ((a : Int)).natAbs < Lim := by rw [Int.natAbs_natCast]; exact ha
  have sb : ((b : Int)).natAbs < Lim := by rw [Int.natAbs_natCast]; exact hb
  rw [cnW, decide_eq_true sb, num_lbW]
  simp only [cond_true]
  by_cases h0 : b = 0
  · subst h0
    have : (cmpZ ((0 : Nat) : Int) 0 != 0) = false := rfl
    rw [this]
    simp only [cond_false, lands_some, Turns2]
    rw [← hg, Nat.gcd_zero_right]
    exact ⟨trivial, _, _, rfl⟩
  · have hc : (cmpZ (b : Int) 0 != 0) = true := by
      rw [bne_iff_ne]; unfold cmpZ; rw [if_neg (by omega), if_pos (by omega)]; decide
    obtain ⟨q1, q2, q3, r1, r2, r3⟩ := split_vals sa sb (by omega)
    have lx := lb_length sa
    have eb : az (b : Int) = (b : Int) := rfl
    have ea : az (a : Int) = (a : Int) := rfl
    have hR := num_of (s := false) r3
    rw [ea, eb] at hR
    rw [hc, clW sa, clW sb, val_lb, eb, decide_eq_true (show (0 : Int) < (b : Int) by omega), decide_eq_true (show (lb 4294967296 (a : Int)).length ≤ 50000 by omega), r1, r2, hR]
    simp only [Bool.and_self, cond_true, cond_false, lands_some, Turns2]
    refine ⟨b, a % b, by rw [Int.natCast_emod], ⟨hb, Nat.lt_of_le_of_lt (Nat.mod_le a b) ha, ?_⟩, Nat.mod_lt _ (by omega)⟩
    rw [← hg, Nat.gcd_comm b, ← Nat.gcd_rec, Nat.gcd_comm]
end Gcd
theorem meets_gcd : Meets Try.prog 22 ansGcd := by
  refine meets_fn (orc_ok (l := Gcd.ans) ⟨meets_norm, meets_abs, meets_sign, meets_splitMag, trivial⟩) Try.f22 Try.func22 (by kernel_rfl) (fun args r h => ?_)
  unfold ansGcd at h
  split at h
  · rename_i s l t m
    simp only [Option.some.injEq, Prod.mk.injEq, Bool.and_eq_true] at h
    obtain ⟨⟨h, k⟩, rfl⟩ := h
    obtain ⟨x, hs, hl, hx⟩ := (cn_iff W_two).1 h
    obtain ⟨y, ht, hm, hy⟩ := (cn_iff W_two).1 k
    obtain ⟨e1, S1, hE1, rfl, b, q, rfl⟩ := Gcd.loop s l t m x.natAbs y.natAbs hx hy
    have nx : num 4294967296 s l = x := by rw [hs, hl]; exact num_lbW x
    have ny : num 4294967296 t m = y := by rw [ht, hm]; exact num_lbW y
    refine ⟨rfl, _, tabOf_all _, (Gcd.rest s l t m (sg (Nat.gcd x.natAbs y.natAbs : Nat)) (lb 4294967296 (Nat.gcd x.natAbs y.natAbs : Nat)) b q).trans ?_⟩
    have sx : sg ((x.natAbs : Nat) : Int) = false := decide_eq_false (by omega)
    have sy : sg ((y.natAbs : Nat) : Int) = false := decide_eq_false (by omega)
    rw [sx, sy] at hE1
    rw [h, k, nx, ny]
    have e := cdec_true hE1
    unfold az
    rw [e]
    rfl
  · cases h
end Go.Abs
end
section
/- What the reference's functions of layer 1 answer: digits (1). -/
namespace Go.Abs
open Go.Proofs Go.Dig
theorem T_pos : (0 : Int) < 10 := by decide
theorem T_two : (2 : Int) ≤ 10 := by decide
theorem M_num {s : Bool} {l : List Int} (h : okB 10 l = true) : M (num 10 s l) = .agg [.bool (s && !(strip l).isEmpty), .ints .i64 (strip l)] := by
  unfold M
  rw [lb_num T_two h, sg_num T_two h]
namespace RTrim
theorem loop (neg : Bool) (l : List Int) (hl : l.length ≤ 100000) :
    ∃ e S1, Ends T noOrc L0 D0 (st0 neg l l.length) e S1 ∧ (e = .exit 0 ∧ ∃ k : Nat, S1 = st0 neg l k ∧ k ≤ l.length ∧ l.take k = strip l) := by
  refine loop_inv1 (fun (i : Nat) => st0 neg l i) (fun i => i ≤ l.length ∧ strip (l.take i) = strip l) (fun i => i)
    (fun e S1 => e = .exit 0 ∧ ∃ k : Nat, S1 = st0 neg l k ∧ k ≤ l.length ∧ l.take k = strip l) isL0 ?_ l.length ?_
  · intro i ⟨h1, h2⟩
    refine ⟨noTab, noTab_all, ?_⟩
    rw [round0]
    cases i with
    | zero =>
      simp only [lands_bif, lands_some, lands_none, Turns1, Turns2, Turns3, Turns4, Turns5, Turns6, Turns7, Turns8, eq_bif, Option.some.injEq, reduceCtorEq, cond_true, cond_false, Bool.eq_false_iff, ne_eq, inB_iff, decide_eq_true_eq, Bool.and_eq_true, Bool.or_eq_true, Bool.not_eq_true', beq_iff_eq, bne_iff_ne, true_and, and_true, true_implies, implies_true, not_true_eq_false, not_false_eq_true, false_implies, few_iff]
      refine ⟨fun h => by omega, fun _ => ⟨0, rfl, h1, ?_⟩⟩
      rw [← h2]; rfl
    | succ i =>
      simp only [lands_bif, lands_some, lands_none, Turns1, Turns2, Turns3, Turns4, Turns5, Turns6, Turns7, Turns8, eq_bif, Option.some.injEq, reduceCtorEq, cond_true, cond_false, Bool.eq_false_iff, ne_eq, inB_iff, decide_eq_true_eq, Bool.and_eq_true, Bool.or_eq_true, Bool.not_eq_true', beq_iff_eq, bne_iff_ne, true_and, and_true, true_implies, implies_true, not_true_eq_false, not_false_eq_true, false_implies, few_iff, wi_pred (show i < 4611686018427387904 by omega)]
      simp only [rd_toNat, Int.toNat_natCast]
      repeat' (first | apply And.intro | intro _)
      all_goals try omega
      · rename_i h3
        exact ⟨i, rfl, ⟨by omega, by rw [← h2, take_succ_getD l (by omega), h3, strip_zero]⟩, by omega⟩
      · rename_i h3
        refine ⟨i + 1, rfl, h1, ?_⟩
        rw [← h2, strip_of_last]
        rw [take_succ_getD l (by omega), List.getLast?_append]
        simpa using h3
  · exact ⟨Nat.le_refl _, by rw [List.take_length]⟩
end RTrim
theorem meets_rtrim : Meets Try.prog 85 anrTrim := by
  refine meets_fn noOrc_ok Try.f85 Try.func85 (by kernel_rfl) (fun args r h => ?_)
  unfold anrTrim at h
  split at h
  · rename_i s l
    simp only [Option.some.injEq, Prod.mk.injEq, Bool.and_eq_true, few_iff] at h
    obtain ⟨⟨hl, ol⟩, rfl⟩ := h
    obtain ⟨e1, S1, hE1, rfl, k, rfl, hk, hs⟩ := RTrim.loop s l hl
    refine ⟨rfl, _, tabOf_all _, (RTrim.rest s l k).trans ?_⟩
    rw [M_num ol, ← hs]
    simp only [cdec_true hE1, cond_true, Int.toNat_natCast, List.nil_append]
    cases k with
    | zero => simp
    | succ k =>
      have hne : (l.take (k + 1)).isEmpty = false := by
        rw [List.isEmpty_eq_false_iff]
        intro h0
        have := congrArg List.length h0
        rw [List.length_take, Nat.min_eq_left hk, List.length_nil] at this
        omega
      have e1 : (((k + 1 : Nat) : Int) == 0) = false := by rw [beq_eq_false_iff_ne]; omega
      rw [hne]
      refine (bF e1).trans ((bT ?_).trans ((bT ?_).trans ?_))
      · rw [Bool.and_eq_true, decide_eq_true_eq, decide_eq_true_eq]; omega
      · rw [Bool.true_and, decide_eq_true_eq, List.length_take]; omega
      · simp
  · cases h
namespace RCmpMag
theorem at_lt {a b : List Int} {i : Nat} (ha : okB 10 a = true) (hb : okB 10 b = true) (hd : a.drop (i + 1) = b.drop (i + 1)) (hai : i < a.length) (hbi : i < b.length) (h : a.getD i 0 < b.getD i 0) : val 10 a < val 10 b := by
  have e1 : val 10 a = val 10 (a.take i) + 10 ^ i * a.getD i 0 + 10 ^ (i + 1) * val 10 (a.drop (i + 1)) := by
    conv => lhs; rw [← List.take_append_drop (i + 1) a]
    rw [val_append, List.length_take, Nat.min_eq_left (by omega), val_take_succ]
  have e2 : val 10 b = val 10 (b.take i) + 10 ^ i * b.getD i 0 + 10 ^ (i + 1) * val 10 (b.drop (i + 1)) := by
    conv => lhs; rw [← List.take_append_drop (i + 1) b]
    rw [val_append, List.length_take, Nat.min_eq_left (by omega), val_take_succ]
  rw [e1, e2, hd]
  have h1 := val_lt T_pos (okB_take ha i)
  rw [List.length_take, Nat.min_eq_left (by omega)] at h1
  have h2 := val_nonneg T_pos (okB_take hb i)
  have h3 : (10 : Int) ^ i * (a.getD i 0 + 1) ≤ 10 ^ i * b.getD i 0 := Int.mul_le_mul_of_nonneg_left (by omega) (Int.pow_nonneg (by decide))
  rw [Int.mul_add, Int.mul_one] at h3
  omega
def Post (a b : List Int) (e : Ex) (S1 : St) : Prop := (e = .exit 0 ∧ a = b ∧ ∃ x, S1 = st0 a b x) ∨ (e = .ret ∧ ∃ x c, S1 = st0x0 a b c x ∧ c = cmpZ (val 10 a) (val 10 b))
theorem loop (a b : List Int) (ha : okB 10 a = true) (hb : okB 10 b = true) (hab : a.length = b.length) (hl : a.length ≤ 100000) :
    ∃ e S1, Ends T noOrc L0 D0 (st0 a b ((a.length : Int) - 1)) e S1 ∧ Post a b e S1 := by
  refine loop_inv1 (fun (i : Nat) => st0 a b ((i : Int) - 1)) (fun i => i ≤ a.length ∧ a.drop i = b.drop i) (fun i => i) (Post a b) isL0 ?_ a.length ?_
  · intro i ⟨h1, h2⟩
    refine ⟨noTab, noTab_all, ?_⟩
    rw [round0]
    cases i with
    | zero =>
      simp only [lands_bif, lands_some, lands_none, Turns1, Turns2, Turns3, Turns4, Turns5, Turns6, Turns7, Turns8, eq_bif, Option.some.injEq, reduceCtorEq, cond_true, cond_false, Bool.eq_false_iff, ne_eq, inB_iff, decide_eq_true_eq, Bool.and_eq_true, Bool.or_eq_true, Bool.not_eq_true', beq_iff_eq, bne_iff_ne, true_and, and_true, true_implies, implies_true, not_true_eq_false, not_false_eq_true, false_implies, few_iff]
      refine ⟨fun h => by omega, fun _ => .inl ⟨rfl, by simpa using h2, _, rfl⟩⟩
    | succ i =>
      have e0 : (((i + 1 : Nat) : Int) - 1) = (i : Int) := by omega
      rw [e0]
      simp only [lands_bif, lands_some, lands_none, Turns1, Turns2, Turns3, Turns4, Turns5, Turns6, Turns7, Turns8, eq_bif, Option.some.injEq, reduceCtorEq, cond_true, cond_false, Bool.eq_false_iff, ne_eq, inB_iff, decide_eq_true_eq, Bool.and_eq_true, Bool.or_eq_true, Bool.not_eq_true', beq_iff_eq, bne_iff_ne, true_and, and_true, true_implies, implies_true, not_true_eq_false, not_false_eq_true, false_implies, few_iff]
      simp only [rd_toNat, Int.toNat_natCast]
      repeat' (first | apply And.intro | intro _)
      all_goals try omega
      · rename_i h3
        have := at_lt ha hb h2 (by omega) (by omega) h3
        exact .inr ⟨rfl, _, _, rfl, by unfold cmpZ; rw [if_pos this]⟩
      · rename_i h3
        have := at_lt hb ha h2.symm (by omega) (by omega) h3
        exact .inr ⟨rfl, _, _, rfl, by unfold cmpZ; rw [if_neg (by omega), if_pos this]⟩
      · rename_i h3 _ _ h4
        refine ⟨i, by rw [w64 (by omega) (by omega)], ⟨by omega, ?_⟩, by omega⟩
        have e3 : a.getD i 0 = b.getD i 0 := by omega
        rw [List.drop_eq_getElem_cons (by omega), List.drop_eq_getElem_cons (by omega : i < b.length), h2]
        rw [getD_at (by omega), getD_at (by omega)] at e3
        rw [e3]
  · exact ⟨Nat.le_refl _, by rw [List.drop_length, hab, List.drop_length]⟩
end RCmpMag
theorem meets_rcmpMag : Meets Try.prog 86 anrCmpMag := by
  refine meets_fn noOrc_ok Try.f86 Try.func86 (by kernel_rfl) (fun args r h => ?_)
  unfold anrCmpMag at h
  split at h
  · rename_i a b
    simp only [Option.some.injEq, Prod.mk.injEq, Bool.and_eq_true] at h
    obtain ⟨⟨ha, hb⟩, rfl⟩ := h
    have oa := cl_ok T_two ha
    have ob := cl_ok T_two hb
    have la := (cl_iff.1 ha).1
    have lb := (cl_iff.1 hb).1
    have key : (a.length : Int) ≠ b.length → cmpZ (val 10 a) (val 10 b) = if a.length < b.length then -1 else 1 := by
      intro h
      unfold cmpZ
      by_cases hlt : a.length < b.length
      · have := val_lt_of_length T_two oa ob (cl_last hb) hlt
        rw [if_pos this, if_pos hlt]
      · have := val_lt_of_length T_two ob oa (cl_last ha) (by omega)
        rw [if_neg (by omega), if_pos this, if_neg hlt]
    refine ⟨rfl, ?_⟩
    have hw : IntKind.i64.wrap ((a.length : Int) - 1) = (a.length : Int) - 1 := w64 (by omega) (by omega)
    by_cases hab : a.length = b.length
    · obtain ⟨e1, S1, hE1, ⟨rfl, hab2, x, rfl⟩ | ⟨rfl, x, c, rfl, hc⟩⟩ := RCmpMag.loop a b oa ob hab la
      · refine ⟨_, tabOf_all _, (RCmpMag.rest_1 a b x).trans ?_⟩
        rw [hw]
        simp only [lands_bif, lands_some, lands_none, Turns1, Turns2, Turns3, Turns4, Turns5, Turns6, Turns7, Turns8, eq_bif, Option.some.injEq, reduceCtorEq, cond_true, cond_false, Bool.eq_false_iff, ne_eq, inB_iff, decide_eq_true_eq, Bool.and_eq_true, Bool.or_eq_true, Bool.not_eq_true', beq_iff_eq, bne_iff_ne, true_and, and_true, true_implies, implies_true, not_true_eq_false, not_false_eq_true, false_implies, few_iff, cdec_true hE1]
        refine ⟨fun h => absurd (by omega) h, fun _ => ?_⟩
        rw [hab2]; unfold cmpZ; simp
      · refine ⟨_, tabOf_all _, (RCmpMag.rest_0 a b c x).trans ?_⟩
        rw [hw]
        simp only [lands_bif, lands_some, lands_none, Turns1, Turns2, Turns3, Turns4, Turns5, Turns6, Turns7, Turns8, eq_bif, Option.some.injEq, reduceCtorEq, cond_true, cond_false, Bool.eq_false_iff, ne_eq, inB_iff, decide_eq_true_eq, Bool.and_eq_true, Bool.or_eq_true, Bool.not_eq_true', beq_iff_eq, bne_iff_ne, true_and, and_true, true_implies, implies_true, not_true_eq_false, not_false_eq_true, false_implies, few_iff, cdec_true hE1]
        refine ⟨fun h => absurd (by omega) h, fun _ => ?_⟩
        rw [hc]
    · refine ⟨_, tabOf_all _, (RCmpMag.rest_1 a b 0).trans ?_⟩
      simp only [lands_bif, lands_some, lands_none, Turns1, Turns2, Turns3, Turns4, Turns5, Turns6, Turns7, Turns8, eq_bif, Option.some.injEq, reduceCtorEq, cond_true, cond_false, Bool.eq_false_iff, ne_eq, inB_iff, decide_eq_true_eq, Bool.and_eq_true, Bool.or_eq_true, Bool.not_eq_true', beq_iff_eq, bne_iff_ne, true_and, and_true, true_implies, implies_true, not_true_eq_false, not_false_eq_true, false_implies, few_iff]
      refine ⟨fun h => ?_, fun h => absurd (by omega) h⟩
      rw [key h]
      refine ⟨fun h => by rw [if_pos (by omega)], fun h => by rw [if_neg (by omega)]⟩
  · cases h

theorem cl_of_num {z : Int} {l : List Int} (hl : l = lb 10 z) (hz : z.natAbs < Lim) : cl 10 l = true := by rw [hl]; exact cl_lb10 hz
theorem meets_rcmp : Meets Try.prog 69 anrCmp := by
  refine meets_fn (orc_ok (l := RCmp.ans) ⟨meets_rcmpMag, trivial⟩) Try.f69 Try.func69 (by kernel_rfl) (fun args r h => ?_)
  unfold anrCmp at h
  split at h
  · rename_i s l t m
    simp only [Option.some.injEq, Prod.mk.injEq, Bool.and_eq_true] at h
    obtain ⟨⟨h1, h2⟩, rfl⟩ := h
    obtain ⟨x, hs, hl, hx⟩ := (cn_iff T_two).1 h1
    obtain ⟨y, ht, hm, hy⟩ := (cn_iff T_two).1 h2
    refine ⟨rfl, _, noTab_all, (RCmp.rest s l t m).trans ?_⟩
    rw [cl_of_num hl hx, cl_of_num hm hy, show num 10 s l = x by rw [hs, hl]; exact num_lb10 x, show num 10 t m = y by rw [ht, hm]; exact num_lb10 y, show val 10 l = az x by rw [hl]; exact val_lb10 x, show val 10 m = az y by rw [hm]; exact val_lb10 y]
    rcases sg_cases x with ⟨a1, a2, a3⟩ | ⟨a1, a2, a3⟩ <;> rcases sg_cases y with ⟨b1, b2, b3⟩ | ⟨b1, b2, b3⟩ <;> rw [hs, ht, a1, b1, a3, b3] <;> simp only [Bool.not_true, Bool.not_false, Bool.and_self, cond_true, cond_false, Option.some.injEq, Res.val.injEq, AV.int.injEq, true_and] <;> unfold cmpZ <;> (repeat' split) <;> omega
  · cases h
end Go.Abs
end
section
/- What the reference's functions of layer 1 answer: digits (2). -/
namespace Go.Abs
open Go.Proofs Go.Dig
theorem tm10 {n : Int} (h : 0 ≤ n) : n.tmod 10 = n % 10 := Int.tmod_eq_emod_of_nonneg h
theorem td10 {n : Int} (h : 0 ≤ n) : n.tdiv 10 = n / 10 := Int.tdiv_eq_ediv_of_nonneg h
theorem okB_snoc {B : Int} {l : List Int} {d : Int} (h : okB B l = true) (hd : 0 ≤ d ∧ d < B) : okB B (l ++ [d]) = true := okB_app h (okB_one hd)
theorem val_snoc (B : Int) (l : List Int) (d : Int) : val B (l ++ [d]) = val B l + B ^ l.length * d := by rw [val_append, val_one]
namespace RPlusMag
def Inv (a b : List Int) (i : Nat) (c : Int) (l : List Int) : Prop :=
  l.length = i ∧ okB 10 l = true ∧ 0 ≤ c ∧ c ≤ 1 ∧ val 10 l + 10 ^ i * c = val 10 (a.take i) + val 10 (b.take i) ∧ (i ≤ max a.length b.length ∨ (i = max a.length b.length + 1 ∧ c = 0 ∧ (10 : Int) ^ max a.length b.length ≤ val 10 a + val 10 b))
theorem Inv.next {a b l : List Int} {n : Nat} {c t : Int} (oa : okB 10 a = true) (ob : okB 10 b = true) (h : Inv a b n c l) (hn : n < a.length ∨ n < b.length ∨ c > 0) (e : t = c + a.getD n 0 + b.getD n 0) : Inv a b (n + 1) (t / 10) (l ++ [t % 10]) := by
  obtain ⟨h1, h2, h3, h4, h5, h6⟩ := h
  have hai := getD_ok T_pos oa n
  have hbi := getD_ok T_pos ob n
  refine ⟨by rw [List.length_append, h1]; rfl, okB_snoc h2 (by omega), by omega, by omega, ?_, ?_⟩
  · rw [val_snoc, h1, val_take_succ, val_take_succ, Int.pow_succ]
    have := carry_step 10 (10 ^ n) (val 10 l) _ c (t % 10) (t / 10) (a.getD n 0 + b.getD n 0) h5 (by omega)
    rw [Int.mul_add] at this
    omega
  · rcases h6 with h6 | ⟨h6, h7, h8⟩
    · by_cases hm : n < max a.length b.length
      · left; omega
      · right
        obtain rfl : n = max a.length b.length := by omega
        rw [getD_none (l := a) (by omega), getD_none (l := b) (by omega)] at e
        obtain rfl : c = 1 := by omega
        refine ⟨rfl, by omega, ?_⟩
        rw [List.take_of_length_le (by omega), List.take_of_length_le (by omega), Int.mul_one] at h5
        have := val_nonneg T_pos h2
        omega
    · omega
theorem Inv.fin {a b l : List Int} {i : Nat} {c : Int} (h : Inv a b i c l) (ha : a.length ≤ i) (hb : b.length ≤ i) (hc : c ≤ 0) : l = plusD a b := by
  obtain ⟨h1, h2, h3, h4, h5, h6⟩ := h
  obtain rfl : c = 0 := by omega
  rw [List.take_of_length_le ha, List.take_of_length_le hb, Int.mul_zero, Int.add_zero] at h5
  unfold plusD
  rcases h6 with h6 | ⟨h6, h7, h8⟩
  · obtain rfl : i = max a.length b.length := by omega
    have h9 := val_lt T_pos h2
    rw [h1] at h9
    rw [bT (decide_eq_true (by omega))]
    exact dig_eq T_pos h2 h1 h5
  · rw [bF (decide_eq_false (by omega))]
    exact dig_eq T_pos h2 (by omega) h5
theorem loop (a b : List Int) (ha : okB 10 a = true) (hb : okB 10 b = true) (hla : a.length ≤ 100000) (hlb : b.length ≤ 100000) :
    ∃ e S1, Ends T noOrc L0 D0 (st0 a b 0 0 []) e S1 ∧ (e = .exit 0 ∧ ∃ c x, S1 = st0 a b c x (plusD a b)) := by
  refine loop_inv3 (fun c (i : Nat) l => st0 a b c i l) (fun c i l => Inv a b i c l) (fun c i l => 200000 - i)
    (fun e S1 => e = .exit 0 ∧ ∃ c x, S1 = st0 a b c x (plusD a b)) isL0 ?_ 0 0 [] ?_
  · intro c i l h
    obtain ⟨h1, h2, h3, h4, h5, h6⟩ := id h
    refine ⟨noTab, noTab_all, ?_⟩
    have hbi := getD_ok T_pos hb i
    have hai := getD_ok T_pos ha i
    rw [round0]
    have e1 : IntKind.i64.wrap (c + a.getD i 0) = c + a.getD i 0 := w64 (by omega) (by omega)
    have e2 : IntKind.i64.wrap (c + a.getD i 0 + b.getD i 0) = c + a.getD i 0 + b.getD i 0 := w64 (by omega) (by omega)
    have e3 : IntKind.i64.wrap (c + b.getD i 0) = c + b.getD i 0 := w64 (by omega) (by omega)
    have m1 := tm10 (n := c + a.getD i 0) (by omega)
    have m2 := tm10 (n := c + a.getD i 0 + b.getD i 0) (by omega)
    have m3 := tm10 (n := c + b.getD i 0) (by omega)
    have m4 := tm10 h3
    have d1 := td10 (n := c + a.getD i 0) (by omega)
    have d2 := td10 (n := c + a.getD i 0 + b.getD i 0) (by omega)
    have d3 := td10 (n := c + b.getD i 0) (by omega)
    have d4 := td10 h3
    have w1 : IntKind.i64.wrap ((c + a.getD i 0) / 10) = (c + a.getD i 0) / 10 := w64 (by omega) (by omega)
    have w2 : IntKind.i64.wrap ((c + a.getD i 0 + b.getD i 0) / 10) = (c + a.getD i 0 + b.getD i 0) / 10 := w64 (by omega) (by omega)
    have w3 : IntKind.i64.wrap ((c + b.getD i 0) / 10) = (c + b.getD i 0) / 10 := w64 (by omega) (by omega)
    have w4 : IntKind.i64.wrap (c / 10) = c / 10 := w64 (by omega) (by omega)
    simp only [lands_bif, lands_some, lands_none, Turns1, Turns2, Turns3, Turns4, Turns5, Turns6, Turns7, Turns8, eq_bif, Option.some.injEq, reduceCtorEq, cond_true, cond_false, Bool.eq_false_iff, ne_eq, inB_iff, decide_eq_true_eq, Bool.and_eq_true, Bool.or_eq_true, Bool.not_eq_true', beq_iff_eq, bne_iff_ne, true_and, and_true, true_implies, implies_true, not_true_eq_false, not_false_eq_true, false_implies, few_iff, rd_toNat, Int.toNat_natCast, List.length_append, List.length_cons, List.length_nil, e1, e2, e3, m1, m2, m3, m4, d1, d2, d3, d4, w1, w2, w3, w4, wi_succ (show i < 4611686018427387904 by omega)]
    have za : ¬ (i : Int) < (a.length : Int) → a.getD i 0 = 0 := fun h => getD_none (by omega)
    have zb : ¬ (i : Int) < (b.length : Int) → b.getD i 0 = 0 := fun h => getD_none (by omega)
    repeat' (first | apply And.intro | intro _)
    all_goals try omega
    all_goals first
      | exact ⟨_, i + 1, _, rfl, h.next ha hb (by omega) (by omega), by omega⟩
      | exact ⟨_, _, by rw [h.fin (by omega) (by omega) (by omega)]⟩
      | skip
  · simp [Inv, okB, val]
end RPlusMag
theorem meets_rplus : Meets Try.prog 99 anrPlusMag := by
  refine meets_fn noOrc_ok Try.f99 Try.func99 (by kernel_rfl) (fun args r h => ?_)
  unfold anrPlusMag at h
  split at h
  · rename_i a b
    simp only [Option.some.injEq, Prod.mk.injEq, Bool.and_eq_true, few_iff] at h
    obtain ⟨⟨⟨⟨ha, hb⟩, oa⟩, ob⟩, rfl⟩ := h
    obtain ⟨e1, S1, hE1, rfl, c, x, rfl⟩ := RPlusMag.loop a b oa ob ha hb
    exact ⟨rfl, _, tabOf_all _, (RPlusMag.rest a b _ c x).trans (bT (cdec_true hE1))⟩
  · cases h
namespace RLessMag
def Inv (a b : List Int) (n : Nat) (c : Int) (l : List Int) : Prop :=
  n ≤ a.length ∧ l.length = n ∧ okB 10 l = true ∧ 0 ≤ c ∧ c ≤ 1 ∧ val 10 l - 10 ^ n * c = val 10 (a.take n) - val 10 (b.take n)
theorem Inv.next {a b l : List Int} {n : Nat} {c d c' : Int} (h : Inv a b n c l) (hn : n < a.length) (hd : 0 ≤ d ∧ d < 10) (hc : 0 ≤ c' ∧ c' ≤ 1) (e : a.getD n 0 - b.getD n 0 - c = d - 10 * c') : Inv a b (n + 1) c' (l ++ [d]) := by
  obtain ⟨h1, h2, h3, h4, h5, h6⟩ := h
  refine ⟨by omega, by rw [List.length_append, h2]; rfl, okB_snoc h3 hd, hc.1, hc.2, ?_⟩
  rw [val_snoc, h2, val_take_succ, val_take_succ, Int.pow_succ]
  have := carry_step 10 (10 ^ n) (val 10 l) (val 10 (a.take n) - val 10 (b.take n)) (-c) d (-c') (a.getD n 0 - b.getD n 0) (by rw [← h6, Int.mul_neg]; omega) (by omega)
  rw [Int.mul_neg, Int.mul_sub] at this
  omega
theorem Inv.fin {a b l : List Int} {c : Int} (hab : b.length ≤ a.length) (hle : val 10 b ≤ val 10 a) (h : Inv a b a.length c l) : l = lessD a b := by
  obtain ⟨h1, h2, h3, h4, h5, h6⟩ := h
  rw [List.take_of_length_le (Nat.le_refl _), List.take_of_length_le hab] at h6
  have h7 := val_lt T_pos h3
  rw [h2] at h7
  have : c = 0 := by
    rcases (by omega : c = 0 ∨ c = 1) with h | h
    · exact h
    · rw [h, Int.mul_one] at h6; omega
  rw [this] at h6
  exact dig_eq T_pos h3 h2 (by omega)
theorem loop (a b : List Int) (ha : okB 10 a = true) (hb : okB 10 b = true) (hla : a.length ≤ 100000) (hab : b.length ≤ a.length) (hle : val 10 b ≤ val 10 a) :
    ∃ e S1, Ends T noOrc L0 D0 (st0 a b 0 0 []) e S1 ∧ (e = .exit 0 ∧ ∃ c x, S1 = st0 a b c x (lessD a b)) := by
  refine loop_inv3 (fun c (i : Nat) l => st0 a b c i l) (fun c i l => Inv a b i c l) (fun c i l => a.length - i)
    (fun e S1 => e = .exit 0 ∧ ∃ c x, S1 = st0 a b c x (lessD a b)) isL0 ?_ 0 0 [] ?_
  · intro c i l h
    obtain ⟨h1, h2, h3, h4, h5, h6⟩ := id h
    refine ⟨noTab, noTab_all, ?_⟩
    have hbi := getD_ok T_pos hb i
    have hai := getD_ok T_pos ha i
    rw [round0]
    have e1 : IntKind.i64.wrap (a.getD i 0 - c) = a.getD i 0 - c := w64 (by omega) (by omega)
    have e2 : IntKind.i64.wrap (a.getD i 0 - c - b.getD i 0) = a.getD i 0 - c - b.getD i 0 := w64 (by omega) (by omega)
    have e3 : IntKind.i64.wrap (a.getD i 0 - c + 10) = a.getD i 0 - c + 10 := w64 (by omega) (by omega)
    have e4 : IntKind.i64.wrap (a.getD i 0 - c - b.getD i 0 + 10) = a.getD i 0 - c - b.getD i 0 + 10 := w64 (by omega) (by omega)
    simp only [lands_bif, lands_some, lands_none, Turns1, Turns2, Turns3, Turns4, Turns5, Turns6, Turns7, Turns8, eq_bif, Option.some.injEq, reduceCtorEq, cond_true, cond_false, Bool.eq_false_iff, ne_eq, inB_iff, decide_eq_true_eq, Bool.and_eq_true, Bool.or_eq_true, Bool.not_eq_true', beq_iff_eq, bne_iff_ne, true_and, and_true, true_implies, implies_true, not_true_eq_false, not_false_eq_true, false_implies, few_iff, rd_toNat, Int.toNat_natCast, List.length_append, List.length_cons, List.length_nil, e1, e2, e3, e4, wi_succ (show i < 4611686018427387904 by omega)]
    have zb : ¬ (i : Int) < (b.length : Int) → b.getD i 0 = 0 := fun h => getD_none (by omega)
    repeat' (first | apply And.intro | intro _)
    all_goals try omega
    all_goals first
      | exact ⟨_, i + 1, _, rfl, h.next (by omega) (by omega) (by omega) (by omega), by omega⟩
      | (obtain rfl : i = a.length := by omega
         exact ⟨_, _, by rw [h.fin hab hle]⟩)
      | skip
  · simp [Inv, okB, val]
end RLessMag
theorem meets_rless : Meets Try.prog 100 anrLessMag := by
  refine meets_fn noOrc_ok Try.f100 Try.func100 (by kernel_rfl) (fun args r h => ?_)
  unfold anrLessMag at h
  split at h
  · rename_i a b
    simp only [Option.some.injEq, Prod.mk.injEq, Bool.and_eq_true, few_iff, decide_eq_true_eq] at h
    obtain ⟨⟨⟨⟨⟨⟨ha, hb⟩, oa⟩, ob⟩, hab⟩, hle⟩, rfl⟩ := h
    obtain ⟨e1, S1, hE1, rfl, c, x, rfl⟩ := RLessMag.loop a b oa ob ha hab hle
    exact ⟨rfl, _, tabOf_all _, (RLessMag.rest a b _ c x).trans (bT (cdec_true hE1))⟩
  · cases h
theorem meets_rabs : Meets Try.prog 93 anrAbs := by
  refine meets_fn (orc_ok (l := RAbs.ans) ⟨meets_rtrim, trivial⟩) Try.f93 Try.func93 (by kernel_rfl) (fun args r h => ?_)
  unfold anrAbs at h
  split at h
  · rename_i s l
    simp only [Option.some.injEq, Prod.mk.injEq] at h
    obtain ⟨h1, rfl⟩ := h
    obtain ⟨x, hs, hl, hx⟩ := (cn_iff T_two).1 h1
    refine ⟨rfl, _, noTab_all, (RAbs.rest s l).trans ?_⟩
    rw [show num 10 s l = x by rw [hs, hl]; exact num_lb10 x, show num 10 false l = az x by rw [hl]; exact val_lb10 x, hl, few_lb10 hx, ok10_lb]
    rfl
  · cases h
theorem plusD_ok (a b : List Int) : okB 10 (plusD a b) = true := by
  unfold plusD
  cases decide (val 10 a + val 10 b < 10 ^ max a.length b.length) <;> exact digN_ok T_pos _ _
theorem plusD_val {a b : List Int} (oa : okB 10 a = true) (ob : okB 10 b = true) : val 10 (plusD a b) = val 10 a + val 10 b := by
  have a0 := val_nonneg T_pos oa
  have b0 := val_nonneg T_pos ob
  have a1 := val_lt T_pos oa
  have b1 := val_lt T_pos ob
  have p1 := pow_mono (B := 10) (by decide) (show a.length ≤ max a.length b.length by omega)
  have p2 := pow_mono (B := 10) (by decide) (show b.length ≤ max a.length b.length by omega)
  unfold plusD
  by_cases h : val 10 a + val 10 b < 10 ^ max a.length b.length
  · rw [decide_eq_true h]
    exact val_digN T_pos _ _ (by omega) h
  · rw [decide_eq_false h]
    exact val_digN T_pos _ _ (by omega) (by rw [Int.pow_succ]; omega)
theorem lessD_ok (a b : List Int) : okB 10 (lessD a b) = true := digN_ok T_pos _ _
theorem lessD_len (a b : List Int) : (lessD a b).length = a.length := digN_length ..
theorem lessD_val {a b : List Int} (oa : okB 10 a = true) (ob : okB 10 b = true) (h : val 10 b ≤ val 10 a) : val 10 (lessD a b) = val 10 a - val 10 b :=
  val_digN T_pos _ _ (by omega) (by have := val_lt T_pos oa; have := val_nonneg T_pos ob; omega)
end Go.Abs
end
section
/- What the reference's functions of layer 1 answer: division of amounts. -/
namespace Go.Abs
open Go.Proofs Go.Dig
theorem set_zero {L : List Int} {i : Nat} (h : L.getD i 0 = 0) : L.set i ((0 : Nat) : Int) = L := by
  refine List.ext_getElem? (fun j => ?_)
  by_cases hj : i = j
  · subst hj
    by_cases hl : i < L.length
    · rw [List.getElem?_set_self hl]
      rw [getD_at hl] at h
      rw [List.getElem?_eq_getElem hl, h]; rfl
    · rw [List.getElem?_eq_none (by rw [List.length_set]; omega), List.getElem?_eq_none (by omega)]
  · rw [List.getElem?_set_ne hj]
theorem limbs_zero : limbs 10 0 = [] := rfl
theorem cl_limbs {V : Int} {n : Nat} (h0 : 0 ≤ V) (hn : V < 10 ^ n) (h : n ≤ 100000) : cl 10 (limbs 10 V) = true := by
  rw [cl_iff, limbs_val T_two h0]
  exact ⟨Nat.le_trans (limbs_length T_two h0 hn) h, rfl, h0⟩
theorem ends_peel {T : Tbl} {orc : Orc} {L : Code} {D : List Nat} {tab : Tab} {S S' S1 : St} {e : Ex} (hL : ∃ a, L = .loop a) (ht : ∀ C, TabOk T orc tab C) (h : goL T orc tab D L S = some (.normal, S')) (hn : Ends T orc L D S' e S1) : Ends T orc L D S e S1 := by
  obtain ⟨a, rfl⟩ := hL
  exact ends_next (ht _) h hn
theorem ends_leave {T : Tbl} {orc : Orc} {L : Code} {D : List Nat} {tab : Tab} {S S' : St} {i : Nat} (hL : ∃ a, L = .loop a) (ht : ∀ C, TabOk T orc tab C) (h : goL T orc tab D L S = some (.exit i, S')) : Ends T orc L D S (.exit i) S' := by
  obtain ⟨a, rfl⟩ := hL
  exact ends_exit (ht _) h
namespace RSplit
theorem innerA (a b : List Int) (i : Nat) (hi : i < a.length) (l8 : List Int) (L : List Int) (hb : cl 10 b = true) (hB : 0 < val 10 b) (R : Int) (h0 : 0 ≤ R) (hR : R < 10 * val 10 b) (hn : R < 10 ^ a.length) (ha : a.length ≤ 50000) (hL : L.length = a.length) (hz : L.getD i 0 = 0) :
    ∃ e S1, Ends T orc L1 D1 (st1 a b (limbs 10 R) i l8 L) e S1 ∧ (e = .exit 2 ∧ S1 = st1 a b (limbs 10 (R % val 10 b)) i l8 (L.set i (R / val 10 b))) := by
  have hLs : L.set i ((0 : Nat) : Int) = L := set_zero hz
  have g0 : st1 a b (limbs 10 R) i l8 L = st1 a b (limbs 10 (R - ((0 : Nat) : Int) * val 10 b)) i l8 (L.set i ((0 : Nat) : Int)) := by rw [hLs]; simp
  rw [g0]
  refine loop_inv1 (fun (k : Nat) => st1 a b (limbs 10 (R - k * val 10 b)) i l8 (L.set i k)) (fun k => (k : Int) * val 10 b ≤ R) (fun k => 10 - k)
    (fun e S1 => e = .exit 2 ∧ S1 = st1 a b (limbs 10 (R % val 10 b)) i l8 (L.set i (R / val 10 b))) isL1 ?_ 0 ?_
  · intro k hk
    refine ⟨noTab, noTab_all, lands_of (round1 ..) ?_⟩
    have hk9 : k ≤ 9 := by
      refine Nat.le_of_lt_succ (Nat.lt_of_not_le (fun h => ?_))
      have : (10 : Int) * val 10 b ≤ k * val 10 b := Int.mul_le_mul_of_nonneg_right (by omega) (by omega)
      omega
    obtain ⟨V, hV⟩ : ∃ V, V = R - k * val 10 b := ⟨_, rfl⟩
    have hkB : 0 ≤ (k : Int) * val 10 b := Int.mul_nonneg (by omega) (by omega)
    have cV := cl_limbs (V := V) (n := a.length) (by omega) (by omega) (by omega)
    have vV : val 10 (limbs 10 V) = V := limbs_val T_two (by omega)
    have lV : (limbs 10 V).length ≤ a.length := limbs_length T_two (by omega) (by omega)
    have ob := cl_ok T_two hb
    have oV := cl_ok T_two cV
    rw [← hV]
    refine lands_bif.2 ⟨fun _ => ?_, fun h => by rw [cV, hb] at h; cases h⟩
    refine lands_bif.2 ⟨fun h => ?_, fun h => ?_⟩
    · have hle : val 10 b ≤ V := by
        rw [decide_eq_true_eq, vV] at h
        unfold cmpZ at h
        split at h <;> omega
      have hln : b.length ≤ (limbs 10 V).length := by
        refine Nat.le_of_not_lt (fun hlt => ?_)
        have := val_lt_of_length T_two oV ob (cl_last hb) hlt
        omega
      have lv := lessD_val oV ob (by rw [vV]; exact hle)
      rw [vV] at lv
      have ll := lessD_len (limbs 10 V) b
      refine lands_bif.2 ⟨fun _ => ?_, fun h => ?_⟩
      · refine lands_bif.2 ⟨fun _ => ?_, fun h => ?_⟩
        · refine lands_bif.2 ⟨fun _ => ?_, fun h => ?_⟩
          · refine lands_bif.2 ⟨fun _ => lands_some.2 ⟨k + 1, ?_, ?_, ?_⟩, fun h => ?_⟩
            · have e1 : lb 10 (num 10 false (lessD (limbs 10 V) b)) = limbs 10 (R - ((k + 1 : Nat) : Int) * val 10 b) := by
                unfold lb
                rw [show num 10 false (lessD (limbs 10 V) b) = V - val 10 b from lv]
                congr 1
                rw [Int.natCast_add, Int.add_mul, Int.natCast_one, Int.one_mul]; omega
              have e2 : (L.set i (k : Int)).set (Int.toNat (i : Int)) (IntKind.i64.wrap (rd (L.set i (k : Int)) (i : Int) + 1)) = L.set i ((k + 1 : Nat) : Int) := by
                rw [rd_toNat, Int.toNat_natCast, getD_set_self (by omega), List.set_set, wi_succ (by omega)]
              rw [e1, e2]
            · show ((k + 1 : Nat) : Int) * val 10 b ≤ R
              rw [Int.natCast_add, Int.add_mul, Int.natCast_one, Int.one_mul]; omega
            · show 10 - (k + 1) < 10 - k
              omega
            · rw [inB_iff.2 (by rw [List.length_set]; omega)] at h; cases h
          · rw [inB_iff.2 (by rw [List.length_set]; omega)] at h; cases h
        · rw [lessD_ok, few_iff.2 (show (lessD (limbs 10 V) b).length ≤ 100000 by omega)] at h; cases h
      · rw [(cl_iff (B := 10)).1 hb |>.1 |> few_iff.2, few_iff.2 (show (limbs 10 V).length ≤ 100000 by omega), ob, oV, decide_eq_true hln, vV, decide_eq_true hle] at h; cases h
    · have hlt : V < val 10 b := by
        rw [decide_eq_false_iff_not, vV] at h
        unfold cmpZ at h
        split at h
        · assumption
        · split at h <;> omega
      have hq : R / val 10 b = k := by
        rw [Int.ediv_eq_iff_of_pos hB]
        have : ((k : Int) + 1) * val 10 b = k * val 10 b + val 10 b := by rw [Int.add_mul, Int.one_mul]
        omega
      have hm : R % val 10 b = V := by
        rw [Int.emod_def, hq, Int.mul_comm]; omega
      rw [hq, hm]
      exact lands_some.2 ⟨rfl, rfl⟩
  · show ((0 : Nat) : Int) * val 10 b ≤ R
    simp [h0]
theorem innerB (a b : List Int) (i : Nat) (hi : a.length = i + 1)  (L : List Int) (hb : cl 10 b = true) (hB : 0 < val 10 b) (R : Int) (h0 : 0 ≤ R) (hR : R < 10 * val 10 b) (hn : R < 10 ^ a.length) (ha : a.length ≤ 50000) (hL : L.length = a.length) (hz : L.getD i 0 = 0) :
    ∃ e S1, Ends T orc L1a D1a (st1a a b (limbs 10 R) L) e S1 ∧ (e = .exit 2 ∧ S1 = st1a a b (limbs 10 (R % val 10 b)) (L.set i (R / val 10 b))) := by
  have hLs : L.set i ((0 : Nat) : Int) = L := set_zero hz
  have g0 : st1a a b (limbs 10 R) L = st1a a b (limbs 10 (R - ((0 : Nat) : Int) * val 10 b)) (L.set i ((0 : Nat) : Int)) := by rw [hLs]; simp
  rw [g0]
  refine loop_inv1 (fun (k : Nat) => st1a a b (limbs 10 (R - k * val 10 b)) (L.set i k)) (fun k => (k : Int) * val 10 b ≤ R) (fun k => 10 - k)
    (fun e S1 => e = .exit 2 ∧ S1 = st1a a b (limbs 10 (R % val 10 b)) (L.set i (R / val 10 b))) isL1a ?_ 0 ?_
  · intro k hk
    refine ⟨noTab, noTab_all, lands_of (round1a ..) ?_⟩
    have hk9 : k ≤ 9 := by
      refine Nat.le_of_lt_succ (Nat.lt_of_not_le (fun h => ?_))
      have : (10 : Int) * val 10 b ≤ k * val 10 b := Int.mul_le_mul_of_nonneg_right (by omega) (by omega)
      omega
    obtain ⟨V, hV⟩ : ∃ V, V = R - k * val 10 b := ⟨_, rfl⟩
    have hkB : 0 ≤ (k : Int) * val 10 b := Int.mul_nonneg (by omega) (by omega)
    have cV := cl_limbs (V := V) (n := a.length) (by omega) (by omega) (by omega)
    have vV : val 10 (limbs 10 V) = V := limbs_val T_two (by omega)
    have lV : (limbs 10 V).length ≤ a.length := limbs_length T_two (by omega) (by omega)
    have ob := cl_ok T_two hb
    have oV := cl_ok T_two cV
    rw [← hV]
    have ew : IntKind.i64.wrap ((a.length : Int) - 1) = (i : Int) := by rw [w64 (by omega) (by omega)]; omega
    rw [ew]
    refine lands_bif.2 ⟨fun _ => ?_, fun h => by rw [cV, hb] at h; cases h⟩
    refine lands_bif.2 ⟨fun h => ?_, fun h => ?_⟩
    · have hle : val 10 b ≤ V := by
        rw [decide_eq_true_eq, vV] at h
        unfold cmpZ at h
        split at h <;> omega
      have hln : b.length ≤ (limbs 10 V).length := by
        refine Nat.le_of_not_lt (fun hlt => ?_)
        have := val_lt_of_length T_two oV ob (cl_last hb) hlt
        omega
      have lv := lessD_val oV ob (by rw [vV]; exact hle)
      rw [vV] at lv
      have ll := lessD_len (limbs 10 V) b
      refine lands_bif.2 ⟨fun _ => ?_, fun h => ?_⟩
      · refine lands_bif.2 ⟨fun _ => ?_, fun h => ?_⟩
        · refine lands_bif.2 ⟨fun _ => ?_, fun h => ?_⟩
          · refine lands_bif.2 ⟨fun _ => lands_some.2 ⟨k + 1, ?_, ?_, ?_⟩, fun h => ?_⟩
            · have e1 : lb 10 (num 10 false (lessD (limbs 10 V) b)) = limbs 10 (R - ((k + 1 : Nat) : Int) * val 10 b) := by
                unfold lb
                rw [show num 10 false (lessD (limbs 10 V) b) = V - val 10 b from lv]
                congr 1
                rw [Int.natCast_add, Int.add_mul, Int.natCast_one, Int.one_mul]; omega
              have e2 : (L.set i (k : Int)).set (Int.toNat (i : Int)) (IntKind.i64.wrap (rd (L.set i (k : Int)) (i : Int) + 1)) = L.set i ((k + 1 : Nat) : Int) := by
                rw [rd_toNat, Int.toNat_natCast, getD_set_self (by omega), List.set_set, wi_succ (by omega)]
              rw [e1, e2]
            · show ((k + 1 : Nat) : Int) * val 10 b ≤ R
              rw [Int.natCast_add, Int.add_mul, Int.natCast_one, Int.one_mul]; omega
            · show 10 - (k + 1) < 10 - k
              omega
            · rw [inB_iff.2 (by rw [List.length_set]; omega)] at h; cases h
          · rw [inB_iff.2 (by rw [List.length_set]; omega)] at h; cases h
        · rw [lessD_ok, few_iff.2 (show (lessD (limbs 10 V) b).length ≤ 100000 by omega)] at h; cases h
      · rw [(cl_iff (B := 10)).1 hb |>.1 |> few_iff.2, few_iff.2 (show (limbs 10 V).length ≤ 100000 by omega), ob, oV, decide_eq_true hln, vV, decide_eq_true hle] at h; cases h
    · have hlt : V < val 10 b := by
        rw [decide_eq_false_iff_not, vV] at h
        unfold cmpZ at h
        split at h
        · assumption
        · split at h <;> omega
      have hq : R / val 10 b = k := by
        rw [Int.ediv_eq_iff_of_pos hB]
        have : ((k : Int) + 1) * val 10 b = k * val 10 b + val 10 b := by rw [Int.add_mul, Int.one_mul]
        omega
      have hm : R % val 10 b = V := by
        rw [Int.emod_def, hq, Int.mul_comm]; omega
      rw [hq, hm]
      exact lands_some.2 ⟨rfl, rfl⟩
  · show ((0 : Nat) : Int) * val 10 b ≤ R
    simp [h0]

theorem drop_val (a : List Int) {i : Nat} (h : i < a.length) : val 10 (a.drop i) = a.getD i 0 + 10 * val 10 (a.drop (i + 1)) := by
  rw [List.drop_eq_getElem_cons h, getD_at h]
  rfl
theorem okB_drop {l : List Int} (h : okB 10 l = true) (n : Nat) : okB 10 (l.drop n) = true := okB_iff.2 fun d hd => okB_iff.1 h d (List.mem_of_mem_drop hd)
/-- One digit more. -/
theorem div_step {A d B : Int} (hB : 0 < B) (h0 : 0 ≤ A) (hd : 0 ≤ d ∧ d < 10) : 0 ≤ 10 * (A % B) + d ∧ 10 * (A % B) + d < 10 * B ∧ (d + 10 * A) / B = 10 * (A / B) + (10 * (A % B) + d) / B ∧ (d + 10 * A) % B = (10 * (A % B) + d) % B := by
  have h1 := Int.emod_nonneg A (show B ≠ 0 by omega)
  have h2 := Int.emod_lt_of_pos A hB
  have h3 := Int.mul_ediv_add_emod A B
  have e : d + 10 * A = 10 * (A % B) + d + B * (10 * (A / B)) := by
    have : B * (10 * (A / B)) = 10 * (B * (A / B)) := by rw [← Int.mul_assoc, Int.mul_comm B 10, Int.mul_assoc]
    omega
  refine ⟨by omega, by omega, ?_, ?_⟩
  · rw [e, Int.add_mul_ediv_left _ _ (by omega)]; omega
  · rw [e, Int.add_mul_emod_self_left]
theorem dig_lt {R B : Int} (hB : 0 < B) (h0 : 0 ≤ R) (hR : R < 10 * B) : 0 ≤ R / B ∧ R / B < 10 := by
  refine ⟨Int.ediv_nonneg h0 (by omega), ?_⟩
  exact Int.ediv_lt_of_lt_mul hB hR
def Inv (a b : List Int) (i : Nat) (l8 l9 : List Int) : Prop :=
  i ≤ a.length ∧ l8 = limbs 10 (val 10 (a.drop i) % val 10 b) ∧ l9.length = a.length ∧ okB 10 l9 = true ∧ val 10 l9 = 10 ^ i * (val 10 (a.drop i) / val 10 b) ∧ ∀ j, j < i → l9.getD j 0 = 0
theorem Inv.next {a b : List Int} {i : Nat} {l8 l9 : List Int} (oa : okB 10 a = true) (hB : 0 < val 10 b) (h : Inv a b (i + 1) l8 l9) {R : Int} (hR : R = 10 * (val 10 (a.drop (i + 1)) % val 10 b) + a.getD i 0) : Inv a b i (limbs 10 (R % val 10 b)) (l9.set i (R / val 10 b)) := by
  obtain ⟨h1, h2, h3, h4, h5, h6⟩ := h
  have hd := getD_ok T_pos oa i
  have hA := val_nonneg T_pos (okB_drop oa (i + 1))
  obtain ⟨k1, k2, k3, k4⟩ := div_step hB hA hd
  rw [← hR] at k1 k2 k3 k4
  refine ⟨by omega, by rw [drop_val a (i := i) (by omega), k4], by rw [List.length_set]; exact h3, okB_set h4 (dig_lt hB k1 k2), ?_, fun j hj => by rw [getD_set_ne (by omega)]; exact h6 j (by omega)⟩
  rw [val_set _ _ _ _ (by omega), h6 i (by omega), h5, drop_val a (i := i) (by omega), k3, Int.pow_succ]
  grind
theorem Inv.fin {a b l8 l9 : List Int} (oa : okB 10 a = true) (hB : 0 < val 10 b) (h : Inv a b 0 l8 l9) : l8 = limbs 10 (val 10 a % val 10 b) ∧ l9 = splitD a b := by
  obtain ⟨h1, h2, h3, h4, h5, h6⟩ := h
  rw [List.drop_zero] at h2 h5
  refine ⟨h2, dig_eq T_pos h4 h3 ?_⟩
  rw [h5]
  simp
theorem small_R {a b : List Int} (oa : okB 10 a = true) (hB : 0 < val 10 b) {i : Nat} (hi : i < a.length) : 10 * (val 10 (a.drop (i + 1)) % val 10 b) + a.getD i 0 < 10 ^ a.length := by
  have hd := getD_ok T_pos oa i
  have hA := val_nonneg T_pos (okB_drop oa (i + 1))
  have h1 : val 10 (a.drop (i + 1)) % val 10 b ≤ val 10 (a.drop (i + 1)) := by
    have h3 := Int.mul_ediv_add_emod (val 10 (a.drop (i + 1))) (val 10 b)
    have h4 : 0 ≤ val 10 b * (val 10 (a.drop (i + 1)) / val 10 b) := Int.mul_nonneg (by omega) (Int.ediv_nonneg hA (by omega))
    omega
  have h2 := val_lt T_pos (okB_drop oa i)
  rw [drop_val a hi] at h2
  rw [List.length_drop] at h2
  have h3 := pow_mono (B := 10) (by decide) (show a.length - i ≤ a.length by omega)
  omega
theorem outer (a b : List Int) (oa : okB 10 a = true) (hb : cl 10 b = true) (hB : 0 < val 10 b) (ha : a.length ≤ 50000) (n : Nat) (l8 l9 : List Int) (hI : Inv a b n l8 l9) :
    ∃ e S1, Ends T orc L0 D0 (st0 a b l8 ((n : Int) - 1) l9) e S1 ∧ (e = .exit 0 ∧ ∃ x l m, S1 = st0 a b l x m ∧ Inv a b 0 l m) := by
  refine loop_inv3 (fun (i : Nat) l8 l9 => st0 a b l8 ((i : Int) - 1) l9) (fun i l8 l9 => Inv a b i l8 l9) (fun i _ _ => i)
    (fun e S1 => e = .exit 0 ∧ ∃ x l m, S1 = st0 a b l x m ∧ Inv a b 0 l m) isL0 ?_ n l8 l9 hI
  intro i l8 l9 h
  obtain ⟨h1, h2, h3, h4, h5, h6⟩ := id h
  cases i with
  | zero =>
    refine ⟨_, tabOf_all _, lands_of (round0 a b l8 ((0 : Nat) - 1 : Int) l9 l8 l9) ?_⟩
    rw [decide_eq_false (by omega)]
    exact lands_some.2 ⟨rfl, _, _, _, rfl, h⟩
  | succ i =>
    have hd := getD_ok T_pos oa i
    have hA := val_nonneg T_pos (okB_drop oa (i + 1))
    obtain ⟨k1, k2, k3, k4⟩ := div_step hB hA hd
    have hs := small_R oa hB (show i < a.length by omega)
    obtain ⟨R, hR⟩ : ∃ R, R = 10 * (val 10 (a.drop (i + 1)) % val 10 b) + a.getD i 0 := ⟨_, rfl⟩
    rw [← hR] at k1 k2 hs
    have hm0 := Int.emod_nonneg (val 10 (a.drop (i + 1))) (show val 10 b ≠ 0 by omega)
    have o8 : okB 10 l8 = true := by rw [h2]; exact limbs_ok T_pos _
    have v8 : val 10 l8 = val 10 (a.drop (i + 1)) % val 10 b := by rw [h2]; exact limbs_val T_two hm0
    have n8 : l8.length ≤ 50000 := by
      rw [h2]
      exact Nat.le_trans (limbs_length T_two (n := a.length) hm0 (by omega)) ha
    obtain ⟨e1, S1, hE1, rfl, rfl⟩ := innerA a b i (by omega) l8 l9 hb hB R k1 k2 hs ha h3 (h6 i (by omega))
    have ei : (((i + 1 : Nat) : Int) - 1) = (i : Int) := by omega
    refine ⟨_, tabOf_all _, lands_of (round0 a b l8 _ l9 (limbs 10 (R % val 10 b)) (l9.set i (R / val 10 b))) ?_⟩
    rw [ei]
    have el : lb 10 (num 10 false (rd a (i : Int) :: l8)) = limbs 10 R := by
      unfold lb
      congr 1
      rw [rd_toNat, Int.toNat_natCast, show num 10 false (a.getD i 0 :: l8) = a.getD i 0 + 10 * val 10 l8 from rfl, v8]
      omega
    rw [el, cdec_true hE1]
    refine lands_bif.2 ⟨fun _ => ?_, fun h => by rw [decide_eq_true (show (i : Int) ≥ 0 by omega)] at h; cases h⟩
    refine lands_bif.2 ⟨fun _ => ?_, fun h => by rw [inB_iff.2 (by omega)] at h; cases h⟩
    refine lands_bif.2 ⟨fun _ => ?_, fun h => by rw [Bool.true_and, decide_eq_false_iff_not, List.length_cons] at h; omega⟩
    refine lands_bif.2 ⟨fun _ => ?_, fun h => by rw [few_iff.2 (show (rd a (i : Int) :: l8).length ≤ 100000 by rw [List.length_cons]; omega), okB_cons.2 ⟨by rw [rd_toNat, Int.toNat_natCast]; exact hd, o8⟩] at h; cases h⟩
    refine lands_some.2 ⟨i, _, _, ?_, h.next oa hB hR, by show i < i + 1; omega⟩
    rw [w64 (by omega) (by omega)]
end RSplit
theorem meets_rsplit : Meets Try.prog 94 anrSplit := by
  refine meets_fn (orc_ok (l := RSplit.ans) ⟨meets_rtrim, meets_rcmpMag, meets_rless, trivial⟩) Try.f94 Try.func94 (by kernel_rfl) (fun args r h => ?_)
  unfold anrSplit at h
  split at h
  · rename_i a b
    simp only [Option.some.injEq, Prod.mk.injEq, Bool.and_eq_true, decide_eq_true_eq] at h
    obtain ⟨⟨⟨⟨ha, hb⟩, hB⟩, hl⟩, rfl⟩ := h
    have oa := cl_ok T_two ha
    have c1 : (true && decide ((a.length : Int) ≤ (a.length : Int)) && decide ((a.length : Int).toNat * 8 ≤ 281474976710656)) = true := by
      rw [Bool.true_and, Bool.and_eq_true, decide_eq_true_eq, decide_eq_true_eq]; omega
    refine ⟨rfl, ?_⟩
    cases hn : a.length with
    | zero =>
      have ha0 : a = [] := List.eq_nil_of_length_eq_zero hn
      subst ha0
      have hE : Ends T RSplit.orc RSplit.L0 RSplit.D0 (RSplit.st0e [] b) (.exit 0) (RSplit.st0e [] b) :=
        ends_leave RSplit.isL0 (tabOf_all _) (RSplit.round0e [] b [] [])
      refine ⟨_, tabOf_all _, (RSplit.rest_1 [] b).trans ?_⟩
      refine (bT c1).trans ((bT (cdec_true hE)).trans ?_)
      unfold splitD
      simp [val, limbs_zero, digN]
    | succ n =>
      have hd := getD_ok T_pos oa n
      have hs := RSplit.small_R oa hB (show n < a.length by omega)
      have hdr : a.drop (n + 1) = [] := List.drop_of_length_le (by omega)
      have hA : val 10 (a.drop (n + 1)) = 0 := by rw [hdr]; rfl
      obtain ⟨k1, k2, k3, k4⟩ := RSplit.div_step (A := val 10 (a.drop (n + 1))) hB (by omega) hd
      obtain ⟨R, hR⟩ : ∃ R, R = 10 * (val 10 (a.drop (n + 1)) % val 10 b) + a.getD n 0 := ⟨_, rfl⟩
      rw [← hR] at k1 k2 hs
      obtain ⟨e1, S1, hE1, rfl, rfl⟩ := RSplit.innerB a b n hn (zeros a.length) hb hB R k1 k2 hs hl (by simp) (getD_zeros _ _)
      have h0 : RSplit.Inv a b (n + 1) [] (zeros a.length) := by
        refine ⟨by omega, ?_, by simp, okB_zeros T_pos _, ?_, fun j _ => getD_zeros _ _⟩
        · rw [hA, Int.zero_emod]; exact limbs_zero.symm
        · rw [hA, Int.zero_ediv, val_zeros, Int.mul_zero]
      obtain ⟨e2, S2, hE2, rfl, x, l, m, rfl, hI⟩ := RSplit.outer a b oa hb hB hl n _ _ (h0.next oa hB hR)
      obtain ⟨rfl, rfl⟩ := hI.fin oa hB
      have ew : IntKind.i64.wrap ((a.length : Int) - 1) = (n : Int) := by rw [w64 (by omega) (by omega)]; omega
      have ew2 : IntKind.i64.wrap ((n : Int) - 1) = (n : Int) - 1 := w64 (by omega) (by omega)
      have el : lb 10 (num 10 false [rd a (n : Int)]) = limbs 10 R := by
        unfold lb
        congr 1
        rw [rd_toNat, Int.toNat_natCast, show num 10 false [a.getD n 0] = a.getD n 0 + 10 * 0 from rfl, hR, hA, Int.zero_emod]
        omega
      have hE : Ends T RSplit.orc RSplit.L0 RSplit.D0 (RSplit.st0e a b) (.exit 0) (RSplit.st0 a b (limbs 10 (val 10 a % val 10 b)) x (splitD a b)) := by
        refine ends_peel RSplit.isL0 (tabOf_all _) ((RSplit.round0e a b (limbs 10 (R % val 10 b)) ((zeros a.length).set n (R / val 10 b))).trans ?_) hE2
        rw [ew, el, Int.toNat_natCast, cdec_true hE1]
        refine (bT (decide_eq_true (by omega))).trans ((bT (inB_iff.2 (by omega))).trans ((bT ?_).trans ?_))
        · rw [Bool.true_and]
          exact okB_cons.2 ⟨by rw [rd_toNat, Int.toNat_natCast]; exact hd, rfl⟩
        · rw [ew2]; rfl
      refine ⟨_, tabOf_all _, (RSplit.rest_0 a b (splitD a b) (limbs 10 (val 10 a % val 10 b)) x).trans ?_⟩
      exact (bT c1).trans (bT (cdec_true hE))
  · cases h
end Go.Abs
end
section
/- States and rounds of arith's functions, as a program of this session printed them (3). -/
set_option maxRecDepth 10000
namespace Go.Abs
open Go.Proofs Go.Dig
namespace Parse
abbrev ans : Ans := [(58, ansNorm), (57, ansHeld), (56, ansScale)]
abbrev orc : Orc := orcOf ans
noncomputable def L0 : Code := lp Try.f15 0
theorem isL0 : ∃ a, L0 = .loop a := ⟨_, rfl⟩
abbrev D0 : List Nat := [0, 2, 3, 4, 5, 13, 14, 15, 16, 17, 21, 22, 23, 24, 25, 26, 27, 28, 40, 42, 43, 44]
abbrev st0 (s : ByteArray) (b0 : Bool) (x0 : Int) : St := ⟨.str s :: tops 1 (.ptr 2 0 0 :: .int .i64 (0) :: .str (s.extract 1 s.size) :: .bool (bt s (0) == 45) :: tops 7 (.str s :: .str s :: .int .i64 (↑s.size : Int) :: .bool (decide ((↑s.size : Int) > 0)) :: .bool true :: tops 3 (.bool (bt s (0) == 45) :: .bool (bt s (0) == 45) :: .str s :: .str (s.extract 1 s.size) :: .str (s.extract 1 s.size) :: .int .i64 (↑(s.extract 1 s.size).size : Int) :: .bool ((↑(s.extract 1 s.size).size : Int) == 0) :: .bool false :: tops 11 (.bool b0 :: tops 1 (.str (s.extract 1 s.size) :: .int .i64 (↑(s.extract 1 s.size).size : Int) :: .int .i64 x0 :: tops 58 ([])))))), nos 2 (varE [(false, .bool false), (true, .ints .u32 [])] :: nos 100 ([]))⟩
abbrev st0x0 (s : ByteArray) (x1 : Int) (b0 : Bool) (x0 : Int) : St := ⟨.str s :: tops 1 (.ptr 2 0 0 :: .int .i64 x1 :: .str (s.extract 1 s.size) :: .bool (bt s (0) == 45) :: tops 7 (.str s :: .str s :: .int .i64 (↑s.size : Int) :: .bool (decide ((↑s.size : Int) > 0)) :: .bool true :: tops 3 (.bool (bt s (0) == 45) :: .bool (bt s (0) == 45) :: .str s :: .str (s.extract 1 s.size) :: .str (s.extract 1 s.size) :: .int .i64 (↑(s.extract 1 s.size).size : Int) :: .bool ((↑(s.extract 1 s.size).size : Int) == 0) :: .bool false :: tops 11 (.bool b0 :: tops 1 (.str (s.extract 1 s.size) :: .int .i64 (↑(s.extract 1 s.size).size : Int) :: .int .i64 x0 :: tops 58 ([])))))), nos 2 (varE [(false, .bool false), (true, .ints .u32 [])] :: nos 100 ([]))⟩
theorem round0 (s : ByteArray) (b0 : Bool) (x0 : Int) : goL T orc (noTab) D0 L0 (st0 s b0 x0) =
    (bif decide (x0 < (↑(s.extract 1 s.size).size : Int)) then (bif inB x0 (s.extract 1 s.size).size then (bif decide (bt (s.extract 1 s.size) x0 < 48) then some (.ret, st0x0 s (10) b0 x0) else (bif inB x0 (s.extract 1 s.size).size then (bif decide (bt (s.extract 1 s.size) x0 > 57) then some (.ret, st0x0 s (10) b0 x0) else some (.normal, st0 s b0 (IntKind.i64.wrap (x0 + 1)))) else none)) else none) else some (.exit 0, st0 s b0 x0)) := by kernel_rfl
-- loop 0 ends ret st0x0 s x1 b0 x0
-- loop 0 ends exit0 st0 s b0 x0
noncomputable def L0a : Code := lp Try.f15 0
theorem isL0a : ∃ a, L0a = .loop a := ⟨_, rfl⟩
abbrev D0a : List Nat := [0, 2, 3, 4, 5, 13, 14, 15, 16, 17, 21, 22, 25, 26, 27, 28, 40, 42, 43, 44]
abbrev st0a (s : ByteArray) (b6 : Bool) (b7 : Bool) (b8 : Bool) (x4 : Int) : St := ⟨.str s :: tops 1 (.ptr 2 0 0 :: .int .i64 (0) :: .str s :: .bool b6 :: tops 7 (.str s :: .str s :: .int .i64 (↑s.size : Int) :: .bool (decide ((↑s.size : Int) > 0)) :: .bool b7 :: tops 3 (.bool b6 :: .bool b6 :: tops 2 (.str s :: .int .i64 (↑s.size : Int) :: .bool ((↑s.size : Int) == 0) :: .bool false :: tops 11 (.bool b8 :: tops 1 (.str s :: .int .i64 (↑s.size : Int) :: .int .i64 x4 :: tops 58 ([]))))))), nos 2 (varE [(false, .bool false), (true, .ints .u32 [])] :: nos 100 ([]))⟩
abbrev st0ax0 (s : ByteArray) (x5 : Int) (b6 : Bool) (b7 : Bool) (b8 : Bool) (x4 : Int) : St := ⟨.str s :: tops 1 (.ptr 2 0 0 :: .int .i64 x5 :: .str s :: .bool b6 :: tops 7 (.str s :: .str s :: .int .i64 (↑s.size : Int) :: .bool (decide ((↑s.size : Int) > 0)) :: .bool b7 :: tops 3 (.bool b6 :: .bool b6 :: tops 2 (.str s :: .int .i64 (↑s.size : Int) :: .bool ((↑s.size : Int) == 0) :: .bool false :: tops 11 (.bool b8 :: tops 1 (.str s :: .int .i64 (↑s.size : Int) :: .int .i64 x4 :: tops 58 ([]))))))), nos 2 (varE [(false, .bool false), (true, .ints .u32 [])] :: nos 100 ([]))⟩
theorem round0a (s : ByteArray) (b6 : Bool) (b7 : Bool) (b8 : Bool) (x4 : Int) : goL T orc (noTab) D0a L0a (st0a s b6 b7 b8 x4) =
    (bif decide (x4 < (↑s.size : Int)) then (bif inB x4 s.size then (bif decide (bt s x4 < 48) then some (.ret, st0ax0 s (10) b6 b7 b8 x4) else (bif inB x4 s.size then (bif decide (bt s x4 > 57) then some (.ret, st0ax0 s (10) b6 b7 b8 x4) else some (.normal, st0a s b6 b7 b8 (IntKind.i64.wrap (x4 + 1)))) else none)) else none) else some (.exit 0, st0a s b6 b7 b8 x4)) := by kernel_rfl
-- loop 0a ends ret st0ax0 s x5 b6 b7 b8 x4
-- loop 0a ends exit0 st0a s b6 b7 b8 x4
noncomputable def L2 : Code := lp Try.f15 2
theorem isL2 : ∃ a, L2 = .loop a := ⟨_, rfl⟩
abbrev D2 : List Nat := [0, 2, 3, 4, 5, 7, 8, 9, 10, 11, 13, 14, 15, 16, 17, 21, 22, 25, 26, 27, 28, 40, 42, 43, 44, 59, 60, 61, 63, 64, 65, 66, 69, 70, 71, 72, 73, 74, 75, 76, 77, 78, 79]
abbrev st2 (s : ByteArray) (b12 : Bool) (x15 : Int) (x16 : Int) (x17 : Int) (b13 : Bool) (b14 : Bool) (x8 : Int) (x18 : Int) (l0 : List Int) : St := ⟨.str s :: tops 1 (.ptr 2 0 0 :: .int .i64 (0) :: .str s :: .bool b12 :: tops 1 (.sl 7 0 0 :: .int .i64 x15 :: .str (s.extract x15.toNat (bif false then if (↑s.size : Int) > IntKind.i64.wrap (x15 + 9) then (↑s.size : Int) else IntKind.i64.wrap (x15 + 9) else if (↑s.size : Int) < IntKind.i64.wrap (x15 + 9) then (↑s.size : Int) else IntKind.i64.wrap (x15 + 9)).toNat) :: .int .u32 x16 :: .int .u32 x17 :: tops 1 (.str s :: .str s :: .int .i64 (↑s.size : Int) :: .bool (decide ((↑s.size : Int) > 0)) :: .bool b13 :: tops 3 (.bool b12 :: .bool b12 :: tops 2 (.str s :: .int .i64 (↑s.size : Int) :: .bool ((↑s.size : Int) == 0) :: .bool false :: tops 11 (.bool b14 :: tops 1 (.str s :: .int .i64 (↑s.size : Int) :: .int .i64 x8 :: tops 14 (.str s :: .int .i64 (↑s.size : Int) :: .bool (decide ((↑s.size : Int) > 343)) :: tops 1 (.int .i64 x15 :: .str s :: .int .i64 (↑s.size : Int) :: .bool (decide (x15 < (↑s.size : Int))) :: tops 2 (.str s :: .int .i64 x15 :: .int .i64 x15 :: .int .i64 (IntKind.i64.wrap (x15 + 9)) :: .str s :: .int .i64 (↑s.size : Int) :: .int .i64 (bif false then if (↑s.size : Int) > IntKind.i64.wrap (x15 + 9) then (↑s.size : Int) else IntKind.i64.wrap (x15 + 9) else if (↑s.size : Int) < IntKind.i64.wrap (x15 + 9) then (↑s.size : Int) else IntKind.i64.wrap (x15 + 9)) :: .str (s.extract x15.toNat (bif false then if (↑s.size : Int) > IntKind.i64.wrap (x15 + 9) then (↑s.size : Int) else IntKind.i64.wrap (x15 + 9) else if (↑s.size : Int) < IntKind.i64.wrap (x15 + 9) then (↑s.size : Int) else IntKind.i64.wrap (x15 + 9)).toNat) :: .str (s.extract x15.toNat (bif false then if (↑s.size : Int) > IntKind.i64.wrap (x15 + 9) then (↑s.size : Int) else IntKind.i64.wrap (x15 + 9) else if (↑s.size : Int) < IntKind.i64.wrap (x15 + 9) then (↑s.size : Int) else IntKind.i64.wrap (x15 + 9)).toNat) :: .int .i64 (↑(s.extract x15.toNat (bif false then if (↑s.size : Int) > IntKind.i64.wrap (x15 + 9) then (↑s.size : Int) else IntKind.i64.wrap (x15 + 9) else if (↑s.size : Int) < IntKind.i64.wrap (x15 + 9) then (↑s.size : Int) else IntKind.i64.wrap (x15 + 9)).toNat).size : Int) :: .int .i64 x18 :: tops 23 ([]))))))))))), nos 2 (varE [(false, .bool false), (true, .ints .u32 [])] :: nos 4 (rowE (.ints .u32 l0) :: nos 95 ([])))⟩
theorem round2 (s : ByteArray) (b12 : Bool) (x15 : Int) (x16 : Int) (x17 : Int) (b13 : Bool) (b14 : Bool) (x8 : Int) (x18 : Int) (l0 : List Int) : goL T orc (noTab) D2 L2 (st2 s b12 x15 x16 x17 b13 b14 x8 x18 l0) =
    (bif decide (x18 < (↑(s.extract x15.toNat (bif false then if (↑s.size : Int) > IntKind.i64.wrap (x15 + 9) then (↑s.size : Int) else IntKind.i64.wrap (x15 + 9) else if (↑s.size : Int) < IntKind.i64.wrap (x15 + 9) then (↑s.size : Int) else IntKind.i64.wrap (x15 + 9)).toNat).size : Int)) then (bif inB x18 (s.extract x15.toNat (bif false then if (↑s.size : Int) > IntKind.i64.wrap (x15 + 9) then (↑s.size : Int) else IntKind.i64.wrap (x15 + 9) else if (↑s.size : Int) < IntKind.i64.wrap (x15 + 9) then (↑s.size : Int) else IntKind.i64.wrap (x15 + 9)).toNat).size then some (.normal, st2 s b12 x15 (IntKind.u32.wrap (IntKind.u32.wrap (x16 * 10) + IntKind.u32.wrap (IntKind.u8.wrap (bt (s.extract x15.toNat (bif false then if (↑s.size : Int) > IntKind.i64.wrap (x15 + 9) then (↑s.size : Int) else IntKind.i64.wrap (x15 + 9) else if (↑s.size : Int) < IntKind.i64.wrap (x15 + 9) then (↑s.size : Int) else IntKind.i64.wrap (x15 + 9)).toNat) x18 - 48)))) (IntKind.u32.wrap (x17 * 10)) b13 b14 x8 (IntKind.i64.wrap (x18 + 1)) l0) else none) else some (.exit 4, st2 s b12 x15 x16 x17 b13 b14 x8 x18 l0)) := by kernel_rfl
-- loop 2 ends exit4 st2 s b12 x15 x16 x17 b13 b14 x8 x18 l0
noncomputable def L1 : Code := lp Try.f15 1
theorem isL1 : ∃ a, L1 = .loop a := ⟨_, rfl⟩
abbrev D1 : List Nat := [0, 2, 3, 4, 5, 7, 8, 13, 14, 15, 16, 17, 21, 22, 25, 26, 27, 28, 40, 42, 43, 44, 59, 60, 61]
abbrev st1 (s : ByteArray) (b12 : Bool) (x15 : Int) (b13 : Bool) (b14 : Bool) (x8 : Int) (l0 : List Int) : St := ⟨.str s :: tops 1 (.ptr 2 0 0 :: .int .i64 (0) :: .str s :: .bool b12 :: tops 1 (.sl 7 0 0 :: .int .i64 x15 :: tops 4 (.str s :: .str s :: .int .i64 (↑s.size : Int) :: .bool (decide ((↑s.size : Int) > 0)) :: .bool b13 :: tops 3 (.bool b12 :: .bool b12 :: tops 2 (.str s :: .int .i64 (↑s.size : Int) :: .bool ((↑s.size : Int) == 0) :: .bool false :: tops 11 (.bool b14 :: tops 1 (.str s :: .int .i64 (↑s.size : Int) :: .int .i64 x8 :: tops 14 (.str s :: .int .i64 (↑s.size : Int) :: .bool (decide ((↑s.size : Int) > 343)) :: tops 41 ([]))))))))), nos 2 (varE [(false, .bool false), (true, .ints .u32 [])] :: nos 4 (rowE (.ints .u32 l0) :: nos 95 ([])))⟩
theorem round1 (s : ByteArray) (b12 : Bool) (x15 : Int) (b13 : Bool) (b14 : Bool) (x8 : Int) (l0 : List Int) (x20 : Int) (x19 : Int) (x21 : Int) : goL T orc (tabOf T orc [(22, 2585025616625118797550854632251396893418309473431785164950648237226251597721781646332670859523748775088636340792802323394286, .exit 4, st2 s b12 x15 x19 x20 b13 b14 x8 x21 l0)]) D1 L1 (st1 s b12 x15 b13 b14 x8 l0) =
    (bif decide (x15 < (↑s.size : Int)) then (bif decide (0 ≤ x15) && decide (x15 ≤ bif false then if (↑s.size : Int) > IntKind.i64.wrap (x15 + 9) then (↑s.size : Int) else IntKind.i64.wrap (x15 + 9) else if (↑s.size : Int) < IntKind.i64.wrap (x15 + 9) then (↑s.size : Int) else IntKind.i64.wrap (x15 + 9)) && decide ((bif false then if (↑s.size : Int) > IntKind.i64.wrap (x15 + 9) then (↑s.size : Int) else IntKind.i64.wrap (x15 + 9) else if (↑s.size : Int) < IntKind.i64.wrap (x15 + 9) then (↑s.size : Int) else IntKind.i64.wrap (x15 + 9)) ≤ (↑s.size : Int)) then (bif cdec (Ends T orc L2 D2 (st2 s b12 x15 (0) (1) b13 b14 x8 (0) l0) (.exit 4) (st2 s b12 x15 x19 x20 b13 b14 x8 x21 l0)) then (bif few l0 && okB (4294967296) l0 && decide (0 ≤ x20) && decide (x20 < 4294967296) && decide (0 ≤ x19) && decide (x19 < 4294967296) then some (.normal, st1 s b12 (IntKind.i64.wrap (x15 + 9)) b13 b14 x8 (scaleL l0 x20 x19)) else none) else none) else none) else some (.exit 2, st1 s b12 x15 b13 b14 x8 l0)) := by kernel_rfl
-- loop 1 ends exit2 st1 s b12 x15 b13 b14 x8 l0
noncomputable def L2a : Code := lp Try.f15 2
theorem isL2a : ∃ a, L2a = .loop a := ⟨_, rfl⟩
abbrev D2a : List Nat := [0, 2, 3, 4, 5, 7, 8, 9, 10, 11, 13, 14, 15, 16, 17, 21, 22, 23, 24, 25, 26, 27, 28, 40, 42, 43, 44, 59, 60, 61, 63, 64, 65, 66, 69, 70, 71, 72, 73, 74, 75, 76, 77, 78, 79]
abbrev st2a (s : ByteArray) (x30 : Int) (x31 : Int) (x32 : Int) (b15 : Bool) (x23 : Int) (x33 : Int) (l2 : List Int) : St := ⟨.str s :: tops 1 (.ptr 2 0 0 :: .int .i64 (0) :: .str (s.extract 1 s.size) :: .bool (bt s (0) == 45) :: tops 1 (.sl 7 0 0 :: .int .i64 x30 :: .str ((s.extract 1 s.size).extract x30.toNat (bif false then if (↑(s.extract 1 s.size).size : Int) > IntKind.i64.wrap (x30 + 9) then (↑(s.extract 1 s.size).size : Int) else IntKind.i64.wrap (x30 + 9) else if (↑(s.extract 1 s.size).size : Int) < IntKind.i64.wrap (x30 + 9) then (↑(s.extract 1 s.size).size : Int) else IntKind.i64.wrap (x30 + 9)).toNat) :: .int .u32 x31 :: .int .u32 x32 :: tops 1 (.str s :: .str s :: .int .i64 (↑s.size : Int) :: .bool (decide ((↑s.size : Int) > 0)) :: .bool true :: tops 3 (.bool (bt s (0) == 45) :: .bool (bt s (0) == 45) :: .str s :: .str (s.extract 1 s.size) :: .str (s.extract 1 s.size) :: .int .i64 (↑(s.extract 1 s.size).size : Int) :: .bool ((↑(s.extract 1 s.size).size : Int) == 0) :: .bool false :: tops 11 (.bool b15 :: tops 1 (.str (s.extract 1 s.size) :: .int .i64 (↑(s.extract 1 s.size).size : Int) :: .int .i64 x23 :: tops 14 (.str (s.extract 1 s.size) :: .int .i64 (↑(s.extract 1 s.size).size : Int) :: .bool (decide ((↑(s.extract 1 s.size).size : Int) > 343)) :: tops 1 (.int .i64 x30 :: .str (s.extract 1 s.size) :: .int .i64 (↑(s.extract 1 s.size).size : Int) :: .bool (decide (x30 < (↑(s.extract 1 s.size).size : Int))) :: tops 2 (.str (s.extract 1 s.size) :: .int .i64 x30 :: .int .i64 x30 :: .int .i64 (IntKind.i64.wrap (x30 + 9)) :: .str (s.extract 1 s.size) :: .int .i64 (↑(s.extract 1 s.size).size : Int) :: .int .i64 (bif false then if (↑(s.extract 1 s.size).size : Int) > IntKind.i64.wrap (x30 + 9) then (↑(s.extract 1 s.size).size : Int) else IntKind.i64.wrap (x30 + 9) else if (↑(s.extract 1 s.size).size : Int) < IntKind.i64.wrap (x30 + 9) then (↑(s.extract 1 s.size).size : Int) else IntKind.i64.wrap (x30 + 9)) :: .str ((s.extract 1 s.size).extract x30.toNat (bif false then if (↑(s.extract 1 s.size).size : Int) > IntKind.i64.wrap (x30 + 9) then (↑(s.extract 1 s.size).size : Int) else IntKind.i64.wrap (x30 + 9) else if (↑(s.extract 1 s.size).size : Int) < IntKind.i64.wrap (x30 + 9) then (↑(s.extract 1 s.size).size : Int) else IntKind.i64.wrap (x30 + 9)).toNat) :: .str ((s.extract 1 s.size).extract x30.toNat (bif false then if (↑(s.extract 1 s.size).size : Int) > IntKind.i64.wrap (x30 + 9) then (↑(s.extract 1 s.size).size : Int) else IntKind.i64.wrap (x30 + 9) else if (↑(s.extract 1 s.size).size : Int) < IntKind.i64.wrap (x30 + 9) then (↑(s.extract 1 s.size).size : Int) else IntKind.i64.wrap (x30 + 9)).toNat) :: .int .i64 (↑((s.extract 1 s.size).extract x30.toNat (bif false then if (↑(s.extract 1 s.size).size : Int) > IntKind.i64.wrap (x30 + 9) then (↑(s.extract 1 s.size).size : Int) else IntKind.i64.wrap (x30 + 9) else if (↑(s.extract 1 s.size).size : Int) < IntKind.i64.wrap (x30 + 9) then (↑(s.extract 1 s.size).size : Int) else IntKind.i64.wrap (x30 + 9)).toNat).size : Int) :: .int .i64 x33 :: tops 23 ([])))))))))), nos 2 (varE [(false, .bool false), (true, .ints .u32 [])] :: nos 4 (rowE (.ints .u32 l2) :: nos 95 ([])))⟩
theorem round2a (s : ByteArray) (x30 : Int) (x31 : Int) (x32 : Int) (b15 : Bool) (x23 : Int) (x33 : Int) (l2 : List Int) : goL T orc (noTab) D2a L2a (st2a s x30 x31 x32 b15 x23 x33 l2) =
    (bif decide (x33 < (↑((s.extract 1 s.size).extract x30.toNat (bif false then if (↑(s.extract 1 s.size).size : Int) > IntKind.i64.wrap (x30 + 9) then (↑(s.extract 1 s.size).size : Int) else IntKind.i64.wrap (x30 + 9) else if (↑(s.extract 1 s.size).size : Int) < IntKind.i64.wrap (x30 + 9) then (↑(s.extract 1 s.size).size : Int) else IntKind.i64.wrap (x30 + 9)).toNat).size : Int)) then (bif inB x33 ((s.extract 1 s.size).extract x30.toNat (bif false then if (↑(s.extract 1 s.size).size : Int) > IntKind.i64.wrap (x30 + 9) then (↑(s.extract 1 s.size).size : Int) else IntKind.i64.wrap (x30 + 9) else if (↑(s.extract 1 s.size).size : Int) < IntKind.i64.wrap (x30 + 9) then (↑(s.extract 1 s.size).size : Int) else IntKind.i64.wrap (x30 + 9)).toNat).size then some (.normal, st2a s x30 (IntKind.u32.wrap (IntKind.u32.wrap (x31 * 10) + IntKind.u32.wrap (IntKind.u8.wrap (bt ((s.extract 1 s.size).extract x30.toNat (bif false then if (↑(s.extract 1 s.size).size : Int) > IntKind.i64.wrap (x30 + 9) then (↑(s.extract 1 s.size).size : Int) else IntKind.i64.wrap (x30 + 9) else if (↑(s.extract 1 s.size).size : Int) < IntKind.i64.wrap (x30 + 9) then (↑(s.extract 1 s.size).size : Int) else IntKind.i64.wrap (x30 + 9)).toNat) x33 - 48)))) (IntKind.u32.wrap (x32 * 10)) b15 x23 (IntKind.i64.wrap (x33 + 1)) l2) else none) else some (.exit 4, st2a s x30 x31 x32 b15 x23 x33 l2)) := by kernel_rfl
-- loop 2a ends exit4 st2a s x30 x31 x32 b15 x23 x33 l2
noncomputable def L1a : Code := lp Try.f15 1
theorem isL1a : ∃ a, L1a = .loop a := ⟨_, rfl⟩
abbrev D1a : List Nat := [0, 2, 3, 4, 5, 7, 8, 13, 14, 15, 16, 17, 21, 22, 23, 24, 25, 26, 27, 28, 40, 42, 43, 44, 59, 60, 61]
abbrev st1a (s : ByteArray) (x30 : Int) (b15 : Bool) (x23 : Int) (l2 : List Int) : St := ⟨.str s :: tops 1 (.ptr 2 0 0 :: .int .i64 (0) :: .str (s.extract 1 s.size) :: .bool (bt s (0) == 45) :: tops 1 (.sl 7 0 0 :: .int .i64 x30 :: tops 4 (.str s :: .str s :: .int .i64 (↑s.size : Int) :: .bool (decide ((↑s.size : Int) > 0)) :: .bool true :: tops 3 (.bool (bt s (0) == 45) :: .bool (bt s (0) == 45) :: .str s :: .str (s.extract 1 s.size) :: .str (s.extract 1 s.size) :: .int .i64 (↑(s.extract 1 s.size).size : Int) :: .bool ((↑(s.extract 1 s.size).size : Int) == 0) :: .bool false :: tops 11 (.bool b15 :: tops 1 (.str (s.extract 1 s.size) :: .int .i64 (↑(s.extract 1 s.size).size : Int) :: .int .i64 x23 :: tops 14 (.str (s.extract 1 s.size) :: .int .i64 (↑(s.extract 1 s.size).size : Int) :: .bool (decide ((↑(s.extract 1 s.size).size : Int) > 343)) :: tops 41 ([])))))))), nos 2 (varE [(false, .bool false), (true, .ints .u32 [])] :: nos 4 (rowE (.ints .u32 l2) :: nos 95 ([])))⟩
theorem round1a (s : ByteArray) (x30 : Int) (b15 : Bool) (x23 : Int) (l2 : List Int) (x35 : Int) (x34 : Int) (x36 : Int) : goL T orc (tabOf T orc [(22, 2585025616625118797550854630691125113272957186682296653022108216012557278656570443285417810059861709772309064018216736452334, .exit 4, st2a s x30 x34 x35 b15 x23 x36 l2)]) D1a L1a (st1a s x30 b15 x23 l2) =
    (bif decide (x30 < (↑(s.extract 1 s.size).size : Int)) then (bif decide (0 ≤ x30) && decide (x30 ≤ bif false then if (↑(s.extract 1 s.size).size : Int) > IntKind.i64.wrap (x30 + 9) then (↑(s.extract 1 s.size).size : Int) else IntKind.i64.wrap (x30 + 9) else if (↑(s.extract 1 s.size).size : Int) < IntKind.i64.wrap (x30 + 9) then (↑(s.extract 1 s.size).size : Int) else IntKind.i64.wrap (x30 + 9)) && decide ((bif false then if (↑(s.extract 1 s.size).size : Int) > IntKind.i64.wrap (x30 + 9) then (↑(s.extract 1 s.size).size : Int) else IntKind.i64.wrap (x30 + 9) else if (↑(s.extract 1 s.size).size : Int) < IntKind.i64.wrap (x30 + 9) then (↑(s.extract 1 s.size).size : Int) else IntKind.i64.wrap (x30 + 9)) ≤ (↑(s.extract 1 s.size).size : Int)) then (bif cdec (Ends T orc L2a D2a (st2a s x30 (0) (1) b15 x23 (0) l2) (.exit 4) (st2a s x30 x34 x35 b15 x23 x36 l2)) then (bif few l2 && okB (4294967296) l2 && decide (0 ≤ x35) && decide (x35 < 4294967296) && decide (0 ≤ x34) && decide (x34 < 4294967296) then some (.normal, st1a s (IntKind.i64.wrap (x30 + 9)) b15 x23 (scaleL l2 x35 x34)) else none) else none) else none) else some (.exit 2, st1a s x30 b15 x23 l2)) := by kernel_rfl
-- loop 1a ends exit2 st1a s x30 b15 x23 l2
theorem rest_0 (s : ByteArray) (x6 : Int) (b9 : Bool) (b10 : Bool) (b11 : Bool) (x7 : Int) (x2 : Int) (b1 : Bool) (x3 : Int) : runT T orc (tabOf T orc [(8, 2585025628590623854992277685469035784553465991325676146883346425763788658036205756010234607550307971754212937460549868777198, .ret, st0x0 s x2 b1 x3), (8, 2585025628590623854992277687029307564698818278075164658811886446977482977101416959057487657014195037070540214235135455719150, .ret, st0ax0 s x6 b9 b10 b11 x7)]) Try.f15 [.str s] =
    (bif decide ((↑s.size : Int) > 0) then (bif inB (0) s.size then (bif bt s (0) == 45 then (bif true && decide (1 ≤ (↑s.size : Int)) then (bif (↑(s.extract 1 s.size).size : Int) == 0 then some (.val (.tup [.agg [.bool false, .ints .u32 []], .int .i64 (10)])) else (bif inB (0) (s.extract 1 s.size).size then (bif bt (s.extract 1 s.size) (0) == 48 then (bif decide ((↑(s.extract 1 s.size).size : Int) > 1) then some (.val (.tup [.agg [.bool false, .ints .u32 []], .int .i64 (10)])) else (bif bt s (0) == 45 then some (.val (.tup [.agg [.bool false, .ints .u32 []], .int .i64 (10)])) else (bif cdec (Ends T orc L0 D0 (st0 s (bt s (0) == 45) (0)) .ret (st0x0 s x2 b1 x3)) then some (.val (.tup [.agg [.bool false, .ints .u32 []], .int .i64 x2])) else none))) else (bif cdec (Ends T orc L0 D0 (st0 s (false) (0)) .ret (st0x0 s x2 b1 x3)) then some (.val (.tup [.agg [.bool false, .ints .u32 []], .int .i64 x2])) else none)) else none)) else none) else (bif (↑s.size : Int) == 0 then some (.val (.tup [.agg [.bool false, .ints .u32 []], .int .i64 (10)])) else (bif inB (0) s.size then (bif bt s (0) == 48 then (bif decide ((↑s.size : Int) > 1) then some (.val (.tup [.agg [.bool false, .ints .u32 []], .int .i64 (10)])) else (bif bt s (0) == 45 then some (.val (.tup [.agg [.bool false, .ints .u32 []], .int .i64 (10)])) else (bif cdec (Ends T orc L0a D0a (st0a s (bt s (0) == 45) (true) (bt s (0) == 45) (0)) .ret (st0ax0 s x6 b9 b10 b11 x7)) then some (.val (.tup [.agg [.bool false, .ints .u32 []], .int .i64 x6])) else none))) else (bif cdec (Ends T orc L0a D0a (st0a s (bt s (0) == 45) (true) (false) (0)) .ret (st0ax0 s x6 b9 b10 b11 x7)) then some (.val (.tup [.agg [.bool false, .ints .u32 []], .int .i64 x6])) else none)) else none))) else none) else (bif (↑s.size : Int) == 0 then some (.val (.tup [.agg [.bool false, .ints .u32 []], .int .i64 (10)])) else (bif inB (0) s.size then (bif bt s (0) == 48 then (bif decide ((↑s.size : Int) > 1) then some (.val (.tup [.agg [.bool false, .ints .u32 []], .int .i64 (10)])) else (bif cdec (Ends T orc L0a D0a (st0a s (false) (false) (false) (0)) .ret (st0ax0 s x6 b9 b10 b11 x7)) then some (.val (.tup [.agg [.bool false, .ints .u32 []], .int .i64 x6])) else none)) else (bif cdec (Ends T orc L0a D0a (st0a s (false) (false) (false) (0)) .ret (st0ax0 s x6 b9 b10 b11 x7)) then some (.val (.tup [.agg [.bool false, .ints .u32 []], .int .i64 x6])) else none)) else none))) := by kernel_rfl
theorem rest_1 (s : ByteArray) (b12 : Bool) (l1 : List Int) (b13 : Bool) (b14 : Bool) (x8 : Int) (x22 : Int) (x2 : Int) (b1 : Bool) (x3 : Int) : runT T orc (tabOf T orc [(8, 2585025628590623854992277685469035784553465991325676146883346425763788658036205756010234607550307971754212937460549868777198, .ret, st0x0 s x2 b1 x3), (8, 2585025628590623854992277687029307564698818278075164658811886446977482977101416959057487657014195037070540214235135455719150, .exit 0, st0a s b12 b13 b14 x8), (17, 2585025616739239178733000736461002534577496938266024331367201316383660280611729922488402123137553331067272718842187672907502, .exit 2, st1 s b12 x22 b13 b14 x8 l1)]) Try.f15 [.str s] =
    (bif decide ((↑s.size : Int) > 0) then (bif inB (0) s.size then (bif bt s (0) == 45 then (bif true && decide (1 ≤ (↑s.size : Int)) then (bif (↑(s.extract 1 s.size).size : Int) == 0 then some (.val (.tup [.agg [.bool false, .ints .u32 []], .int .i64 (10)])) else (bif inB (0) (s.extract 1 s.size).size then (bif bt (s.extract 1 s.size) (0) == 48 then (bif decide ((↑(s.extract 1 s.size).size : Int) > 1) then some (.val (.tup [.agg [.bool false, .ints .u32 []], .int .i64 (10)])) else (bif bt s (0) == 45 then some (.val (.tup [.agg [.bool false, .ints .u32 []], .int .i64 (10)])) else (bif cdec (Ends T orc L0 D0 (st0 s (bt s (0) == 45) (0)) .ret (st0x0 s x2 b1 x3)) then some (.val (.tup [.agg [.bool false, .ints .u32 []], .int .i64 x2])) else none))) else (bif cdec (Ends T orc L0 D0 (st0 s (false) (0)) .ret (st0x0 s x2 b1 x3)) then some (.val (.tup [.agg [.bool false, .ints .u32 []], .int .i64 x2])) else none)) else none)) else none) else (bif (↑s.size : Int) == 0 then some (.val (.tup [.agg [.bool false, .ints .u32 []], .int .i64 (10)])) else (bif inB (0) s.size then (bif bt s (0) == 48 then (bif decide ((↑s.size : Int) > 1) then some (.val (.tup [.agg [.bool false, .ints .u32 []], .int .i64 (10)])) else (bif bt s (0) == 45 then some (.val (.tup [.agg [.bool false, .ints .u32 []], .int .i64 (10)])) else (bif cdec (Ends T orc L0a D0a (st0a s (bt s (0) == 45) (true) (bt s (0) == 45) (0)) (.exit 0) (st0a s b12 b13 b14 x8)) then (bif decide ((↑s.size : Int) > 343) then some (.val (.tup [.agg [.bool false, .ints .u32 []], .int .i64 (11)])) else (bif cdec (Ends T orc L1 D1 (st1 s b12 (0) b13 b14 x8 ([])) (.exit 2) (st1 s b12 x22 b13 b14 x8 l1)) then (bif few l1 && okB (4294967296) l1 then (bif cn (4294967296) (sg (num (4294967296) b12 l1)) (lb (4294967296) (num (4294967296) b12 l1)) then some (.val (.tup [R (hz (N (4294967296) (num (4294967296) b12 l1))), .int .i64 (he (N (4294967296) (num (4294967296) b12 l1)))])) else none) else none) else none)) else none))) else (bif cdec (Ends T orc L0a D0a (st0a s (bt s (0) == 45) (true) (false) (0)) (.exit 0) (st0a s b12 b13 b14 x8)) then (bif decide ((↑s.size : Int) > 343) then some (.val (.tup [.agg [.bool false, .ints .u32 []], .int .i64 (11)])) else (bif cdec (Ends T orc L1 D1 (st1 s b12 (0) b13 b14 x8 ([])) (.exit 2) (st1 s b12 x22 b13 b14 x8 l1)) then (bif few l1 && okB (4294967296) l1 then (bif cn (4294967296) (sg (num (4294967296) b12 l1)) (lb (4294967296) (num (4294967296) b12 l1)) then some (.val (.tup [R (hz (N (4294967296) (num (4294967296) b12 l1))), .int .i64 (he (N (4294967296) (num (4294967296) b12 l1)))])) else none) else none) else none)) else none)) else none))) else none) else (bif (↑s.size : Int) == 0 then some (.val (.tup [.agg [.bool false, .ints .u32 []], .int .i64 (10)])) else (bif inB (0) s.size then (bif bt s (0) == 48 then (bif decide ((↑s.size : Int) > 1) then some (.val (.tup [.agg [.bool false, .ints .u32 []], .int .i64 (10)])) else (bif cdec (Ends T orc L0a D0a (st0a s (false) (false) (false) (0)) (.exit 0) (st0a s b12 b13 b14 x8)) then (bif decide ((↑s.size : Int) > 343) then some (.val (.tup [.agg [.bool false, .ints .u32 []], .int .i64 (11)])) else (bif cdec (Ends T orc L1 D1 (st1 s b12 (0) b13 b14 x8 ([])) (.exit 2) (st1 s b12 x22 b13 b14 x8 l1)) then (bif few l1 && okB (4294967296) l1 then (bif cn (4294967296) (sg (num (4294967296) b12 l1)) (lb (4294967296) (num (4294967296) b12 l1)) then some (.val (.tup [R (hz (N (4294967296) (num (4294967296) b12 l1))), .int .i64 (he (N (4294967296) (num (4294967296) b12 l1)))])) else none) else none) else none)) else none)) else (bif cdec (Ends T orc L0a D0a (st0a s (false) (false) (false) (0)) (.exit 0) (st0a s b12 b13 b14 x8)) then (bif decide ((↑s.size : Int) > 343) then some (.val (.tup [.agg [.bool false, .ints .u32 []], .int .i64 (11)])) else (bif cdec (Ends T orc L1 D1 (st1 s b12 (0) b13 b14 x8 ([])) (.exit 2) (st1 s b12 x22 b13 b14 x8 l1)) then (bif few l1 && okB (4294967296) l1 then (bif cn (4294967296) (sg (num (4294967296) b12 l1)) (lb (4294967296) (num (4294967296) b12 l1)) then some (.val (.tup [R (hz (N (4294967296) (num (4294967296) b12 l1))), .int .i64 (he (N (4294967296) (num (4294967296) b12 l1)))])) else none) else none) else none)) else none)) else none))) := by kernel_rfl
theorem rest_2 (s : ByteArray) (x38 : Int) (b23 : Bool) (b24 : Bool) (b25 : Bool) (x39 : Int) (l3 : List Int) (b15 : Bool) (x23 : Int) (x37 : Int) : runT T orc (tabOf T orc [(8, 2585025628590623854992277685469035784553465991325676146883346425763788658036205756010234607550307971754212937460549868777198, .exit 0, st0 s b15 x23), (17, 2585025616739239178733000734900730754432144651516535819438661295169965961546518719441149073673666265750945442067602085965550, .exit 2, st1a s x37 b15 x23 l3), (8, 2585025628590623854992277687029307564698818278075164658811886446977482977101416959057487657014195037070540214235135455719150, .ret, st0ax0 s x38 b23 b24 b25 x39)]) Try.f15 [.str s] =
    (bif decide ((↑s.size : Int) > 0) then (bif inB (0) s.size then (bif bt s (0) == 45 then (bif true && decide (1 ≤ (↑s.size : Int)) then (bif (↑(s.extract 1 s.size).size : Int) == 0 then some (.val (.tup [.agg [.bool false, .ints .u32 []], .int .i64 (10)])) else (bif inB (0) (s.extract 1 s.size).size then (bif bt (s.extract 1 s.size) (0) == 48 then (bif decide ((↑(s.extract 1 s.size).size : Int) > 1) then some (.val (.tup [.agg [.bool false, .ints .u32 []], .int .i64 (10)])) else (bif bt s (0) == 45 then some (.val (.tup [.agg [.bool false, .ints .u32 []], .int .i64 (10)])) else (bif cdec (Ends T orc L0 D0 (st0 s (bt s (0) == 45) (0)) (.exit 0) (st0 s b15 x23)) then (bif decide ((↑(s.extract 1 s.size).size : Int) > 343) then some (.val (.tup [.agg [.bool false, .ints .u32 []], .int .i64 (11)])) else (bif cdec (Ends T orc L1a D1a (st1a s (0) b15 x23 ([])) (.exit 2) (st1a s x37 b15 x23 l3)) then (bif few l3 && okB (4294967296) l3 then (bif cn (4294967296) (sg (num (4294967296) (bt s (0) == 45) l3)) (lb (4294967296) (num (4294967296) (bt s (0) == 45) l3)) then some (.val (.tup [R (hz (N (4294967296) (num (4294967296) (bt s (0) == 45) l3))), .int .i64 (he (N (4294967296) (num (4294967296) (bt s (0) == 45) l3)))])) else none) else none) else none)) else none))) else (bif cdec (Ends T orc L0 D0 (st0 s (false) (0)) (.exit 0) (st0 s b15 x23)) then (bif decide ((↑(s.extract 1 s.size).size : Int) > 343) then some (.val (.tup [.agg [.bool false, .ints .u32 []], .int .i64 (11)])) else (bif cdec (Ends T orc L1a D1a (st1a s (0) b15 x23 ([])) (.exit 2) (st1a s x37 b15 x23 l3)) then (bif few l3 && okB (4294967296) l3 then (bif cn (4294967296) (sg (num (4294967296) (bt s (0) == 45) l3)) (lb (4294967296) (num (4294967296) (bt s (0) == 45) l3)) then some (.val (.tup [R (hz (N (4294967296) (num (4294967296) (bt s (0) == 45) l3))), .int .i64 (he (N (4294967296) (num (4294967296) (bt s (0) == 45) l3)))])) else none) else none) else none)) else none)) else none)) else none) else (bif (↑s.size : Int) == 0 then some (.val (.tup [.agg [.bool false, .ints .u32 []], .int .i64 (10)])) else (bif inB (0) s.size then (bif bt s (0) == 48 then (bif decide ((↑s.size : Int) > 1) then some (.val (.tup [.agg [.bool false, .ints .u32 []], .int .i64 (10)])) else (bif bt s (0) == 45 then some (.val (.tup [.agg [.bool false, .ints .u32 []], .int .i64 (10)])) else (bif cdec (Ends T orc L0a D0a (st0a s (bt s (0) == 45) (true) (bt s (0) == 45) (0)) .ret (st0ax0 s x38 b23 b24 b25 x39)) then some (.val (.tup [.agg [.bool false, .ints .u32 []], .int .i64 x38])) else none))) else (bif cdec (Ends T orc L0a D0a (st0a s (bt s (0) == 45) (true) (false) (0)) .ret (st0ax0 s x38 b23 b24 b25 x39)) then some (.val (.tup [.agg [.bool false, .ints .u32 []], .int .i64 x38])) else none)) else none))) else none) else (bif (↑s.size : Int) == 0 then some (.val (.tup [.agg [.bool false, .ints .u32 []], .int .i64 (10)])) else (bif inB (0) s.size then (bif bt s (0) == 48 then (bif decide ((↑s.size : Int) > 1) then some (.val (.tup [.agg [.bool false, .ints .u32 []], .int .i64 (10)])) else (bif cdec (Ends T orc L0a D0a (st0a s (false) (false) (false) (0)) .ret (st0ax0 s x38 b23 b24 b25 x39)) then some (.val (.tup [.agg [.bool false, .ints .u32 []], .int .i64 x38])) else none)) else (bif cdec (Ends T orc L0a D0a (st0a s (false) (false) (false) (0)) .ret (st0ax0 s x38 b23 b24 b25 x39)) then some (.val (.tup [.agg [.bool false, .ints .u32 []], .int .i64 x38])) else none)) else none))) := by kernel_rfl
theorem rest_3 (s : ByteArray) (b29 : Bool) (l4 : List Int) (b26 : Bool) (b27 : Bool) (b28 : Bool) (x40 : Int) (x41 : Int) (b30 : Bool) (b31 : Bool) (x42 : Int) (l3 : List Int) (b15 : Bool) (x23 : Int) (x37 : Int) : runT T orc (tabOf T orc [(8, 2585025628590623854992277685469035784553465991325676146883346425763788658036205756010234607550307971754212937460549868777198, .exit 0, st0 s b15 x23), (17, 2585025616739239178733000734900730754432144651516535819438661295169965961546518719441149073673666265750945442067602085965550, .exit 2, st1a s x37 b15 x23 l3), (8, 2585025628590623854992277687029307564698818278075164658811886446977482977101416959057487657014195037070540214235135455719150, .exit 0, st0a s b26 b27 b28 x40), (17, 2585025616739239178733000736461002534577496938266024331367201316383660280611729922488402123137553331067272718842187672907502, .exit 2, st1 s b29 x41 b30 b31 x42 l4)]) Try.f15 [.str s] =
    (bif decide ((↑s.size : Int) > 0) then (bif inB (0) s.size then (bif bt s (0) == 45 then (bif true && decide (1 ≤ (↑s.size : Int)) then (bif (↑(s.extract 1 s.size).size : Int) == 0 then some (.val (.tup [.agg [.bool false, .ints .u32 []], .int .i64 (10)])) else (bif inB (0) (s.extract 1 s.size).size then (bif bt (s.extract 1 s.size) (0) == 48 then (bif decide ((↑(s.extract 1 s.size).size : Int) > 1) then some (.val (.tup [.agg [.bool false, .ints .u32 []], .int .i64 (10)])) else (bif bt s (0) == 45 then some (.val (.tup [.agg [.bool false, .ints .u32 []], .int .i64 (10)])) else (bif cdec (Ends T orc L0 D0 (st0 s (bt s (0) == 45) (0)) (.exit 0) (st0 s b15 x23)) then (bif decide ((↑(s.extract 1 s.size).size : Int) > 343) then some (.val (.tup [.agg [.bool false, .ints .u32 []], .int .i64 (11)])) else (bif cdec (Ends T orc L1a D1a (st1a s (0) b15 x23 ([])) (.exit 2) (st1a s x37 b15 x23 l3)) then (bif few l3 && okB (4294967296) l3 then (bif cn (4294967296) (sg (num (4294967296) (bt s (0) == 45) l3)) (lb (4294967296) (num (4294967296) (bt s (0) == 45) l3)) then some (.val (.tup [R (hz (N (4294967296) (num (4294967296) (bt s (0) == 45) l3))), .int .i64 (he (N (4294967296) (num (4294967296) (bt s (0) == 45) l3)))])) else none) else none) else none)) else none))) else (bif cdec (Ends T orc L0 D0 (st0 s (false) (0)) (.exit 0) (st0 s b15 x23)) then (bif decide ((↑(s.extract 1 s.size).size : Int) > 343) then some (.val (.tup [.agg [.bool false, .ints .u32 []], .int .i64 (11)])) else (bif cdec (Ends T orc L1a D1a (st1a s (0) b15 x23 ([])) (.exit 2) (st1a s x37 b15 x23 l3)) then (bif few l3 && okB (4294967296) l3 then (bif cn (4294967296) (sg (num (4294967296) (bt s (0) == 45) l3)) (lb (4294967296) (num (4294967296) (bt s (0) == 45) l3)) then some (.val (.tup [R (hz (N (4294967296) (num (4294967296) (bt s (0) == 45) l3))), .int .i64 (he (N (4294967296) (num (4294967296) (bt s (0) == 45) l3)))])) else none) else none) else none)) else none)) else none)) else none) else (bif (↑s.size : Int) == 0 then some (.val (.tup [.agg [.bool false, .ints .u32 []], .int .i64 (10)])) else (bif inB (0) s.size then (bif bt s (0) == 48 then (bif decide ((↑s.size : Int) > 1) then some (.val (.tup [.agg [.bool false, .ints .u32 []], .int .i64 (10)])) else (bif bt s (0) == 45 then some (.val (.tup [.agg [.bool false, .ints .u32 []], .int .i64 (10)])) else (bif cdec (Ends T orc L0a D0a (st0a s (bt s (0) == 45) (true) (bt s (0) == 45) (0)) (.exit 0) (st0a s b26 b27 b28 x40)) then (bif decide ((↑s.size : Int) > 343) then some (.val (.tup [.agg [.bool false, .ints .u32 []], .int .i64 (11)])) else (bif cdec (Ends T orc L1 D1 (st1 s b26 (0) b27 b28 x40 ([])) (.exit 2) (st1 s b29 x41 b30 b31 x42 l4)) then (bif few l4 && okB (4294967296) l4 then (bif cn (4294967296) (sg (num (4294967296) b29 l4)) (lb (4294967296) (num (4294967296) b29 l4)) then some (.val (.tup [R (hz (N (4294967296) (num (4294967296) b29 l4))), .int .i64 (he (N (4294967296) (num (4294967296) b29 l4)))])) else none) else none) else none)) else none))) else (bif cdec (Ends T orc L0a D0a (st0a s (bt s (0) == 45) (true) (false) (0)) (.exit 0) (st0a s b26 b27 b28 x40)) then (bif decide ((↑s.size : Int) > 343) then some (.val (.tup [.agg [.bool false, .ints .u32 []], .int .i64 (11)])) else (bif cdec (Ends T orc L1 D1 (st1 s b26 (0) b27 b28 x40 ([])) (.exit 2) (st1 s b29 x41 b30 b31 x42 l4)) then (bif few l4 && okB (4294967296) l4 then (bif cn (4294967296) (sg (num (4294967296) b29 l4)) (lb (4294967296) (num (4294967296) b29 l4)) then some (.val (.tup [R (hz (N (4294967296) (num (4294967296) b29 l4))), .int .i64 (he (N (4294967296) (num (4294967296) b29 l4)))])) else none) else none) else none)) else none)) else none))) else none) else (bif (↑s.size : Int) == 0 then some (.val (.tup [.agg [.bool false, .ints .u32 []], .int .i64 (10)])) else (bif inB (0) s.size then (bif bt s (0) == 48 then (bif decide ((↑s.size : Int) > 1) then some (.val (.tup [.agg [.bool false, .ints .u32 []], .int .i64 (10)])) else (bif cdec (Ends T orc L0a D0a (st0a s (false) (false) (false) (0)) (.exit 0) (st0a s b26 b27 b28 x40)) then (bif decide ((↑s.size : Int) > 343) then some (.val (.tup [.agg [.bool false, .ints .u32 []], .int .i64 (11)])) else (bif cdec (Ends T orc L1 D1 (st1 s b26 (0) b27 b28 x40 ([])) (.exit 2) (st1 s b29 x41 b30 b31 x42 l4)) then (bif few l4 && okB (4294967296) l4 then (bif cn (4294967296) (sg (num (4294967296) b29 l4)) (lb (4294967296) (num (4294967296) b29 l4)) then some (.val (.tup [R (hz (N (4294967296) (num (4294967296) b29 l4))), .int .i64 (he (N (4294967296) (num (4294967296) b29 l4)))])) else none) else none) else none)) else none)) else (bif cdec (Ends T orc L0a D0a (st0a s (false) (false) (false) (0)) (.exit 0) (st0a s b26 b27 b28 x40)) then (bif decide ((↑s.size : Int) > 343) then some (.val (.tup [.agg [.bool false, .ints .u32 []], .int .i64 (11)])) else (bif cdec (Ends T orc L1 D1 (st1 s b26 (0) b27 b28 x40 ([])) (.exit 2) (st1 s b29 x41 b30 b31 x42 l4)) then (bif few l4 && okB (4294967296) l4 then (bif cn (4294967296) (sg (num (4294967296) b29 l4)) (lb (4294967296) (num (4294967296) b29 l4)) then some (.val (.tup [R (hz (N (4294967296) (num (4294967296) b29 l4))), .int .i64 (he (N (4294967296) (num (4294967296) b29 l4)))])) else none) else none) else none)) else none)) else none))) := by kernel_rfl
end Parse
end Go.Abs
end
section
/- States and rounds of arith's functions, as a program of this session printed them (4). -/
set_option maxRecDepth 10000
namespace Go.Abs
open Go.Proofs Go.Dig
namespace Text
abbrev ans : Ans := [(68, ansPart)]
abbrev orc : Orc := orcOf ans
noncomputable def L1 : Code := lp Try.f24 1
theorem isL1 : ∃ a, L1 = .loop a := ⟨_, rfl⟩
abbrev D1 : List Nat := [0, 1, 2, 3, 4, 5, 6, 9, 10, 11, 12, 13, 14, 15, 16, 17, 18, 19, 20, 21, 22]
abbrev st1 (s : Bool) (l : List Int) (l2 : List Int) (x4 : Int) (x5 : Int) (l4 : List Int) : St := ⟨.agg [.bool s, .ints .u32 l] :: .ptr 1 0 0 :: .str { data := #[] } :: .sl 3 0 0 :: .ints .u32 (limbs (4294967296) (val (4294967296) l2 / 1000000000)) :: .int .u32 x4 :: .int .i64 x5 :: tops 2 (.ptr 1 0 1 :: .ints .u32 l :: .int .i64 (↑l.length : Int) :: .bool ((↑l.length : Int) == 0) :: .ptr 1 0 1 :: .ints .u32 l :: .ints .u32 l2 :: .int .i64 (↑l2.length : Int) :: .bool (decide ((↑l2.length : Int) > 0)) :: .tup [.ints .u32 (limbs (4294967296) (val (4294967296) l2 / 1000000000)), .int .u32 (val (4294967296) l2 % 1000000000)] :: .ints .u32 l2 :: .tup [.ints .u32 (limbs (4294967296) (val (4294967296) l2 / 1000000000)), .int .u32 (val (4294967296) l2 % 1000000000)] :: .ints .u32 (limbs (4294967296) (val (4294967296) l2 / 1000000000)) :: .int .u32 (val (4294967296) l2 % 1000000000) :: tops 53 ([])), nos 1 (varE [(false, .bool s), (false, .ints .u32 l)] :: nos 1 (rowE (.ints .u8 l4) :: nos 72 ([])))⟩
theorem round1 (s : Bool) (l : List Int) (l2 : List Int) (x4 : Int) (x5 : Int) (l4 : List Int) : goL T orc (noTab) D1 L1 (st1 s l l2 x4 x5 l4) =
    (bif decide (x5 < 9) then (bif decide ((↑(limbs (4294967296) (val (4294967296) l2 / 1000000000)).length : Int) > 0) then (bif true && decide ((l4 ++ [IntKind.u8.wrap (IntKind.u32.wrap (48 + x4.tmod (10)))]).length * 1 ≤ 140737488355328) then some (.normal, st1 s l l2 (IntKind.u32.wrap (x4.tdiv (10))) (IntKind.i64.wrap (x5 + 1)) (l4 ++ [IntKind.u8.wrap (IntKind.u32.wrap (48 + x4.tmod (10)))])) else none) else (bif decide (x4 > 0) then (bif true && decide ((l4 ++ [IntKind.u8.wrap (IntKind.u32.wrap (48 + x4.tmod (10)))]).length * 1 ≤ 140737488355328) then some (.normal, st1 s l l2 (IntKind.u32.wrap (x4.tdiv (10))) (IntKind.i64.wrap (x5 + 1)) (l4 ++ [IntKind.u8.wrap (IntKind.u32.wrap (48 + x4.tmod (10)))])) else none) else some (.exit 2, st1 s l l2 x4 x5 l4))) else some (.exit 2, st1 s l l2 x4 x5 l4)) := by kernel_rfl
-- loop 1 ends exit2 st1 s l l2 x4 x5 l4
noncomputable def L0 : Code := lp Try.f24 0
theorem isL0 : ∃ a, L0 = .loop a := ⟨_, rfl⟩
abbrev D0 : List Nat := [0, 1, 2, 3, 4, 9, 10, 11, 12, 13, 14]
abbrev st0 (s : Bool) (l : List Int) (l2 : List Int) (l3 : List Int) : St := ⟨.agg [.bool s, .ints .u32 l] :: .ptr 1 0 0 :: .str { data := #[] } :: .sl 3 0 0 :: .ints .u32 l2 :: tops 4 (.ptr 1 0 1 :: .ints .u32 l :: .int .i64 (↑l.length : Int) :: .bool ((↑l.length : Int) == 0) :: .ptr 1 0 1 :: .ints .u32 l :: tops 61 ([])), nos 1 (varE [(false, .bool s), (false, .ints .u32 l)] :: nos 1 (rowE (.ints .u8 l3) :: nos 72 ([])))⟩
theorem round0 (s : Bool) (l : List Int) (l2 : List Int) (l3 : List Int) (l5 : List Int) (x6 : Int) (x7 : Int) : goL T orc (tabOf T orc [(9, 15434055826790135822470426309716605157525547871637213005085072231847775149465239827614985966, .exit 2, st1 s l l2 x6 x7 l5)]) D0 L0 (st0 s l l2 l3) =
    (bif decide ((↑l2.length : Int) > 0) then (bif few l2 && okB (4294967296) l2 && true && true then (bif cdec (Ends T orc L1 D1 (st1 s l l2 (val (4294967296) l2 % 1000000000) (0) l3) (.exit 2) (st1 s l l2 x6 x7 l5)) then some (.normal, st0 s l (limbs (4294967296) (val (4294967296) l2 / 1000000000)) l5) else none) else none) else some (.exit 0, st0 s l l2 l3)) := by kernel_rfl
-- loop 0 ends exit0 st0 s l l2 l3
noncomputable def L2 : Code := lp Try.f24 2
theorem isL2 : ∃ a, L2 = .loop a := ⟨_, rfl⟩
abbrev D2 : List Nat := [0, 1, 2, 3, 4, 7, 8, 9, 10, 11, 12, 13, 14, 45, 46, 47, 48, 49, 50, 51, 52]
abbrev st2 (s : Bool) (l : List Int) (l6 : List Int) (x8 : Int) (x9 : Int) (l7 : List Int) (l8 : List Int) : St := ⟨.agg [.bool s, .ints .u32 l] :: .ptr 1 0 0 :: .str { data := #[] } :: .sl 3 0 0 :: .ints .u32 l6 :: tops 2 (.int .i64 x8 :: .int .i64 x9 :: .ptr 1 0 1 :: .ints .u32 l :: .int .i64 (↑l.length : Int) :: .bool ((↑l.length : Int) == 0) :: .ptr 1 0 1 :: .ints .u32 l :: tops 30 (.ptr 1 0 0 :: .bool s :: tops 1 (.sl 48 0 0 :: .sl 49 0 0 :: .sl 3 0 0 :: .int .i64 (↑(l7 ++ [45]).length : Int) :: .int .i64 (IntKind.i64.wrap ((↑(l7 ++ [45]).length : Int) - 1)) :: tops 23 ([])))), nos 1 (varE [(false, .bool s), (false, .ints .u32 l)] :: nos 1 (rowE (.ints .u8 l8) :: nos 44 (rowE (.ints .u8 [45]) :: { g := 0, pg := 0, o := some (AObj.row { g := 0, own := false, v := .top }) } :: nos 26 ([]))))⟩
theorem round2 (s : Bool) (l : List Int) (l6 : List Int) (x8 : Int) (x9 : Int) (l7 : List Int) (l8 : List Int) : goL T orc (noTab) D2 L2 (st2 s l l6 x8 x9 l7 l8) =
    (bif decide (x8 < x9) then (bif inB x9 l8.length then (bif inB x8 l8.length then (bif inB x8 l8.length then (bif inB x9 (l8.set x8.toNat (rd l8 x9)).length then some (.normal, st2 s l l6 (IntKind.i64.wrap (x8 + 1)) (IntKind.i64.wrap (x9 - 1)) l7 ((l8.set x8.toNat (rd l8 x9)).set x9.toNat (rd l8 x8))) else none) else none) else none) else none) else some (.exit 4, st2 s l l6 x8 x9 l7 l8)) := by kernel_rfl
-- loop 2 ends exit4 st2 s l l6 x8 x9 l7 l8
noncomputable def L2a : Code := lp Try.f24 2
theorem isL2a : ∃ a, L2a = .loop a := ⟨_, rfl⟩
abbrev D2a : List Nat := [0, 1, 2, 3, 4, 7, 8, 9, 10, 11, 12, 13, 14, 45, 46, 50, 51, 52]
abbrev st2a (s : Bool) (l : List Int) (l6 : List Int) (x12 : Int) (x13 : Int) (l7 : List Int) (l10 : List Int) : St := ⟨.agg [.bool s, .ints .u32 l] :: .ptr 1 0 0 :: .str { data := #[] } :: .sl 3 0 0 :: .ints .u32 l6 :: tops 2 (.int .i64 x12 :: .int .i64 x13 :: .ptr 1 0 1 :: .ints .u32 l :: .int .i64 (↑l.length : Int) :: .bool ((↑l.length : Int) == 0) :: .ptr 1 0 1 :: .ints .u32 l :: tops 30 (.ptr 1 0 0 :: .bool s :: tops 3 (.sl 3 0 0 :: .int .i64 (↑l7.length : Int) :: .int .i64 (IntKind.i64.wrap ((↑l7.length : Int) - 1)) :: tops 23 ([])))), nos 1 (varE [(false, .bool s), (false, .ints .u32 l)] :: nos 1 (rowE (.ints .u8 l10) :: nos 72 ([])))⟩
theorem round2a (s : Bool) (l : List Int) (l6 : List Int) (x12 : Int) (x13 : Int) (l7 : List Int) (l10 : List Int) : goL T orc (noTab) D2a L2a (st2a s l l6 x12 x13 l7 l10) =
    (bif decide (x12 < x13) then (bif inB x13 l10.length then (bif inB x12 l10.length then (bif inB x12 l10.length then (bif inB x13 (l10.set x12.toNat (rd l10 x13)).length then some (.normal, st2a s l l6 (IntKind.i64.wrap (x12 + 1)) (IntKind.i64.wrap (x13 - 1)) l7 ((l10.set x12.toNat (rd l10 x13)).set x13.toNat (rd l10 x12))) else none) else none) else none) else none) else some (.exit 4, st2a s l l6 x12 x13 l7 l10)) := by kernel_rfl
-- loop 2a ends exit4 st2a s l l6 x12 x13 l7 l10
theorem rest (s : Bool) (l : List Int) (l11 : List Int) (l6 : List Int) (l7 : List Int) (x14 : Int) (x15 : Int) (l9 : List Int) (x10 : Int) (x11 : Int) : runT T orc (tabOf T orc [(5, 15434082659904209709542942231877832302031806041980364213475750064431526063267439400497114862, .exit 0, st0 s l l6 l7), (16, 15434082555087357858496525075334599536407372846674721766738814902332179473980859833014742766, .exit 4, st2 s l l6 x10 x11 l7 l9), (16, 15434082555087357858496525075334599536407372846674721766740194106185227787569688246102191854, .exit 4, st2a s l l6 x14 x15 l7 l11)]) Try.f24 [.agg [.bool s, .ints .u32 l]] =
    (bif (↑l.length : Int) == 0 then some (.val (.str { data := #[48] })) else (bif cdec (Ends T orc L0 D0 (st0 s l l ([])) (.exit 0) (st0 s l l6 l7)) then (bif s then (bif true && decide ((l7 ++ [45]).length * 1 ≤ 140737488355328) then (bif cdec (Ends T orc L2 D2 (st2 s l l6 (0) (IntKind.i64.wrap ((↑(l7 ++ [45]).length : Int) - 1)) l7 (l7 ++ [45])) (.exit 4) (st2 s l l6 x10 x11 l7 l9)) then some (.val (.str (strOf l9))) else none) else none) else (bif cdec (Ends T orc L2a D2a (st2a s l l6 (0) (IntKind.i64.wrap ((↑l7.length : Int) - 1)) l7 l7) (.exit 4) (st2a s l l6 x14 x15 l7 l11)) then some (.val (.str (strOf l11))) else none)) else none)) := by kernel_rfl
end Text
end Go.Abs
end
section
/- What arith.Text and arith.Small answer. -/
namespace Go.Abs
open Go.Proofs Go.Dig
/-- A number's digits, cut at a place. -/
theorem limbs_split {B : Int} (hB : 2 ≤ B) {v : Int} (h0 : 0 ≤ v) (k : Nat) (h : 0 < v / B ^ k) : limbs B v = digN B k v ++ limbs B (v / B ^ k) := by
  have hq : 0 ≤ v / B ^ k := by omega
  have hn : limbs B (v / B ^ k) ≠ [] := fun hc => by have := (limbs_nil hB hq).1 hc; omega
  have ok : okB B (digN B k v ++ limbs B (v / B ^ k)) = true := okB_app (digN_ok (by omega) _ _) (limbs_ok (by omega) _)
  have hl : (digN B k v ++ limbs B (v / B ^ k)).getLast? ≠ some 0 := by
    rw [List.getLast?_append]
    cases hg : (limbs B (v / B ^ k)).getLast? with
    | none => exact absurd (List.getLast?_eq_none_iff.1 hg) hn
    | some d =>
      intro h
      simp at h
      exact limbs_last B (v / B ^ k) (by rw [hg, h])
  have hp : (0 : Int) < B ^ k := Int.pow_pos (by omega)
  have hv : val B (digN B k v ++ limbs B (v / B ^ k)) = v := by
    rw [val_append, digN_length, limbs_val hB hq]
    have h1 : digN B k v = digN B k (v % B ^ k) := by
      have : ∀ (k : Nat) (v w : Int), digN B k (v + B ^ k * w) = digN B k v := by
        intro k
        induction k with
        | zero => intro v w; rfl
        | succ k ih =>
          intro v w
          simp only [digN]
          have e : B ^ (k + 1) * w = B * (B ^ k * w) := by rw [Int.pow_succ, Int.mul_comm (B ^ k) B, Int.mul_assoc]
          rw [e, Int.add_mul_emod_self_left, Int.add_mul_ediv_left _ _ (by omega), ih]
      have h2 := this k (v % B ^ k) (v / B ^ k)
      rw [Int.emod_add_mul_ediv] at h2
      exact h2
    rw [h1, val_digN (by omega) _ _ (Int.emod_nonneg _ (by omega)) (Int.emod_lt_of_pos _ hp), Int.emod_add_mul_ediv]
  have := limbs_self hB ok hl
  rw [hv] at this
  exact this
theorem digN_emod {B : Int} (hB : 0 < B) (k : Nat) (v : Int) : digN B k (v % B ^ k) = digN B k v := by
  have : ∀ (k : Nat) (v w : Int), digN B k (v + B ^ k * w) = digN B k v := by
    intro k
    induction k with
    | zero => intro v w; rfl
    | succ k ih =>
      intro v w
      simp only [digN]
      have e : B ^ (k + 1) * w = B * (B ^ k * w) := by rw [Int.pow_succ, Int.mul_comm (B ^ k) B, Int.mul_assoc]
      rw [e, Int.add_mul_emod_self_left, Int.add_mul_ediv_left _ _ (by omega), ih]
  have h2 := this k (v % B ^ k) (v / B ^ k)
  rw [Int.emod_add_mul_ediv] at h2
  exact h2.symm
def asc (l : List Int) : List Int := l.map (· + 48)
theorem asc_len (l : List Int) : (asc l).length = l.length := List.length_map ..
theorem asc_app (l m : List Int) : asc (l ++ m) = asc l ++ asc m := List.map_append ..
namespace Text
/-- The digits of a piece, behind what was found. -/
theorem inner (s : Bool) (l : List Int) (v : Int) (l3 : List Int) (hv : 0 ≤ v) (h3 : l3.length ≤ 100000) :
    ∃ e S1, Ends T orc L1 D1 (st1 s l (limbs 4294967296 v) (v % 1000000000) 0 l3) e S1 ∧ (e = .exit 2 ∧ ∃ x k, S1 = st1 s l (limbs 4294967296 v) x k (l3 ++ asc (if 0 < v / 1000000000 then digN 10 9 v else limbs 10 v))) := by
  have hq : 0 ≤ v / 1000000000 := by omega
  have hvl : val 4294967296 (limbs 4294967296 v) = v := limbs_val W_two hv
  have hnl : ((limbs 4294967296 (v / 1000000000)).length : Int) > 0 ↔ 0 < v / 1000000000 := by
    have := limbs_nil W_two hq
    constructor
    · intro h
      refine Int.lt_of_not_ge (fun hc => ?_)
      have : v / 1000000000 = 0 := by omega
      rw [this] at h
      simp [limbs, digN, strip] at h
    · intro h
      have : limbs 4294967296 (v / 1000000000) ≠ [] := fun hc => by have := this.1 hc; omega
      have := List.length_pos_iff.2 this
      omega
  obtain ⟨r, hr⟩ : ∃ r, v % 1000000000 = r := ⟨_, rfl⟩
  rw [hr]
  refine loop_inv3 (fun x (k : Nat) l4 => st1 s l (limbs 4294967296 v) x k l4) (fun x k l4 => k ≤ 9 ∧ x = r / 10 ^ k ∧ l4 = l3 ++ asc (digN 10 k r) ∧ (0 < v / 1000000000 ∨ k = 0 ∨ 0 < r / 10 ^ (k - 1))) (fun x k l4 => 9 - k)
    (fun e S1 => e = .exit 2 ∧ ∃ x k, S1 = st1 s l (limbs 4294967296 v) x k (l3 ++ asc (if 0 < v / 1000000000 then digN 10 9 v else limbs 10 v))) isL1 ?_ r 0 l3 ?_
  · intro x k l4 ⟨k1, k2, k3, k4⟩
    refine ⟨noTab, noTab_all, lands_of (round1 ..) ?_⟩
    rw [hvl]
    have hp : (0 : Int) < 10 ^ k := Int.pow_pos (by decide)
    have hx0 : 0 ≤ x := by rw [k2]; exact Int.ediv_nonneg (by omega) (by omega)
    have hx1 : x ≤ r := by rw [k2]; exact Int.ediv_le_self _ (by omega)
    have em : x.tmod 10 = x % 10 := Int.tmod_eq_emod_of_nonneg hx0
    have ed : x.tdiv 10 = x / 10 := Int.tdiv_eq_ediv_of_nonneg hx0
    have ew : IntKind.u8.wrap (IntKind.u32.wrap (48 + x.tmod 10)) = x % 10 + 48 := by
      rw [em, wu32 (by omega) (by omega), IntWalk.u8_in _ ⟨by omega, by omega⟩]; omega
    have ed2 : IntKind.u32.wrap (x.tdiv 10) = x / 10 := by rw [ed, wu32 (by omega) (by omega)]
    have hlen : (l4 ++ [x % 10 + 48]).length * 1 ≤ 140737488355328 := by
      rw [List.length_append, k3, List.length_append, asc_len, digN_length, List.length_singleton]; omega
    have next : k < 9 → 0 < x ∨ 0 < v / 1000000000 → k + 1 ≤ 9 ∧ x / 10 = r / 10 ^ (k + 1) ∧ l4 ++ [x % 10 + 48] = l3 ++ asc (digN 10 (k + 1) r) ∧ (0 < v / 1000000000 ∨ k + 1 = 0 ∨ 0 < r / 10 ^ (k + 1 - 1)) := by
      intro hk hor
      refine ⟨by omega, ?_, ?_, ?_⟩
      · rw [k2, Int.pow_succ, Int.ediv_ediv_of_nonneg (by omega)]
      · rw [k3, digN_succ (by decide), asc_app, List.append_assoc, k2]; rfl
      · rw [Nat.add_sub_cancel, ← k2]; omega
    have fin : (0 < v / 1000000000 → k = 9) → (¬ 0 < v / 1000000000 → x = 0) → l4 = l3 ++ asc (if 0 < v / 1000000000 then digN 10 9 v else limbs 10 v) := by
      intro f1 f2
      rw [k3]
      by_cases hb : 0 < v / 1000000000
      · rw [if_pos hb, f1 hb, ← hr]
        have := digN_emod (B := 10) (by decide) 9 v
        rw [show (10 : Int) ^ 9 = 1000000000 from rfl] at this
        rw [this]
      · rw [if_neg hb]
        have hvr : r = v := by omega
        have hx := f2 hb
        rw [hvr] at k2 k4 ⊢
        have hlt : v < 10 ^ k := by
          refine Int.not_le.1 (fun hc => ?_)
          have : 1 ≤ v / 10 ^ k := (Int.le_ediv_iff_mul_le hp).2 (by omega)
          omega
        rw [← limbs_of (by decide) hv hlt, strip_of_last]
        rcases k4 with k4 | k4 | k4
        · exact absurd k4 hb
        · rw [k4]; simp [digN]
        · cases k with
          | zero => simp [digN]
          | succ k =>
            rw [digN_succ (by decide), List.getLast?_append]
            rw [Nat.add_sub_cancel] at k4
            have : v / 10 ^ k < 10 := by
              have hp2 : (0 : Int) < 10 ^ k := Int.pow_pos (by decide)
              refine Int.ediv_lt_of_lt_mul hp2 ?_
              rw [Int.mul_comm, ← Int.pow_succ]; exact hlt
            have : v / 10 ^ k % 10 ≠ 0 := by omega
            simpa using this
    rw [ew, ed2]
    by_cases hk : k < 9
    · rw [decide_eq_true (show (k : Int) < 9 by omega), decide_eq_true hlen, wi_succ (show k < 4611686018427387904 by omega)]
      by_cases hb : 0 < v / 1000000000
      · rw [decide_eq_true (hnl.2 hb)]
        simp only [Bool.and_self, cond_true, lands_some, Turns3]
        exact ⟨_, k + 1, _, rfl, next hk (.inr hb), by omega⟩
      · rw [decide_eq_false (fun h => hb (hnl.1 h))]
        by_cases hx : x > 0
        · rw [decide_eq_true hx]
          simp only [Bool.and_self, cond_true, cond_false, lands_some, Turns3]
          exact ⟨_, k + 1, _, rfl, next hk (.inl hx), by omega⟩
        · rw [decide_eq_false hx]
          simp only [cond_true, cond_false, lands_some, Turns3]
          exact ⟨trivial, _, _, by rw [fin (fun h => absurd h hb) (fun _ => by omega)]⟩
    · rw [decide_eq_false (show ¬ (k : Int) < 9 by omega)]
      simp only [cond_false, lands_some, Turns3]
      have h9 : k = 9 := by omega
      have hx0 : x = 0 := by
        rw [k2, h9, show (10 : Int) ^ 9 = 1000000000 from rfl]
        omega
      exact ⟨trivial, _, _, by rw [fin (fun _ => h9) (fun _ => hx0)]⟩
  · exact ⟨by omega, by simp, by simp [digN, asc], .inr (.inl rfl)⟩
theorem outer (s : Bool) (l : List Int) (V : Int) (hV : 0 ≤ V) (hd : (limbs 10 V).length ≤ 20000) (hl : l = limbs 4294967296 V) (hlen : (limbs 4294967296 V).length ≤ 10000) :
    ∃ e S1, Ends T orc L0 D0 (st0 s l l []) e S1 ∧ (e = .exit 0 ∧ ∃ m, S1 = st0 s l m (asc (limbs 10 V))) := by
  have key := loop_inv2 (T := T) (orc := orc) (L := L0) (D := D0) (fun (v : Int) l3 => st0 s l (limbs 4294967296 v) l3) (fun v l3 => 0 ≤ v ∧ v ≤ V ∧ ∃ ds, l3 = asc ds ∧ ds ++ limbs 10 v = limbs 10 V) (fun v l3 => v.toNat)
    (fun e S1 => e = .exit 0 ∧ ∃ m, S1 = st0 s l m (asc (limbs 10 V))) isL0 ?_ V [] ⟨hV, Int.le_refl _, [], rfl, rfl⟩
  · rw [← hl] at key; exact key
  · intro v l3 ⟨v0, v1, ds, hds, hap⟩
    have hdl : ds.length ≤ 20000 := by
      have := congrArg List.length hap
      rw [List.length_append] at this
      omega
    have hvl : val 4294967296 (limbs 4294967296 v) = v := limbs_val W_two v0
    by_cases hv : v = 0
    · subst hv
      refine ⟨_, tabOf_all _, lands_of (round0 s l _ l3 [] 0 0) ?_⟩
      have e0 : limbs 4294967296 0 = [] := rfl
      have e1 : limbs 10 0 = [] := rfl
      rw [e0]
      simp only [List.length_nil, lands_bif, lands_some, lands_none, Turns1, Turns2, Turns3, Turns4, Turns5, Turns6, Turns7, Turns8, eq_bif, Option.some.injEq, reduceCtorEq, cond_true, cond_false, Bool.eq_false_iff, ne_eq, inB_iff, decide_eq_true_eq, Bool.and_eq_true, Bool.or_eq_true, Bool.not_eq_true', beq_iff_eq, bne_iff_ne, true_and, and_true, true_implies, implies_true, not_true_eq_false, not_false_eq_true, false_implies, few_iff]
      refine ⟨fun h => absurd h (by decide), fun _ => ⟨[], ?_⟩⟩
      rw [e1, List.append_nil] at hap
      rw [← hap, hds]
    · obtain ⟨e1, S1, hE1, rfl, x, k, rfl⟩ := inner s l v l3 v0 (by rw [hds, asc_len]; omega)
      refine ⟨_, tabOf_all _, lands_of (round0 s l _ l3 (l3 ++ asc (if 0 < v / 1000000000 then digN 10 9 v else limbs 10 v)) x k) ?_⟩
      have hne : limbs 4294967296 v ≠ [] := fun h => hv ((limbs_nil W_two v0).1 h)
      have hpos := List.length_pos_iff.2 hne
      have hfew : few (limbs 4294967296 v) = true := by
        refine few_iff.2 ?_
        have := limbs_length W_two v0 (n := (limbs 4294967296 V).length) (by
          have := val_lt W_pos (limbs_ok W_pos V)
          rw [limbs_val W_two hV] at this
          omega)
        omega
      rw [hvl, hfew, limbs_ok W_pos, decide_eq_true (show ((limbs 4294967296 v).length : Int) > 0 by omega), cdec_true hE1]
      simp only [Bool.and_self, cond_true, lands_some, Turns2]
      refine ⟨v / 1000000000, _, rfl, ⟨by omega, by omega, ds ++ (if 0 < v / 1000000000 then digN 10 9 v else limbs 10 v), by rw [hds, asc_app], ?_⟩, by omega⟩
      rw [← hap, List.append_assoc]
      congr 1
      by_cases hb : 0 < v / 1000000000
      · rw [if_pos hb]
        exact (limbs_split (by decide) v0 9 hb).symm
      · rw [if_neg hb, show v / 1000000000 = 0 by omega]
        exact List.append_nil _
/-- A row turned about in its place. -/
def Turned (L : List Int) (i : Nat) (l : List Int) : Prop := l.length = L.length ∧ ∀ k, k < L.length → l.getD k 0 = if k < i ∨ L.length < i + k + 1 then L.getD (L.length - 1 - k) 0 else L.getD k 0
theorem turned_next {L l : List Int} {i : Nat} (h : Turned L i l) (hi : i + i + 1 < L.length) : Turned L (i + 1) ((l.set i (l.getD (L.length - 1 - i) 0)).set (L.length - 1 - i) (l.getD i 0)) := by
  obtain ⟨h1, h2⟩ := h
  refine ⟨by simp [h1], fun k hk => ?_⟩
  by_cases e1 : k = L.length - 1 - i
  · subst e1
    rw [getD_set_self (by rw [List.length_set]; omega), h2 i (by omega), if_neg (by omega), if_pos (by omega)]
    congr 1; omega
  · rw [getD_set_ne (Ne.symm e1)]
    by_cases e2 : k = i
    · subst e2
      rw [getD_set_self (by omega), h2 _ (by omega), if_neg (by omega), if_pos (by omega)]
    · rw [getD_set_ne (Ne.symm e2), h2 k hk]
      by_cases e3 : k < i ∨ L.length < i + k + 1
      · rw [if_pos e3, if_pos (by omega)]
      · rw [if_neg e3, if_neg (by omega)]
theorem turned_end {L l : List Int} {i : Nat} (h : Turned L i l) (hi : L.length ≤ i + i + 1) : l = L.reverse := by
  obtain ⟨h1, h2⟩ := h
  apply List.ext_getElem (by simp [h1])
  intro k q1 q2
  have := h2 k (by omega)
  rw [getD_at q1] at this
  rw [this, List.getElem_reverse]
  by_cases e : k < i ∨ L.length < i + k + 1
  · rw [if_pos e, getD_at (by omega)]
  · rw [if_neg e, getD_at (by omega)]
    congr 1; omega
theorem turned_zero (L : List Int) : Turned L 0 L := ⟨rfl, fun k hk => by rw [if_neg (by omega)]⟩
theorem turn (s : Bool) (l m l7 : List Int) (L : List Int) (hL : L.length ≤ 100000) :
    ∃ e S1, Ends T orc L2 D2 (st2 s l m 0 ((L.length : Int) - 1) l7 L) e S1 ∧ (e = .exit 4 ∧ ∃ x y, S1 = st2 s l m x y l7 L.reverse) := by
  refine loop_inv2 (fun (i : Nat) l8 => st2 s l m i ((L.length : Int) - 1 - i) l7 l8) (fun i l8 => Turned L i l8 ∧ i ≤ L.length) (fun i l8 => L.length - i)
    (fun e S1 => e = .exit 4 ∧ ∃ x y, S1 = st2 s l m x y l7 L.reverse) isL2 ?_ 0 L ⟨turned_zero L, by omega⟩ |> fun h => by simpa using h
  intro i l8 ⟨h, hi⟩
  refine ⟨noTab, noTab_all, lands_of (round2 ..) ?_⟩
  have hl := h.1
  by_cases hc : i + i + 1 < L.length
  · have e1 : ((L.length : Int) - 1 - i) = ((L.length - 1 - i : Nat) : Int) := by omega
    have e2 : IntKind.i64.wrap (((L.length - 1 - i : Nat) : Int) - 1) = (L.length : Int) - 1 - ((i + 1 : Nat) : Int) := by rw [w64 (by omega) (by omega)]; omega
    rw [e1, e2, wi_succ (show i < 4611686018427387904 by omega), decide_eq_true (show (i : Int) < ((L.length - 1 - i : Nat) : Int) by omega)]
    simp only [lands_bif, lands_some, lands_none, Turns1, Turns2, Turns3, Turns4, Turns5, Turns6, Turns7, Turns8, eq_bif, Option.some.injEq, reduceCtorEq, cond_true, cond_false, Bool.eq_false_iff, ne_eq, inB_iff, decide_eq_true_eq, Bool.and_eq_true, Bool.or_eq_true, Bool.not_eq_true', beq_iff_eq, bne_iff_ne, true_and, and_true, true_implies, implies_true, not_true_eq_false, not_false_eq_true, false_implies, few_iff, List.length_set]
    simp only [rd_toNat, Int.toNat_natCast]
    repeat' (first | apply And.intro | intro _)
    all_goals try omega
    exact ⟨i + 1, _, rfl, ⟨turned_next h hc, by omega⟩, by omega⟩
  · rw [decide_eq_false (show ¬ (i : Int) < ((L.length : Int) - 1 - i) by omega)]
    simp only [cond_false, lands_some, Turns2]
    exact ⟨trivial, _, _, by rw [turned_end h (by omega)]⟩
theorem turna (s : Bool) (l m l7 : List Int) (L : List Int) (hL : L.length ≤ 100000) :
    ∃ e S1, Ends T orc L2a D2a (st2a s l m 0 ((L.length : Int) - 1) l7 L) e S1 ∧ (e = .exit 4 ∧ ∃ x y, S1 = st2a s l m x y l7 L.reverse) := by
  refine loop_inv2 (fun (i : Nat) l8 => st2a s l m i ((L.length : Int) - 1 - i) l7 l8) (fun i l8 => Turned L i l8 ∧ i ≤ L.length) (fun i l8 => L.length - i)
    (fun e S1 => e = .exit 4 ∧ ∃ x y, S1 = st2a s l m x y l7 L.reverse) isL2a ?_ 0 L ⟨turned_zero L, by omega⟩ |> fun h => by simpa using h
  intro i l8 ⟨h, hi⟩
  refine ⟨noTab, noTab_all, lands_of (round2a ..) ?_⟩
  have hl := h.1
  by_cases hc : i + i + 1 < L.length
  · have e1 : ((L.length : Int) - 1 - i) = ((L.length - 1 - i : Nat) : Int) := by omega
    have e2 : IntKind.i64.wrap (((L.length - 1 - i : Nat) : Int) - 1) = (L.length : Int) - 1 - ((i + 1 : Nat) : Int) := by rw [w64 (by omega) (by omega)]; omega
    rw [e1, e2, wi_succ (show i < 4611686018427387904 by omega), decide_eq_true (show (i : Int) < ((L.length - 1 - i : Nat) : Int) by omega)]
    simp only [lands_bif, lands_some, lands_none, Turns1, Turns2, Turns3, Turns4, Turns5, Turns6, Turns7, Turns8, eq_bif, Option.some.injEq, reduceCtorEq, cond_true, cond_false, Bool.eq_false_iff, ne_eq, inB_iff, decide_eq_true_eq, Bool.and_eq_true, Bool.or_eq_true, Bool.not_eq_true', beq_iff_eq, bne_iff_ne, true_and, and_true, true_implies, implies_true, not_true_eq_false, not_false_eq_true, false_implies, few_iff, List.length_set]
    simp only [rd_toNat, Int.toNat_natCast]
    repeat' (first | apply And.intro | intro _)
    all_goals try omega
    exact ⟨i + 1, _, rfl, ⟨turned_next h hc, by omega⟩, by omega⟩
  · rw [decide_eq_false (show ¬ (i : Int) < ((L.length : Int) - 1 - i) by omega)]
    simp only [cond_false, lands_some, Turns2]
    exact ⟨trivial, _, _, by rw [turned_end h (by omega)]⟩
end Text
theorem asc_dig (l : List Int) : (asc l).reverse = dig l := by
  unfold asc dig
  rw [List.map_reverse]
theorem small_digits {z : Int} (h : z.natAbs < Lim) : (limbs 10 (az z)).length ≤ 10000 := lb10_length h
theorem meets_text : Meets Try.prog 24 ansText := by
  refine meets_fn (orc_ok (l := Text.ans) ⟨meets_part, trivial⟩) Try.f24 Try.func24 (by kernel_rfl) (fun args r h => ?_)
  unfold ansText at h
  split at h
  · rename_i s l
    simp only [Option.some.injEq, Prod.mk.injEq] at h
    obtain ⟨h, rfl⟩ := h
    obtain ⟨z, hs, hl, hz⟩ := (cn_iff W_two).1 h
    have nz : num 4294967296 s l = z := by rw [hs, hl]; exact num_lbW z
    rw [nz]
    refine ⟨rfl, ?_⟩
    by_cases h0 : z = 0
    · refine ⟨_, tabOf_all _, (Text.rest s l [] [] [] 0 0 [] 0 0).trans ?_⟩
      rw [hl, h0]
      have : (((lb 4294967296 0).length : Int) == 0) = true := rfl
      have ht : txt 0 = ⟨#[48]⟩ := by kernel_rfl
      rw [this, cond_true, ht]
    · have hn : lb 4294967296 z ≠ [] := fun h => h0 ((lb_nil W_two).1 h)
      have hlz : l = limbs 4294967296 (az z) := hl
      have hlp : 0 < l.length := by rw [hl]; exact List.length_pos_iff.2 hn
      have hd := small_digits hz
      have hlw : (limbs 4294967296 (az z)).length ≤ 1100 := lb_length hz
      obtain ⟨e1, S1, hE1, rfl, m, rfl⟩ := Text.outer s l (az z) (az_nonneg z) (by omega) hlz (by omega)
      have hne : ((l.length : Int) == 0) = false := by rw [beq_eq_false_iff_ne]; omega
      have htx : txtL z = (if z < 0 then [45] else []) ++ dig (limbs 10 (az z)) := by unfold txtL; rw [if_neg h0]; rfl
      have hal : (asc (limbs 10 (az z))).length ≤ 10000 := by rw [asc_len]; exact hd
      by_cases hneg : z < 0
      · have hs1 : s = true := by rw [hs]; exact decide_eq_true hneg
        obtain ⟨e2, S2, hE2, rfl, x, y, rfl⟩ := Text.turn s l m (asc (limbs 10 (az z))) (asc (limbs 10 (az z)) ++ [45]) (by rw [List.length_append, List.length_singleton]; omega)
        refine ⟨_, tabOf_all _, (Text.rest s l [] m (asc (limbs 10 (az z))) 0 0 ((asc (limbs 10 (az z)) ++ [45]).reverse) x y).trans ?_⟩
        have hw : IntKind.i64.wrap (((asc (limbs 10 (az z)) ++ [45]).length : Int) - 1) = ((asc (limbs 10 (az z)) ++ [45]).length : Int) - 1 := by
          rw [w64 (by omega) (by rw [List.length_append, List.length_singleton]; omega)]
        have hlen : ((asc (limbs 10 (az z)) ++ [45]).length * 1 ≤ 140737488355328) := by rw [List.length_append, List.length_singleton]; omega
        rw [hne, cdec_true hE1, hw, cdec_true hE2, decide_eq_true hlen]
        have ht : (asc (limbs 10 (az z)) ++ [45]).reverse = txtL z := by rw [htx, if_pos hneg, List.reverse_append, asc_dig]; rfl
        rw [ht, hs1]
        rfl
      · have hs1 : s = false := by rw [hs]; exact decide_eq_false hneg
        obtain ⟨e2, S2, hE2, rfl, x, y, rfl⟩ := Text.turna s l m (asc (limbs 10 (az z))) (asc (limbs 10 (az z))) (by omega)
        refine ⟨_, tabOf_all _, (Text.rest s l ((asc (limbs 10 (az z))).reverse) m (asc (limbs 10 (az z))) x y [] 0 0).trans ?_⟩
        have hw : IntKind.i64.wrap (((asc (limbs 10 (az z))).length : Int) - 1) = ((asc (limbs 10 (az z))).length : Int) - 1 := by
          rw [w64 (by omega) (by omega)]
        rw [hne, cdec_true hE1, hw, cdec_true hE2]
        have ht : (asc (limbs 10 (az z))).reverse = txtL z := by rw [htx, if_neg hneg, asc_dig]; rfl
        rw [ht, hs1]
        rfl
  · cases h
end Go.Abs
end
section
/- What arith.Parse answers. -/
namespace Go.Abs
open Go.Proofs Go.Dig
theorem bytes_len (s : ByteArray) : (bytesOf s).length = s.size := by
  unfold bytesOf
  rw [List.length_map]
  rfl
theorem bt_nat (s : ByteArray) (i : Nat) : bt s (i : Int) = (bytesOf s).getD i 0 := by
  unfold bt bytesOf
  rw [Int.toNat_natCast, List.getD_eq_getElem?_getD, List.getD_eq_getElem?_getD, List.getElem?_map]
  cases s.data.toList[i]? <;> rfl
theorem bytes_extract (s : ByteArray) (a b : Nat) : bytesOf (s.extract a b) = ((bytesOf s).take b).drop a := by
  unfold bytesOf
  rw [ByteArray.data_extract, Array.toList_extract, ← List.map_take, ← List.map_drop]
  congr 1
  simp [List.extract, List.drop_take]
theorem dval_app (l m : List Int) : dval (l ++ m) = dval l * 10 ^ m.length + dval m := by
  unfold dval
  rw [List.reverse_append, List.map_append, val_append, List.length_map, List.length_reverse, Int.mul_comm]
  omega
theorem dval_one (c : Int) : dval [c] = c - 48 := by simp [dval, val]
theorem dig_iff {c : Int} : isDig c = true ↔ 48 ≤ c ∧ c ≤ 57 := by unfold isDig; simp
theorem dval_bound : ∀ (l : List Int), l.all isDig = true → 0 ≤ dval l ∧ dval l < 10 ^ l.length := by
  intro l h
  have ok : okB 10 (l.reverse.map (· - 48)) = true := by
    refine okB_iff.2 (fun d hd => ?_)
    obtain ⟨c, hc, rfl⟩ := List.mem_map.1 hd
    have := dig_iff.1 (List.all_eq_true.1 h c (List.mem_reverse.1 hc))
    omega
  have h1 := val_lt (by decide) ok
  rw [List.length_map, List.length_reverse] at h1
  exact ⟨val_nonneg (by decide) ok, h1⟩
theorem all_take {l : List Int} (h : l.all isDig = true) (n : Nat) : (l.take n).all isDig = true := List.all_eq_true.2 fun x hx => List.all_eq_true.1 h x (List.mem_of_mem_take hx)
theorem all_drop {l : List Int} (h : l.all isDig = true) (n : Nat) : (l.drop n).all isDig = true := List.all_eq_true.2 fun x hx => List.all_eq_true.1 h x (List.mem_of_mem_drop hx)
theorem pow10_le {k : Nat} (h : k ≤ 9) : (1 : Int) ≤ 10 ^ k ∧ (10 : Int) ^ k ≤ 1000000000 := by
  have h1 : (10 : Int) ^ k * 10 ^ (9 - k) = 1000000000 := by rw [← Int.pow_add, show k + (9 - k) = 9 by omega]; rfl
  have h2 : (0 : Int) < 10 ^ k := Int.pow_pos (by decide)
  have h3 : (0 : Int) < 10 ^ (9 - k) := Int.pow_pos (by decide)
  refine ⟨by omega, ?_⟩
  have : (10 : Int) ^ k * 1 ≤ 10 ^ k * 10 ^ (9 - k) := Int.mul_le_mul_of_nonneg_left (by omega) (by omega)
  omega
theorem scaleL_ok (l : List Int) (m a : Int) : okB 4294967296 (scaleL l m a) = true := by
  unfold scaleL
  cases decide (val 4294967296 l * m + a < 4294967296 ^ l.length) <;> exact digN_ok W_pos _ _
theorem scaleL_len (l : List Int) (m a : Int) : (scaleL l m a).length ≤ l.length + 1 := by
  unfold scaleL
  cases decide (val 4294967296 l * m + a < 4294967296 ^ l.length) <;> simp only [cond_true, cond_false] <;> rw [digN_length] <;> omega
theorem scaleL_val {l : List Int} {m a : Int} (ol : okB 4294967296 l = true) (hm : 0 ≤ m ∧ m < 4294967296) (ha : 0 ≤ a ∧ a < 4294967296) : val 4294967296 (scaleL l m a) = val 4294967296 l * m + a := by
  have v0 := val_nonneg W_pos ol
  have v1 := val_lt W_pos ol
  have h0 : 0 ≤ val 4294967296 l * m := Int.mul_nonneg v0 hm.1
  have hP : (0 : Int) < 4294967296 ^ l.length := Int.pow_pos (by decide)
  unfold scaleL
  by_cases h : val 4294967296 l * m + a < 4294967296 ^ l.length
  · rw [decide_eq_true h]
    exact val_digN W_pos _ _ (by omega) h
  · rw [decide_eq_false h]
    refine val_digN W_pos _ _ (by omega) ?_
    rw [Int.pow_succ]
    have h1 : val 4294967296 l * m ≤ (4294967296 ^ l.length - 1) * 4294967295 := Int.mul_le_mul (by omega) (by omega) hm.1 (by omega)
    rw [Int.sub_mul] at h1
    omega
theorem min_eq (n i : Nat) (hn : n ≤ 100000) (hi : i ≤ n) : (bif false then if (n : Int) > IntKind.i64.wrap ((i : Int) + 9) then (n : Int) else IntKind.i64.wrap ((i : Int) + 9) else if (n : Int) < IntKind.i64.wrap ((i : Int) + 9) then (n : Int) else IntKind.i64.wrap ((i : Int) + 9)) = ((min (i + 9) n : Nat) : Int) := by
  rw [w64 (by omega) (by omega)]
  simp only [cond_false]
  split <;> omega
namespace Parse
theorem validA (s : ByteArray) (hD : s.size ≤ 10000) (b6 b7 b8 : Bool) :
    ∃ e S1, Ends T orc L0a D0a (st0a s b6 b7 b8 0) e S1 ∧ ((e = .exit 0 ∧ (bytesOf s).all isDig = true ∧ ∃ x, S1 = st0a s b6 b7 b8 x) ∨ (e = .ret ∧ (bytesOf s).all isDig = false ∧ ∃ x, S1 = st0ax0 s 10 b6 b7 b8 x)) := by
  refine loop_inv1 (fun (i : Nat) => st0a s b6 b7 b8 i) (fun i => i ≤ s.size ∧ ((bytesOf s).take i).all isDig = true) (fun i => s.size - i)
    (fun e S1 => (e = .exit 0 ∧ (bytesOf s).all isDig = true ∧ ∃ x, S1 = st0a s b6 b7 b8 x) ∨ (e = .ret ∧ (bytesOf s).all isDig = false ∧ ∃ x, S1 = st0ax0 s 10 b6 b7 b8 x)) isL0a ?_ 0 ⟨by omega, rfl⟩
  intro i ⟨h1, h2⟩
  refine ⟨noTab, noTab_all, lands_of (round0a ..) ?_⟩
  have hlen := bytes_len s
  by_cases hi : i < s.size
  · have hmem : (bytesOf s).getD i 0 ∈ bytesOf s := by rw [getD_at (by omega)]; exact List.getElem_mem _
    have bad : isDig ((bytesOf s).getD i 0) = false → (bytesOf s).all isDig = false := by
      intro hb
      rw [Bool.eq_false_iff]
      intro hall
      rw [List.all_eq_true.1 hall _ hmem] at hb
      cases hb
    simp only [lands_bif, lands_some, lands_none, Turns1, Turns2, Turns3, Turns4, Turns5, Turns6, Turns7, Turns8, eq_bif, Option.some.injEq, reduceCtorEq, cond_true, cond_false, Bool.eq_false_iff, ne_eq, inB_iff, decide_eq_true_eq, Bool.and_eq_true, Bool.or_eq_true, Bool.not_eq_true', beq_iff_eq, bne_iff_ne, true_and, and_true, true_implies, implies_true, not_true_eq_false, not_false_eq_true, false_implies, few_iff, bt_nat, wi_succ (show i < 4611686018427387904 by omega)]
    repeat' (first | apply And.intro | intro _)
    all_goals try omega
    · refine .inr ⟨Bool.eq_false_iff.1 (bad ?_), _, rfl⟩
      rw [Bool.eq_false_iff, ne_eq, dig_iff]; omega
    · refine .inr ⟨Bool.eq_false_iff.1 (bad ?_), _, rfl⟩
      rw [Bool.eq_false_iff, ne_eq, dig_iff]; omega
    · refine ⟨i + 1, rfl, ⟨by omega, ?_⟩, by omega⟩
      rw [take_succ_getD _ (by omega), List.all_append, h2, Bool.true_and]
      simp only [List.all_cons, List.all_nil, Bool.and_true]
      rw [dig_iff]; omega
  · obtain rfl : i = s.size := by omega
    rw [decide_eq_false (by omega)]
    simp only [cond_false, lands_some, Turns1]
    rw [List.take_of_length_le (by omega)] at h2
    exact .inl ⟨trivial, h2, _, rfl⟩
theorem pieceA (s : ByteArray) (i : Nat) (l0 : List Int) (b12 b13 b14 : Bool) (x8 : Int) (hD : s.size ≤ 10000) (hi : i ≤ s.size) (hall : (bytesOf s).all isDig = true) (a : List Int) (ha : a = ((bytesOf s).drop i).take 9) :
    ∃ e S1, Ends T orc L2 D2 (st2 s b12 i 0 1 b13 b14 x8 0 l0) e S1 ∧ (e = .exit 4 ∧ S1 = (st2 s b12 i (dval a) (10 ^ a.length) b13 b14 x8 (a.length : Nat) l0)) := by
  have hlen := bytes_len s
  have hm := min_eq s.size i (by omega) hi
  have hex : bytesOf (s.extract i (min (i + 9) s.size)) = a := by
    rw [bytes_extract, ha, List.take_drop]
    by_cases h9 : i + 9 ≤ s.size
    · rw [Nat.min_eq_left h9]
    · rw [Nat.min_eq_right (by omega), List.take_of_length_le (by omega), List.take_of_length_le (by omega)]
  have hsz : (s.extract i (min (i + 9) s.size)).size = a.length := by rw [← bytes_len, hex]
  have hal : a.length ≤ 9 := by rw [ha, List.length_take]; omega
  have haall : a.all isDig = true := by rw [ha]; exact all_take (all_drop hall i) 9
  refine loop_inv1 (fun (k : Nat) => (st2 s b12 i (dval (a.take k)) (10 ^ k) b13 b14 x8 k l0)) (fun k => k ≤ a.length) (fun k => a.length - k)
    (fun e S1 => e = .exit 4 ∧ S1 = (st2 s b12 i (dval a) (10 ^ a.length) b13 b14 x8 (a.length : Nat) l0)) isL2 ?_ 0 (by omega)
  intro k hk
  refine ⟨noTab, noTab_all, lands_of (round2 ..) ?_⟩
  rw [hm, Int.toNat_natCast, Int.toNat_natCast, hsz]
  by_cases hk2 : k < a.length
  · have hc := dig_iff.1 (List.all_eq_true.1 haall (a.getD k 0) (by rw [getD_at hk2]; exact List.getElem_mem _))
    obtain ⟨d0, d1⟩ := dval_bound _ (all_take haall k)
    rw [List.length_take, Nat.min_eq_left hk] at d1
    obtain ⟨p1, p2⟩ := pow10_le (show k ≤ 9 by omega)
    obtain ⟨q1, q2⟩ := pow10_le (show k + 1 ≤ 9 by omega)
    have hb : bt (s.extract i (min (i + 9) s.size)) (k : Int) = a.getD k 0 := by rw [bt_nat, hex]
    have e1 : IntKind.u8.wrap (a.getD k 0 - 48) = a.getD k 0 - 48 := IntWalk.u8_in _ ⟨by omega, by omega⟩
    have e2 : dval (a.take (k + 1)) = dval (a.take k) * 10 + (a.getD k 0 - 48) := by
      rw [take_succ_getD a hk2, dval_app, dval_one]; rfl
    have hk8 : k ≤ 8 := by omega
    obtain ⟨_, p3⟩ := pow10_le (show k + 1 ≤ 9 by omega)
    rw [Int.pow_succ] at q2 p3
    rw [hb, e1, wu32 (n := a.getD k 0 - 48) (by omega) (by omega), wu32 (n := dval (a.take k) * 10) (by omega) (by omega), wu32 (n := dval (a.take k) * 10 + (a.getD k 0 - 48)) (by omega) (by omega), wu32 (n := (10 : Int) ^ k * 10) (by omega) (by omega), ← e2, ← Int.pow_succ, wi_succ (show k < 4611686018427387904 by omega), decide_eq_true (show (k : Int) < (a.length : Int) by omega), bT (inB_iff.2 (by omega))]
    simp only [cond_true, lands_some, Turns1]
    exact ⟨k + 1, rfl, by omega, by omega⟩
  · obtain rfl : k = a.length := by omega
    rw [decide_eq_false (by omega), List.take_length]
    simp only [cond_false, lands_some, Turns1]
    exact ⟨trivial, trivial⟩
theorem mainA (s : ByteArray) (b12 b13 b14 : Bool) (x8 : Int) (hD : s.size ≤ 10000) (hall : (bytesOf s).all isDig = true) :
    ∃ e S1, Ends T orc L1 D1 (st1 s b12 0 b13 b14 x8 []) e S1 ∧ (e = .exit 2 ∧ ∃ x l, S1 = (st1 s b12 x b13 b14 x8 l) ∧ okB 4294967296 l = true ∧ l.length ≤ 20000 ∧ val 4294967296 l = dval (bytesOf s)) := by
  have hlen := bytes_len s
  refine loop_inv2 (fun (i : Nat) l0 => (st1 s b12 i b13 b14 x8 l0)) (fun i l0 => okB 4294967296 l0 = true ∧ l0.length ≤ i ∧ i ≤ s.size + 9 ∧ val 4294967296 l0 = dval ((bytesOf s).take i)) (fun i l0 => s.size + 9 - i)
    (fun e S1 => e = .exit 2 ∧ ∃ x l, S1 = (st1 s b12 x b13 b14 x8 l) ∧ okB 4294967296 l = true ∧ l.length ≤ 20000 ∧ val 4294967296 l = dval (bytesOf s)) isL1 ?_ 0 [] ⟨rfl, by simp, by omega, rfl⟩
  intro i l0 ⟨h1, h2, h3, h4⟩
  by_cases hi : i < s.size
  · obtain ⟨a, ha⟩ : ∃ a, a = ((bytesOf s).drop i).take 9 := ⟨_, rfl⟩
    obtain ⟨e1, S1, hE1, rfl, rfl⟩ := pieceA s i l0 b12 b13 b14 x8 hD (by omega) hall a ha
    obtain ⟨m, hm9⟩ : ∃ m, a.length = m := ⟨_, rfl⟩
    rw [hm9] at hE1
    refine ⟨_, tabOf_all _, lands_of (round1 s b12 i b13 b14 x8 l0 (10 ^ m) (dval a) m) ?_⟩
    have hm := min_eq s.size i (by omega) (by omega)
    have hal : a.length ≤ 9 := by rw [ha, List.length_take]; omega
    have haall : a.all isDig = true := by rw [ha]; exact all_take (all_drop hall i) 9
    obtain ⟨d0, d1⟩ := dval_bound _ haall
    obtain ⟨p1, p2⟩ := pow10_le hal
    rw [hm9] at d1 p1 p2
    have ew : IntKind.i64.wrap ((i : Int) + 9) = ((i + 9 : Nat) : Int) := by rw [w64 (by omega) (by omega)]; omega
    rw [hm, cdec_true hE1, decide_eq_true (show (i : Int) < (s.size : Int) by omega), decide_eq_true (show (0 : Int) ≤ (i : Int) by omega), decide_eq_true (show (i : Int) ≤ ((min (i + 9) s.size : Nat) : Int) by omega), decide_eq_true (show ((min (i + 9) s.size : Nat) : Int) ≤ (s.size : Int) by omega), h1, few_iff.2 (show l0.length ≤ 100000 by omega), decide_eq_true (show (0 : Int) ≤ 10 ^ m by omega), decide_eq_true (show (10 : Int) ^ m < 4294967296 by omega), decide_eq_true d0, decide_eq_true (show dval a < 4294967296 by omega), ew]
    simp only [Bool.and_self, cond_true, lands_some, Turns2]
    have hsl := scaleL_len l0 (10 ^ m) (dval a)
    refine ⟨i + 9, _, rfl, ⟨scaleL_ok _ _ _, by omega, by omega, ?_⟩, by omega⟩
    rw [scaleL_val h1 ⟨by omega, by omega⟩ ⟨d0, by omega⟩, h4, List.take_add, ← ha, dval_app, hm9]
  · refine ⟨_, tabOf_all _, lands_of (round1 s b12 i b13 b14 x8 l0 1 0 0) ?_⟩
    rw [decide_eq_false (by omega)]
    simp only [cond_false, lands_some, Turns2]
    rw [List.take_of_length_le (by omega)] at h4
    exact ⟨trivial, _, _, rfl, h1, by omega, h4⟩
theorem validB (s : ByteArray) (hD : (s.extract 1 s.size).size ≤ 10000) (b0 : Bool) :
    ∃ e S1, Ends T orc L0 D0 (st0 s b0 0) e S1 ∧ ((e = .exit 0 ∧ (bytesOf (s.extract 1 s.size)).all isDig = true ∧ ∃ x, S1 = st0 s b0 x) ∨ (e = .ret ∧ (bytesOf (s.extract 1 s.size)).all isDig = false ∧ ∃ x, S1 = st0x0 s 10 b0 x)) := by
  refine loop_inv1 (fun (i : Nat) => st0 s b0 i) (fun i => i ≤ (s.extract 1 s.size).size ∧ ((bytesOf (s.extract 1 s.size)).take i).all isDig = true) (fun i => (s.extract 1 s.size).size - i)
    (fun e S1 => (e = .exit 0 ∧ (bytesOf (s.extract 1 s.size)).all isDig = true ∧ ∃ x, S1 = st0 s b0 x) ∨ (e = .ret ∧ (bytesOf (s.extract 1 s.size)).all isDig = false ∧ ∃ x, S1 = st0x0 s 10 b0 x)) isL0 ?_ 0 ⟨by omega, rfl⟩
  intro i ⟨h1, h2⟩
  refine ⟨noTab, noTab_all, lands_of (round0 ..) ?_⟩
  have hlen := bytes_len (s.extract 1 s.size)
  by_cases hi : i < (s.extract 1 s.size).size
  · have hmem : (bytesOf (s.extract 1 s.size)).getD i 0 ∈ bytesOf (s.extract 1 s.size) := by rw [getD_at (by omega)]; exact List.getElem_mem _
    have bad : isDig ((bytesOf (s.extract 1 s.size)).getD i 0) = false → (bytesOf (s.extract 1 s.size)).all isDig = false := by
      intro hb
      rw [Bool.eq_false_iff]
      intro hall
      rw [List.all_eq_true.1 hall _ hmem] at hb
      cases hb
    simp only [lands_bif, lands_some, lands_none, Turns1, Turns2, Turns3, Turns4, Turns5, Turns6, Turns7, Turns8, eq_bif, Option.some.injEq, reduceCtorEq, cond_true, cond_false, Bool.eq_false_iff, ne_eq, inB_iff, decide_eq_true_eq, Bool.and_eq_true, Bool.or_eq_true, Bool.not_eq_true', beq_iff_eq, bne_iff_ne, true_and, and_true, true_implies, implies_true, not_true_eq_false, not_false_eq_true, false_implies, few_iff, bt_nat, wi_succ (show i < 4611686018427387904 by omega)]
    repeat' (first | apply And.intro | intro _)
    all_goals try omega
    · refine .inr ⟨Bool.eq_false_iff.1 (bad ?_), _, rfl⟩
      rw [Bool.eq_false_iff, ne_eq, dig_iff]; omega
    · refine .inr ⟨Bool.eq_false_iff.1 (bad ?_), _, rfl⟩
      rw [Bool.eq_false_iff, ne_eq, dig_iff]; omega
    · refine ⟨i + 1, rfl, ⟨by omega, ?_⟩, by omega⟩
      rw [take_succ_getD _ (by omega), List.all_append, h2, Bool.true_and]
      simp only [List.all_cons, List.all_nil, Bool.and_true]
      rw [dig_iff]; omega
  · obtain rfl : i = (s.extract 1 s.size).size := by omega
    rw [decide_eq_false (by omega)]
    simp only [cond_false, lands_some, Turns1]
    rw [List.take_of_length_le (by omega)] at h2
    exact .inl ⟨trivial, h2, _, rfl⟩
theorem pieceB (s : ByteArray) (i : Nat) (l0 : List Int) (b15 : Bool) (x23 : Int) (hD : (s.extract 1 s.size).size ≤ 10000) (hi : i ≤ (s.extract 1 s.size).size) (hall : (bytesOf (s.extract 1 s.size)).all isDig = true) (a : List Int) (ha : a = ((bytesOf (s.extract 1 s.size)).drop i).take 9) :
    ∃ e S1, Ends T orc L2a D2a (st2a s i 0 1 b15 x23 0 l0) e S1 ∧ (e = .exit 4 ∧ S1 = (st2a s i (dval a) (10 ^ a.length) b15 x23 (a.length : Nat) l0)) := by
  have hlen := bytes_len (s.extract 1 s.size)
  have hm := min_eq (s.extract 1 s.size).size i (by omega) hi
  have hex : bytesOf ((s.extract 1 s.size).extract i (min (i + 9) (s.extract 1 s.size).size)) = a := by
    rw [bytes_extract, ha, List.take_drop]
    by_cases h9 : i + 9 ≤ (s.extract 1 s.size).size
    · rw [Nat.min_eq_left h9]
    · rw [Nat.min_eq_right (by omega), List.take_of_length_le (by omega), List.take_of_length_le (by omega)]
  have hsz : ((s.extract 1 s.size).extract i (min (i + 9) (s.extract 1 s.size).size)).size = a.length := by rw [← bytes_len, hex]
  have hal : a.length ≤ 9 := by rw [ha, List.length_take]; omega
  have haall : a.all isDig = true := by rw [ha]; exact all_take (all_drop hall i) 9
  refine loop_inv1 (fun (k : Nat) => (st2a s i (dval (a.take k)) (10 ^ k) b15 x23 k l0)) (fun k => k ≤ a.length) (fun k => a.length - k)
    (fun e S1 => e = .exit 4 ∧ S1 = (st2a s i (dval a) (10 ^ a.length) b15 x23 (a.length : Nat) l0)) isL2a ?_ 0 (by omega)
  intro k hk
  refine ⟨noTab, noTab_all, lands_of (round2a ..) ?_⟩
  rw [hm, Int.toNat_natCast, Int.toNat_natCast, hsz]
  by_cases hk2 : k < a.length
  · have hc := dig_iff.1 (List.all_eq_true.1 haall (a.getD k 0) (by rw [getD_at hk2]; exact List.getElem_mem _))
    obtain ⟨d0, d1⟩ := dval_bound _ (all_take haall k)
    rw [List.length_take, Nat.min_eq_left hk] at d1
    obtain ⟨p1, p2⟩ := pow10_le (show k ≤ 9 by omega)
    obtain ⟨q1, q2⟩ := pow10_le (show k + 1 ≤ 9 by omega)
    have hb : bt ((s.extract 1 s.size).extract i (min (i + 9) (s.extract 1 s.size).size)) (k : Int) = a.getD k 0 := by rw [bt_nat, hex]
    have e1 : IntKind.u8.wrap (a.getD k 0 - 48) = a.getD k 0 - 48 := IntWalk.u8_in _ ⟨by omega, by omega⟩
    have e2 : dval (a.take (k + 1)) = dval (a.take k) * 10 + (a.getD k 0 - 48) := by
      rw [take_succ_getD a hk2, dval_app, dval_one]; rfl
    have hk8 : k ≤ 8 := by omega
    obtain ⟨_, p3⟩ := pow10_le (show k + 1 ≤ 9 by omega)
    rw [Int.pow_succ] at q2 p3
    rw [hb, e1, wu32 (n := a.getD k 0 - 48) (by omega) (by omega), wu32 (n := dval (a.take k) * 10) (by omega) (by omega), wu32 (n := dval (a.take k) * 10 + (a.getD k 0 - 48)) (by omega) (by omega), wu32 (n := (10 : Int) ^ k * 10) (by omega) (by omega), ← e2, ← Int.pow_succ, wi_succ (show k < 4611686018427387904 by omega), decide_eq_true (show (k : Int) < (a.length : Int) by omega), bT (inB_iff.2 (by omega))]
    simp only [cond_true, lands_some, Turns1]
    exact ⟨k + 1, rfl, by omega, by omega⟩
  · obtain rfl : k = a.length := by omega
    rw [decide_eq_false (by omega), List.take_length]
    simp only [cond_false, lands_some, Turns1]
    exact ⟨trivial, trivial⟩
theorem mainB (s : ByteArray) (b15 : Bool) (x23 : Int) (hD : (s.extract 1 s.size).size ≤ 10000) (hall : (bytesOf (s.extract 1 s.size)).all isDig = true) :
    ∃ e S1, Ends T orc L1a D1a (st1a s 0 b15 x23 []) e S1 ∧ (e = .exit 2 ∧ ∃ x l, S1 = (st1a s x b15 x23 l) ∧ okB 4294967296 l = true ∧ l.length ≤ 20000 ∧ val 4294967296 l = dval (bytesOf (s.extract 1 s.size))) := by
  have hlen := bytes_len (s.extract 1 s.size)
  refine loop_inv2 (fun (i : Nat) l0 => (st1a s i b15 x23 l0)) (fun i l0 => okB 4294967296 l0 = true ∧ l0.length ≤ i ∧ i ≤ (s.extract 1 s.size).size + 9 ∧ val 4294967296 l0 = dval ((bytesOf (s.extract 1 s.size)).take i)) (fun i l0 => (s.extract 1 s.size).size + 9 - i)
    (fun e S1 => e = .exit 2 ∧ ∃ x l, S1 = (st1a s x b15 x23 l) ∧ okB 4294967296 l = true ∧ l.length ≤ 20000 ∧ val 4294967296 l = dval (bytesOf (s.extract 1 s.size))) isL1a ?_ 0 [] ⟨rfl, by simp, by omega, rfl⟩
  intro i l0 ⟨h1, h2, h3, h4⟩
  by_cases hi : i < (s.extract 1 s.size).size
  · obtain ⟨a, ha⟩ : ∃ a, a = ((bytesOf (s.extract 1 s.size)).drop i).take 9 := ⟨_, rfl⟩
    obtain ⟨e1, S1, hE1, rfl, rfl⟩ := pieceB s i l0 b15 x23 hD (by omega) hall a ha
    obtain ⟨m, hm9⟩ : ∃ m, a.length = m := ⟨_, rfl⟩
    rw [hm9] at hE1
    refine ⟨_, tabOf_all _, lands_of (round1a s i b15 x23 l0 (10 ^ m) (dval a) m) ?_⟩
    have hm := min_eq (s.extract 1 s.size).size i (by omega) (by omega)
    have hal : a.length ≤ 9 := by rw [ha, List.length_take]; omega
    have haall : a.all isDig = true := by rw [ha]; exact all_take (all_drop hall i) 9
    obtain ⟨d0, d1⟩ := dval_bound _ haall
    obtain ⟨p1, p2⟩ := pow10_le hal
    rw [hm9] at d1 p1 p2
    have ew : IntKind.i64.wrap ((i : Int) + 9) = ((i + 9 : Nat) : Int) := by rw [w64 (by omega) (by omega)]; omega
    rw [hm, cdec_true hE1, decide_eq_true (show (i : Int) < ((s.extract 1 s.size).size : Int) by omega), decide_eq_true (show (0 : Int) ≤ (i : Int) by omega), decide_eq_true (show (i : Int) ≤ ((min (i + 9) (s.extract 1 s.size).size : Nat) : Int) by omega), decide_eq_true (show ((min (i + 9) (s.extract 1 s.size).size : Nat) : Int) ≤ ((s.extract 1 s.size).size : Int) by omega), h1, few_iff.2 (show l0.length ≤ 100000 by omega), decide_eq_true (show (0 : Int) ≤ 10 ^ m by omega), decide_eq_true (show (10 : Int) ^ m < 4294967296 by omega), decide_eq_true d0, decide_eq_true (show dval a < 4294967296 by omega), ew]
    simp only [Bool.and_self, cond_true, lands_some, Turns2]
    have hsl := scaleL_len l0 (10 ^ m) (dval a)
    refine ⟨i + 9, _, rfl, ⟨scaleL_ok _ _ _, by omega, by omega, ?_⟩, by omega⟩
    rw [scaleL_val h1 ⟨by omega, by omega⟩ ⟨d0, by omega⟩, h4, List.take_add, ← ha, dval_app, hm9]
  · refine ⟨_, tabOf_all _, lands_of (round1a s i b15 x23 l0 1 0 0) ?_⟩
    rw [decide_eq_false (by omega)]
    simp only [cond_false, lands_some, Turns2]
    rw [List.take_of_length_le (by omega)] at h4
    exact ⟨trivial, _, _, rfl, h1, by omega, h4⟩
end Parse
theorem dval_cons (c : Int) (l : List Int) : dval (c :: l) = (c - 48) * 10 ^ l.length + dval l := by
  have := dval_app [c] l
  rw [dval_one] at this
  exact this
theorem ten_343 : (2 : Nat) ^ 1024 ≤ 10 ^ 343 := Nat.le_of_ble_eq_true (by kernel_rfl)
set_option exponentiation.threshold 20000 in
theorem ten_Lim : (10 : Nat) ^ 343 < Lim := Nat.lt_of_not_le (fun h => by
  have h2 : Nat.ble Lim (10 ^ 343) = true := Nat.ble_eq_true_of_le h
  have h3 : Nat.ble Lim (10 ^ 343) = false := by kernel_rfl
  rw [h3] at h2; cases h2)
set_option exponentiation.threshold 20000 in
theorem big_fits {z : Int} (h : (10 : Int) ^ 343 ≤ az z) : fits z = false := by
  unfold fits
  rw [decide_eq_false_iff_not]
  intro h2
  have h3 := ten_343
  unfold az at h
  have h4 : ((10 ^ 343 : Nat) : Int) ≤ ((z.natAbs : Nat) : Int) := by rw [Int.natCast_pow]; exact h
  have h5 : (10 ^ 343 : Nat) ≤ z.natAbs := Int.ofNat_le.1 h4
  exact Nat.lt_irrefl _ (Nat.lt_of_lt_of_le h2 (Nat.le_trans h3 h5))
theorem dval_big {l : List Int} (hall : l.all isDig = true) (h0 : l.getD 0 0 ≠ 48) (hl : l.length > 343) : (10 : Int) ^ 343 ≤ dval l := by
  cases l with
  | nil => simp at hl
  | cons c l =>
    rw [List.all_cons, Bool.and_eq_true] at hall
    have hc := dig_iff.1 hall.1
    have h0 : c ≠ 48 := h0
    have hb := dval_bound l hall.2
    rw [List.length_cons] at hl
    have hp := pow_mono (B := 10) (by decide) (show 343 ≤ l.length by omega)
    rw [dval_cons]
    have : 1 * (10 : Int) ^ l.length ≤ (c - 48) * 10 ^ l.length := Int.mul_le_mul_of_nonneg_right (by omega) (by have := hb.1; omega)
    omega
set_option exponentiation.threshold 20000 in
theorem dval_lim {l : List Int} (hall : l.all isDig = true) (hl : l.length ≤ 343) : (dval l).natAbs < Lim := by
  have hb := dval_bound l hall
  have hp := pow_mono (B := 10) (by decide) hl
  have h1 : dval l < ((10 ^ 343 : Nat) : Int) := by rw [Int.natCast_pow]; exact Int.lt_of_lt_of_le hb.2 hp
  exact Nat.lt_trans (by omega) ten_Lim
def formD (d : List Int) (n : Bool) : Bool := !d.isEmpty && !(d.getD 0 0 == 48 && (decide (d.length > 1) || n)) && d.all isDig
theorem rv_bad {s : ByteArray} {d : List Int} {n : Bool} (hd : digs (bytesOf s) = d) (hn : hasNeg (bytesOf s) = n) (h : formD d n = false) : some (Res.val (.tup [.agg [.bool false, .ints .u32 []], .int .i64 10])) = some (.val (.tup [R (rv s), .int .i64 (re s)])) := by
  unfold rv re form
  rw [hd, hn, show (!d.isEmpty && !(d.getD 0 0 == 48 && (decide (d.length > 1) || n)) && d.all isDig) = false from h]
  rfl
theorem rv_good {s : ByteArray} {d : List Int} {n : Bool} (hd : digs (bytesOf s) = d) (hn : hasNeg (bytesOf s) = n) (h : formD d n = true) : rv s = hz (bif n then - dval d else dval d) ∧ re s = he (bif n then - dval d else dval d) := by
  unfold rv re form tval
  rw [hd, hn, show (!d.isEmpty && !(d.getD 0 0 == 48 && (decide (d.length > 1) || n)) && d.all isDig) = true from h, cond_true, cond_true]
  exact ⟨rfl, rfl⟩
theorem rv_long {s : ByteArray} {d : List Int} {n : Bool} (hd : digs (bytesOf s) = d) (hn : hasNeg (bytesOf s) = n) (h : formD d n = true) (hl : d.length > 343) : some (Res.val (.tup [.agg [.bool false, .ints .u32 []], .int .i64 11])) = some (.val (.tup [R (rv s), .int .i64 (re s)])) := by
  obtain ⟨h1, h2⟩ := rv_good hd hn h
  have h0 : d.getD 0 0 ≠ 48 := by
    intro h0
    unfold formD at h
    rw [h0, decide_eq_true (show d.length > 1 by omega)] at h
    simp at h
  have hall : d.all isDig = true := by unfold formD at h; rw [Bool.and_eq_true] at h; exact h.2
  have hb := dval_big hall h0 hl
  have hf : fits (bif n then - dval d else dval d) = false := big_fits (by cases n <;> simp only [cond_true, cond_false, az] <;> omega)
  rw [h1, h2]
  unfold hz he
  rw [hf]
  rfl
theorem rv_read {s : ByteArray} {d : List Int} {n : Bool} (hd : digs (bytesOf s) = d) (hn : hasNeg (bytesOf s) = n) (h : formD d n = true) (hl : d.length ≤ 343) {l : List Int} (ok : okB 4294967296 l = true) (hll : l.length ≤ 20000) (hv : val 4294967296 l = dval d) :
    (bif few l && okB (4294967296) l then (bif cn (4294967296) (sg (num (4294967296) n l)) (lb (4294967296) (num (4294967296) n l)) then some (Res.val (.tup [R (hz (N (4294967296) (num (4294967296) n l))), .int .i64 (he (N (4294967296) (num (4294967296) n l)))])) else none) else none) = some (.val (.tup [R (rv s), .int .i64 (re s)])) := by
  obtain ⟨h1, h2⟩ := rv_good hd hn h
  have hall : d.all isDig = true := by unfold formD at h; rw [Bool.and_eq_true] at h; exact h.2
  have hlim := dval_lim hall hl
  have hs : (bif n then - dval d else dval d).natAbs < Lim := by cases n <;> simp only [cond_true, cond_false, Int.natAbs_neg] <;> exact hlim
  rw [few_iff.2 (show l.length ≤ 100000 by omega), ok, num_of hv, cnW, decide_eq_true hs, N_eq, h1, h2]
  rfl
theorem neg_of (s : ByteArray) (h : bt s 0 = 45) : 0 < s.size ∧ hasNeg (bytesOf s) = true ∧ digs (bytesOf s) = bytesOf (s.extract 1 s.size) := by
  have h1 := bt_nat s 0
  rw [show ((0 : Nat) : Int) = 0 from rfl, h] at h1
  have h2 := bytes_len s
  rw [bytes_extract]
  unfold digs hasNeg
  cases hl : bytesOf s with
  | nil => rw [hl] at h1; simp at h1
  | cons c l =>
    rw [hl] at h1 h2
    have h1 : (45 : Int) = c := h1
    rw [← h1, ← h2]
    refine ⟨by simp, by simp, by simp⟩
theorem pos_of (s : ByteArray) (h : bt s 0 ≠ 45) : hasNeg (bytesOf s) = false ∧ digs (bytesOf s) = bytesOf s := by
  have h1 := bt_nat s 0
  rw [show ((0 : Nat) : Int) = 0 from rfl] at h1
  unfold digs hasNeg
  cases hl : bytesOf s with
  | nil => exact ⟨rfl, rfl⟩
  | cons c l =>
    rw [hl] at h1
    have h1 : bt s 0 = c := h1
    have : (c == 45) = false := by rw [beq_eq_false_iff_ne]; omega
    simp [this]
theorem formD_eq (d : List Int) (n : Bool) : formD d n = true ↔ (d ≠ [] ∧ ¬ (d.getD 0 0 = 48 ∧ (d.length > 1 ∨ n = true)) ∧ d.all isDig = true) := by
  unfold formD
  rw [Bool.and_eq_true, Bool.and_eq_true, and_assoc]
  refine and_congr ?_ (and_congr ?_ Iff.rfl)
  · cases d <;> simp
  · rw [Bool.not_eq_true', ← Bool.not_eq_true, Bool.and_eq_true, Bool.or_eq_true, beq_iff_eq, decide_eq_true_eq]
theorem meets_parse : Meets Try.prog 15 ansParse := by
  refine meets_fn (orc_ok (l := Parse.ans) ⟨meets_norm, meets_held, meets_scale, trivial⟩) Try.f15 Try.func15 (by kernel_rfl) (fun args r h => ?_)
  unfold ansParse at h
  split at h
  · rename_i s
    simp only [Option.some.injEq, Prod.mk.injEq] at h
    obtain ⟨h, rfl⟩ := h
    have hsz := of_decide_eq_true h
    refine ⟨rfl, ?_⟩
    by_cases h45 : bt s 0 = 45
    · obtain ⟨h0, hn, hd⟩ := neg_of s h45
      obtain ⟨D, hD⟩ : ∃ D, D = s.extract 1 s.size := ⟨_, rfl⟩
      have hDs : D.size ≤ 10000 := by rw [hD, ByteArray.size_extract]; omega
      have hlen := bytes_len D
      have hb0 := bt_nat D 0
      rw [show ((0 : Nat) : Int) = 0 from rfl] at hb0
      rw [← hD] at hd
      have e0 : (bt s 0 == 45) = true := by rw [h45]; rfl
      by_cases hz0 : D.size = 0
      · refine ⟨_, tabOf_all _, (Parse.rest_0 s 0 true true true 0 0 true 0).trans ?_⟩
        rw [← hD, e0, decide_eq_true (show (s.size : Int) > 0 by omega), bT (inB_iff.2 (by omega : (0 : Int) ≤ 0 ∧ (0 : Int) < s.size)), decide_eq_true (show 1 ≤ (s.size : Int) by omega), show ((D.size : Int) == 0) = true by rw [beq_iff_eq]; omega]
        simp only [Bool.and_self, cond_true]
        exact rv_bad hd hn (by rw [← Bool.not_eq_true, formD_eq]; intro hh; exact hh.1 (List.eq_nil_of_length_eq_zero (by omega)))
      · by_cases h48 : bt D 0 = 48
        · refine ⟨_, tabOf_all _, (Parse.rest_0 s 0 true true true 0 0 true 0).trans ?_⟩
          rw [← hD, e0, decide_eq_true (show (s.size : Int) > 0 by omega), bT (inB_iff.2 (by omega : (0 : Int) ≤ 0 ∧ (0 : Int) < s.size)), decide_eq_true (show 1 ≤ (s.size : Int) by omega), show ((D.size : Int) == 0) = false by rw [beq_eq_false_iff_ne]; omega, bT (inB_iff.2 (by omega : (0 : Int) ≤ 0 ∧ (0 : Int) < D.size)), h48]
          have hbad : formD (bytesOf D) true = false := by rw [← Bool.not_eq_true, formD_eq]; intro hh; exact hh.2.1 ⟨by omega, .inr rfl⟩
          by_cases hg : (D.size : Int) > 1
          · rw [decide_eq_true hg]
            exact rv_bad hd hn hbad
          · rw [decide_eq_false hg]
            exact rv_bad hd hn hbad
        · have e48 : (bt D 0 == 48) = false := by rw [beq_eq_false_iff_ne]; exact h48
          obtain ⟨e1, S1, hE1, ⟨rfl, hall, x, rfl⟩ | ⟨rfl, hall, x, rfl⟩⟩ := Parse.validB s (by rw [← hD]; exact hDs) false
          · rw [← hD] at hall
            have hform : formD (bytesOf D) true = true := (formD_eq _ _).2 ⟨fun hh => by rw [hh] at hlen; exact hz0 hlen.symm, fun hh => h48 (by omega), hall⟩
            by_cases hbig : D.size > 343
            · refine ⟨_, tabOf_all _, (Parse.rest_2 s 0 true true true 0 [] false x 0).trans ?_⟩
              rw [cdec_true hE1, ← hD, e0, decide_eq_true (show (s.size : Int) > 0 by omega), bT (inB_iff.2 (by omega : (0 : Int) ≤ 0 ∧ (0 : Int) < s.size)), decide_eq_true (show 1 ≤ (s.size : Int) by omega), show ((D.size : Int) == 0) = false by rw [beq_eq_false_iff_ne]; omega, bT (inB_iff.2 (by omega : (0 : Int) ≤ 0 ∧ (0 : Int) < D.size)), e48, decide_eq_true (show (D.size : Int) > 343 by omega)]
              exact rv_long hd hn hform (by omega)
            · obtain ⟨e2, S2, hE2, rfl, y, l, rfl, ok, hll, hv⟩ := Parse.mainB s false x (by rw [← hD]; exact hDs) (by rw [← hD]; exact hall)
              rw [← hD] at hv
              refine ⟨_, tabOf_all _, (Parse.rest_2 s 0 true true true 0 l false x y).trans ?_⟩
              rw [cdec_true hE1, cdec_true hE2, ← hD, e0, decide_eq_true (show (s.size : Int) > 0 by omega), bT (inB_iff.2 (by omega : (0 : Int) ≤ 0 ∧ (0 : Int) < s.size)), decide_eq_true (show 1 ≤ (s.size : Int) by omega), show ((D.size : Int) == 0) = false by rw [beq_eq_false_iff_ne]; omega, bT (inB_iff.2 (by omega : (0 : Int) ≤ 0 ∧ (0 : Int) < D.size)), e48, decide_eq_false (show ¬ (D.size : Int) > 343 by omega)]
              exact rv_read hd hn hform (by omega) ok hll hv
          · rw [← hD] at hall
            refine ⟨_, tabOf_all _, (Parse.rest_0 s 0 true true true 0 10 false x).trans ?_⟩
            rw [cdec_true hE1, ← hD, e0, decide_eq_true (show (s.size : Int) > 0 by omega), bT (inB_iff.2 (by omega : (0 : Int) ≤ 0 ∧ (0 : Int) < s.size)), decide_eq_true (show 1 ≤ (s.size : Int) by omega), show ((D.size : Int) == 0) = false by rw [beq_eq_false_iff_ne]; omega, bT (inB_iff.2 (by omega : (0 : Int) ≤ 0 ∧ (0 : Int) < D.size)), e48]
            exact rv_bad hd hn (by rw [← Bool.not_eq_true, formD_eq]; intro hh; rw [hall] at hh; cases hh.2.2)
    · obtain ⟨hn, hd⟩ := pos_of s h45
      have hlen := bytes_len s
      have hb0 := bt_nat s 0
      rw [show ((0 : Nat) : Int) = 0 from rfl] at hb0
      have e0 : (bt s 0 == 45) = false := by rw [beq_eq_false_iff_ne]; exact h45
      by_cases hz0 : s.size = 0
      · refine ⟨_, tabOf_all _, (Parse.rest_0 s 0 true true true 0 0 true 0).trans ?_⟩
        rw [decide_eq_false (show ¬ (s.size : Int) > 0 by omega), show ((s.size : Int) == 0) = true by rw [beq_iff_eq]; omega]
        exact rv_bad hd hn (by rw [← Bool.not_eq_true, formD_eq]; intro hh; exact hh.1 (List.eq_nil_of_length_eq_zero (by omega)))
      · have hin : inB 0 s.size = true := inB_iff.2 (by omega)
        have key : (bt s 0 == 48 && decide ((s.size : Int) > 1)) = true ∨ (bt s 0 == 48 && decide ((s.size : Int) > 1)) = false := by cases (bt s 0 == 48 && decide ((s.size : Int) > 1)) <;> simp
        rcases key with key | key
        · rw [Bool.and_eq_true] at key
          have h48 : bt s 0 = 48 := by simpa using key.1
          have hg := of_decide_eq_true key.2
          refine ⟨_, tabOf_all _, (Parse.rest_0 s 0 true true true 0 0 true 0).trans ?_⟩
          rw [e0, decide_eq_true (show (s.size : Int) > 0 by omega), hin, show ((s.size : Int) == 0) = false by rw [beq_eq_false_iff_ne]; omega, key.1, key.2]
          simp only [hin, cond_true, cond_false]
          exact rv_bad hd hn (by rw [← Bool.not_eq_true, formD_eq]; intro hh; exact hh.2.1 ⟨by omega, .inl (by omega)⟩)
        · have join : ∀ (b c : Bool) (X Y : Option Res), (b && c) = false → (bif b then (bif c then X else Y) else Y) = Y := by intro b c X Y h; cases b <;> cases c <;> first | rfl | cases h
          have hno : ¬ ((bytesOf s).getD 0 0 = 48 ∧ ((bytesOf s).length > 1 ∨ false = true)) := by
            intro ⟨q1, q2⟩
            rw [← hb0] at q1
            rcases q2 with q2 | q2
            · rw [q1, decide_eq_true (show (s.size : Int) > 1 by omega)] at key; cases key
            · cases q2
          obtain ⟨e1, S1, hE1, ⟨rfl, hall, x, rfl⟩ | ⟨rfl, hall, x, rfl⟩⟩ := Parse.validA s hsz false true false
          · have hform : formD (bytesOf s) false = true := (formD_eq _ _).2 ⟨fun hh => by rw [hh] at hlen; exact hz0 hlen.symm, hno, hall⟩
            by_cases hbig : s.size > 343
            · refine ⟨_, tabOf_all _, (Parse.rest_1 s false [] true false x 0 0 true 0).trans ?_⟩
              rw [e0, decide_eq_true (show (s.size : Int) > 0 by omega), hin, show ((s.size : Int) == 0) = false by rw [beq_eq_false_iff_ne]; omega, cdec_true hE1, decide_eq_true (show (s.size : Int) > 343 by omega)]
              simp only [hin, cond_true, cond_false]
              exact (join _ _ _ _ key).trans (rv_long hd hn hform (by omega))
            · obtain ⟨e2, S2, hE2, rfl, y, l, rfl, ok, hll, hv⟩ := Parse.mainA s false true false x hsz hall
              refine ⟨_, tabOf_all _, (Parse.rest_1 s false l true false x y 0 true 0).trans ?_⟩
              rw [e0, decide_eq_true (show (s.size : Int) > 0 by omega), hin, show ((s.size : Int) == 0) = false by rw [beq_eq_false_iff_ne]; omega, cdec_true hE1, cdec_true hE2, decide_eq_false (show ¬ (s.size : Int) > 343 by omega)]
              simp only [hin, cond_true, cond_false]
              exact (join _ _ _ _ key).trans (rv_read hd hn hform (by omega) ok hll hv)
          · refine ⟨_, tabOf_all _, (Parse.rest_0 s 10 false true false x 0 true 0).trans ?_⟩
            rw [e0, decide_eq_true (show (s.size : Int) > 0 by omega), hin, show ((s.size : Int) == 0) = false by rw [beq_eq_false_iff_ne]; omega, cdec_true hE1]
            simp only [hin, cond_true, cond_false]
            exact (join _ _ _ _ key).trans (rv_bad hd hn (by rw [← Bool.not_eq_true, formD_eq]; intro hh; rw [hall] at hh; cases hh.2.2))
  · cases h
end Go.Abs
end
section
/- What the reference's functions of layer 1 answer: texts. -/
namespace Go.Abs
open Go.Proofs Go.Dig
namespace RFrom
def Inv (U x : Int) (l : List Int) : Prop := okB 10 l = true ∧ 0 ≤ x ∧ l.length ≤ 20 ∧ val 10 l + 10 ^ l.length * x = U
theorem ten20 {k : Nat} {U : Int} (hU : U < 18446744073709551616) (h : (10 : Int) ^ k ≤ U) : k < 20 := by
  refine Nat.lt_of_not_le (fun hk => ?_)
  have := pow_mono (B := 10) (by decide) hk
  have e : (10 : Int) ^ 20 = 100000000000000000000 := rfl
  omega
theorem Inv.next {U x : Int} {l : List Int} (hU : U < 18446744073709551616) (h : Inv U x l) (hx : x > 0) : Inv U (x / 10) (l ++ [x % 10]) := by
  obtain ⟨h1, h2, h3, h4⟩ := h
  have h5 := val_nonneg T_pos h1
  have h6 : (10 : Int) ^ l.length * 1 ≤ 10 ^ l.length * x := Int.mul_le_mul_of_nonneg_left (by omega) (Int.pow_nonneg (by decide))
  have h7 := ten20 hU (k := l.length) (by omega)
  refine ⟨okB_snoc h1 (by omega), by omega, by rw [List.length_append, List.length_singleton]; omega, ?_⟩
  rw [val_snoc, List.length_append, List.length_singleton, Int.pow_succ]
  have := carry_step 10 (10 ^ l.length) (val 10 l) U x (x % 10) (x / 10) 0 h4 (by omega)
  omega
theorem loop (n : Int) (U : Int) (h0 : 0 ≤ U) (hU : U < 18446744073709551616) :
    ∃ e S1, Ends T orc L0 D0 (st0 n U []) e S1 ∧ (e = .exit 0 ∧ ∃ x l, S1 = st0 n x l ∧ okB 10 l = true ∧ l.length ≤ 20 ∧ val 10 l = U) := by
  refine loop_inv2 (fun (x : Int) l => st0 n x l) (fun x l => Inv U x l) (fun x l => x.toNat)
    (fun e S1 => e = .exit 0 ∧ ∃ x l, S1 = st0 n x l ∧ okB 10 l = true ∧ l.length ≤ 20 ∧ val 10 l = U) isL0 ?_ U [] ⟨rfl, h0, by simp, by simp [val]⟩
  intro x l h
  obtain ⟨h1, h2, h3, h4⟩ := id h
  refine ⟨noTab, noTab_all, lands_of (round0 ..) ?_⟩
  have h5 := val_nonneg T_pos h1
  by_cases hx : x > 0
  · have h6 : (1 : Int) * x ≤ 10 ^ l.length * x := Int.mul_le_mul_of_nonneg_right (by have : (0 : Int) < 10 ^ l.length := Int.pow_pos (by decide); omega) h2
    rw [tm10 h2, td10 h2, w64 (n := x % 10) (by omega) (by omega), wu64 (n := x / 10) (by omega) (by omega)]
    refine (lands_of (bT (decide_eq_true hx)) ?_)
    refine (lands_of (bT (by rw [Bool.true_and]; exact decide_eq_true (by rw [List.length_append, List.length_singleton]; omega))) ?_)
    exact lands_some.2 ⟨_, _, rfl, h.next hU hx, by show (x / 10).toNat < x.toNat; omega⟩
  · obtain rfl : x = 0 := by omega
    rw [Int.mul_zero, Int.add_zero] at h4
    exact lands_some.2 ⟨rfl, _, _, rfl, h1, h3, h4⟩
theorem loopa (n : Int) (U : Int) (h0 : 0 ≤ U) (hU : U < 18446744073709551616) :
    ∃ e S1, Ends T orc L0a D0a (st0a n U []) e S1 ∧ (e = .exit 0 ∧ ∃ x l, S1 = st0a n x l ∧ okB 10 l = true ∧ l.length ≤ 20 ∧ val 10 l = U) := by
  refine loop_inv2 (fun (x : Int) l => st0a n x l) (fun x l => Inv U x l) (fun x l => x.toNat)
    (fun e S1 => e = .exit 0 ∧ ∃ x l, S1 = st0a n x l ∧ okB 10 l = true ∧ l.length ≤ 20 ∧ val 10 l = U) isL0a ?_ U [] ⟨rfl, h0, by simp, by simp [val]⟩
  intro x l h
  obtain ⟨h1, h2, h3, h4⟩ := id h
  refine ⟨noTab, noTab_all, lands_of (round0a ..) ?_⟩
  have h5 := val_nonneg T_pos h1
  by_cases hx : x > 0
  · have h6 : (1 : Int) * x ≤ 10 ^ l.length * x := Int.mul_le_mul_of_nonneg_right (by have : (0 : Int) < 10 ^ l.length := Int.pow_pos (by decide); omega) h2
    rw [tm10 h2, td10 h2, w64 (n := x % 10) (by omega) (by omega), wu64 (n := x / 10) (by omega) (by omega)]
    refine (lands_of (bT (decide_eq_true hx)) ?_)
    refine (lands_of (bT (by rw [Bool.true_and]; exact decide_eq_true (by rw [List.length_append, List.length_singleton]; omega))) ?_)
    exact lands_some.2 ⟨_, _, rfl, h.next hU hx, by show (x / 10).toNat < x.toNat; omega⟩
  · obtain rfl : x = 0 := by omega
    rw [Int.mul_zero, Int.add_zero] at h4
    exact lands_some.2 ⟨rfl, _, _, rfl, h1, h3, h4⟩
end RFrom
theorem meets_rfrom : Meets Try.prog 92 anrFrom := by
  refine meets_fn (orc_ok (l := RFrom.ans) ⟨meets_rtrim, trivial⟩) Try.f92 Try.func92 (by kernel_rfl) (fun args r h => ?_)
  unfold anrFrom at h
  split at h
  · rename_i n
    simp only [Option.some.injEq, Prod.mk.injEq, i64B, Bool.and_eq_true, decide_eq_true_eq] at h
    obtain ⟨⟨h1, h2⟩, rfl⟩ := h
    refine ⟨rfl, ?_⟩
    by_cases hn : n < 0
    · obtain ⟨e1, S1, hE1, rfl, x, l, rfl, k1, k2, k3⟩ := RFrom.loop n (-n) (by omega) (by omega)
      have ew : IntKind.u64.wrap (0 - IntKind.u64.wrap n) = -n := by rw [wu64_mod, wu64_mod]; omega
      refine ⟨_, tabOf_all _, (RFrom.rest n [] 0 l x).trans ?_⟩
      rw [ew]
      refine (bT (decide_eq_true hn)).trans ((bT (cdec_true hE1)).trans ((bT ?_).trans ?_))
      · rw [k1, few_iff.2 (show l.length ≤ 100000 by omega)]; rfl
      · rw [num_of k3, decide_eq_true hn, cond_true, Int.neg_neg]
    · obtain ⟨e1, S1, hE1, rfl, x, l, rfl, k1, k2, k3⟩ := RFrom.loopa n n (by omega) (by omega)
      have ew : IntKind.u64.wrap n = n := wu64 (by omega) (by omega)
      refine ⟨_, tabOf_all _, (RFrom.rest n l x [] 0).trans ?_⟩
      rw [ew]
      refine (bF (decide_eq_false hn)).trans ((bT (cdec_true hE1)).trans ((bT ?_).trans ?_))
      · rw [k1, few_iff.2 (show l.length ≤ 100000 by omega)]; rfl
      · rw [num_of k3, decide_eq_false hn, cond_false]
  · cases h
end Go.Abs
end
section
/- What the reference's functions of layer 1 answer: division, powers of two, bounds. -/
namespace Go.Abs
open Go.Proofs Go.Dig
theorem splitD_vals {x y : Int} (hx : x.natAbs < Lim) (hy : y.natAbs < Lim) (h0 : y ≠ 0) :
    okB 10 (splitD (lb 10 x) (lb 10 y)) = true ∧ few (splitD (lb 10 x) (lb 10 y)) = true ∧ val 10 (splitD (lb 10 x) (lb 10 y)) = az x / az y ∧
    okB 10 (limbs 10 (az x % az y)) = true ∧ few (limbs 10 (az x % az y)) = true ∧ val 10 (limbs 10 (az x % az y)) = az x % az y := by
  have lx := lb10_length hx
  have ax := az_nonneg x
  have ay : 0 < az y := by unfold az; omega
  have m0 := Int.emod_nonneg (az x) (show az y ≠ 0 by omega)
  have hle : az x % az y ≤ az x := by
    have h3 := Int.mul_ediv_add_emod (az x) (az y)
    have h4 : 0 ≤ az y * (az x / az y) := Int.mul_nonneg (by omega) (Int.ediv_nonneg ax (by omega))
    omega
  have v1 := val_lt T_pos (ok10_lb x)
  rw [val_lb10] at v1
  have d0 : 0 ≤ az x / az y := Int.ediv_nonneg (az_nonneg x) (by omega)
  have d1 : az x / az y ≤ az x := Int.ediv_le_self _ (az_nonneg x)
  refine ⟨digN_ok T_pos _ _, few_iff.2 (by unfold splitD; rw [digN_length]; omega), ?_, limbs_ok T_pos _, few_iff.2 (by have := limbs_length T_two (n := (lb 10 x).length) m0 (by omega); omega), limbs_val T_two m0⟩
  unfold splitD
  rw [val_lb10, val_lb10]
  exact val_digN T_pos _ _ d0 (by omega)
namespace RGcd
theorem loop (s : Bool) (l : List Int) (t : Bool) (m : List Int) (x y : Nat) (hx : x < Lim) (hy : y < Lim) :
    ∃ e S1, Ends T orc L0 D0 (st0 s l t m false (lb 10 x) false (lb 10 y)) e S1 ∧ (e = .exit 0 ∧ ∃ b k, S1 = st0 s l t m (sg (Nat.gcd x y : Nat)) (lb 10 (Nat.gcd x y : Nat)) b k) := by
  have sgn : ∀ n : Nat, sg (n : Int) = false := fun n => by unfold sg; rw [decide_eq_false_iff_not]; omega
  refine loop_inv2 (fun (a b : Nat) => st0 s l t m false (lb 10 a) false (lb 10 b)) (fun a b => a < Lim ∧ b < Lim ∧ Nat.gcd a b = Nat.gcd x y) (fun a b => b)
    (fun e S1 => e = .exit 0 ∧ ∃ b k, S1 = st0 s l t m (sg (Nat.gcd x y : Nat)) (lb 10 (Nat.gcd x y : Nat)) b k) isL0 ?_ x y ⟨hx, hy, rfl⟩
  intro a b ⟨ha, hb, hg⟩
  refine ⟨noTab, noTab_all, lands_of (round0 ..) ?_⟩
  have sa : ((a : Int)).natAbs < Lim := by rw [Int.natAbs_natCast]; exact ha
  have sb : ((b : Int)).natAbs < Lim := by rw [Int.natAbs_natCast]; exact hb
  by_cases h0 : b = 0
  · subst h0
    rw [← hg, Nat.gcd_zero_right, sgn]
    exact lands_some.2 ⟨rfl, _, _, rfl⟩
  · have hlb : ((lb 10 (b : Int)).length : Int) > 0 := by
      have := List.length_pos_iff.2 (fun hh => h0 (by have := (lb_nil T_two (z := (b : Int))).1 hh; omega))
      omega
    obtain ⟨q1, q2, q3, r1, r2, r3⟩ := splitD_vals sa sb (by omega)
    have lx := lb10_length sa
    have eb : az (b : Int) = (b : Int) := rfl
    have ea : az (a : Int) = (a : Int) := rfl
    have hR := num_of (s := false) r3
    rw [ea, eb] at hR r1 r2
    have e3 : ((a : Int) % (b : Int)) = ((a % b : Nat) : Int) := by rw [Int.natCast_emod]
    have hR : num 10 false (limbs 10 ((a : Int) % (b : Int))) = ((a % b : Nat) : Int) := by rw [hR, e3]; rfl
    rw [decide_eq_true hlb, cl_lb10 sa, cl_lb10 sb, val_lb10, val_lb10, eb, ea, decide_eq_true (show (0 : Int) < (b : Int) by omega), decide_eq_true (show (lb 10 (a : Int)).length ≤ 50000 by omega), r1, r2, hR, sgn]
    refine lands_some.2 ⟨b, a % b, rfl, ⟨hb, Nat.lt_of_le_of_lt (Nat.mod_le a b) ha, ?_⟩, Nat.mod_lt _ (by omega)⟩
    rw [← hg, Nat.gcd_comm b, ← Nat.gcd_rec, Nat.gcd_comm]
end RGcd
theorem meets_rgcd : Meets Try.prog 71 anrGcd := by
  refine meets_fn (orc_ok (l := RGcd.ans) ⟨meets_rabs, meets_rsplit, meets_rtrim, trivial⟩) Try.f71 Try.func71 (by kernel_rfl) (fun args r h => ?_)
  unfold anrGcd at h
  split at h
  · rename_i s l t m
    simp only [Option.some.injEq, Prod.mk.injEq, Bool.and_eq_true] at h
    obtain ⟨⟨h1, h2⟩, rfl⟩ := h
    obtain ⟨x, hs, hl, hx⟩ := (cn_iff T_two).1 h1
    obtain ⟨y, ht, hm, hy⟩ := (cn_iff T_two).1 h2
    have nx : num 10 s l = x := by rw [hs, hl]; exact num_lb10 x
    have ny : num 10 t m = y := by rw [ht, hm]; exact num_lb10 y
    rw [nx, ny]
    obtain ⟨e1, S1, hE1, rfl, b, k, rfl⟩ := RGcd.loop s l t m x.natAbs y.natAbs hx hy
    refine ⟨rfl, _, tabOf_all _, (RGcd.rest s l t m (sg ((Nat.gcd x.natAbs y.natAbs : Nat) : Int)) (lb 10 ((Nat.gcd x.natAbs y.natAbs : Nat) : Int)) b k).trans ?_⟩
    have hE1 : Ends T RGcd.orc RGcd.L0 RGcd.D0 (RGcd.st0 s l t m false (lb 10 (az x)) false (lb 10 (az y))) (.exit 0) _ := hE1
    rw [nx, ny]
    exact (bT h1).trans ((bT h2).trans (bT (cdec_true hE1)))
  · cases h
theorem digN_last {v : Int} {k : Nat} (h0 : (10 : Int) ^ k ≤ v) (h1 : v < 10 ^ (k + 1)) : (digN 10 (k + 1) v).getLast? ≠ some 0 := by
  have hp : (0 : Int) < 10 ^ k := Int.pow_pos (by decide)
  rw [digN_succ T_pos, List.getLast?_append]
  have a1 : 1 ≤ v / 10 ^ k := (Int.le_ediv_iff_mul_le hp).2 (by omega)
  have a2 : v / 10 ^ k < 10 := Int.ediv_lt_of_lt_mul hp (by rw [Int.mul_comm, ← Int.pow_succ]; exact h1)
  have : v / 10 ^ k % 10 ≠ 0 := by omega
  simpa using this
theorem plusD_double {v : Int} (hv : 0 < v) : plusD (limbs 10 v) (limbs 10 v) = limbs 10 (v + v) := by
  have ol := limbs_ok T_pos v
  have vl : val 10 (limbs 10 v) = v := limbs_val T_two (by omega)
  have hne : limbs 10 v ≠ [] := fun h => by have := (limbs_nil T_two (by omega)).1 h; omega
  have hpos := List.length_pos_iff.2 hne
  have hge := last_ge T_two ol (limbs_last _ _) hne
  have hlt := val_lt T_pos ol
  rw [vl] at hge hlt
  have hval := plusD_val ol ol
  rw [vl] at hval
  have key := limbs_self T_two (plusD_ok (limbs 10 v) (limbs 10 v)) (by
    unfold plusD
    rw [vl, Nat.max_self]
    obtain ⟨n, hn⟩ : ∃ n, (limbs 10 v).length = n + 1 := ⟨_, (Nat.sub_add_cancel hpos).symm⟩
    rw [hn] at hge hlt ⊢
    rw [Nat.add_sub_cancel] at hge
    by_cases h : v + v < 10 ^ (n + 1)
    · rw [decide_eq_true h]
      exact digN_last (by omega) h
    · rw [decide_eq_false h]
      exact digN_last (by omega) (by rw [Int.pow_succ]; omega))
  rw [hval] at key
  exact key.symm
theorem two_le_ten (n : Nat) : (2 : Int) ^ n ≤ 10 ^ n := by
  induction n with
  | zero => simp
  | succ n ih =>
    rw [Int.pow_succ, Int.pow_succ]
    have : (0 : Int) < 10 ^ n := Int.pow_pos (by decide)
    omega
theorem limbs_one : limbs 10 1 = [1] := by decide
namespace RPower
theorem loop (n : Nat) (hn : n ≤ 2000) :
    ∃ e S1, Ends T orc L0 D0 (st0 n 0 [1]) e S1 ∧ (e = .exit 0 ∧ ∃ x, S1 = st0 n x (limbs 10 (2 ^ n))) := by
  have key := loop_inv1 (T := T) (orc := orc) (L := L0) (D := D0) (fun (i : Nat) => st0 n i (limbs 10 (2 ^ i))) (fun i => i ≤ n) (fun i => n - i)
    (fun e S1 => e = .exit 0 ∧ ∃ x, S1 = st0 n x (limbs 10 (2 ^ n))) isL0 ?_ 0 (by omega)
  · rw [Int.pow_zero, limbs_one] at key
    exact key
  · intro i h1
    refine ⟨noTab, noTab_all, lands_of (round0 ..) ?_⟩
    have hp : (0 : Int) < 2 ^ i := Int.pow_pos (by decide)
    have hp10 : (0 : Int) < 10 ^ i := Int.pow_pos (by decide)
    by_cases hi : i < n
    · have hlen := limbs_length T_two (v := 2 ^ i) (n := i + 1) (by omega) (by have := two_le_ten i; rw [Int.pow_succ]; omega)
      rw [decide_eq_true (show (i : Int) < (n : Int) by omega), few_iff.2 (show (limbs 10 (2 ^ i)).length ≤ 100000 by omega), limbs_ok T_pos, plusD_double hp, wi_succ (show i < 4611686018427387904 by omega)]
      refine lands_some.2 ⟨i + 1, ?_, by show i + 1 ≤ n; omega, by show n - (i + 1) < n - i; omega⟩
      show _ = st0 n ((i + 1 : Nat) : Int) (limbs 10 (2 ^ (i + 1)))
      rw [Int.pow_succ, show (2 : Int) ^ i + 2 ^ i = 2 ^ i * 2 by omega]
    · obtain rfl : i = n := by omega
      rw [decide_eq_false (by omega)]
      exact lands_some.2 ⟨rfl, _, rfl⟩
end RPower
theorem meets_rpower : Meets Try.prog 87 anrPower := by
  refine meets_fn (orc_ok (l := RPower.ans) ⟨meets_rplus, trivial⟩) Try.f87 Try.func87 (by kernel_rfl) (fun args r h => ?_)
  unfold anrPower at h
  split at h
  · rename_i n
    simp only [Option.some.injEq, Prod.mk.injEq, Bool.and_eq_true, decide_eq_true_eq] at h
    obtain ⟨⟨h1, h2⟩, rfl⟩ := h
    obtain ⟨n, rfl⟩ := Int.eq_ofNat_of_zero_le h1
    obtain ⟨e1, S1, hE1, rfl, x, rfl⟩ := RPower.loop n (by omega)
    rw [Int.toNat_natCast]
    exact ⟨rfl, _, tabOf_all _, (RPower.rest n (limbs 10 (2 ^ n)) x).trans (bT (cdec_true hE1))⟩
  · cases h
set_option exponentiation.threshold 20000 in
theorem top_facts : ∃ W : Nat, (∀ z : Int, fits z = decide (z.natAbs < W)) ∧ (2 : Int) ^ 1024 = (W : Int) ∧ (10 : Int) ^ 308 ≤ (W : Int) ∧ (W : Int) < 10 ^ 309 := by
  refine ⟨2 ^ 1024, fun z => by unfold fits; with_reducible rfl, (Int.natCast_pow 2 1024).symm, ?_, ?_⟩
  · have : (10 : Nat) ^ 308 ≤ 2 ^ 1024 := Nat.le_of_ble_eq_true (by kernel_rfl)
    have h := Int.ofNat_le.2 this
    rw [Int.natCast_pow 10 308] at h
    exact h
  · have : (2 : Nat) ^ 1024 < 10 ^ 309 := Nat.lt_of_not_le (fun h => by
      have h2 : Nat.ble (10 ^ 309) (2 ^ 1024) = true := Nat.ble_eq_true_of_le h
      have h3 : Nat.ble (10 ^ 309) (2 ^ 1024) = false := by kernel_rfl
      rw [h3] at h2; cases h2)
    have h := Int.ofNat_lt.2 this
    rw [Int.natCast_pow 10 309] at h
    exact h
theorem meets_rtoobig : Meets Try.prog 61 anrTooBig := by
  refine meets_fn (orc_ok (l := RTooBig.ans) ⟨meets_rcmpMag, meets_rpower, trivial⟩) Try.f61 Try.func61 (by kernel_rfl) (fun args r h => ?_)
  unfold anrTooBig at h
  split at h
  · rename_i s l
    simp only [Option.some.injEq, Prod.mk.injEq] at h
    obtain ⟨h1, rfl⟩ := h
    obtain ⟨z, hs, hl, hz⟩ := (cn_iff T_two).1 h1
    have nz : num 10 s l = z := by rw [hs, hl]; exact num_lb10 z
    have vz : val 10 l = az z := by rw [hl]; exact val_lb10 z
    have ol : okB 10 l = true := by rw [hl]; exact ok10_lb z
    have hlast : l.getLast? ≠ some 0 := by rw [hl]; exact lb_last _ _
    have hlt := val_lt T_pos ol
    rw [vz] at hlt
    obtain ⟨W, w1, w2, w3, w4⟩ := top_facts
    refine ⟨rfl, _, noTab_all, (RTooBig.rest s l).trans ?_⟩
    rw [nz, w1]
    have haz : az z = (z.natAbs : Int) := rfl
    by_cases hA : l.length > 309
    · refine (bT (decide_eq_true (by omega))).trans ?_
      have hge := last_ge T_two ol hlast (fun h => by rw [h] at hA; simp at hA)
      rw [vz] at hge
      have := pow_mono (B := 10) (by decide) (show 309 ≤ l.length - 1 by omega)
      rw [decide_eq_false (show ¬ z.natAbs < W by omega)]
      rfl
    · refine (bF (decide_eq_false (by omega))).trans ?_
      by_cases hB : l.length = 309
      · refine (bT (by rw [beq_iff_eq]; omega)).trans ((bT (by rw [cl_of_num hl hz]; rfl)).trans ?_)
        have hv : val 10 (limbs 10 (2 ^ 1024)) = (W : Int) := by rw [w2]; exact limbs_val T_two (by omega)
        rw [hv, vz]
        by_cases hlt : z.natAbs < W
        · rw [decide_eq_true hlt, decide_eq_false (show ¬ cmpZ (az z) W ≥ 0 by unfold cmpZ; (repeat' split) <;> omega)]
          rfl
        · rw [decide_eq_false hlt, decide_eq_true (show cmpZ (az z) W ≥ 0 by unfold cmpZ; (repeat' split) <;> omega)]
          rfl
      · refine (bF (by rw [beq_eq_false_iff_ne]; omega)).trans ?_
        have := pow_mono (B := 10) (by decide) (show l.length ≤ 308 by omega)
        rw [decide_eq_true (show z.natAbs < W by omega)]
        rfl
  · cases h
end Go.Abs
end
section
/- What the reference's functions of layer 1 answer: texts read. -/
namespace Go.Abs
open Go.Proofs Go.Dig
theorem drop_all {l : List Int} {i : Nat} (hi : i < l.length) : (l.drop i).all isDig = (isDig (l.getD i 0) && (l.drop (i + 1)).all isDig) := by
  rw [List.drop_eq_getElem_cons hi, List.all_cons, getD_at hi]
namespace RForm
theorem loop (s : ByteArray) (i0 : Nat) (b9 b10 : Bool) (x3 : Int) (b11 b12 : Bool) (hs : s.size ≤ 10000) (h0 : i0 ≤ s.size) :
    ∃ e S1, Ends T noOrc L0 D0 (st0 s i0 b9 b10 x3 b11 b12) e S1 ∧ ((e = .exit 0 ∧ ((bytesOf s).drop i0).all isDig = true ∧ ∃ x, S1 = st0 s x b9 b10 x3 b11 b12) ∨ (e = .ret ∧ ((bytesOf s).drop i0).all isDig = false ∧ ∃ x, S1 = st0 s x b9 b10 x3 b11 b12)) := by
  refine loop_inv1 (fun (i : Nat) => st0 s i b9 b10 x3 b11 b12) (fun i => i ≤ s.size ∧ ((bytesOf s).drop i0).all isDig = ((bytesOf s).drop i).all isDig) (fun i => s.size - i)
    (fun e S1 => (e = .exit 0 ∧ ((bytesOf s).drop i0).all isDig = true ∧ ∃ x, S1 = st0 s x b9 b10 x3 b11 b12) ∨ (e = .ret ∧ ((bytesOf s).drop i0).all isDig = false ∧ ∃ x, S1 = st0 s x b9 b10 x3 b11 b12)) isL0 ?_ i0 ⟨h0, rfl⟩
  intro i ⟨h1, h2⟩
  have hlen := bytes_len s
  refine ⟨noTab, noTab_all, lands_of (round0 ..) ?_⟩
  by_cases hi : i < s.size
  · have hd := drop_all (l := bytesOf s) (i := i) (by omega)
    rw [bt_nat]
    refine (lands_of (bT (decide_eq_true (by omega))) ?_)
    refine (lands_of (bT (inB_iff.2 (by omega))) ?_)
    by_cases ha : (bytesOf s).getD i 0 < 48
    · refine (lands_of (bT (decide_eq_true ha)) ?_)
      refine lands_some.2 (.inr ⟨rfl, ?_, _, rfl⟩)
      rw [h2, hd, show isDig ((bytesOf s).getD i 0) = false by rw [Bool.eq_false_iff, ne_eq, dig_iff]; omega]
      rfl
    · refine (lands_of (bF (decide_eq_false ha)) ?_)
      refine (lands_of (bT (inB_iff.2 (by omega))) ?_)
      by_cases hb : (bytesOf s).getD i 0 > 57
      · refine (lands_of (bT (decide_eq_true hb)) ?_)
        refine lands_some.2 (.inr ⟨rfl, ?_, _, rfl⟩)
        rw [h2, hd, show isDig ((bytesOf s).getD i 0) = false by rw [Bool.eq_false_iff, ne_eq, dig_iff]; omega]
        rfl
      · refine (lands_of (bF (decide_eq_false hb)) ?_)
        rw [wi_succ (show i < 4611686018427387904 by omega)]
        refine lands_some.2 ⟨i + 1, rfl, ⟨by omega, ?_⟩, by show s.size - (i + 1) < s.size - i; omega⟩
        rw [h2, hd, show isDig ((bytesOf s).getD i 0) = true by rw [dig_iff]; omega]
        rfl
  · refine (lands_of (bF (decide_eq_false (by omega))) ?_)
    refine lands_some.2 (.inl ⟨rfl, ?_, _, rfl⟩)
    rw [h2, List.drop_of_length_le (by omega)]
    rfl
end RForm
theorem form_D {s : ByteArray} {d : List Int} {n : Bool} (hd : digs (bytesOf s) = d) (hn : hasNeg (bytesOf s) = n) : form (bytesOf s) = formD d n := by
  unfold form formD
  rw [hd, hn]
theorem neg_drop (s : ByteArray) (h : bt s 0 = 45) : digs (bytesOf s) = (bytesOf s).drop 1 := by
  obtain ⟨h0, hn, hd⟩ := neg_of s h
  unfold digs
  rw [hn]; rfl
theorem meets_rform : Meets Try.prog 59 anrForm := by
  refine meets_fn noOrc_ok Try.f59 Try.func59 (by kernel_rfl) (fun args r h => ?_)
  unfold anrForm at h
  split at h
  · rename_i s
    simp only [Option.some.injEq, Prod.mk.injEq] at h
    obtain ⟨h, rfl⟩ := h
    have hsz := of_decide_eq_true h
    have hlen := bytes_len s
    refine ⟨rfl, ?_⟩
    by_cases h45 : bt s 0 = 45
    · obtain ⟨h0, hn, _⟩ := neg_of s h45
      have hd := neg_drop s h45
      have e45 : (bt s 0 == 45) = true := by rw [h45]; rfl
      have hb1 : bt s 1 = ((bytesOf s).drop 1).getD 0 0 := by
        have := bt_nat s 1
        rw [show ((1 : Nat) : Int) = 1 from rfl] at this
        rw [this, List.getD_eq_getElem?_getD, List.getD_eq_getElem?_getD, List.getElem?_drop]
      have hl1 : ((bytesOf s).drop 1).length = s.size - 1 := by rw [List.length_drop, hlen]
      rw [form_D hd hn]
      by_cases h1 : s.size = 1
      · refine ⟨_, tabOf_all _, (RForm.rest_0 s 0 true true 0 true true).trans ?_⟩
        refine (bT (decide_eq_true (by omega))).trans ((bT (inB_iff.2 (by omega))).trans ((bT e45).trans ((bT (by rw [beq_iff_eq]; omega)).trans ?_)))
        rw [show formD ((bytesOf s).drop 1) true = false by rw [← Bool.not_eq_true, formD_eq]; intro hh; exact hh.1 (List.eq_nil_of_length_eq_zero (by omega))]
      · have e1 : (1 == (s.size : Int)) = false := by rw [beq_eq_false_iff_ne]; omega
        by_cases h48 : bt s 1 = 48
        · refine ⟨_, tabOf_all _, (RForm.rest_0 s 0 true true 0 true true).trans ?_⟩
          refine (bT (decide_eq_true (by omega))).trans ((bT (inB_iff.2 (by omega))).trans ((bT e45).trans ((bF e1).trans ((bT (inB_iff.2 (by omega))).trans ((bT (by rw [beq_iff_eq]; exact h48)).trans ((bT (decide_eq_true (by omega))).trans ?_))))))
          rw [show formD ((bytesOf s).drop 1) true = false by rw [← Bool.not_eq_true, formD_eq]; intro hh; exact hh.2.1 ⟨by omega, .inr rfl⟩]
        · have e48 : (bt s 1 == 48) = false := by rw [beq_eq_false_iff_ne]; exact h48
          obtain ⟨e2, S1, hE1, ⟨rfl, hall, x, rfl⟩ | ⟨rfl, hall, x, rfl⟩⟩ := RForm.loop s 1 true (bt s 0 == 45) 1 (1 == (s.size : Int)) false hsz (by omega)
          · refine ⟨_, tabOf_all _, (RForm.rest_1 s x true (bt s 0 == 45) 1 (1 == (s.size : Int)) false).trans ?_⟩
            refine (bT (decide_eq_true (by omega))).trans ((bT (inB_iff.2 (by omega))).trans ((bT e45).trans ((bF e1).trans ((bT (inB_iff.2 (by omega))).trans ((bF e48).trans ((bT (cdec_true hE1)).trans ?_))))))
            rw [show formD ((bytesOf s).drop 1) true = true from (formD_eq _ _).2 ⟨fun hh => by rw [hh] at hl1; simp at hl1; omega, fun hh => h48 (by rw [hb1]; exact hh.1), hall⟩]
          · refine ⟨_, tabOf_all _, (RForm.rest_0 s x true (bt s 0 == 45) 1 (1 == (s.size : Int)) false).trans ?_⟩
            refine (bT (decide_eq_true (by omega))).trans ((bT (inB_iff.2 (by omega))).trans ((bT e45).trans ((bF e1).trans ((bT (inB_iff.2 (by omega))).trans ((bF e48).trans ((bT (cdec_true hE1)).trans ?_))))))
            rw [show formD ((bytesOf s).drop 1) true = false by rw [← Bool.not_eq_true, formD_eq]; intro hh; rw [hall] at hh; cases hh.2.2]
    · obtain ⟨hn, hd⟩ := pos_of s h45
      have e45 : (bt s 0 == 45) = false := by rw [beq_eq_false_iff_ne]; exact h45
      have hb0 : bt s 0 = (bytesOf s).getD 0 0 := bt_nat s 0
      rw [form_D hd hn]
      by_cases h0 : s.size = 0
      · refine ⟨_, tabOf_all _, (RForm.rest_0 s 0 true true 0 true true).trans ?_⟩
        refine (bF (decide_eq_false (by omega))).trans ((bT (by rw [beq_iff_eq]; omega)).trans ?_)
        rw [show formD (bytesOf s) false = false by rw [← Bool.not_eq_true, formD_eq]; intro hh; exact hh.1 (List.eq_nil_of_length_eq_zero (by omega))]
      · have e1 : (0 == (s.size : Int)) = false := by rw [beq_eq_false_iff_ne]; omega
        by_cases hbad : bt s 0 = 48 ∧ s.size > 1
        · refine ⟨_, tabOf_all _, (RForm.rest_0 s 0 true true 0 true true).trans ?_⟩
          refine (bT (decide_eq_true (by omega))).trans ((bT (inB_iff.2 (by omega))).trans ((bF e45).trans ((bF e1).trans ((bT (inB_iff.2 (by omega))).trans ((bT (by rw [beq_iff_eq]; exact hbad.1)).trans ((bT (decide_eq_true (by omega))).trans ?_))))))
          rw [show formD (bytesOf s) false = false by rw [← Bool.not_eq_true, formD_eq]; intro hh; exact hh.2.1 ⟨by omega, .inl (by omega)⟩]
        · have join : ∀ (X Y Z : Option Res), (s.size ≤ 1 → X = Z) → (¬ bt s 0 = 48 → Y = Z) → (bif bt s 0 == 48 then (bif decide ((s.size : Int) > 1) then some (.val (.bool false)) else X) else Y) = Z := by
            intro X Y Z hX hY
            by_cases h48 : bt s 0 = 48
            · rw [bT (by rw [beq_iff_eq]; exact h48), bF (decide_eq_false (by omega))]
              exact hX (by omega)
            · rw [bF (by rw [beq_eq_false_iff_ne]; exact h48)]
              exact hY h48
          obtain ⟨e2, S1, hE1, ⟨rfl, hall, x, rfl⟩ | ⟨rfl, hall, x, rfl⟩⟩ := RForm.loop s 0 true (bt s 0 == 45) 0 (0 == (s.size : Int)) false hsz (by omega)
          · refine ⟨_, tabOf_all _, (RForm.rest_1 s x true (bt s 0 == 45) 0 (0 == (s.size : Int)) false).trans ?_⟩
            refine (bT (decide_eq_true (by omega))).trans ((bT (inB_iff.2 (by omega))).trans ((bF e45).trans ((bF e1).trans ((bT (inB_iff.2 (by omega))).trans ?_))))
            rw [List.drop_zero] at hall
            rw [show formD (bytesOf s) false = true from (formD_eq _ _).2 ⟨fun hh => by rw [hh] at hlen; exact h0 hlen.symm, fun hh => hbad ⟨by omega, by rcases hh.2 with h | h; omega; cases h⟩, hall⟩]
            refine join _ _ _ (fun hle => ?_) (fun _ => bT (cdec_true hE1))
            rw [decide_eq_false (show ¬ (s.size : Int) > 1 by omega)]
            exact bT (cdec_true hE1)
          · refine ⟨_, tabOf_all _, (RForm.rest_0 s x true (bt s 0 == 45) 0 (0 == (s.size : Int)) false).trans ?_⟩
            refine (bT (decide_eq_true (by omega))).trans ((bT (inB_iff.2 (by omega))).trans ((bF e45).trans ((bF e1).trans ((bT (inB_iff.2 (by omega))).trans ?_))))
            rw [List.drop_zero] at hall
            rw [show formD (bytesOf s) false = false by rw [← Bool.not_eq_true, formD_eq]; intro hh; rw [hall] at hh; cases hh.2.2]
            refine join _ _ _ (fun hle => ?_) (fun _ => bT (cdec_true hE1))
            rw [decide_eq_false (show ¬ (s.size : Int) > 1 by omega)]
            exact bT (cdec_true hE1)
  · cases h
namespace RExact
theorem loop (s : ByteArray) (hs : s.size ≤ 10000) (i0 : Nat) (h0 : i0 ≤ s.size) (hall : ((bytesOf s).drop i0).all isDig = true) (hi0 : i0 = 0 ∨ (i0 = 1 ∧ bt s 0 = 45)) :
    ∃ e S1, Ends T orc L0 D0 (st0 s ((s.size : Int) - 1) []) e S1 ∧ (e = .exit 0 ∧ ∃ x, S1 = st0 s x (((bytesOf s).drop i0).reverse.map (· - 48))) := by
  have hlen := bytes_len s
  refine loop_inv2 (fun (i : Nat) l0 => st0 s ((i : Int) - 1) l0) (fun i l0 => i0 ≤ i ∧ i ≤ s.size ∧ l0 = ((bytesOf s).drop i).reverse.map (· - 48)) (fun i l0 => i)
    (fun e S1 => e = .exit 0 ∧ ∃ x, S1 = st0 s x (((bytesOf s).drop i0).reverse.map (· - 48))) isL0 ?_ s.size [] ⟨h0, Nat.le_refl _, by rw [List.drop_of_length_le (by omega)]; rfl⟩
  intro i l0 ⟨h1, h2, h3⟩
  refine ⟨noTab, noTab_all, lands_of (round0 ..) ?_⟩
  by_cases hi : i = i0
  · subst hi
    rcases hi0 with hi0 | ⟨hi0, hb⟩
    · refine (lands_of (bF (decide_eq_false (by omega))) ?_)
      rw [h3]
      exact lands_some.2 ⟨rfl, _, rfl⟩
    · have e0 : ((i : Int) - 1) = 0 := by omega
      rw [e0]
      refine (lands_of (bT (decide_eq_true (by omega))) ?_)
      refine (lands_of (bT (inB_iff.2 (by omega))) ?_)
      refine (lands_of (bF (by rw [hb]; rfl)) ?_)
      rw [h3]
      exact lands_some.2 ⟨rfl, _, rfl⟩
  · obtain ⟨j, rfl⟩ : ∃ j, i = j + 1 := ⟨i - 1, by omega⟩
    have ej : (((j + 1 : Nat) : Int) - 1) = (j : Int) := by omega
    rw [ej, bt_nat]
    have hc : isDig ((bytesOf s).getD j 0) = true := by
      refine List.all_eq_true.1 hall _ ?_
      rw [getD_at (by omega)]
      refine List.mem_iff_getElem.2 ⟨j - i0, by rw [List.length_drop]; omega, ?_⟩
      rw [List.getElem_drop]
      congr 1
      omega
    have hc := dig_iff.1 hc
    have ew : IntKind.i64.wrap (IntKind.u8.wrap ((bytesOf s).getD j 0 - 48)) = (bytesOf s).getD j 0 - 48 := by
      rw [IntWalk.u8_in _ ⟨by omega, by omega⟩, w64 (by omega) (by omega)]
    rw [ew]
    refine (lands_of (bT (decide_eq_true (by omega))) ?_)
    refine (lands_of (bT (inB_iff.2 (by omega))) ?_)
    refine (lands_of (bT (by rw [bne_iff_ne]; omega)) ?_)
    refine (lands_of (bT (inB_iff.2 (by omega))) ?_)
    refine (lands_of (bT (by rw [Bool.true_and]; exact decide_eq_true (by rw [List.length_append, h3, List.length_map, List.length_reverse, List.length_drop, List.length_singleton]; omega))) ?_)
    refine lands_some.2 ⟨j, _, by rw [w64 (by omega) (by omega)], ⟨by omega, by omega, ?_⟩, by show j < j + 1; omega⟩
    rw [h3, List.drop_eq_getElem_cons (by omega : j < (bytesOf s).length), List.reverse_cons, List.map_append, getD_at (by omega)]
    rfl
end RExact
theorem meets_rexact : Meets Try.prog 60 anrExact := by
  refine meets_fn (orc_ok (l := RExact.ans) ⟨meets_rtrim, trivial⟩) Try.f60 Try.func60 (by kernel_rfl) (fun args r h => ?_)
  unfold anrExact at h
  split at h
  · rename_i s
    simp only [Option.some.injEq, Prod.mk.injEq, Bool.and_eq_true, decide_eq_true_eq] at h
    obtain ⟨⟨hsz, hf⟩, rfl⟩ := h
    have hlen := bytes_len s
    have hall : (digs (bytesOf s)).all isDig = true := by unfold form at hf; rw [Bool.and_eq_true] at hf; exact hf.2
    have hne : digs (bytesOf s) ≠ [] := by
      intro h0
      unfold form at hf
      rw [h0] at hf
      cases hf
    have hok : okB 10 ((digs (bytesOf s)).reverse.map (· - 48)) = true := by
      refine okB_iff.2 (fun d hd => ?_)
      obtain ⟨c, hc, rfl⟩ := List.mem_map.1 hd
      have := dig_iff.1 (List.all_eq_true.1 hall c (List.mem_reverse.1 hc))
      omega
    have hdl : (digs (bytesOf s)).length ≤ s.size := by
      unfold digs
      cases hasNeg (bytesOf s) <;> simp only [cond_true, cond_false, List.length_drop] <;> omega
    have h0 : 0 < s.size := by
      have := List.length_pos_iff.2 hne
      omega
    have ew : IntKind.i64.wrap ((s.size : Int) - 1) = (s.size : Int) - 1 := w64 (by omega) (by omega)
    have fin : ∀ (b : Bool) (x : Int), hasNeg (bytesOf s) = b → (bt s 0 == 45) = b → Ends T RExact.orc RExact.L0 RExact.D0 (RExact.st0 s ((s.size : Int) - 1) []) (.exit 0) (RExact.st0 s x ((digs (bytesOf s)).reverse.map (· - 48))) →
        ∃ tab, (∀ C, TabOk T RExact.orc tab C) ∧ runT T RExact.orc tab Try.f60 [.str s] = some (.val (M (tval (bytesOf s)))) := by
      intro b x hb hbt hE
      refine ⟨_, tabOf_all _, (RExact.rest s ((digs (bytesOf s)).reverse.map (· - 48)) x).trans ?_⟩
      rw [ew]
      refine (bT (cdec_true hE)).trans ((bT (inB_iff.2 (by omega))).trans ((bT ?_).trans ?_))
      · rw [hok, few_iff.2 (by rw [List.length_map, List.length_reverse]; omega)]; rfl
      · rw [hbt]
        unfold tval
        rw [hb]
        rfl
    refine ⟨rfl, ?_⟩
    by_cases h45 : bt s 0 = 45
    · obtain ⟨_, hn, _⟩ := neg_of s h45
      have hd := neg_drop s h45
      obtain ⟨e1, S1, hE1, rfl, x, rfl⟩ := RExact.loop s hsz 1 (by omega) (by rw [← hd]; exact hall) (.inr ⟨rfl, h45⟩)
      rw [← hd] at hE1
      exact fin true x hn (by rw [h45]; rfl) hE1
    · obtain ⟨hn, hd⟩ := pos_of s h45
      obtain ⟨e1, S1, hE1, rfl, x, rfl⟩ := RExact.loop s hsz 0 (by omega) (by rw [List.drop_zero, ← hd]; exact hall) (.inl rfl)
      rw [List.drop_zero, ← hd] at hE1
      exact fin false x hn (by rw [beq_eq_false_iff_ne]; exact h45) (by rw [hd]; rw [hd] at hE1; exact hE1)
  · cases h
set_option exponentiation.threshold 20000 in
theorem ten400_Lim : (10 : Nat) ^ 400 < Lim := Nat.lt_of_not_le (fun h => by
  have h2 : Nat.ble Lim (10 ^ 400) = true := Nat.ble_eq_true_of_le h
  have h3 : Nat.ble Lim (10 ^ 400) = false := by kernel_rfl
  rw [h3] at h2; cases h2)
set_option exponentiation.threshold 20000 in
theorem tval_lim {l : List Int} (hf : form l = true) (hl : l.length ≤ 400) : (tval l).natAbs < Lim := by
  have hall : (digs l).all isDig = true := by unfold form at hf; rw [Bool.and_eq_true] at hf; exact hf.2
  have hdl : (digs l).length ≤ 400 := by
    unfold digs
    cases hasNeg l <;> simp only [cond_true, cond_false, List.length_drop] <;> omega
  have hb := dval_bound _ hall
  have hp := pow_mono (B := 10) (by decide) hdl
  have h1 : dval (digs l) < ((10 ^ 400 : Nat) : Int) := by rw [Int.natCast_pow]; exact Int.lt_of_lt_of_le hb.2 hp
  have h2 : (dval (digs l)).natAbs < Lim := Nat.lt_trans (by omega) ten400_Lim
  unfold tval
  cases hasNeg l <;> simp only [cond_true, cond_false, Int.natAbs_neg] <;> exact h2
theorem meets_rparse : Meets Try.prog 16 anrParse := by
  refine meets_fn (orc_ok (l := RParse.ans) ⟨meets_rform, meets_rexact, meets_rtoobig, trivial⟩) Try.f16 Try.func16 (by kernel_rfl) (fun args r h => ?_)
  unfold anrParse at h
  split at h
  · rename_i s
    simp only [Option.some.injEq, Prod.mk.injEq] at h
    obtain ⟨h, rfl⟩ := h
    have hsz := of_decide_eq_true h
    have hlen := bytes_len s
    refine ⟨rfl, _, noTab_all, (RParse.rest s).trans ((bT h).trans ?_)⟩
    cases hf : form (bytesOf s) with
    | false =>
      unfold rv re
      rw [hf]; rfl
    | true =>
      refine (bF rfl).trans ?_
      by_cases hbig : s.size > 400
      · refine (bT (decide_eq_true (by omega))).trans ?_
        have hdl : (digs (bytesOf s)).length > 343 := by
          unfold digs
          cases hasNeg (bytesOf s) <;> simp only [cond_true, cond_false, List.length_drop] <;> omega
        have hD : formD (digs (bytesOf s)) (hasNeg (bytesOf s)) = true := by rw [← form_D rfl rfl]; exact hf
        have hall : (digs (bytesOf s)).all isDig = true := ((formD_eq _ _).1 hD).2.2
        have h0 : (digs (bytesOf s)).getD 0 0 ≠ 48 := fun h0 => ((formD_eq _ _).1 hD).2.1 ⟨h0, .inl (by omega)⟩
        have hb := dval_big hall h0 hdl
        have hfz : fits (tval (bytesOf s)) = false := by
          refine big_fits ?_
          unfold tval
          cases hasNeg (bytesOf s) <;> simp only [cond_true, cond_false, az] <;> omega
        unfold rv re
        rw [hf]
        simp only [cond_true]
        unfold hz he
        rw [hfz]; rfl
      · refine (bF (decide_eq_false (by omega))).trans ((bT (by rw [h]; rfl)).trans ((bT ?_).trans ?_))
        · rw [cn10]; exact decide_eq_true (tval_lim hf (by omega))
        · rw [N10_eq]
          unfold rv re
          rw [hf]
          simp only [cond_true]
          unfold hz he
          cases fits (tval (bytesOf s)) <;> rfl
  · cases h
end Go.Abs
end
section
/- Rationals in the core's own form, and their parts in limbs and digits. -/
namespace Go.Abs
open Go.Proofs Go.Dig
theorem zd_nn {d : Int} (h : 0 ≤ d) : 0 ≤ zd d := by unfold zd; cases hb : d == 1 <;> simp only [cond_true, cond_false] <;> omega
theorem dn_zd {d : Int} (h : 1 ≤ d) : dn (zd d) = d := by
  unfold zd dn
  cases hb : d == 1 with
  | true => rw [beq_iff_eq] at hb; subst hb; rfl
  | false =>
    rw [cond_false]
    have : (d == 0) = false := by rw [beq_eq_false_iff_ne]; omega
    rw [this, cond_false]
theorem den_pos' (q : Rat) : 1 ≤ (q.den : Int) := by have := q.den_nz; omega
theorem sg_nn {z : Int} (h : 0 ≤ z) : sg z = false := by unfold sg; rw [decide_eq_false_iff_not]; omega
theorem num_nnW {z : Int} (h : 0 ≤ z) : num 4294967296 false (lb 4294967296 z) = z := by have := num_lbW z; rw [sg_nn h] at this; exact this
theorem num_nn10 {z : Int} (h : 0 ≤ z) : num 10 false (lb 10 z) = z := by have := num_lb10 z; rw [sg_nn h] at this; exact this
theorem rq_Q (q : Rat) : rq (sg q.num) (lb 4294967296 q.num) (lb 4294967296 (zd q.den)) = q := by
  rw [rq_eq, num_lbW, num_nnW (zd_nn (by omega)), dn_zd (den_pos' q), Int.toNat_natCast, Rat.mkRat_self]
theorem isQ_Q (q : Rat) : isQ (sg q.num) (lb 4294967296 q.num) false (lb 4294967296 (zd q.den)) = fitsQ q := by
  rw [isQ_eq, rq_Q, decide_eq_true rfl, decide_eq_true rfl, decide_eq_true rfl, decide_eq_true rfl, Bool.true_and, Bool.true_and, Bool.true_and, Bool.true_and]
theorem isQ_iff {s : Bool} {l : List Int} {t : Bool} {m : List Int} : isQ s l t m = true ↔ ∃ q : Rat, fitsQ q = true ∧ s = sg q.num ∧ l = lb 4294967296 q.num ∧ t = false ∧ m = lb 4294967296 (zd q.den) := by
  constructor
  · intro h
    rw [isQ_eq] at h
    simp only [Bool.and_eq_true, decide_eq_true_eq] at h
    obtain ⟨⟨⟨⟨h1, h2⟩, h3⟩, h4⟩, h5⟩ := h
    exact ⟨_, h5, h1, h2, h3, h4⟩
  · rintro ⟨q, h, rfl, rfl, rfl, rfl⟩
    rw [isQ_Q]; exact h
theorem fitsQ_iff {q : Rat} : fitsQ q = true ↔ fits q.num = true ∧ fits q.den = true := by rw [fitsQ_eq, Bool.and_eq_true]
end Go.Abs
end
section
/- Sums, products, opposites, quotients of rationals by their parts, as the program reckons them. -/
namespace Go.Abs
open Go.Proofs Go.Dig
/-- The parts of a sum. -/
theorem add_parts (x y : Rat) (g : Nat) (t : Int) (hg : g = Nat.gcd x.den y.den) (ht : t = x.num * (y.den / g : Nat) + y.num * (x.den / g : Nat)) :
    (x + y).num = t / (Nat.gcd t.natAbs g : Nat) ∧ (x + y).den = (x.den / g) * (y.den / (Nat.gcd t.natAbs g)) := by
  have e : x + y = Rat.add x y := rfl
  have hd : Nat.gcd t.natAbs g ∣ y.den := Nat.dvd_trans (Nat.gcd_dvd_right ..) (hg ▸ Nat.gcd_dvd_right ..)
  subst ht
  subst hg
  rw [e]
  unfold Rat.add
  dsimp only
  by_cases h1 : Nat.gcd x.den y.den = 1
  · rw [dif_pos h1]
    rw [h1]
    simp only [Nat.div_one, Nat.gcd_one_right, Int.natCast_one, Int.ediv_one]
    exact ⟨trivial, trivial⟩
  · rw [dif_neg h1, Rat.maybeNormalize_eq]
    dsimp only
    exact ⟨Int.divExact_eq_ediv .., (Nat.mul_div_assoc _ hd)⟩
theorem ofQ_num {a b : Int} (hb : 0 < b) : (ofQ a b).num = a / (Int.gcd a b : Int) := by
  rw [ofQ_eq, Rat.num_divInt, Int.sign_eq_one_of_pos hb, Int.one_mul, Int.gcd_comm]
theorem ofQ_den {a b : Int} (hb : 0 < b) : ((ofQ a b).den : Int) = b / (Int.gcd a b : Int) := by
  rw [ofQ_eq, Rat.den_divInt, if_neg (by omega), Int.gcd_comm, Int.natCast_ediv, Int.natAbs_of_nonneg (by omega)]
theorem ofQ_zero (a : Int) : ofQ a 0 = 0 := by rw [ofQ_eq]; exact Rat.divInt_zero a
theorem ofQ_neg (a b : Int) : ofQ (-a) (-b) = ofQ a b := by rw [ofQ_eq, ofQ_eq]; exact Rat.neg_divInt_neg a b
theorem fits_le' {x y : Int} (h : fits y = true) (hle : x.natAbs ≤ y.natAbs) : fits x = true := fits_iff.2 (Nat.lt_of_le_of_lt hle (fits_iff.1 h))
theorem fits_neg {x : Int} (h : fits x = true) : fits (-x) = true := fits_le' h (by omega)
theorem ofQ_fits_pos {a b : Int} (ha : fits a = true) (hb : fits b = true) (h0 : 0 < b) : fitsQ (ofQ a b) = true := by
  rw [fitsQ_iff, ofQ_num h0, ofQ_den h0]
  exact ⟨fits_le' ha (Int.natAbs_ediv_le_natAbs ..), fits_le' hb (Int.natAbs_ediv_le_natAbs ..)⟩
theorem fitsQ_0 : fitsQ 0 = true := by rw [fitsQ_eq]; kernel_rfl
theorem ofQ_fits {a b : Int} (ha : fits a = true) (hb : fits b = true) : fitsQ (ofQ a b) = true := by
  rcases Int.lt_trichotomy b 0 with h | h | h
  · rw [← ofQ_neg]; exact ofQ_fits_pos (fits_neg ha) (fits_neg hb) (by omega)
  · subst h; rw [ofQ_zero]; exact fitsQ_0
  · exact ofQ_fits_pos ha hb h
end Go.Abs
end
section
/- The statements of layer 1: their helpers. -/
namespace Go.Abs
open Go.Proofs Go.Dig
/-- What num gives is held. -/
theorem fits_rv (s : ByteArray) : fits (rv s) = true := by
  have f0 : fits 0 = true := by kernel_rfl
  unfold rv
  cases form (bytesOf s) with
  | false => exact f0
  | true =>
    rw [cond_true]
    unfold hz
    cases hf : fits (tval (bytesOf s)) with
    | false => exact f0
    | true => exact hf
end Go.Abs
end
section
/- The statements of layer 1: texts read, numbers reckoned. -/
namespace Go.Abs
open Go.Proofs Go.Dig
theorem small_rv (s : ByteArray) : (rv s).natAbs < Lim := small_of_fits (fits_rv s)
end Go.Abs
end
section
/- The statements of layer 1: powers multiplied. -/
namespace Go.Abs
open Go.Proofs Go.Dig
theorem small_hz (z : Int) : (hz z).natAbs < Lim := small_of_fits (fits_hz z)
end Go.Abs
end
section
/- The statements of layer 1: order, small numbers, powers. -/
namespace Go.Abs
open Go.Proofs Go.Dig
theorem sg_az (z : Int) : sg (az z) = false := by unfold sg; rw [decide_eq_false_iff_not]; have := az_nonneg z; omega
theorem cnW_az (z : Int) : cn 4294967296 false (lb 4294967296 (az z)) = decide (z.natAbs < Lim) := by
  have := cnW (az z)
  rw [sg_az] at this
  rw [this]; rfl
theorem cn10_az (z : Int) : cn 10 false (lb 10 (az z)) = decide (z.natAbs < Lim) := by
  have := cn10 (az z)
  rw [sg_az] at this
  rw [this]; rfl
theorem numW_az (z : Int) : num 4294967296 false (lb 4294967296 (az z)) = az z := by
  have := num_lbW (az z)
  rw [sg_az] at this; exact this
theorem num10_az (z : Int) : num 10 false (lb 10 (az z)) = az z := by
  have := num_lb10 (az z)
  rw [sg_az] at this; exact this
end Go.Abs
end
section
/- The statements of layer 1: numbers reckoned. -/
namespace Go.Abs
open Go.Proofs Go.Dig
theorem az_gz (x y : Int) : az (gz x y) = gz x y := by unfold az gz; omega
theorem cnW_gz (x y : Int) : cn 4294967296 false (lb 4294967296 (gz x y)) = decide ((gz x y).natAbs < Lim) := by have := cnW_az (gz x y); rw [az_gz] at this; exact this
theorem cn10_gz (x y : Int) : cn 10 false (lb 10 (gz x y)) = decide ((gz x y).natAbs < Lim) := by have := cn10_az (gz x y); rw [az_gz] at this; exact this
theorem numW_gz (x y : Int) : num 4294967296 false (lb 4294967296 (gz x y)) = gz x y := by have := numW_az (gz x y); rw [az_gz] at this; exact this
theorem num10_gz (x y : Int) : num 10 false (lb 10 (gz x y)) = gz x y := by have := num10_az (gz x y); rw [az_gz] at this; exact this
end Go.Abs
end
section
/- The statements of layer 1: rings, moves. -/
namespace Go.Abs
open Go.Proofs Go.Dig
theorem hz_he {z : Int} (h : he z = 0) : hz z = z := hz_of (he_zero.1 h)
theorem ne_b {x y : Int} (h : x ≠ y) : (x != y) = true := by rw [bne_iff_ne]; exact h
theorem eq_b {x y : Int} (h : x = y) : (x != y) = false := by subst h; exact bne_self_eq_false x
end Go.Abs
end
section
/- The statements of layer 1: quotients and rests, divisors. -/
namespace Go.Abs
open Go.Proofs Go.Dig
/-- Quotient and rest, as the page has them. -/
theorem dq_dr (x : Int) {y : Int} (h : y ≠ 0) : dr x y + y * dq x y = x ∧ ((0 < y ∧ 0 ≤ dr x y ∧ dr x y < y) ∨ (y < 0 ∧ y < dr x y ∧ dr x y ≤ 0)) := by
  unfold dq dr
  rw [if_neg h, if_neg h]
  refine ⟨Int.fmod_add_mul_fdiv x y, ?_⟩
  rcases Int.lt_or_gt_of_ne h with hy | hy
  · refine .inr ⟨hy, ?_⟩
    have h2 := Int.emod_nonneg x h
    have h3 := Int.emod_lt x h
    rw [Int.fmod_eq_emod]
    split
    · rename_i h4
      have h5 : x % y = 0 := Int.emod_eq_zero_of_dvd (by rcases h4 with h4 | h4; omega; exact h4)
      omega
    · rename_i h4
      have h5 : x % y ≠ 0 := fun h5 => h4 (.inr (Int.dvd_of_emod_eq_zero h5))
      omega
  · exact .inl ⟨hy, Int.fmod_nonneg_of_pos x hy, Int.fmod_lt_of_pos x hy⟩
theorem dq_le (x : Int) {y : Int} (h : y ≠ 0) : (dq x y).natAbs ≤ x.natAbs := by
  obtain ⟨h1, h2⟩ := dq_dr x h
  generalize dq x y = q at *
  generalize dr x y = r at *
  by_cases hq0 : q = 0
  · subst hq0; simp
  by_cases hq1 : q = -1
  · subst hq1
    rw [Int.mul_neg, Int.mul_one] at h1
    omega
  have hyq : y * q = x - r := by omega
  rcases h2 with ⟨y0, r0, r1⟩ | ⟨y0, r0, r1⟩
  · rcases (by omega : 1 ≤ q ∨ q ≤ -2) with hq | hq
    · have : 1 * q ≤ y * q := Int.mul_le_mul_of_nonneg_right (by omega) (by omega)
      omega
    · have h3 : y * q ≤ y * (q + 1) - y := by rw [Int.mul_add]; omega
      have h4 : y * (q + 1) ≤ 1 * (q + 1) := Int.mul_le_mul_of_nonpos_right (by omega) (by omega)
      omega
  · rcases (by omega : 1 ≤ q ∨ q ≤ -2) with hq | hq
    · have : y * q ≤ (-1) * q := Int.mul_le_mul_of_nonneg_right (by omega) (by omega)
      omega
    · have h4 : (-1) * (q + 1) ≤ y * (q + 1) := Int.mul_le_mul_of_nonpos_right (by omega) (by omega)
      have h5 : y * (q + 1) = y * q + y := by rw [Int.mul_add, Int.mul_one]
      omega
theorem fits_le {x y : Int} (h : fits y = true) (hle : x.natAbs ≤ y.natAbs) : fits x = true := fits_iff.2 (Nat.lt_of_le_of_lt hle (fits_iff.1 h))
theorem fits_dq {x y : Int} (hx : fits x = true) : fits (dq x y) = true := by
  by_cases h : y = 0
  · unfold dq; rw [if_pos h]; kernel_rfl
  · exact fits_le hx (dq_le x h)
theorem fits_gz {x y : Int} (hx : fits x = true) (hy : fits y = true) : fits (gz x y) = true := by
  unfold gz
  by_cases h : x = 0
  · subst h
    rw [Int.gcd_zero_left]
    exact fits_le hy (by omega)
  · have : Int.gcd x y ≤ x.natAbs := Nat.le_of_dvd (by omega) (Nat.gcd_dvd_left _ _)
    exact fits_le hx (by omega)
end Go.Abs
end
section
/- States and rounds of ratio, as a program of this session printed them. -/
set_option maxRecDepth 10000
namespace Go.Abs
open Go.Proofs Go.Dig
noncomputable section
namespace QWhole
abbrev ans : Ans := []
abbrev orc : Orc := orcOf ans
theorem rest (s : Bool) (l : List Int) : runT T orc (noTab) Try.f30 [.agg [.bool s, .ints .u32 l]] =
    some (.val (.agg [.bool s, .ints .u32 l, .bool false, .ints .u32 []])) := by kernel_rfl
end QWhole
namespace QDen
abbrev ans : Ans := [(21, ansSign), (47, ansFrom)]
abbrev orc : Orc := orcOf ans
theorem rest (s : Bool) (l : List Int) (t : Bool) (m : List Int) : runT T orc (noTab) Try.f20 [.agg [.bool s, .ints .u32 l, .bool t, .ints .u32 m]] =
    (bif cn (4294967296) t m then (bif cmpZ (num (4294967296) t m) (0) == 0 then some (.val (.agg [.bool false, .ints .u32 (lb (4294967296) (1))])) else some (.val (.agg [.bool t, .ints .u32 m]))) else none) := by kernel_rfl
end QDen
namespace QMade
abbrev ans : Ans := [(47, ansFrom), (34, ansCmp)]
abbrev orc : Orc := orcOf ans
theorem rest (s : Bool) (l : List Int) (sy : Bool) (ly : List Int) : runT T orc (noTab) Try.f63 [.agg [.bool s, .ints .u32 l], .agg [.bool sy, .ints .u32 ly]] =
    (bif cn (4294967296) sy ly && true then (bif cmpZ (num (4294967296) sy ly) (num (4294967296) false (lb (4294967296) (1))) == 0 then some (.val (.agg [.bool s, .ints .u32 l, .bool false, .ints .u32 []])) else some (.val (.agg [.bool s, .ints .u32 l, .bool sy, .ints .u32 ly]))) else none) := by kernel_rfl
end QMade
namespace QOver
abbrev ans : Ans := [(74, ansDiv)]
abbrev orc : Orc := orcOf ans
theorem rest (s : Bool) (l : List Int) (sy : Bool) (ly : List Int) : runT T orc (noTab) Try.f64 [.agg [.bool s, .ints .u32 l], .agg [.bool sy, .ints .u32 ly]] =
    (bif cn (4294967296) s l && cn (4294967296) sy ly then some (.val (R (dq (num (4294967296) s l) (num (4294967296) sy ly)))) else none) := by kernel_rfl
end QOver
namespace QOf
abbrev ans : Ans := [(21, ansSign), (62, ansNeg), (22, ansGcd), (64, ansOver), (63, ansMade)]
abbrev orc : Orc := orcOf ans
theorem rest (s : Bool) (l : List Int) (sy : Bool) (ly : List Int) : runT T orc (noTab) Try.f17 [.agg [.bool s, .ints .u32 l], .agg [.bool sy, .ints .u32 ly]] =
    (bif cn (4294967296) sy ly then (bif cmpZ (num (4294967296) sy ly) (0) == 0 then some (.val (.tup [.agg [.bool false, .ints .u32 [], .bool false, .ints .u32 []], .int .i64 (12)])) else (bif cn (4294967296) sy ly then (bif decide (cmpZ (num (4294967296) sy ly) (0) < 0) then (bif cn (4294967296) s l then (bif cn (4294967296) sy ly then (bif cn (4294967296) (sg (-num (4294967296) s l)) (lb (4294967296) (-num (4294967296) s l)) && cn (4294967296) (sg (-num (4294967296) sy ly)) (lb (4294967296) (-num (4294967296) sy ly)) then (bif cn (4294967296) (sg (-num (4294967296) s l)) (lb (4294967296) (-num (4294967296) s l)) && cn (4294967296) false (lb (4294967296) (gz (N (4294967296) (-num (4294967296) s l)) (N (4294967296) (-num (4294967296) sy ly)))) then (bif cn (4294967296) (sg (-num (4294967296) sy ly)) (lb (4294967296) (-num (4294967296) sy ly)) && cn (4294967296) false (lb (4294967296) (gz (N (4294967296) (-num (4294967296) s l)) (N (4294967296) (-num (4294967296) sy ly)))) then (bif cn (4294967296) (sg (dq (N (4294967296) (-num (4294967296) sy ly)) (num (4294967296) false (lb (4294967296) (gz (N (4294967296) (-num (4294967296) s l)) (N (4294967296) (-num (4294967296) sy ly))))))) (lb (4294967296) (dq (N (4294967296) (-num (4294967296) sy ly)) (num (4294967296) false (lb (4294967296) (gz (N (4294967296) (-num (4294967296) s l)) (N (4294967296) (-num (4294967296) sy ly))))))) then some (.val (.tup [.agg [.bool (sg (dq (N (4294967296) (-num (4294967296) s l)) (num (4294967296) false (lb (4294967296) (gz (N (4294967296) (-num (4294967296) s l)) (N (4294967296) (-num (4294967296) sy ly))))))), .ints .u32 (lb (4294967296) (dq (N (4294967296) (-num (4294967296) s l)) (num (4294967296) false (lb (4294967296) (gz (N (4294967296) (-num (4294967296) s l)) (N (4294967296) (-num (4294967296) sy ly))))))), .bool (sg (zd (N (4294967296) (dq (N (4294967296) (-num (4294967296) sy ly)) (num (4294967296) false (lb (4294967296) (gz (N (4294967296) (-num (4294967296) s l)) (N (4294967296) (-num (4294967296) sy ly))))))))), .ints .u32 (lb (4294967296) (zd (N (4294967296) (dq (N (4294967296) (-num (4294967296) sy ly)) (num (4294967296) false (lb (4294967296) (gz (N (4294967296) (-num (4294967296) s l)) (N (4294967296) (-num (4294967296) sy ly)))))))))], .int .i64 (0)])) else none) else none) else none) else none) else none) else none) else (bif cn (4294967296) s l && cn (4294967296) sy ly then (bif cn (4294967296) s l && cn (4294967296) false (lb (4294967296) (gz (num (4294967296) s l) (num (4294967296) sy ly))) then (bif cn (4294967296) sy ly && cn (4294967296) false (lb (4294967296) (gz (num (4294967296) s l) (num (4294967296) sy ly))) then (bif cn (4294967296) (sg (dq (num (4294967296) sy ly) (num (4294967296) false (lb (4294967296) (gz (num (4294967296) s l) (num (4294967296) sy ly)))))) (lb (4294967296) (dq (num (4294967296) sy ly) (num (4294967296) false (lb (4294967296) (gz (num (4294967296) s l) (num (4294967296) sy ly)))))) then some (.val (.tup [.agg [.bool (sg (dq (num (4294967296) s l) (num (4294967296) false (lb (4294967296) (gz (num (4294967296) s l) (num (4294967296) sy ly)))))), .ints .u32 (lb (4294967296) (dq (num (4294967296) s l) (num (4294967296) false (lb (4294967296) (gz (num (4294967296) s l) (num (4294967296) sy ly)))))), .bool (sg (zd (N (4294967296) (dq (num (4294967296) sy ly) (num (4294967296) false (lb (4294967296) (gz (num (4294967296) s l) (num (4294967296) sy ly)))))))), .ints .u32 (lb (4294967296) (zd (N (4294967296) (dq (num (4294967296) sy ly) (num (4294967296) false (lb (4294967296) (gz (num (4294967296) s l) (num (4294967296) sy ly))))))))], .int .i64 (0)])) else none) else none) else none) else none)) else none)) else none) := by kernel_rfl
end QOf
namespace QIsWhole
abbrev ans : Ans := [(21, ansSign)]
abbrev orc : Orc := orcOf ans
theorem rest (s : Bool) (l : List Int) (t : Bool) (m : List Int) : runT T orc (noTab) Try.f48 [.agg [.bool s, .ints .u32 l, .bool t, .ints .u32 m]] =
    (bif cn (4294967296) t m then some (.val (.bool (cmpZ (num (4294967296) t m) (0) == 0))) else none) := by kernel_rfl
end QIsWhole
namespace QText
abbrev ans : Ans := [(48, ansIsWhole), (24, ansText)]
abbrev orc : Orc := orcOf ans
theorem rest (s : Bool) (l : List Int) (t : Bool) (m : List Int) : runT T orc (noTab) Try.f27 [.agg [.bool s, .ints .u32 l, .bool t, .ints .u32 m]] =
    (bif cn (4294967296) t m then (bif decide (num (4294967296) t m = 0) then (bif cn (4294967296) s l then some (.val (.str (txt (num (4294967296) s l)))) else none) else (bif cn (4294967296) s l then (bif decide ((txt (num (4294967296) s l)).size + 1 ≤ 9223372036854775807) then (bif cn (4294967296) t m then (bif decide ((txt (num (4294967296) s l) ++ { data := #[47] }).size + (txt (num (4294967296) t m)).size ≤ 9223372036854775807) then some (.val (.str (txt (num (4294967296) s l) ++ { data := #[47] } ++ txt (num (4294967296) t m)))) else none) else none) else none) else none)) else none) := by kernel_rfl
end QText
namespace QSign
abbrev ans : Ans := [(21, ansSign)]
abbrev orc : Orc := orcOf ans
theorem rest (s : Bool) (l : List Int) (t : Bool) (m : List Int) : runT T orc (noTab) Try.f39 [.agg [.bool s, .ints .u32 l, .bool t, .ints .u32 m]] =
    (bif cn (4294967296) s l then some (.val (.int .i64 (cmpZ (num (4294967296) s l) (0)))) else none) := by kernel_rfl
end QSign
namespace QFloor
abbrev ans : Ans := [(20, ansDen), (74, ansDiv)]
abbrev orc : Orc := orcOf ans
theorem rest (s : Bool) (l : List Int) (t : Bool) (m : List Int) : runT T orc (noTab) Try.f32 [.agg [.bool s, .ints .u32 l, .bool t, .ints .u32 m]] =
    (bif cn (4294967296) t m then (bif cn (4294967296) s l && cn (4294967296) (sg (dn (num (4294967296) t m))) (lb (4294967296) (dn (num (4294967296) t m))) then some (.val (R (dq (num (4294967296) s l) (N (4294967296) (dn (num (4294967296) t m)))))) else none) else none) := by kernel_rfl
end QFloor
end
end Go.Abs
end
section
/- The functions of ratio that are short: they answer as the tables say. -/
namespace Go.Abs
open Go.Proofs Go.Dig
theorem fit_lim {z : Int} (h : fits z = true) : decide (z.natAbs < Lim) = true := decide_eq_true (small_of_fits h)
theorem cn_nm {q : Rat} (h : fitsQ q = true) : cn 4294967296 (sg q.num) (lb 4294967296 q.num) = true := by rw [cnW]; exact fit_lim (fitsQ_iff.1 h).1
theorem cn_den {q : Rat} (h : fitsQ q = true) : cn 4294967296 (sg (q.den : Int)) (lb 4294967296 q.den) = true := by rw [cnW]; exact fit_lim (fitsQ_iff.1 h).2
theorem zd_le (d : Nat) : (zd (d : Int)).natAbs ≤ d := by unfold zd; cases hb : (d : Int) == 1 <;> simp only [cond_true, cond_false] <;> omega
theorem cn_zd {q : Rat} (h : fitsQ q = true) : cn 4294967296 false (lb 4294967296 (zd q.den)) = true := by
  have := cnW (zd q.den)
  rw [sg_nn (zd_nn (by omega))] at this
  rw [this]
  exact fit_lim (fits_le' (fitsQ_iff.1 h).2 (by have := zd_le q.den; omega))
theorem num_zd (q : Rat) : num 4294967296 false (lb 4294967296 (zd q.den)) = zd q.den := num_nnW (zd_nn (by omega))
theorem dn_den (q : Rat) : dn (zd q.den) = q.den := dn_zd (den_pos' q)
theorem zd_zero {d : Int} (h : 1 ≤ d) : zd d = 0 ↔ d = 1 := by
  unfold zd
  cases hb : d == 1 with
  | true => rw [beq_iff_eq] at hb; simp [hb]
  | false => rw [beq_eq_false_iff_ne] at hb; rw [cond_false]; omega
theorem meets_whole : Meets Try.prog 30 ansWhole := by
  refine meets_fn (orc_ok (l := QWhole.ans) trivial) Try.f30 Try.func30 (by kernel_rfl) (fun args r h => ?_)
  unfold ansWhole at h
  split at h
  · rename_i s l
    simp only [Option.some.injEq, Prod.mk.injEq] at h
    obtain ⟨_, rfl⟩ := h
    exact ⟨rfl, _, noTab_all, QWhole.rest s l⟩
  · cases h
theorem cmp0 (z : Int) : (cmpZ z 0 == 0) = decide (z = 0) := by
  rw [Bool.eq_iff_iff, beq_iff_eq, decide_eq_true_eq]
  unfold cmpZ; (repeat' split) <;> omega
theorem meets_qden : Meets Try.prog 20 ansDen := by
  refine meets_fn (orc_ok (l := QDen.ans) ⟨meets_sign, meets_from, trivial⟩) Try.f20 Try.func20 (by kernel_rfl) (fun args r h => ?_)
  unfold ansDen at h
  split at h
  · rename_i s l t m
    simp only [Option.some.injEq, Prod.mk.injEq] at h
    obtain ⟨h1, rfl⟩ := h
    refine ⟨rfl, _, noTab_all, (QDen.rest s l t m).trans ((bT h1).trans ?_)⟩
    obtain ⟨z, rfl, rfl, hz⟩ := (cn_iff W_two).1 h1
    rw [num_lbW, cmp0]
    by_cases h0 : z = 0
    · subst h0; exact bT rfl
    · refine (bF (decide_eq_false h0)).trans ?_
      have : dn z = z := by unfold dn; rw [show (z == 0) = false from by rw [beq_eq_false_iff_ne]; exact h0, cond_false]
      rw [this]
  · cases h
theorem meets_made : Meets Try.prog 63 ansMade := by
  refine meets_fn (orc_ok (l := QMade.ans) ⟨meets_from, meets_cmp, trivial⟩) Try.f63 Try.func63 (by kernel_rfl) (fun args r h => ?_)
  unfold ansMade at h
  split at h
  · rename_i s l t m
    simp only [Option.some.injEq, Prod.mk.injEq] at h
    obtain ⟨h1, rfl⟩ := h
    refine ⟨rfl, _, noTab_all, (QMade.rest s l t m).trans ((bT (by rw [h1]; rfl)).trans ?_)⟩
    obtain ⟨z, rfl, rfl, hz⟩ := (cn_iff W_two).1 h1
    have n1 : num 4294967296 false (lb 4294967296 1) = 1 := num_nnW (by decide)
    rw [num_lbW, n1]
    by_cases h0 : z = 1
    · subst h0; exact bT rfl
    · refine (bF (by rw [beq_eq_false_iff_ne]; unfold cmpZ; (repeat' split) <;> omega)).trans ?_
      have : zd z = z := by unfold zd; rw [show (z == 1) = false from by rw [beq_eq_false_iff_ne]; exact h0, cond_false]
      rw [this]
  · cases h
theorem meets_over : Meets Try.prog 64 ansOver := by
  refine meets_fn (orc_ok (l := QOver.ans) ⟨meets_div, trivial⟩) Try.f64 Try.func64 (by kernel_rfl) (fun args r h => ?_)
  unfold ansOver at h
  split at h
  · rename_i s l t m
    simp only [Option.some.injEq, Prod.mk.injEq] at h
    obtain ⟨h1, rfl⟩ := h
    exact ⟨rfl, _, noTab_all, (QOver.rest s l t m).trans (bT h1)⟩
  · cases h
theorem meets_iswhole : Meets Try.prog 48 ansIsWhole := by
  refine meets_fn (orc_ok (l := QIsWhole.ans) ⟨meets_sign, trivial⟩) Try.f48 Try.func48 (by kernel_rfl) (fun args r h => ?_)
  unfold ansIsWhole at h
  split at h
  · rename_i s l t m
    simp only [Option.some.injEq, Prod.mk.injEq] at h
    obtain ⟨h1, rfl⟩ := h
    refine ⟨rfl, _, noTab_all, (QIsWhole.rest s l t m).trans ((bT h1).trans ?_)⟩
    rw [cmp0]
  · cases h
theorem meets_qsign : Meets Try.prog 39 ansQSign := by
  refine meets_fn (orc_ok (l := QSign.ans) ⟨meets_sign, trivial⟩) Try.f39 Try.func39 (by kernel_rfl) (fun args r h => ?_)
  unfold ansQSign at h
  split at h
  · rename_i s l t m
    simp only [Option.some.injEq, Prod.mk.injEq] at h
    obtain ⟨h1, rfl⟩ := h
    exact ⟨rfl, _, noTab_all, (QSign.rest s l t m).trans (bT h1)⟩
  · cases h
theorem floor_dq (q : Rat) : dq q.num q.den = q.floor := by
  have := den_pos' q
  unfold dq
  rw [if_neg (by omega), Rat.floor_def, Int.fdiv_eq_ediv_of_nonneg _ (by omega)]
theorem meets_floor : Meets Try.prog 32 ansFloor := by
  refine meets_fn (orc_ok (l := QFloor.ans) ⟨meets_qden, meets_div, trivial⟩) Try.f32 Try.func32 (by kernel_rfl) (fun args r h => ?_)
  unfold ansFloor at h
  split at h
  · rename_i s l t m
    simp only [Option.some.injEq, Prod.mk.injEq] at h
    obtain ⟨h1, rfl⟩ := h
    refine ⟨rfl, _, noTab_all, (QFloor.rest s l t m).trans ?_⟩
    obtain ⟨q, hq, rfl, rfl, rfl, rfl⟩ := isQ_iff.1 h1
    simp only [cn_zd hq, cn_nm hq, num_zd, dn_den, cn_den hq, num_lbW, N_eq, rq_Q, floor_dq, Bool.and_self, cond_true]
  · cases h
theorem ofQ_dq (a : Int) {b : Int} (hb : 0 < b) : dq a (gz a b) = (ofQ a b).num ∧ dq b (gz a b) = (ofQ a b).den := by
  have hp : 0 < Int.gcd a b := Nat.pos_of_ne_zero (fun h0 => by rw [Int.gcd_eq_zero_iff] at h0; omega)
  rw [ofQ_num hb, ofQ_den hb]
  unfold gz dq
  rw [if_neg (by omega), if_neg (by omega), Int.fdiv_eq_ediv_of_nonneg _ (by omega), Int.fdiv_eq_ediv_of_nonneg _ (by omega)]
  exact ⟨rfl, rfl⟩
theorem meets_of : Meets Try.prog 17 ansOf := by
  refine meets_fn (orc_ok (l := QOf.ans) ⟨meets_sign, meets_neg, meets_gcd, meets_over, meets_made, trivial⟩) Try.f17 Try.func17 (by kernel_rfl) (fun args r h => ?_)
  unfold ansOf at h
  split at h
  · rename_i s l t m
    simp only [Option.some.injEq, Prod.mk.injEq] at h
    obtain ⟨h1, rfl⟩ := h
    rw [Bool.and_eq_true] at h1
    refine ⟨rfl, _, noTab_all, (QOf.rest s l t m).trans ?_⟩
    obtain ⟨x, rfl, rfl, hx⟩ := (cn_iff W_two).1 h1.1
    obtain ⟨y, rfl, rfl, hy⟩ := (cn_iff W_two).1 h1.2
    have hg : ∀ a b : Int, b ≠ 0 → b.natAbs < Lim → (gz a b).natAbs < Lim := fun a b h0 hb => by
      refine Nat.lt_of_le_of_lt ?_ hb
      unfold gz
      rw [Int.natAbs_natCast]
      exact Nat.le_of_dvd (by omega) (Nat.gcd_dvd_right ..)
    have hq : ∀ a b : Int, a.natAbs < Lim → (dq a b).natAbs < Lim := fun a b ha => by
      by_cases h0 : b = 0
      · unfold dq; rw [if_pos h0]; exact Nat.lt_of_le_of_lt (by omega) ha
      · exact Nat.lt_of_le_of_lt (dq_le a h0) ha
    have hn : ∀ a : Int, a.natAbs < Lim → (-a).natAbs < Lim := fun a ha => by omega
    simp only [cnW, cnW_gz, numW_gz, num_lbW, N_eq, cmp0, decide_eq_true hx, decide_eq_true hy, decide_eq_true (hn x hx), decide_eq_true (hn y hy), Bool.and_self, cond_true]
    by_cases h0 : y = 0
    · subst h0; rw [ofQ_zero]; rfl
    · simp only [decide_eq_false h0, cond_false, decide_eq_true (hg _ _ h0 hy), decide_eq_true (hg (-x) (-y) (by omega) (hn y hy)), decide_eq_true (hq x _ hx), decide_eq_true (hq y _ hy), decide_eq_true (hq (-y) _ (hn y hy)), Bool.and_self, cond_true]
      have hdc : dc y = 0 := by unfold dc; rw [if_neg h0]
      by_cases h1 : y < 0
      · refine (bT (decide_eq_true ((cmpZ_lt y 0).2 h1))).trans ?_
        obtain ⟨e1, e2⟩ := ofQ_dq (-x) (b := -y) (by omega)
        rw [ofQ_neg] at e1 e2
        rw [e1, e2, hdc, sg_nn (zd_nn (Int.natCast_nonneg _))]
      · refine (bF (decide_eq_false (fun h => h1 ((cmpZ_lt y 0).1 h)))).trans ?_
        obtain ⟨e1, e2⟩ := ofQ_dq x (b := y) (by omega)
        rw [e1, e2, hdc, sg_nn (zd_nn (Int.natCast_nonneg _))]
  · cases h
theorem txtL_length {z : Int} (h : z.natAbs < Lim) : (txtL z).length ≤ 10002 := by
  have h1 := lb10_length h
  unfold lb at h1
  unfold txtL dig
  split
  · simp
  · rw [List.length_append, List.length_map, List.length_reverse]
    split <;> simp only [List.length_cons, List.length_nil] <;> omega
theorem txt_size {z : Int} (h : z.natAbs < Lim) : (txt z).size ≤ 10002 := by
  have := txtL_length h
  unfold txt strOf
  show (((txtL z).map _).toArray).size ≤ _
  rw [List.size_toArray, List.length_map]
  exact this
theorem meets_qtext : Meets Try.prog 27 ansQText := by
  refine meets_fn (orc_ok (l := QText.ans) ⟨meets_iswhole, meets_text, trivial⟩) Try.f27 Try.func27 (by kernel_rfl) (fun args r h => ?_)
  unfold ansQText at h
  split at h
  · rename_i s l t m
    simp only [Option.some.injEq, Prod.mk.injEq] at h
    obtain ⟨h1, rfl⟩ := h
    refine ⟨rfl, _, noTab_all, (QText.rest s l t m).trans ?_⟩
    obtain ⟨q, hq, rfl, rfl, rfl, rfl⟩ := isQ_iff.1 h1
    simp only [cn_zd hq, cn_nm hq, num_zd, num_lbW, rq_Q, cond_true, qtxt_eq]
    by_cases h0 : q.den = 1
    · rw [h0]; exact bT rfl
    · have hz : ¬ (zd q.den = 0) := fun h => h0 (by have := (zd_zero (den_pos' q)).1 h; omega)
      have hzd : zd q.den = q.den := by unfold zd; rw [show ((q.den : Int) == 1) = false from by rw [beq_eq_false_iff_ne]; omega, cond_false]
      have f1 := small_of_fits (fitsQ_iff.1 hq).1
      have f2 := small_of_fits (fitsQ_iff.1 hq).2
      have s1 := txt_size f1
      have s2 := txt_size f2
      refine (bF (decide_eq_false hz)).trans ((bT (decide_eq_true (by omega))).trans ?_)
      rw [hzd, decide_eq_false h0, cond_false, ByteArray.append_assoc]
      refine bT (decide_eq_true ?_)
      rw [ByteArray.size_append]
      show (txt q.num).size + 1 + _ ≤ _
      omega
  · cases h
end Go.Abs
end
