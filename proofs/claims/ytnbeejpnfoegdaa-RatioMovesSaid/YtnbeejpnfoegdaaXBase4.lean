/- What the rows of this seat rest on, part 4: an abstract machine for the model, proved sound, and the functions that the statements reach. No conditions. -/
import Derived.Test.YtnbeejpnfoegdaaXBase3
set_option linter.unusedVariables false
set_option linter.unusedSimpArgs false
set_option linter.unnecessarySimpa false
set_option linter.unusedSectionVars false
section
/- What the reference's functions of layer 1 answer: products. -/
namespace Go.Abs
open Go.Proofs Go.Dig
theorem mul_lt_ten {x y : Int} (hx : 0 ≤ x ∧ x < 10) (hy : 0 ≤ y ∧ y < 10) : 0 ≤ x * y ∧ x * y ≤ 81 := by
  refine ⟨Int.mul_nonneg hx.1 hy.1, ?_⟩
  have h1 : x * y ≤ 9 * 9 := Int.mul_le_mul (by omega) (by omega) hy.1 (by omega)
  omega
theorem TimesMag.step10 (P Q V S c d c' t y x w : Int) (h : V + P * c = S + Q * (x * w)) (k : t + x * y + c = d + 10 * c') (Pk : Int) (hP : P = Q * Pk) : V + P * (d - t) + P * 10 * c' = S + Q * (x * (w + Pk * y)) := by
  grind
namespace RMul
def InvI (b : List Int) (x : Int) (i : Nat) (L : List Int) (c : Int) (k : Nat) (l : List Int) : Prop :=
  k ≤ b.length ∧ l.length = L.length ∧ okB 10 l = true ∧ 0 ≤ c ∧ c < 10 ∧ val 10 l + 10 ^ (i + k) * c = val 10 L + 10 ^ i * (x * val 10 (b.take k)) ∧ ∀ j, i + b.length ≤ j → l.getD j 0 = 0
theorem inner (s t : Bool) (a b : List Int) (i : Nat) (L : List Int) (ha : okB 10 a = true) (hb : okB 10 b = true) (hla : a.length ≤ 100000) (hlb : b.length ≤ 100000) (hi : i < a.length) (hL : L.length = a.length + b.length + 1) (hoL : okB 10 L = true) (hz : ∀ j, i + b.length ≤ j → L.getD j 0 = 0) :
    ∃ e S1, Ends T orc L1 D1 (st1 s a t b i 0 0 L) e S1 ∧ (e = .exit 2 ∧ ∃ c x l, S1 = st1 s a t b i c x l ∧ InvI b (a.getD i 0) i L c b.length l) := by
  refine loop_inv3 (fun c (k : Nat) l => st1 s a t b i c k l) (fun c k l => InvI b (a.getD i 0) i L c k l) (fun c k l => b.length - k)
    (fun e S1 => e = .exit 2 ∧ ∃ c x l, S1 = st1 s a t b i c x l ∧ InvI b (a.getD i 0) i L c b.length l) isL1 ?_ 0 0 L ?_
  · intro c k l h
    obtain ⟨h1, h2, h3, h4, h5, h6, h7⟩ := id h
    refine ⟨noTab, noTab_all, ?_⟩
    have hx := getD_ok T_pos ha i
    have hy := getD_ok T_pos hb k
    have ht := getD_ok T_pos h3 (i + k)
    have hm := mul_lt_ten hx hy
    have e1 : IntKind.i64.wrap ((i : Int) + (k : Int)) = ((i + k : Nat) : Int) := by rw [w64 (by omega) (by omega)]; omega
    have e2 : IntKind.i64.wrap (a.getD i 0 * b.getD k 0) = a.getD i 0 * b.getD k 0 := w64 (by omega) (by omega)
    have e3 : IntKind.i64.wrap (IntKind.i64.wrap (c + a.getD i 0 * b.getD k 0) + l.getD (i + k) 0) = c + a.getD i 0 * b.getD k 0 + l.getD (i + k) 0 := by rw [w64 (n := c + a.getD i 0 * b.getD k 0) (by omega) (by omega), w64 (by omega) (by omega)]
    have m1 := tm10 (n := c + a.getD i 0 * b.getD k 0 + l.getD (i + k) 0) (by omega)
    have d1 := td10 (n := c + a.getD i 0 * b.getD k 0 + l.getD (i + k) 0) (by omega)
    have w1 : IntKind.i64.wrap ((c + a.getD i 0 * b.getD k 0 + l.getD (i + k) 0) / 10) = (c + a.getD i 0 * b.getD k 0 + l.getD (i + k) 0) / 10 := w64 (by omega) (by omega)
    rw [round1]
    simp only [lands_bif, lands_some, lands_none, Turns1, Turns2, Turns3, Turns4, Turns5, Turns6, Turns7, Turns8, eq_bif, Option.some.injEq, reduceCtorEq, cond_true, cond_false, Bool.eq_false_iff, ne_eq, inB_iff, decide_eq_true_eq, Bool.and_eq_true, Bool.or_eq_true, Bool.not_eq_true', beq_iff_eq, bne_iff_ne, true_and, and_true, true_implies, implies_true, not_true_eq_false, not_false_eq_true, false_implies, few_iff, wi_succ (show k < 4611686018427387904 by omega), e1]
    simp only [rd_toNat, Int.toNat_natCast, e2, e3, m1, d1, w1]
    repeat' (first | apply And.intro | intro _)
    all_goals try omega
    · generalize hp : a.getD i 0 * b.getD k 0 = p at hm
      refine ⟨_, k + 1, _, rfl, ⟨by omega, by rw [List.length_set]; exact h2, okB_set h3 (by omega), by omega, by omega, ?_, fun j hj => ?_⟩, by omega⟩
      · rw [val_set _ _ _ _ (by omega), val_take_succ, show i + (k + 1) = (i + k) + 1 by omega, Int.pow_succ]
        refine TimesMag.step10 (10 ^ (i + k)) (10 ^ i) (val 10 l) (val 10 L) c _ _ (l.getD (i + k) 0) (b.getD k 0) (a.getD i 0) _ h6 ?_ (10 ^ k) (Int.pow_add ..)
        rw [hp]
        omega
      · rw [getD_set_ne (by omega)]
        exact h7 j hj
    · obtain rfl : k = b.length := by omega
      exact ⟨_, _, _, rfl, h⟩
  · refine ⟨by omega, rfl, hoL, by omega, by omega, ?_, hz⟩
    simp [val]
def InvC (i : Nat) (L : List Int) (c0 : Int) (c : Int) (k : Nat) (l : List Int) : Prop :=
  l.length = L.length ∧ okB 10 l = true ∧ 0 ≤ c ∧ c < 10 ∧ val 10 l + 10 ^ k * c = val 10 L + 10 ^ i * c0 ∧ (∀ j, i + 1 ≤ j → l.getD j 0 = 0) ∧ (c = 0 ∨ (k = i ∧ l.getD i 0 = 0))
theorem carry (s t : Bool) (a b : List Int) (i : Nat) (y : Int) (k0 : Nat) (L : List Int) (c0 : Int) (hL : k0 < L.length) (hl : L.length ≤ 400000) (hoL : okB 10 L = true) (hc : 0 ≤ c0 ∧ c0 < 10) (hz : ∀ j, k0 ≤ j → L.getD j 0 = 0) :
    ∃ e S1, Ends T orc L2 D2 (st2 s a t b i c0 y k0 L) e S1 ∧ (e = .exit 4 ∧ ∃ x z l, S1 = st2 s a t b i x y z l ∧ l.length = L.length ∧ okB 10 l = true ∧ val 10 l = val 10 L + 10 ^ k0 * c0 ∧ ∀ j, k0 + 1 ≤ j → l.getD j 0 = 0) := by
  refine loop_inv3 (fun c (k : Nat) l => st2 s a t b i c y k l) (fun c k l => InvC k0 L c0 c k l) (fun c k l => c.toNat)
    (fun e S1 => e = .exit 4 ∧ ∃ x z l, S1 = st2 s a t b i x y z l ∧ l.length = L.length ∧ okB 10 l = true ∧ val 10 l = val 10 L + 10 ^ k0 * c0 ∧ ∀ j, k0 + 1 ≤ j → l.getD j 0 = 0) isL2 ?_ c0 k0 L ?_
  · intro c k l h
    obtain ⟨h1, h2, h3, h4, h5, h6, h7⟩ := id h
    by_cases hc0 : c = 0
    · subst hc0
      refine ⟨noTab, noTab_all, lands_of (round2 ..) ?_⟩
      rw [Int.mul_zero, Int.add_zero] at h5
      exact lands_some.2 ⟨rfl, _, _, _, rfl, h1, h2, h5, h6⟩
    · obtain ⟨rfl, h8⟩ : k = k0 ∧ l.getD k0 0 = 0 := by rcases h7 with h7 | h7; exact absurd h7 hc0; exact h7
      refine ⟨noTab, noTab_all, ?_⟩
      rw [round2]
      have e1 : IntKind.i64.wrap c = c := w64 (by omega) (by omega)
      have m1 := tm10 h3
      have d1 := td10 h3
      have w1 : IntKind.i64.wrap (c / 10) = 0 := by rw [show c / 10 = 0 by omega]; rfl
      have m2 : c % 10 = c := by omega
      simp only [lands_bif, lands_some, lands_none, Turns1, Turns2, Turns3, Turns4, Turns5, Turns6, Turns7, Turns8, eq_bif, Option.some.injEq, reduceCtorEq, cond_true, cond_false, Bool.eq_false_iff, ne_eq, inB_iff, decide_eq_true_eq, Bool.and_eq_true, Bool.or_eq_true, Bool.not_eq_true', beq_iff_eq, bne_iff_ne, true_and, and_true, true_implies, implies_true, not_true_eq_false, not_false_eq_true, false_implies, few_iff, wi_succ (show k < 4611686018427387904 by omega)]
      simp only [rd_toNat, Int.toNat_natCast, h8, Int.add_zero, e1, m1, d1, w1, m2]
      repeat' (first | apply And.intro | intro _)
      all_goals try omega
      refine ⟨0, k + 1, _, rfl, ⟨by rw [List.length_set]; exact h1, okB_set h2 (by omega), by omega, by omega, ?_, fun j hj => ?_, .inl rfl⟩, by omega⟩
      · rw [val_set _ _ _ _ (by omega), h8, Int.sub_zero]; omega
      · rw [getD_set_ne (by omega)]; exact h6 j hj
  · exact ⟨rfl, hoL, hc.1, hc.2, rfl, fun j hj => hz j (by omega), .inr ⟨rfl, hz k0 (by omega)⟩⟩
def InvO (a b : List Int) (i : Nat) (l : List Int) : Prop :=
  i ≤ a.length ∧ l.length = a.length + b.length + 1 ∧ okB 10 l = true ∧ val 10 l = val 10 (a.take i) * val 10 b ∧ ∀ j, i + b.length ≤ j → l.getD j 0 = 0
theorem outer (s t : Bool) (a b : List Int) (ha : okB 10 a = true) (hb : okB 10 b = true) (hla : a.length ≤ 100000) (hlb : b.length ≤ 100000) :
    ∃ e S1, Ends T orc L0 D0 (st0 s a t b 0 (zeros (a.length + b.length + 1))) e S1 ∧ (e = .exit 0 ∧ ∃ x l, S1 = st0 s a t b x l ∧ InvO a b a.length l) := by
  refine loop_inv2 (fun (i : Nat) l => st0 s a t b i l) (fun i l => InvO a b i l) (fun i l => a.length - i)
    (fun e S1 => e = .exit 0 ∧ ∃ x l, S1 = st0 s a t b x l ∧ InvO a b a.length l) isL0 ?_ 0 (zeros (a.length + b.length + 1)) ?_
  · intro i l h
    obtain ⟨h1, h2, h3, h4, h5⟩ := id h
    by_cases hi : i < a.length
    · obtain ⟨e1, S1, hE1, rfl, c, x, l4, rfl, k1, k2, k3, k4, k5, k6, k7⟩ := inner s t a b i l ha hb hla hlb hi h2 h3 h5
      obtain ⟨e2, S2, hE2, rfl, x2, z2, l5, rfl, q1, q2, q3, q4⟩ := carry s t a b i x (i + b.length) l4 c (by omega) (by omega) k3 ⟨k4, k5⟩ k7
      refine ⟨_, tabOf_all _, lands_of (round0 s a t b i l l5 c x l4 x2 z2) ?_⟩
      have e1 : IntKind.i64.wrap ((i : Int) + (b.length : Int)) = ((i + b.length : Nat) : Int) := by rw [w64 (by omega) (by omega)]; omega
      rw [e1, cdec_true hE1, cdec_true hE2, decide_eq_true (show (i : Int) < (a.length : Int) by omega), wi_succ (show i < 4611686018427387904 by omega)]
      refine lands_some.2 ⟨i + 1, _, rfl, ⟨by omega, by omega, q2, ?_, fun j hj => q4 j (by omega)⟩, by show a.length - (i + 1) < a.length - i; omega⟩
      rw [q3, k6, h4, val_take_succ, List.take_of_length_le (Nat.le_refl _), Int.add_mul, Int.mul_assoc]
    · obtain rfl : i = a.length := by omega
      refine ⟨_, tabOf_all _, lands_of (round0 s a t b a.length l l 0 0 l 0 0) ?_⟩
      rw [decide_eq_false (show ¬ (a.length : Int) < (a.length : Int) by omega)]
      exact lands_some.2 ⟨rfl, _, _, rfl, h⟩
  · refine ⟨by omega, by simp, okB_zeros T_pos _, by rw [val_zeros]; simp [val], fun j _ => getD_zeros _ _⟩
end RMul
theorem meets_rmul : Meets Try.prog 76 anrMul := by
  refine meets_fn (orc_ok (l := RMul.ans) ⟨meets_rtrim, trivial⟩) Try.f76 rfl (by kernel_rfl) (fun args r h => ?_)
  unfold anrMul at h
  split at h
  · rename_i s l t m
    simp only [Option.some.injEq, Prod.mk.injEq, Bool.and_eq_true] at h
    obtain ⟨⟨h1, h2⟩, rfl⟩ := h
    obtain ⟨x, hs, hl, hx⟩ := (cn_iff T_two).1 h1
    obtain ⟨y, ht, hm, hy⟩ := (cn_iff T_two).1 h2
    have nx : num 10 s l = x := by rw [hs, hl]; exact num_lb10 x
    have ny : num 10 t m = y := by rw [ht, hm]; exact num_lb10 y
    have vx : val 10 l = az x := by rw [hl]; exact val_lb10 x
    have vy : val 10 m = az y := by rw [hm]; exact val_lb10 y
    have ol : okB 10 l = true := by rw [hl]; exact ok10_lb x
    have om : okB 10 m = true := by rw [hm]; exact ok10_lb y
    have ll : l.length ≤ 10000 := by rw [hl]; exact lb10_length hx
    have lm : m.length ≤ 10000 := by rw [hm]; exact lb10_length hy
    obtain ⟨e1, S1, hE1, rfl, x1, l1, rfl, k1, k2, k3, k4, k5⟩ := RMul.outer s t l m ol om (by omega) (by omega)
    refine ⟨rfl, _, tabOf_all _, (RMul.rest s l t m l1 x1).trans ?_⟩
    have ew : IntKind.i64.wrap (IntKind.i64.wrap ((l.length : Int) + (m.length : Int)) + 1) = ((l.length + m.length + 1 : Nat) : Int) := by
      rw [w64 (n := (l.length : Int) + (m.length : Int)) (by omega) (by omega), w64 (by omega) (by omega)]; omega
    rw [ew, Int.toNat_natCast]
    refine (bT ?_).trans ((bT (cdec_true hE1)).trans ((bT ?_).trans ?_))
    · rw [Bool.and_eq_true, Bool.and_eq_true, decide_eq_true_eq, decide_eq_true_eq, decide_eq_true_eq]; omega
    · rw [k3, few_iff.2 (show l1.length ≤ 100000 by omega)]; rfl
    · rw [List.take_of_length_le (Nat.le_refl _), vx, vy] at k4
      rw [nx, ny, num_of k4]
      rcases sg_cases x with ⟨a1, a2, a3⟩ | ⟨a1, a2, a3⟩ <;> rcases sg_cases y with ⟨b1, b2, b3⟩ | ⟨b1, b2, b3⟩ <;> rw [hs, ht, a1, b1, a3, b3] <;> simp [Int.neg_mul, Int.mul_neg]
  · cases h
end Go.Abs
end
section
/- What the reference's functions of layer 1 answer: division of amounts. -/
namespace Go.Abs
open Go.Proofs Go.Dig
theorem set_zero {L : List Int} {i : Nat} (h : L.getD i 0 = 0) : L.set i ((0 : Nat) : Int) = L := by
  refine List.ext_getElem? (fun j => ?_)
  by_cases hj : i = j
  · subst hj
    by_cases hl : i < L.length
    · rw [List.getElem?_set_self hl]
      rw [getD_at hl] at h
      rw [List.getElem?_eq_getElem hl, h]; rfl
    · rw [List.getElem?_eq_none (by rw [List.length_set]; omega), List.getElem?_eq_none (by omega)]
  · rw [List.getElem?_set_ne hj]
theorem limbs_zero : limbs 10 0 = [] := rfl
theorem cl_limbs {V : Int} {n : Nat} (h0 : 0 ≤ V) (hn : V < 10 ^ n) (h : n ≤ 100000) : cl 10 (limbs 10 V) = true := by
  rw [cl_iff, limbs_val T_two h0]
  exact ⟨Nat.le_trans (limbs_length T_two h0 hn) h, rfl, h0⟩
theorem ends_peel {T : Tbl} {orc : Orc} {L : Code} {D : List Nat} {tab : Tab} {S S' S1 : St} {e : Ex} (hL : ∃ a, L = .loop a) (ht : ∀ C, TabOk T orc tab C) (h : goL T orc tab D L S = some (.normal, S')) (hn : Ends T orc L D S' e S1) : Ends T orc L D S e S1 := by
  obtain ⟨a, rfl⟩ := hL
  exact ends_next (ht _) h hn
theorem ends_leave {T : Tbl} {orc : Orc} {L : Code} {D : List Nat} {tab : Tab} {S S' : St} {i : Nat} (hL : ∃ a, L = .loop a) (ht : ∀ C, TabOk T orc tab C) (h : goL T orc tab D L S = some (.exit i, S')) : Ends T orc L D S (.exit i) S' := by
  obtain ⟨a, rfl⟩ := hL
  exact ends_exit (ht _) h
namespace RSplit
theorem innerA (a b : List Int) (i : Nat) (hi : i < a.length) (l8 : List Int) (L : List Int) (hb : cl 10 b = true) (hB : 0 < val 10 b) (R : Int) (h0 : 0 ≤ R) (hR : R < 10 * val 10 b) (hn : R < 10 ^ a.length) (ha : a.length ≤ 50000) (hL : L.length = a.length) (hz : L.getD i 0 = 0) :
    ∃ e S1, Ends T orc L1 D1 (st1 a b (limbs 10 R) i l8 L) e S1 ∧ (e = .exit 2 ∧ S1 = st1 a b (limbs 10 (R % val 10 b)) i l8 (L.set i (R / val 10 b))) := by
  have hLs : L.set i ((0 : Nat) : Int) = L := set_zero hz
  have g0 : st1 a b (limbs 10 R) i l8 L = st1 a b (limbs 10 (R - ((0 : Nat) : Int) * val 10 b)) i l8 (L.set i ((0 : Nat) : Int)) := by rw [hLs]; simp
  rw [g0]
  refine loop_inv1 (fun (k : Nat) => st1 a b (limbs 10 (R - k * val 10 b)) i l8 (L.set i k)) (fun k => (k : Int) * val 10 b ≤ R) (fun k => 10 - k)
    (fun e S1 => e = .exit 2 ∧ S1 = st1 a b (limbs 10 (R % val 10 b)) i l8 (L.set i (R / val 10 b))) isL1 ?_ 0 ?_
  · intro k hk
    refine ⟨noTab, noTab_all, lands_of (round1 ..) ?_⟩
    have hk9 : k ≤ 9 := by
      refine Nat.le_of_lt_succ (Nat.lt_of_not_le (fun h => ?_))
      have : (10 : Int) * val 10 b ≤ k * val 10 b := Int.mul_le_mul_of_nonneg_right (by omega) (by omega)
      omega
    obtain ⟨V, hV⟩ : ∃ V, V = R - k * val 10 b := ⟨_, rfl⟩
    have hkB : 0 ≤ (k : Int) * val 10 b := Int.mul_nonneg (by omega) (by omega)
    have cV := cl_limbs (V := V) (n := a.length) (by omega) (by omega) (by omega)
    have vV : val 10 (limbs 10 V) = V := limbs_val T_two (by omega)
    have lV : (limbs 10 V).length ≤ a.length := limbs_length T_two (by omega) (by omega)
    have ob := cl_ok T_two hb
    have oV := cl_ok T_two cV
    rw [← hV]
    refine lands_bif.2 ⟨fun _ => ?_, fun h => by rw [cV, hb] at h; cases h⟩
    refine lands_bif.2 ⟨fun h => ?_, fun h => ?_⟩
    · have hle : val 10 b ≤ V := by
        rw [decide_eq_true_eq, vV] at h
        unfold cmpZ at h
        split at h <;> omega
      have hln : b.length ≤ (limbs 10 V).length := by
        refine Nat.le_of_not_lt (fun hlt => ?_)
        have := val_lt_of_length T_two oV ob (cl_last hb) hlt
        omega
      have lv := lessD_val oV ob (by rw [vV]; exact hle)
      rw [vV] at lv
      have ll := lessD_len (limbs 10 V) b
      refine lands_bif.2 ⟨fun _ => ?_, fun h => ?_⟩
      · refine lands_bif.2 ⟨fun _ => ?_, fun h => ?_⟩
        · refine lands_bif.2 ⟨fun _ => ?_, fun h => ?_⟩
          · refine lands_bif.2 ⟨fun _ => lands_some.2 ⟨k + 1, ?_, ?_, ?_⟩, fun h => ?_⟩
            · have e1 : lb 10 (num 10 false (lessD (limbs 10 V) b)) = limbs 10 (R - ((k + 1 : Nat) : Int) * val 10 b) := by
                unfold lb
                rw [show num 10 false (lessD (limbs 10 V) b) = V - val 10 b from lv]
                congr 1
                rw [Int.natCast_add, Int.add_mul, Int.natCast_one, Int.one_mul]; omega
              have e2 : (L.set i (k : Int)).set (Int.toNat (i : Int)) (IntKind.i64.wrap (rd (L.set i (k : Int)) (i : Int) + 1)) = L.set i ((k + 1 : Nat) : Int) := by
                rw [rd_toNat, Int.toNat_natCast, getD_set_self (by omega), List.set_set, wi_succ (by omega)]
              rw [e1, e2]
            · show ((k + 1 : Nat) : Int) * val 10 b ≤ R
              rw [Int.natCast_add, Int.add_mul, Int.natCast_one, Int.one_mul]; omega
            · show 10 - (k + 1) < 10 - k
              omega
            · rw [inB_iff.2 (by rw [List.length_set]; omega)] at h; cases h
          · rw [inB_iff.2 (by rw [List.length_set]; omega)] at h; cases h
        · rw [lessD_ok, few_iff.2 (show (lessD (limbs 10 V) b).length ≤ 100000 by omega)] at h; cases h
      · rw [(cl_iff (B := 10)).1 hb |>.1 |> few_iff.2, few_iff.2 (show (limbs 10 V).length ≤ 100000 by omega), ob, oV, decide_eq_true hln, vV, decide_eq_true hle] at h; cases h
    · have hlt : V < val 10 b := by
        rw [decide_eq_false_iff_not, vV] at h
        unfold cmpZ at h
        split at h
        · assumption
        · split at h <;> omega
      have hq : R / val 10 b = k := by
        rw [Int.ediv_eq_iff_of_pos hB]
        have : ((k : Int) + 1) * val 10 b = k * val 10 b + val 10 b := by rw [Int.add_mul, Int.one_mul]
        omega
      have hm : R % val 10 b = V := by
        rw [Int.emod_def, hq, Int.mul_comm]; omega
      rw [hq, hm]
      exact lands_some.2 ⟨rfl, rfl⟩
  · show ((0 : Nat) : Int) * val 10 b ≤ R
    simp [h0]
theorem innerB (a b : List Int) (i : Nat) (hi : a.length = i + 1)  (L : List Int) (hb : cl 10 b = true) (hB : 0 < val 10 b) (R : Int) (h0 : 0 ≤ R) (hR : R < 10 * val 10 b) (hn : R < 10 ^ a.length) (ha : a.length ≤ 50000) (hL : L.length = a.length) (hz : L.getD i 0 = 0) :
    ∃ e S1, Ends T orc L1a D1a (st1a a b (limbs 10 R) L) e S1 ∧ (e = .exit 2 ∧ S1 = st1a a b (limbs 10 (R % val 10 b)) (L.set i (R / val 10 b))) := by
  have hLs : L.set i ((0 : Nat) : Int) = L := set_zero hz
  have g0 : st1a a b (limbs 10 R) L = st1a a b (limbs 10 (R - ((0 : Nat) : Int) * val 10 b)) (L.set i ((0 : Nat) : Int)) := by rw [hLs]; simp
  rw [g0]
  refine loop_inv1 (fun (k : Nat) => st1a a b (limbs 10 (R - k * val 10 b)) (L.set i k)) (fun k => (k : Int) * val 10 b ≤ R) (fun k => 10 - k)
    (fun e S1 => e = .exit 2 ∧ S1 = st1a a b (limbs 10 (R % val 10 b)) (L.set i (R / val 10 b))) isL1a ?_ 0 ?_
  · intro k hk
    refine ⟨noTab, noTab_all, lands_of (round1a ..) ?_⟩
    have hk9 : k ≤ 9 := by
      refine Nat.le_of_lt_succ (Nat.lt_of_not_le (fun h => ?_))
      have : (10 : Int) * val 10 b ≤ k * val 10 b := Int.mul_le_mul_of_nonneg_right (by omega) (by omega)
      omega
    obtain ⟨V, hV⟩ : ∃ V, V = R - k * val 10 b := ⟨_, rfl⟩
    have hkB : 0 ≤ (k : Int) * val 10 b := Int.mul_nonneg (by omega) (by omega)
    have cV := cl_limbs (V := V) (n := a.length) (by omega) (by omega) (by omega)
    have vV : val 10 (limbs 10 V) = V := limbs_val T_two (by omega)
    have lV : (limbs 10 V).length ≤ a.length := limbs_length T_two (by omega) (by omega)
    have ob := cl_ok T_two hb
    have oV := cl_ok T_two cV
    rw [← hV]
    have ew : IntKind.i64.wrap ((a.length : Int) - 1) = (i : Int) := by rw [w64 (by omega) (by omega)]; omega
    rw [ew]
    refine lands_bif.2 ⟨fun _ => ?_, fun h => by rw [cV, hb] at h; cases h⟩
    refine lands_bif.2 ⟨fun h => ?_, fun h => ?_⟩
    · have hle : val 10 b ≤ V := by
        rw [decide_eq_true_eq, vV] at h
        unfold cmpZ at h
        split at h <;> omega
      have hln : b.length ≤ (limbs 10 V).length := by
        refine Nat.le_of_not_lt (fun hlt => ?_)
        have := val_lt_of_length T_two oV ob (cl_last hb) hlt
        omega
      have lv := lessD_val oV ob (by rw [vV]; exact hle)
      rw [vV] at lv
      have ll := lessD_len (limbs 10 V) b
      refine lands_bif.2 ⟨fun _ => ?_, fun h => ?_⟩
      · refine lands_bif.2 ⟨fun _ => ?_, fun h => ?_⟩
        · refine lands_bif.2 ⟨fun _ => ?_, fun h => ?_⟩
          · refine lands_bif.2 ⟨fun _ => lands_some.2 ⟨k + 1, ?_, ?_, ?_⟩, fun h => ?_⟩
            · have e1 : lb 10 (num 10 false (lessD (limbs 10 V) b)) = limbs 10 (R - ((k + 1 : Nat) : Int) * val 10 b) := by
                unfold lb
                rw [show num 10 false (lessD (limbs 10 V) b) = V - val 10 b from lv]
                congr 1
                rw [Int.natCast_add, Int.add_mul, Int.natCast_one, Int.one_mul]; omega
              have e2 : (L.set i (k : Int)).set (Int.toNat (i : Int)) (IntKind.i64.wrap (rd (L.set i (k : Int)) (i : Int) + 1)) = L.set i ((k + 1 : Nat) : Int) := by
                rw [rd_toNat, Int.toNat_natCast, getD_set_self (by omega), List.set_set, wi_succ (by omega)]
              rw [e1, e2]
            · show ((k + 1 : Nat) : Int) * val 10 b ≤ R
              rw [Int.natCast_add, Int.add_mul, Int.natCast_one, Int.one_mul]; omega
            · show 10 - (k + 1) < 10 - k
              omega
            · rw [inB_iff.2 (by rw [List.length_set]; omega)] at h; cases h
          · rw [inB_iff.2 (by rw [List.length_set]; omega)] at h; cases h
        · rw [lessD_ok, few_iff.2 (show (lessD (limbs 10 V) b).length ≤ 100000 by omega)] at h; cases h
      · rw [(cl_iff (B := 10)).1 hb |>.1 |> few_iff.2, few_iff.2 (show (limbs 10 V).length ≤ 100000 by omega), ob, oV, decide_eq_true hln, vV, decide_eq_true hle] at h; cases h
    · have hlt : V < val 10 b := by
        rw [decide_eq_false_iff_not, vV] at h
        unfold cmpZ at h
        split at h
        · assumption
        · split at h <;> omega
      have hq : R / val 10 b = k := by
        rw [Int.ediv_eq_iff_of_pos hB]
        have : ((k : Int) + 1) * val 10 b = k * val 10 b + val 10 b := by rw [Int.add_mul, Int.one_mul]
        omega
      have hm : R % val 10 b = V := by
        rw [Int.emod_def, hq, Int.mul_comm]; omega
      rw [hq, hm]
      exact lands_some.2 ⟨rfl, rfl⟩
  · show ((0 : Nat) : Int) * val 10 b ≤ R
    simp [h0]

theorem drop_val (a : List Int) {i : Nat} (h : i < a.length) : val 10 (a.drop i) = a.getD i 0 + 10 * val 10 (a.drop (i + 1)) := by
  rw [List.drop_eq_getElem_cons h, getD_at h]
  rfl
theorem okB_drop {l : List Int} (h : okB 10 l = true) (n : Nat) : okB 10 (l.drop n) = true := okB_iff.2 fun d hd => okB_iff.1 h d (List.mem_of_mem_drop hd)
/-- One digit more. -/
theorem div_step {A d B : Int} (hB : 0 < B) (h0 : 0 ≤ A) (hd : 0 ≤ d ∧ d < 10) : 0 ≤ 10 * (A % B) + d ∧ 10 * (A % B) + d < 10 * B ∧ (d + 10 * A) / B = 10 * (A / B) + (10 * (A % B) + d) / B ∧ (d + 10 * A) % B = (10 * (A % B) + d) % B := by
  have h1 := Int.emod_nonneg A (show B ≠ 0 by omega)
  have h2 := Int.emod_lt_of_pos A hB
  have h3 := Int.mul_ediv_add_emod A B
  have e : d + 10 * A = 10 * (A % B) + d + B * (10 * (A / B)) := by
    have : B * (10 * (A / B)) = 10 * (B * (A / B)) := by rw [← Int.mul_assoc, Int.mul_comm B 10, Int.mul_assoc]
    omega
  refine ⟨by omega, by omega, ?_, ?_⟩
  · rw [e, Int.add_mul_ediv_left _ _ (by omega)]; omega
  · rw [e, Int.add_mul_emod_self_left]
theorem dig_lt {R B : Int} (hB : 0 < B) (h0 : 0 ≤ R) (hR : R < 10 * B) : 0 ≤ R / B ∧ R / B < 10 := by
  refine ⟨Int.ediv_nonneg h0 (by omega), ?_⟩
  exact Int.ediv_lt_of_lt_mul hB hR
def Inv (a b : List Int) (i : Nat) (l8 l9 : List Int) : Prop :=
  i ≤ a.length ∧ l8 = limbs 10 (val 10 (a.drop i) % val 10 b) ∧ l9.length = a.length ∧ okB 10 l9 = true ∧ val 10 l9 = 10 ^ i * (val 10 (a.drop i) / val 10 b) ∧ ∀ j, j < i → l9.getD j 0 = 0
theorem Inv.next {a b : List Int} {i : Nat} {l8 l9 : List Int} (oa : okB 10 a = true) (hB : 0 < val 10 b) (h : Inv a b (i + 1) l8 l9) {R : Int} (hR : R = 10 * (val 10 (a.drop (i + 1)) % val 10 b) + a.getD i 0) : Inv a b i (limbs 10 (R % val 10 b)) (l9.set i (R / val 10 b)) := by
  obtain ⟨h1, h2, h3, h4, h5, h6⟩ := h
  have hd := getD_ok T_pos oa i
  have hA := val_nonneg T_pos (okB_drop oa (i + 1))
  obtain ⟨k1, k2, k3, k4⟩ := div_step hB hA hd
  rw [← hR] at k1 k2 k3 k4
  refine ⟨by omega, by rw [drop_val a (i := i) (by omega), k4], by rw [List.length_set]; exact h3, okB_set h4 (dig_lt hB k1 k2), ?_, fun j hj => by rw [getD_set_ne (by omega)]; exact h6 j (by omega)⟩
  rw [val_set _ _ _ _ (by omega), h6 i (by omega), h5, drop_val a (i := i) (by omega), k3, Int.pow_succ]
  grind
theorem Inv.fin {a b l8 l9 : List Int} (oa : okB 10 a = true) (hB : 0 < val 10 b) (h : Inv a b 0 l8 l9) : l8 = limbs 10 (val 10 a % val 10 b) ∧ l9 = splitD a b := by
  obtain ⟨h1, h2, h3, h4, h5, h6⟩ := h
  rw [List.drop_zero] at h2 h5
  refine ⟨h2, dig_eq T_pos h4 h3 ?_⟩
  rw [h5]
  simp
theorem small_R {a b : List Int} (oa : okB 10 a = true) (hB : 0 < val 10 b) {i : Nat} (hi : i < a.length) : 10 * (val 10 (a.drop (i + 1)) % val 10 b) + a.getD i 0 < 10 ^ a.length := by
  have hd := getD_ok T_pos oa i
  have hA := val_nonneg T_pos (okB_drop oa (i + 1))
  have h1 : val 10 (a.drop (i + 1)) % val 10 b ≤ val 10 (a.drop (i + 1)) := by
    have h3 := Int.mul_ediv_add_emod (val 10 (a.drop (i + 1))) (val 10 b)
    have h4 : 0 ≤ val 10 b * (val 10 (a.drop (i + 1)) / val 10 b) := Int.mul_nonneg (by omega) (Int.ediv_nonneg hA (by omega))
    omega
  have h2 := val_lt T_pos (okB_drop oa i)
  rw [drop_val a hi] at h2
  rw [List.length_drop] at h2
  have h3 := pow_mono (B := 10) (by decide) (show a.length - i ≤ a.length by omega)
  omega
theorem outer (a b : List Int) (oa : okB 10 a = true) (hb : cl 10 b = true) (hB : 0 < val 10 b) (ha : a.length ≤ 50000) (n : Nat) (l8 l9 : List Int) (hI : Inv a b n l8 l9) :
    ∃ e S1, Ends T orc L0 D0 (st0 a b l8 ((n : Int) - 1) l9) e S1 ∧ (e = .exit 0 ∧ ∃ x l m, S1 = st0 a b l x m ∧ Inv a b 0 l m) := by
  refine loop_inv3 (fun (i : Nat) l8 l9 => st0 a b l8 ((i : Int) - 1) l9) (fun i l8 l9 => Inv a b i l8 l9) (fun i _ _ => i)
    (fun e S1 => e = .exit 0 ∧ ∃ x l m, S1 = st0 a b l x m ∧ Inv a b 0 l m) isL0 ?_ n l8 l9 hI
  intro i l8 l9 h
  obtain ⟨h1, h2, h3, h4, h5, h6⟩ := id h
  cases i with
  | zero =>
    refine ⟨_, tabOf_all _, lands_of (round0 a b l8 ((0 : Nat) - 1 : Int) l9 l8 l9) ?_⟩
    rw [decide_eq_false (by omega)]
    exact lands_some.2 ⟨rfl, _, _, _, rfl, h⟩
  | succ i =>
    have hd := getD_ok T_pos oa i
    have hA := val_nonneg T_pos (okB_drop oa (i + 1))
    obtain ⟨k1, k2, k3, k4⟩ := div_step hB hA hd
    have hs := small_R oa hB (show i < a.length by omega)
    obtain ⟨R, hR⟩ : ∃ R, R = 10 * (val 10 (a.drop (i + 1)) % val 10 b) + a.getD i 0 := ⟨_, rfl⟩
    rw [← hR] at k1 k2 hs
    have hm0 := Int.emod_nonneg (val 10 (a.drop (i + 1))) (show val 10 b ≠ 0 by omega)
    have o8 : okB 10 l8 = true := by rw [h2]; exact limbs_ok T_pos _
    have v8 : val 10 l8 = val 10 (a.drop (i + 1)) % val 10 b := by rw [h2]; exact limbs_val T_two hm0
    have n8 : l8.length ≤ 50000 := by
      rw [h2]
      exact Nat.le_trans (limbs_length T_two (n := a.length) hm0 (by omega)) ha
    obtain ⟨e1, S1, hE1, rfl, rfl⟩ := innerA a b i (by omega) l8 l9 hb hB R k1 k2 hs ha h3 (h6 i (by omega))
    have ei : (((i + 1 : Nat) : Int) - 1) = (i : Int) := by omega
    refine ⟨_, tabOf_all _, lands_of (round0 a b l8 _ l9 (limbs 10 (R % val 10 b)) (l9.set i (R / val 10 b))) ?_⟩
    rw [ei]
    have el : lb 10 (num 10 false (rd a (i : Int) :: l8)) = limbs 10 R := by
      unfold lb
      congr 1
      rw [rd_toNat, Int.toNat_natCast, show num 10 false (a.getD i 0 :: l8) = a.getD i 0 + 10 * val 10 l8 from rfl, v8]
      omega
    rw [el, cdec_true hE1]
    refine lands_bif.2 ⟨fun _ => ?_, fun h => by rw [decide_eq_true (show (i : Int) ≥ 0 by omega)] at h; cases h⟩
    refine lands_bif.2 ⟨fun _ => ?_, fun h => by rw [inB_iff.2 (by omega)] at h; cases h⟩
    refine lands_bif.2 ⟨fun _ => ?_, fun h => by rw [Bool.true_and, decide_eq_false_iff_not, List.length_cons] at h; omega⟩
    refine lands_bif.2 ⟨fun _ => ?_, fun h => by rw [few_iff.2 (show (rd a (i : Int) :: l8).length ≤ 100000 by rw [List.length_cons]; omega), okB_cons.2 ⟨by rw [rd_toNat, Int.toNat_natCast]; exact hd, o8⟩] at h; cases h⟩
    refine lands_some.2 ⟨i, _, _, ?_, h.next oa hB hR, by show i < i + 1; omega⟩
    rw [w64 (by omega) (by omega)]
end RSplit
theorem meets_rsplit : Meets Try.prog 94 anrSplit := by
  refine meets_fn (orc_ok (l := RSplit.ans) ⟨meets_rtrim, meets_rcmpMag, meets_rless, trivial⟩) Try.f94 rfl (by kernel_rfl) (fun args r h => ?_)
  unfold anrSplit at h
  split at h
  · rename_i a b
    simp only [Option.some.injEq, Prod.mk.injEq, Bool.and_eq_true, decide_eq_true_eq] at h
    obtain ⟨⟨⟨⟨ha, hb⟩, hB⟩, hl⟩, rfl⟩ := h
    have oa := cl_ok T_two ha
    have c1 : (true && decide ((a.length : Int) ≤ (a.length : Int)) && decide ((a.length : Int).toNat * 8 ≤ 281474976710656)) = true := by
      rw [Bool.true_and, Bool.and_eq_true, decide_eq_true_eq, decide_eq_true_eq]; omega
    refine ⟨rfl, ?_⟩
    cases hn : a.length with
    | zero =>
      have ha0 : a = [] := List.eq_nil_of_length_eq_zero hn
      subst ha0
      have hE : Ends T RSplit.orc RSplit.L0 RSplit.D0 (RSplit.st0e [] b) (.exit 0) (RSplit.st0e [] b) :=
        ends_leave RSplit.isL0 (tabOf_all _) (RSplit.round0e [] b [] [])
      refine ⟨_, tabOf_all _, (RSplit.rest_1 [] b).trans ?_⟩
      refine (bT c1).trans ((bT (cdec_true hE)).trans ?_)
      unfold splitD
      simp [val, limbs_zero, digN]
    | succ n =>
      have hd := getD_ok T_pos oa n
      have hs := RSplit.small_R oa hB (show n < a.length by omega)
      have hdr : a.drop (n + 1) = [] := List.drop_of_length_le (by omega)
      have hA : val 10 (a.drop (n + 1)) = 0 := by rw [hdr]; rfl
      obtain ⟨k1, k2, k3, k4⟩ := RSplit.div_step (A := val 10 (a.drop (n + 1))) hB (by omega) hd
      obtain ⟨R, hR⟩ : ∃ R, R = 10 * (val 10 (a.drop (n + 1)) % val 10 b) + a.getD n 0 := ⟨_, rfl⟩
      rw [← hR] at k1 k2 hs
      obtain ⟨e1, S1, hE1, rfl, rfl⟩ := RSplit.innerB a b n hn (zeros a.length) hb hB R k1 k2 hs hl (by simp) (getD_zeros _ _)
      have h0 : RSplit.Inv a b (n + 1) [] (zeros a.length) := by
        refine ⟨by omega, ?_, by simp, okB_zeros T_pos _, ?_, fun j _ => getD_zeros _ _⟩
        · rw [hA, Int.zero_emod]; exact limbs_zero.symm
        · rw [hA, Int.zero_ediv, val_zeros, Int.mul_zero]
      obtain ⟨e2, S2, hE2, rfl, x, l, m, rfl, hI⟩ := RSplit.outer a b oa hb hB hl n _ _ (h0.next oa hB hR)
      obtain ⟨rfl, rfl⟩ := hI.fin oa hB
      have ew : IntKind.i64.wrap ((a.length : Int) - 1) = (n : Int) := by rw [w64 (by omega) (by omega)]; omega
      have ew2 : IntKind.i64.wrap ((n : Int) - 1) = (n : Int) - 1 := w64 (by omega) (by omega)
      have el : lb 10 (num 10 false [rd a (n : Int)]) = limbs 10 R := by
        unfold lb
        congr 1
        rw [rd_toNat, Int.toNat_natCast, show num 10 false [a.getD n 0] = a.getD n 0 + 10 * 0 from rfl, hR, hA, Int.zero_emod]
        omega
      have hE : Ends T RSplit.orc RSplit.L0 RSplit.D0 (RSplit.st0e a b) (.exit 0) (RSplit.st0 a b (limbs 10 (val 10 a % val 10 b)) x (splitD a b)) := by
        refine ends_peel RSplit.isL0 (tabOf_all _) ((RSplit.round0e a b (limbs 10 (R % val 10 b)) ((zeros a.length).set n (R / val 10 b))).trans ?_) hE2
        rw [ew, el, Int.toNat_natCast, cdec_true hE1]
        refine (bT (decide_eq_true (by omega))).trans ((bT (inB_iff.2 (by omega))).trans ((bT ?_).trans ?_))
        · rw [Bool.true_and]
          exact okB_cons.2 ⟨by rw [rd_toNat, Int.toNat_natCast]; exact hd, rfl⟩
        · rw [ew2]; rfl
      refine ⟨_, tabOf_all _, (RSplit.rest_0 a b (splitD a b) (limbs 10 (val 10 a % val 10 b)) x).trans ?_⟩
      exact (bT c1).trans (bT (cdec_true hE))
  · cases h
end Go.Abs
end
section
/- States and rounds of arith's functions, as a program of this session printed them (3). -/
set_option maxRecDepth 10000
namespace Go.Abs
open Go.Proofs Go.Dig
namespace Parse
abbrev ans : Ans := [(58, ansNorm), (57, ansHeld), (56, ansScale)]
abbrev orc : Orc := orcOf ans
noncomputable def L0 : Code := lp Try.f15 0
theorem isL0 : ∃ a, L0 = .loop a := ⟨_, rfl⟩
abbrev D0 : List Nat := [0, 2, 3, 4, 5, 13, 14, 15, 16, 17, 21, 22, 23, 24, 25, 26, 27, 28, 40, 42, 43, 44]
abbrev st0 (s : ByteArray) (b0 : Bool) (x0 : Int) : St := ⟨.str s :: tops 1 (.ptr 2 0 0 :: .int .i64 (0) :: .str (s.extract 1 s.size) :: .bool (bt s (0) == 45) :: tops 7 (.str s :: .str s :: .int .i64 (↑s.size : Int) :: .bool (decide ((↑s.size : Int) > 0)) :: .bool true :: tops 3 (.bool (bt s (0) == 45) :: .bool (bt s (0) == 45) :: .str s :: .str (s.extract 1 s.size) :: .str (s.extract 1 s.size) :: .int .i64 (↑(s.extract 1 s.size).size : Int) :: .bool ((↑(s.extract 1 s.size).size : Int) == 0) :: .bool false :: tops 11 (.bool b0 :: tops 1 (.str (s.extract 1 s.size) :: .int .i64 (↑(s.extract 1 s.size).size : Int) :: .int .i64 x0 :: tops 58 ([])))))), nos 2 (varE [(false, .bool false), (true, .ints .u32 [])] :: nos 100 ([]))⟩
abbrev st0x0 (s : ByteArray) (x1 : Int) (b0 : Bool) (x0 : Int) : St := ⟨.str s :: tops 1 (.ptr 2 0 0 :: .int .i64 x1 :: .str (s.extract 1 s.size) :: .bool (bt s (0) == 45) :: tops 7 (.str s :: .str s :: .int .i64 (↑s.size : Int) :: .bool (decide ((↑s.size : Int) > 0)) :: .bool true :: tops 3 (.bool (bt s (0) == 45) :: .bool (bt s (0) == 45) :: .str s :: .str (s.extract 1 s.size) :: .str (s.extract 1 s.size) :: .int .i64 (↑(s.extract 1 s.size).size : Int) :: .bool ((↑(s.extract 1 s.size).size : Int) == 0) :: .bool false :: tops 11 (.bool b0 :: tops 1 (.str (s.extract 1 s.size) :: .int .i64 (↑(s.extract 1 s.size).size : Int) :: .int .i64 x0 :: tops 58 ([])))))), nos 2 (varE [(false, .bool false), (true, .ints .u32 [])] :: nos 100 ([]))⟩
theorem round0 (s : ByteArray) (b0 : Bool) (x0 : Int) : goL T orc (noTab) D0 L0 (st0 s b0 x0) =
    (bif decide (x0 < (↑(s.extract 1 s.size).size : Int)) then (bif inB x0 (s.extract 1 s.size).size then (bif decide (bt (s.extract 1 s.size) x0 < 48) then some (.ret, st0x0 s (10) b0 x0) else (bif inB x0 (s.extract 1 s.size).size then (bif decide (bt (s.extract 1 s.size) x0 > 57) then some (.ret, st0x0 s (10) b0 x0) else some (.normal, st0 s b0 (IntKind.i64.wrap (x0 + 1)))) else none)) else none) else some (.exit 0, st0 s b0 x0)) := by kernel_rfl
-- loop 0 ends ret st0x0 s x1 b0 x0
-- loop 0 ends exit0 st0 s b0 x0
noncomputable def L0a : Code := lp Try.f15 0
theorem isL0a : ∃ a, L0a = .loop a := ⟨_, rfl⟩
abbrev D0a : List Nat := [0, 2, 3, 4, 5, 13, 14, 15, 16, 17, 21, 22, 25, 26, 27, 28, 40, 42, 43, 44]
abbrev st0a (s : ByteArray) (b6 : Bool) (b7 : Bool) (b8 : Bool) (x4 : Int) : St := ⟨.str s :: tops 1 (.ptr 2 0 0 :: .int .i64 (0) :: .str s :: .bool b6 :: tops 7 (.str s :: .str s :: .int .i64 (↑s.size : Int) :: .bool (decide ((↑s.size : Int) > 0)) :: .bool b7 :: tops 3 (.bool b6 :: .bool b6 :: tops 2 (.str s :: .int .i64 (↑s.size : Int) :: .bool ((↑s.size : Int) == 0) :: .bool false :: tops 11 (.bool b8 :: tops 1 (.str s :: .int .i64 (↑s.size : Int) :: .int .i64 x4 :: tops 58 ([]))))))), nos 2 (varE [(false, .bool false), (true, .ints .u32 [])] :: nos 100 ([]))⟩
abbrev st0ax0 (s : ByteArray) (x5 : Int) (b6 : Bool) (b7 : Bool) (b8 : Bool) (x4 : Int) : St := ⟨.str s :: tops 1 (.ptr 2 0 0 :: .int .i64 x5 :: .str s :: .bool b6 :: tops 7 (.str s :: .str s :: .int .i64 (↑s.size : Int) :: .bool (decide ((↑s.size : Int) > 0)) :: .bool b7 :: tops 3 (.bool b6 :: .bool b6 :: tops 2 (.str s :: .int .i64 (↑s.size : Int) :: .bool ((↑s.size : Int) == 0) :: .bool false :: tops 11 (.bool b8 :: tops 1 (.str s :: .int .i64 (↑s.size : Int) :: .int .i64 x4 :: tops 58 ([]))))))), nos 2 (varE [(false, .bool false), (true, .ints .u32 [])] :: nos 100 ([]))⟩
theorem round0a (s : ByteArray) (b6 : Bool) (b7 : Bool) (b8 : Bool) (x4 : Int) : goL T orc (noTab) D0a L0a (st0a s b6 b7 b8 x4) =
    (bif decide (x4 < (↑s.size : Int)) then (bif inB x4 s.size then (bif decide (bt s x4 < 48) then some (.ret, st0ax0 s (10) b6 b7 b8 x4) else (bif inB x4 s.size then (bif decide (bt s x4 > 57) then some (.ret, st0ax0 s (10) b6 b7 b8 x4) else some (.normal, st0a s b6 b7 b8 (IntKind.i64.wrap (x4 + 1)))) else none)) else none) else some (.exit 0, st0a s b6 b7 b8 x4)) := by kernel_rfl
-- loop 0a ends ret st0ax0 s x5 b6 b7 b8 x4
-- loop 0a ends exit0 st0a s b6 b7 b8 x4
noncomputable def L2 : Code := lp Try.f15 2
theorem isL2 : ∃ a, L2 = .loop a := ⟨_, rfl⟩
abbrev D2 : List Nat := [0, 2, 3, 4, 5, 7, 8, 9, 10, 11, 13, 14, 15, 16, 17, 21, 22, 25, 26, 27, 28, 40, 42, 43, 44, 59, 60, 61, 63, 64, 65, 66, 69, 70, 71, 72, 73, 74, 75, 76, 77, 78, 79]
abbrev st2 (s : ByteArray) (b12 : Bool) (x15 : Int) (x16 : Int) (x17 : Int) (b13 : Bool) (b14 : Bool) (x8 : Int) (x18 : Int) (l0 : List Int) : St := ⟨.str s :: tops 1 (.ptr 2 0 0 :: .int .i64 (0) :: .str s :: .bool b12 :: tops 1 (.sl 7 0 0 :: .int .i64 x15 :: .str (s.extract x15.toNat (bif false then if (↑s.size : Int) > IntKind.i64.wrap (x15 + 9) then (↑s.size : Int) else IntKind.i64.wrap (x15 + 9) else if (↑s.size : Int) < IntKind.i64.wrap (x15 + 9) then (↑s.size : Int) else IntKind.i64.wrap (x15 + 9)).toNat) :: .int .u32 x16 :: .int .u32 x17 :: tops 1 (.str s :: .str s :: .int .i64 (↑s.size : Int) :: .bool (decide ((↑s.size : Int) > 0)) :: .bool b13 :: tops 3 (.bool b12 :: .bool b12 :: tops 2 (.str s :: .int .i64 (↑s.size : Int) :: .bool ((↑s.size : Int) == 0) :: .bool false :: tops 11 (.bool b14 :: tops 1 (.str s :: .int .i64 (↑s.size : Int) :: .int .i64 x8 :: tops 14 (.str s :: .int .i64 (↑s.size : Int) :: .bool (decide ((↑s.size : Int) > 343)) :: tops 1 (.int .i64 x15 :: .str s :: .int .i64 (↑s.size : Int) :: .bool (decide (x15 < (↑s.size : Int))) :: tops 2 (.str s :: .int .i64 x15 :: .int .i64 x15 :: .int .i64 (IntKind.i64.wrap (x15 + 9)) :: .str s :: .int .i64 (↑s.size : Int) :: .int .i64 (bif false then if (↑s.size : Int) > IntKind.i64.wrap (x15 + 9) then (↑s.size : Int) else IntKind.i64.wrap (x15 + 9) else if (↑s.size : Int) < IntKind.i64.wrap (x15 + 9) then (↑s.size : Int) else IntKind.i64.wrap (x15 + 9)) :: .str (s.extract x15.toNat (bif false then if (↑s.size : Int) > IntKind.i64.wrap (x15 + 9) then (↑s.size : Int) else IntKind.i64.wrap (x15 + 9) else if (↑s.size : Int) < IntKind.i64.wrap (x15 + 9) then (↑s.size : Int) else IntKind.i64.wrap (x15 + 9)).toNat) :: .str (s.extract x15.toNat (bif false then if (↑s.size : Int) > IntKind.i64.wrap (x15 + 9) then (↑s.size : Int) else IntKind.i64.wrap (x15 + 9) else if (↑s.size : Int) < IntKind.i64.wrap (x15 + 9) then (↑s.size : Int) else IntKind.i64.wrap (x15 + 9)).toNat) :: .int .i64 (↑(s.extract x15.toNat (bif false then if (↑s.size : Int) > IntKind.i64.wrap (x15 + 9) then (↑s.size : Int) else IntKind.i64.wrap (x15 + 9) else if (↑s.size : Int) < IntKind.i64.wrap (x15 + 9) then (↑s.size : Int) else IntKind.i64.wrap (x15 + 9)).toNat).size : Int) :: .int .i64 x18 :: tops 23 ([]))))))))))), nos 2 (varE [(false, .bool false), (true, .ints .u32 [])] :: nos 4 (rowE (.ints .u32 l0) :: nos 95 ([])))⟩
theorem round2 (s : ByteArray) (b12 : Bool) (x15 : Int) (x16 : Int) (x17 : Int) (b13 : Bool) (b14 : Bool) (x8 : Int) (x18 : Int) (l0 : List Int) : goL T orc (noTab) D2 L2 (st2 s b12 x15 x16 x17 b13 b14 x8 x18 l0) =
    (bif decide (x18 < (↑(s.extract x15.toNat (bif false then if (↑s.size : Int) > IntKind.i64.wrap (x15 + 9) then (↑s.size : Int) else IntKind.i64.wrap (x15 + 9) else if (↑s.size : Int) < IntKind.i64.wrap (x15 + 9) then (↑s.size : Int) else IntKind.i64.wrap (x15 + 9)).toNat).size : Int)) then (bif inB x18 (s.extract x15.toNat (bif false then if (↑s.size : Int) > IntKind.i64.wrap (x15 + 9) then (↑s.size : Int) else IntKind.i64.wrap (x15 + 9) else if (↑s.size : Int) < IntKind.i64.wrap (x15 + 9) then (↑s.size : Int) else IntKind.i64.wrap (x15 + 9)).toNat).size then some (.normal, st2 s b12 x15 (IntKind.u32.wrap (IntKind.u32.wrap (x16 * 10) + IntKind.u32.wrap (IntKind.u8.wrap (bt (s.extract x15.toNat (bif false then if (↑s.size : Int) > IntKind.i64.wrap (x15 + 9) then (↑s.size : Int) else IntKind.i64.wrap (x15 + 9) else if (↑s.size : Int) < IntKind.i64.wrap (x15 + 9) then (↑s.size : Int) else IntKind.i64.wrap (x15 + 9)).toNat) x18 - 48)))) (IntKind.u32.wrap (x17 * 10)) b13 b14 x8 (IntKind.i64.wrap (x18 + 1)) l0) else none) else some (.exit 4, st2 s b12 x15 x16 x17 b13 b14 x8 x18 l0)) := by kernel_rfl
-- loop 2 ends exit4 st2 s b12 x15 x16 x17 b13 b14 x8 x18 l0
noncomputable def L1 : Code := lp Try.f15 1
theorem isL1 : ∃ a, L1 = .loop a := ⟨_, rfl⟩
abbrev D1 : List Nat := [0, 2, 3, 4, 5, 7, 8, 13, 14, 15, 16, 17, 21, 22, 25, 26, 27, 28, 40, 42, 43, 44, 59, 60, 61]
abbrev st1 (s : ByteArray) (b12 : Bool) (x15 : Int) (b13 : Bool) (b14 : Bool) (x8 : Int) (l0 : List Int) : St := ⟨.str s :: tops 1 (.ptr 2 0 0 :: .int .i64 (0) :: .str s :: .bool b12 :: tops 1 (.sl 7 0 0 :: .int .i64 x15 :: tops 4 (.str s :: .str s :: .int .i64 (↑s.size : Int) :: .bool (decide ((↑s.size : Int) > 0)) :: .bool b13 :: tops 3 (.bool b12 :: .bool b12 :: tops 2 (.str s :: .int .i64 (↑s.size : Int) :: .bool ((↑s.size : Int) == 0) :: .bool false :: tops 11 (.bool b14 :: tops 1 (.str s :: .int .i64 (↑s.size : Int) :: .int .i64 x8 :: tops 14 (.str s :: .int .i64 (↑s.size : Int) :: .bool (decide ((↑s.size : Int) > 343)) :: tops 41 ([]))))))))), nos 2 (varE [(false, .bool false), (true, .ints .u32 [])] :: nos 4 (rowE (.ints .u32 l0) :: nos 95 ([])))⟩
theorem round1 (s : ByteArray) (b12 : Bool) (x15 : Int) (b13 : Bool) (b14 : Bool) (x8 : Int) (l0 : List Int) (x20 : Int) (x19 : Int) (x21 : Int) : goL T orc (tabOf T orc [(22, 2585025616625118797550854632251396893418309473431785164950648237226251597721781646332670859523748775088636340792802323394286, .exit 4, st2 s b12 x15 x19 x20 b13 b14 x8 x21 l0)]) D1 L1 (st1 s b12 x15 b13 b14 x8 l0) =
    (bif decide (x15 < (↑s.size : Int)) then (bif decide (0 ≤ x15) && decide (x15 ≤ bif false then if (↑s.size : Int) > IntKind.i64.wrap (x15 + 9) then (↑s.size : Int) else IntKind.i64.wrap (x15 + 9) else if (↑s.size : Int) < IntKind.i64.wrap (x15 + 9) then (↑s.size : Int) else IntKind.i64.wrap (x15 + 9)) && decide ((bif false then if (↑s.size : Int) > IntKind.i64.wrap (x15 + 9) then (↑s.size : Int) else IntKind.i64.wrap (x15 + 9) else if (↑s.size : Int) < IntKind.i64.wrap (x15 + 9) then (↑s.size : Int) else IntKind.i64.wrap (x15 + 9)) ≤ (↑s.size : Int)) then (bif cdec (Ends T orc L2 D2 (st2 s b12 x15 (0) (1) b13 b14 x8 (0) l0) (.exit 4) (st2 s b12 x15 x19 x20 b13 b14 x8 x21 l0)) then (bif few l0 && okB (4294967296) l0 && decide (0 ≤ x20) && decide (x20 < 4294967296) && decide (0 ≤ x19) && decide (x19 < 4294967296) then some (.normal, st1 s b12 (IntKind.i64.wrap (x15 + 9)) b13 b14 x8 (scaleL l0 x20 x19)) else none) else none) else none) else some (.exit 2, st1 s b12 x15 b13 b14 x8 l0)) := by kernel_rfl
-- loop 1 ends exit2 st1 s b12 x15 b13 b14 x8 l0
noncomputable def L2a : Code := lp Try.f15 2
theorem isL2a : ∃ a, L2a = .loop a := ⟨_, rfl⟩
abbrev D2a : List Nat := [0, 2, 3, 4, 5, 7, 8, 9, 10, 11, 13, 14, 15, 16, 17, 21, 22, 23, 24, 25, 26, 27, 28, 40, 42, 43, 44, 59, 60, 61, 63, 64, 65, 66, 69, 70, 71, 72, 73, 74, 75, 76, 77, 78, 79]
abbrev st2a (s : ByteArray) (x30 : Int) (x31 : Int) (x32 : Int) (b15 : Bool) (x23 : Int) (x33 : Int) (l2 : List Int) : St := ⟨.str s :: tops 1 (.ptr 2 0 0 :: .int .i64 (0) :: .str (s.extract 1 s.size) :: .bool (bt s (0) == 45) :: tops 1 (.sl 7 0 0 :: .int .i64 x30 :: .str ((s.extract 1 s.size).extract x30.toNat (bif false then if (↑(s.extract 1 s.size).size : Int) > IntKind.i64.wrap (x30 + 9) then (↑(s.extract 1 s.size).size : Int) else IntKind.i64.wrap (x30 + 9) else if (↑(s.extract 1 s.size).size : Int) < IntKind.i64.wrap (x30 + 9) then (↑(s.extract 1 s.size).size : Int) else IntKind.i64.wrap (x30 + 9)).toNat) :: .int .u32 x31 :: .int .u32 x32 :: tops 1 (.str s :: .str s :: .int .i64 (↑s.size : Int) :: .bool (decide ((↑s.size : Int) > 0)) :: .bool true :: tops 3 (.bool (bt s (0) == 45) :: .bool (bt s (0) == 45) :: .str s :: .str (s.extract 1 s.size) :: .str (s.extract 1 s.size) :: .int .i64 (↑(s.extract 1 s.size).size : Int) :: .bool ((↑(s.extract 1 s.size).size : Int) == 0) :: .bool false :: tops 11 (.bool b15 :: tops 1 (.str (s.extract 1 s.size) :: .int .i64 (↑(s.extract 1 s.size).size : Int) :: .int .i64 x23 :: tops 14 (.str (s.extract 1 s.size) :: .int .i64 (↑(s.extract 1 s.size).size : Int) :: .bool (decide ((↑(s.extract 1 s.size).size : Int) > 343)) :: tops 1 (.int .i64 x30 :: .str (s.extract 1 s.size) :: .int .i64 (↑(s.extract 1 s.size).size : Int) :: .bool (decide (x30 < (↑(s.extract 1 s.size).size : Int))) :: tops 2 (.str (s.extract 1 s.size) :: .int .i64 x30 :: .int .i64 x30 :: .int .i64 (IntKind.i64.wrap (x30 + 9)) :: .str (s.extract 1 s.size) :: .int .i64 (↑(s.extract 1 s.size).size : Int) :: .int .i64 (bif false then if (↑(s.extract 1 s.size).size : Int) > IntKind.i64.wrap (x30 + 9) then (↑(s.extract 1 s.size).size : Int) else IntKind.i64.wrap (x30 + 9) else if (↑(s.extract 1 s.size).size : Int) < IntKind.i64.wrap (x30 + 9) then (↑(s.extract 1 s.size).size : Int) else IntKind.i64.wrap (x30 + 9)) :: .str ((s.extract 1 s.size).extract x30.toNat (bif false then if (↑(s.extract 1 s.size).size : Int) > IntKind.i64.wrap (x30 + 9) then (↑(s.extract 1 s.size).size : Int) else IntKind.i64.wrap (x30 + 9) else if (↑(s.extract 1 s.size).size : Int) < IntKind.i64.wrap (x30 + 9) then (↑(s.extract 1 s.size).size : Int) else IntKind.i64.wrap (x30 + 9)).toNat) :: .str ((s.extract 1 s.size).extract x30.toNat (bif false then if (↑(s.extract 1 s.size).size : Int) > IntKind.i64.wrap (x30 + 9) then (↑(s.extract 1 s.size).size : Int) else IntKind.i64.wrap (x30 + 9) else if (↑(s.extract 1 s.size).size : Int) < IntKind.i64.wrap (x30 + 9) then (↑(s.extract 1 s.size).size : Int) else IntKind.i64.wrap (x30 + 9)).toNat) :: .int .i64 (↑((s.extract 1 s.size).extract x30.toNat (bif false then if (↑(s.extract 1 s.size).size : Int) > IntKind.i64.wrap (x30 + 9) then (↑(s.extract 1 s.size).size : Int) else IntKind.i64.wrap (x30 + 9) else if (↑(s.extract 1 s.size).size : Int) < IntKind.i64.wrap (x30 + 9) then (↑(s.extract 1 s.size).size : Int) else IntKind.i64.wrap (x30 + 9)).toNat).size : Int) :: .int .i64 x33 :: tops 23 ([])))))))))), nos 2 (varE [(false, .bool false), (true, .ints .u32 [])] :: nos 4 (rowE (.ints .u32 l2) :: nos 95 ([])))⟩
theorem round2a (s : ByteArray) (x30 : Int) (x31 : Int) (x32 : Int) (b15 : Bool) (x23 : Int) (x33 : Int) (l2 : List Int) : goL T orc (noTab) D2a L2a (st2a s x30 x31 x32 b15 x23 x33 l2) =
    (bif decide (x33 < (↑((s.extract 1 s.size).extract x30.toNat (bif false then if (↑(s.extract 1 s.size).size : Int) > IntKind.i64.wrap (x30 + 9) then (↑(s.extract 1 s.size).size : Int) else IntKind.i64.wrap (x30 + 9) else if (↑(s.extract 1 s.size).size : Int) < IntKind.i64.wrap (x30 + 9) then (↑(s.extract 1 s.size).size : Int) else IntKind.i64.wrap (x30 + 9)).toNat).size : Int)) then (bif inB x33 ((s.extract 1 s.size).extract x30.toNat (bif false then if (↑(s.extract 1 s.size).size : Int) > IntKind.i64.wrap (x30 + 9) then (↑(s.extract 1 s.size).size : Int) else IntKind.i64.wrap (x30 + 9) else if (↑(s.extract 1 s.size).size : Int) < IntKind.i64.wrap (x30 + 9) then (↑(s.extract 1 s.size).size : Int) else IntKind.i64.wrap (x30 + 9)).toNat).size then some (.normal, st2a s x30 (IntKind.u32.wrap (IntKind.u32.wrap (x31 * 10) + IntKind.u32.wrap (IntKind.u8.wrap (bt ((s.extract 1 s.size).extract x30.toNat (bif false then if (↑(s.extract 1 s.size).size : Int) > IntKind.i64.wrap (x30 + 9) then (↑(s.extract 1 s.size).size : Int) else IntKind.i64.wrap (x30 + 9) else if (↑(s.extract 1 s.size).size : Int) < IntKind.i64.wrap (x30 + 9) then (↑(s.extract 1 s.size).size : Int) else IntKind.i64.wrap (x30 + 9)).toNat) x33 - 48)))) (IntKind.u32.wrap (x32 * 10)) b15 x23 (IntKind.i64.wrap (x33 + 1)) l2) else none) else some (.exit 4, st2a s x30 x31 x32 b15 x23 x33 l2)) := by kernel_rfl
-- loop 2a ends exit4 st2a s x30 x31 x32 b15 x23 x33 l2
noncomputable def L1a : Code := lp Try.f15 1
theorem isL1a : ∃ a, L1a = .loop a := ⟨_, rfl⟩
abbrev D1a : List Nat := [0, 2, 3, 4, 5, 7, 8, 13, 14, 15, 16, 17, 21, 22, 23, 24, 25, 26, 27, 28, 40, 42, 43, 44, 59, 60, 61]
abbrev st1a (s : ByteArray) (x30 : Int) (b15 : Bool) (x23 : Int) (l2 : List Int) : St := ⟨.str s :: tops 1 (.ptr 2 0 0 :: .int .i64 (0) :: .str (s.extract 1 s.size) :: .bool (bt s (0) == 45) :: tops 1 (.sl 7 0 0 :: .int .i64 x30 :: tops 4 (.str s :: .str s :: .int .i64 (↑s.size : Int) :: .bool (decide ((↑s.size : Int) > 0)) :: .bool true :: tops 3 (.bool (bt s (0) == 45) :: .bool (bt s (0) == 45) :: .str s :: .str (s.extract 1 s.size) :: .str (s.extract 1 s.size) :: .int .i64 (↑(s.extract 1 s.size).size : Int) :: .bool ((↑(s.extract 1 s.size).size : Int) == 0) :: .bool false :: tops 11 (.bool b15 :: tops 1 (.str (s.extract 1 s.size) :: .int .i64 (↑(s.extract 1 s.size).size : Int) :: .int .i64 x23 :: tops 14 (.str (s.extract 1 s.size) :: .int .i64 (↑(s.extract 1 s.size).size : Int) :: .bool (decide ((↑(s.extract 1 s.size).size : Int) > 343)) :: tops 41 ([])))))))), nos 2 (varE [(false, .bool false), (true, .ints .u32 [])] :: nos 4 (rowE (.ints .u32 l2) :: nos 95 ([])))⟩
theorem round1a (s : ByteArray) (x30 : Int) (b15 : Bool) (x23 : Int) (l2 : List Int) (x35 : Int) (x34 : Int) (x36 : Int) : goL T orc (tabOf T orc [(22, 2585025616625118797550854630691125113272957186682296653022108216012557278656570443285417810059861709772309064018216736452334, .exit 4, st2a s x30 x34 x35 b15 x23 x36 l2)]) D1a L1a (st1a s x30 b15 x23 l2) =
    (bif decide (x30 < (↑(s.extract 1 s.size).size : Int)) then (bif decide (0 ≤ x30) && decide (x30 ≤ bif false then if (↑(s.extract 1 s.size).size : Int) > IntKind.i64.wrap (x30 + 9) then (↑(s.extract 1 s.size).size : Int) else IntKind.i64.wrap (x30 + 9) else if (↑(s.extract 1 s.size).size : Int) < IntKind.i64.wrap (x30 + 9) then (↑(s.extract 1 s.size).size : Int) else IntKind.i64.wrap (x30 + 9)) && decide ((bif false then if (↑(s.extract 1 s.size).size : Int) > IntKind.i64.wrap (x30 + 9) then (↑(s.extract 1 s.size).size : Int) else IntKind.i64.wrap (x30 + 9) else if (↑(s.extract 1 s.size).size : Int) < IntKind.i64.wrap (x30 + 9) then (↑(s.extract 1 s.size).size : Int) else IntKind.i64.wrap (x30 + 9)) ≤ (↑(s.extract 1 s.size).size : Int)) then (bif cdec (Ends T orc L2a D2a (st2a s x30 (0) (1) b15 x23 (0) l2) (.exit 4) (st2a s x30 x34 x35 b15 x23 x36 l2)) then (bif few l2 && okB (4294967296) l2 && decide (0 ≤ x35) && decide (x35 < 4294967296) && decide (0 ≤ x34) && decide (x34 < 4294967296) then some (.normal, st1a s (IntKind.i64.wrap (x30 + 9)) b15 x23 (scaleL l2 x35 x34)) else none) else none) else none) else some (.exit 2, st1a s x30 b15 x23 l2)) := by kernel_rfl
-- loop 1a ends exit2 st1a s x30 b15 x23 l2
theorem rest_0 (s : ByteArray) (x6 : Int) (b9 : Bool) (b10 : Bool) (b11 : Bool) (x7 : Int) (x2 : Int) (b1 : Bool) (x3 : Int) : runT T orc (tabOf T orc [(8, 2585025628590623854992277685469035784553465991325676146883346425763788658036205756010234607550307971754212937460549868777198, .ret, st0x0 s x2 b1 x3), (8, 2585025628590623854992277687029307564698818278075164658811886446977482977101416959057487657014195037070540214235135455719150, .ret, st0ax0 s x6 b9 b10 b11 x7)]) Try.f15 [.str s] =
    (bif decide ((↑s.size : Int) > 0) then (bif inB (0) s.size then (bif bt s (0) == 45 then (bif true && decide (1 ≤ (↑s.size : Int)) then (bif (↑(s.extract 1 s.size).size : Int) == 0 then some (.val (.tup [.agg [.bool false, .ints .u32 []], .int .i64 (10)])) else (bif inB (0) (s.extract 1 s.size).size then (bif bt (s.extract 1 s.size) (0) == 48 then (bif decide ((↑(s.extract 1 s.size).size : Int) > 1) then some (.val (.tup [.agg [.bool false, .ints .u32 []], .int .i64 (10)])) else (bif bt s (0) == 45 then some (.val (.tup [.agg [.bool false, .ints .u32 []], .int .i64 (10)])) else (bif cdec (Ends T orc L0 D0 (st0 s (bt s (0) == 45) (0)) .ret (st0x0 s x2 b1 x3)) then some (.val (.tup [.agg [.bool false, .ints .u32 []], .int .i64 x2])) else none))) else (bif cdec (Ends T orc L0 D0 (st0 s (false) (0)) .ret (st0x0 s x2 b1 x3)) then some (.val (.tup [.agg [.bool false, .ints .u32 []], .int .i64 x2])) else none)) else none)) else none) else (bif (↑s.size : Int) == 0 then some (.val (.tup [.agg [.bool false, .ints .u32 []], .int .i64 (10)])) else (bif inB (0) s.size then (bif bt s (0) == 48 then (bif decide ((↑s.size : Int) > 1) then some (.val (.tup [.agg [.bool false, .ints .u32 []], .int .i64 (10)])) else (bif bt s (0) == 45 then some (.val (.tup [.agg [.bool false, .ints .u32 []], .int .i64 (10)])) else (bif cdec (Ends T orc L0a D0a (st0a s (bt s (0) == 45) (true) (bt s (0) == 45) (0)) .ret (st0ax0 s x6 b9 b10 b11 x7)) then some (.val (.tup [.agg [.bool false, .ints .u32 []], .int .i64 x6])) else none))) else (bif cdec (Ends T orc L0a D0a (st0a s (bt s (0) == 45) (true) (false) (0)) .ret (st0ax0 s x6 b9 b10 b11 x7)) then some (.val (.tup [.agg [.bool false, .ints .u32 []], .int .i64 x6])) else none)) else none))) else none) else (bif (↑s.size : Int) == 0 then some (.val (.tup [.agg [.bool false, .ints .u32 []], .int .i64 (10)])) else (bif inB (0) s.size then (bif bt s (0) == 48 then (bif decide ((↑s.size : Int) > 1) then some (.val (.tup [.agg [.bool false, .ints .u32 []], .int .i64 (10)])) else (bif cdec (Ends T orc L0a D0a (st0a s (false) (false) (false) (0)) .ret (st0ax0 s x6 b9 b10 b11 x7)) then some (.val (.tup [.agg [.bool false, .ints .u32 []], .int .i64 x6])) else none)) else (bif cdec (Ends T orc L0a D0a (st0a s (false) (false) (false) (0)) .ret (st0ax0 s x6 b9 b10 b11 x7)) then some (.val (.tup [.agg [.bool false, .ints .u32 []], .int .i64 x6])) else none)) else none))) := by kernel_rfl
theorem rest_1 (s : ByteArray) (b12 : Bool) (l1 : List Int) (b13 : Bool) (b14 : Bool) (x8 : Int) (x22 : Int) (x2 : Int) (b1 : Bool) (x3 : Int) : runT T orc (tabOf T orc [(8, 2585025628590623854992277685469035784553465991325676146883346425763788658036205756010234607550307971754212937460549868777198, .ret, st0x0 s x2 b1 x3), (8, 2585025628590623854992277687029307564698818278075164658811886446977482977101416959057487657014195037070540214235135455719150, .exit 0, st0a s b12 b13 b14 x8), (17, 2585025616739239178733000736461002534577496938266024331367201316383660280611729922488402123137553331067272718842187672907502, .exit 2, st1 s b12 x22 b13 b14 x8 l1)]) Try.f15 [.str s] =
    (bif decide ((↑s.size : Int) > 0) then (bif inB (0) s.size then (bif bt s (0) == 45 then (bif true && decide (1 ≤ (↑s.size : Int)) then (bif (↑(s.extract 1 s.size).size : Int) == 0 then some (.val (.tup [.agg [.bool false, .ints .u32 []], .int .i64 (10)])) else (bif inB (0) (s.extract 1 s.size).size then (bif bt (s.extract 1 s.size) (0) == 48 then (bif decide ((↑(s.extract 1 s.size).size : Int) > 1) then some (.val (.tup [.agg [.bool false, .ints .u32 []], .int .i64 (10)])) else (bif bt s (0) == 45 then some (.val (.tup [.agg [.bool false, .ints .u32 []], .int .i64 (10)])) else (bif cdec (Ends T orc L0 D0 (st0 s (bt s (0) == 45) (0)) .ret (st0x0 s x2 b1 x3)) then some (.val (.tup [.agg [.bool false, .ints .u32 []], .int .i64 x2])) else none))) else (bif cdec (Ends T orc L0 D0 (st0 s (false) (0)) .ret (st0x0 s x2 b1 x3)) then some (.val (.tup [.agg [.bool false, .ints .u32 []], .int .i64 x2])) else none)) else none)) else none) else (bif (↑s.size : Int) == 0 then some (.val (.tup [.agg [.bool false, .ints .u32 []], .int .i64 (10)])) else (bif inB (0) s.size then (bif bt s (0) == 48 then (bif decide ((↑s.size : Int) > 1) then some (.val (.tup [.agg [.bool false, .ints .u32 []], .int .i64 (10)])) else (bif bt s (0) == 45 then some (.val (.tup [.agg [.bool false, .ints .u32 []], .int .i64 (10)])) else (bif cdec (Ends T orc L0a D0a (st0a s (bt s (0) == 45) (true) (bt s (0) == 45) (0)) (.exit 0) (st0a s b12 b13 b14 x8)) then (bif decide ((↑s.size : Int) > 343) then some (.val (.tup [.agg [.bool false, .ints .u32 []], .int .i64 (11)])) else (bif cdec (Ends T orc L1 D1 (st1 s b12 (0) b13 b14 x8 ([])) (.exit 2) (st1 s b12 x22 b13 b14 x8 l1)) then (bif few l1 && okB (4294967296) l1 then (bif cn (4294967296) (sg (num (4294967296) b12 l1)) (lb (4294967296) (num (4294967296) b12 l1)) then some (.val (.tup [R (hz (N (4294967296) (num (4294967296) b12 l1))), .int .i64 (he (N (4294967296) (num (4294967296) b12 l1)))])) else none) else none) else none)) else none))) else (bif cdec (Ends T orc L0a D0a (st0a s (bt s (0) == 45) (true) (false) (0)) (.exit 0) (st0a s b12 b13 b14 x8)) then (bif decide ((↑s.size : Int) > 343) then some (.val (.tup [.agg [.bool false, .ints .u32 []], .int .i64 (11)])) else (bif cdec (Ends T orc L1 D1 (st1 s b12 (0) b13 b14 x8 ([])) (.exit 2) (st1 s b12 x22 b13 b14 x8 l1)) then (bif few l1 && okB (4294967296) l1 then (bif cn (4294967296) (sg (num (4294967296) b12 l1)) (lb (4294967296) (num (4294967296) b12 l1)) then some (.val (.tup [R (hz (N (4294967296) (num (4294967296) b12 l1))), .int .i64 (he (N (4294967296) (num (4294967296) b12 l1)))])) else none) else none) else none)) else none)) else none))) else none) else (bif (↑s.size : Int) == 0 then some (.val (.tup [.agg [.bool false, .ints .u32 []], .int .i64 (10)])) else (bif inB (0) s.size then (bif bt s (0) == 48 then (bif decide ((↑s.size : Int) > 1) then some (.val (.tup [.agg [.bool false, .ints .u32 []], .int .i64 (10)])) else (bif cdec (Ends T orc L0a D0a (st0a s (false) (false) (false) (0)) (.exit 0) (st0a s b12 b13 b14 x8)) then (bif decide ((↑s.size : Int) > 343) then some (.val (.tup [.agg [.bool false, .ints .u32 []], .int .i64 (11)])) else (bif cdec (Ends T orc L1 D1 (st1 s b12 (0) b13 b14 x8 ([])) (.exit 2) (st1 s b12 x22 b13 b14 x8 l1)) then (bif few l1 && okB (4294967296) l1 then (bif cn (4294967296) (sg (num (4294967296) b12 l1)) (lb (4294967296) (num (4294967296) b12 l1)) then some (.val (.tup [R (hz (N (4294967296) (num (4294967296) b12 l1))), .int .i64 (he (N (4294967296) (num (4294967296) b12 l1)))])) else none) else none) else none)) else none)) else (bif cdec (Ends T orc L0a D0a (st0a s (false) (false) (false) (0)) (.exit 0) (st0a s b12 b13 b14 x8)) then (bif decide ((↑s.size : Int) > 343) then some (.val (.tup [.agg [.bool false, .ints .u32 []], .int .i64 (11)])) else (bif cdec (Ends T orc L1 D1 (st1 s b12 (0) b13 b14 x8 ([])) (.exit 2) (st1 s b12 x22 b13 b14 x8 l1)) then (bif few l1 && okB (4294967296) l1 then (bif cn (4294967296) (sg (num (4294967296) b12 l1)) (lb (4294967296) (num (4294967296) b12 l1)) then some (.val (.tup [R (hz (N (4294967296) (num (4294967296) b12 l1))), .int .i64 (he (N (4294967296) (num (4294967296) b12 l1)))])) else none) else none) else none)) else none)) else none))) := by kernel_rfl
theorem rest_2 (s : ByteArray) (x38 : Int) (b23 : Bool) (b24 : Bool) (b25 : Bool) (x39 : Int) (l3 : List Int) (b15 : Bool) (x23 : Int) (x37 : Int) : runT T orc (tabOf T orc [(8, 2585025628590623854992277685469035784553465991325676146883346425763788658036205756010234607550307971754212937460549868777198, .exit 0, st0 s b15 x23), (17, 2585025616739239178733000734900730754432144651516535819438661295169965961546518719441149073673666265750945442067602085965550, .exit 2, st1a s x37 b15 x23 l3), (8, 2585025628590623854992277687029307564698818278075164658811886446977482977101416959057487657014195037070540214235135455719150, .ret, st0ax0 s x38 b23 b24 b25 x39)]) Try.f15 [.str s] =
    (bif decide ((↑s.size : Int) > 0) then (bif inB (0) s.size then (bif bt s (0) == 45 then (bif true && decide (1 ≤ (↑s.size : Int)) then (bif (↑(s.extract 1 s.size).size : Int) == 0 then some (.val (.tup [.agg [.bool false, .ints .u32 []], .int .i64 (10)])) else (bif inB (0) (s.extract 1 s.size).size then (bif bt (s.extract 1 s.size) (0) == 48 then (bif decide ((↑(s.extract 1 s.size).size : Int) > 1) then some (.val (.tup [.agg [.bool false, .ints .u32 []], .int .i64 (10)])) else (bif bt s (0) == 45 then some (.val (.tup [.agg [.bool false, .ints .u32 []], .int .i64 (10)])) else (bif cdec (Ends T orc L0 D0 (st0 s (bt s (0) == 45) (0)) (.exit 0) (st0 s b15 x23)) then (bif decide ((↑(s.extract 1 s.size).size : Int) > 343) then some (.val (.tup [.agg [.bool false, .ints .u32 []], .int .i64 (11)])) else (bif cdec (Ends T orc L1a D1a (st1a s (0) b15 x23 ([])) (.exit 2) (st1a s x37 b15 x23 l3)) then (bif few l3 && okB (4294967296) l3 then (bif cn (4294967296) (sg (num (4294967296) (bt s (0) == 45) l3)) (lb (4294967296) (num (4294967296) (bt s (0) == 45) l3)) then some (.val (.tup [R (hz (N (4294967296) (num (4294967296) (bt s (0) == 45) l3))), .int .i64 (he (N (4294967296) (num (4294967296) (bt s (0) == 45) l3)))])) else none) else none) else none)) else none))) else (bif cdec (Ends T orc L0 D0 (st0 s (false) (0)) (.exit 0) (st0 s b15 x23)) then (bif decide ((↑(s.extract 1 s.size).size : Int) > 343) then some (.val (.tup [.agg [.bool false, .ints .u32 []], .int .i64 (11)])) else (bif cdec (Ends T orc L1a D1a (st1a s (0) b15 x23 ([])) (.exit 2) (st1a s x37 b15 x23 l3)) then (bif few l3 && okB (4294967296) l3 then (bif cn (4294967296) (sg (num (4294967296) (bt s (0) == 45) l3)) (lb (4294967296) (num (4294967296) (bt s (0) == 45) l3)) then some (.val (.tup [R (hz (N (4294967296) (num (4294967296) (bt s (0) == 45) l3))), .int .i64 (he (N (4294967296) (num (4294967296) (bt s (0) == 45) l3)))])) else none) else none) else none)) else none)) else none)) else none) else (bif (↑s.size : Int) == 0 then some (.val (.tup [.agg [.bool false, .ints .u32 []], .int .i64 (10)])) else (bif inB (0) s.size then (bif bt s (0) == 48 then (bif decide ((↑s.size : Int) > 1) then some (.val (.tup [.agg [.bool false, .ints .u32 []], .int .i64 (10)])) else (bif bt s (0) == 45 then some (.val (.tup [.agg [.bool false, .ints .u32 []], .int .i64 (10)])) else (bif cdec (Ends T orc L0a D0a (st0a s (bt s (0) == 45) (true) (bt s (0) == 45) (0)) .ret (st0ax0 s x38 b23 b24 b25 x39)) then some (.val (.tup [.agg [.bool false, .ints .u32 []], .int .i64 x38])) else none))) else (bif cdec (Ends T orc L0a D0a (st0a s (bt s (0) == 45) (true) (false) (0)) .ret (st0ax0 s x38 b23 b24 b25 x39)) then some (.val (.tup [.agg [.bool false, .ints .u32 []], .int .i64 x38])) else none)) else none))) else none) else (bif (↑s.size : Int) == 0 then some (.val (.tup [.agg [.bool false, .ints .u32 []], .int .i64 (10)])) else (bif inB (0) s.size then (bif bt s (0) == 48 then (bif decide ((↑s.size : Int) > 1) then some (.val (.tup [.agg [.bool false, .ints .u32 []], .int .i64 (10)])) else (bif cdec (Ends T orc L0a D0a (st0a s (false) (false) (false) (0)) .ret (st0ax0 s x38 b23 b24 b25 x39)) then some (.val (.tup [.agg [.bool false, .ints .u32 []], .int .i64 x38])) else none)) else (bif cdec (Ends T orc L0a D0a (st0a s (false) (false) (false) (0)) .ret (st0ax0 s x38 b23 b24 b25 x39)) then some (.val (.tup [.agg [.bool false, .ints .u32 []], .int .i64 x38])) else none)) else none))) := by kernel_rfl
theorem rest_3 (s : ByteArray) (b29 : Bool) (l4 : List Int) (b26 : Bool) (b27 : Bool) (b28 : Bool) (x40 : Int) (x41 : Int) (b30 : Bool) (b31 : Bool) (x42 : Int) (l3 : List Int) (b15 : Bool) (x23 : Int) (x37 : Int) : runT T orc (tabOf T orc [(8, 2585025628590623854992277685469035784553465991325676146883346425763788658036205756010234607550307971754212937460549868777198, .exit 0, st0 s b15 x23), (17, 2585025616739239178733000734900730754432144651516535819438661295169965961546518719441149073673666265750945442067602085965550, .exit 2, st1a s x37 b15 x23 l3), (8, 2585025628590623854992277687029307564698818278075164658811886446977482977101416959057487657014195037070540214235135455719150, .exit 0, st0a s b26 b27 b28 x40), (17, 2585025616739239178733000736461002534577496938266024331367201316383660280611729922488402123137553331067272718842187672907502, .exit 2, st1 s b29 x41 b30 b31 x42 l4)]) Try.f15 [.str s] =
    (bif decide ((↑s.size : Int) > 0) then (bif inB (0) s.size then (bif bt s (0) == 45 then (bif true && decide (1 ≤ (↑s.size : Int)) then (bif (↑(s.extract 1 s.size).size : Int) == 0 then some (.val (.tup [.agg [.bool false, .ints .u32 []], .int .i64 (10)])) else (bif inB (0) (s.extract 1 s.size).size then (bif bt (s.extract 1 s.size) (0) == 48 then (bif decide ((↑(s.extract 1 s.size).size : Int) > 1) then some (.val (.tup [.agg [.bool false, .ints .u32 []], .int .i64 (10)])) else (bif bt s (0) == 45 then some (.val (.tup [.agg [.bool false, .ints .u32 []], .int .i64 (10)])) else (bif cdec (Ends T orc L0 D0 (st0 s (bt s (0) == 45) (0)) (.exit 0) (st0 s b15 x23)) then (bif decide ((↑(s.extract 1 s.size).size : Int) > 343) then some (.val (.tup [.agg [.bool false, .ints .u32 []], .int .i64 (11)])) else (bif cdec (Ends T orc L1a D1a (st1a s (0) b15 x23 ([])) (.exit 2) (st1a s x37 b15 x23 l3)) then (bif few l3 && okB (4294967296) l3 then (bif cn (4294967296) (sg (num (4294967296) (bt s (0) == 45) l3)) (lb (4294967296) (num (4294967296) (bt s (0) == 45) l3)) then some (.val (.tup [R (hz (N (4294967296) (num (4294967296) (bt s (0) == 45) l3))), .int .i64 (he (N (4294967296) (num (4294967296) (bt s (0) == 45) l3)))])) else none) else none) else none)) else none))) else (bif cdec (Ends T orc L0 D0 (st0 s (false) (0)) (.exit 0) (st0 s b15 x23)) then (bif decide ((↑(s.extract 1 s.size).size : Int) > 343) then some (.val (.tup [.agg [.bool false, .ints .u32 []], .int .i64 (11)])) else (bif cdec (Ends T orc L1a D1a (st1a s (0) b15 x23 ([])) (.exit 2) (st1a s x37 b15 x23 l3)) then (bif few l3 && okB (4294967296) l3 then (bif cn (4294967296) (sg (num (4294967296) (bt s (0) == 45) l3)) (lb (4294967296) (num (4294967296) (bt s (0) == 45) l3)) then some (.val (.tup [R (hz (N (4294967296) (num (4294967296) (bt s (0) == 45) l3))), .int .i64 (he (N (4294967296) (num (4294967296) (bt s (0) == 45) l3)))])) else none) else none) else none)) else none)) else none)) else none) else (bif (↑s.size : Int) == 0 then some (.val (.tup [.agg [.bool false, .ints .u32 []], .int .i64 (10)])) else (bif inB (0) s.size then (bif bt s (0) == 48 then (bif decide ((↑s.size : Int) > 1) then some (.val (.tup [.agg [.bool false, .ints .u32 []], .int .i64 (10)])) else (bif bt s (0) == 45 then some (.val (.tup [.agg [.bool false, .ints .u32 []], .int .i64 (10)])) else (bif cdec (Ends T orc L0a D0a (st0a s (bt s (0) == 45) (true) (bt s (0) == 45) (0)) (.exit 0) (st0a s b26 b27 b28 x40)) then (bif decide ((↑s.size : Int) > 343) then some (.val (.tup [.agg [.bool false, .ints .u32 []], .int .i64 (11)])) else (bif cdec (Ends T orc L1 D1 (st1 s b26 (0) b27 b28 x40 ([])) (.exit 2) (st1 s b29 x41 b30 b31 x42 l4)) then (bif few l4 && okB (4294967296) l4 then (bif cn (4294967296) (sg (num (4294967296) b29 l4)) (lb (4294967296) (num (4294967296) b29 l4)) then some (.val (.tup [R (hz (N (4294967296) (num (4294967296) b29 l4))), .int .i64 (he (N (4294967296) (num (4294967296) b29 l4)))])) else none) else none) else none)) else none))) else (bif cdec (Ends T orc L0a D0a (st0a s (bt s (0) == 45) (true) (false) (0)) (.exit 0) (st0a s b26 b27 b28 x40)) then (bif decide ((↑s.size : Int) > 343) then some (.val (.tup [.agg [.bool false, .ints .u32 []], .int .i64 (11)])) else (bif cdec (Ends T orc L1 D1 (st1 s b26 (0) b27 b28 x40 ([])) (.exit 2) (st1 s b29 x41 b30 b31 x42 l4)) then (bif few l4 && okB (4294967296) l4 then (bif cn (4294967296) (sg (num (4294967296) b29 l4)) (lb (4294967296) (num (4294967296) b29 l4)) then some (.val (.tup [R (hz (N (4294967296) (num (4294967296) b29 l4))), .int .i64 (he (N (4294967296) (num (4294967296) b29 l4)))])) else none) else none) else none)) else none)) else none))) else none) else (bif (↑s.size : Int) == 0 then some (.val (.tup [.agg [.bool false, .ints .u32 []], .int .i64 (10)])) else (bif inB (0) s.size then (bif bt s (0) == 48 then (bif decide ((↑s.size : Int) > 1) then some (.val (.tup [.agg [.bool false, .ints .u32 []], .int .i64 (10)])) else (bif cdec (Ends T orc L0a D0a (st0a s (false) (false) (false) (0)) (.exit 0) (st0a s b26 b27 b28 x40)) then (bif decide ((↑s.size : Int) > 343) then some (.val (.tup [.agg [.bool false, .ints .u32 []], .int .i64 (11)])) else (bif cdec (Ends T orc L1 D1 (st1 s b26 (0) b27 b28 x40 ([])) (.exit 2) (st1 s b29 x41 b30 b31 x42 l4)) then (bif few l4 && okB (4294967296) l4 then (bif cn (4294967296) (sg (num (4294967296) b29 l4)) (lb (4294967296) (num (4294967296) b29 l4)) then some (.val (.tup [R (hz (N (4294967296) (num (4294967296) b29 l4))), .int .i64 (he (N (4294967296) (num (4294967296) b29 l4)))])) else none) else none) else none)) else none)) else (bif cdec (Ends T orc L0a D0a (st0a s (false) (false) (false) (0)) (.exit 0) (st0a s b26 b27 b28 x40)) then (bif decide ((↑s.size : Int) > 343) then some (.val (.tup [.agg [.bool false, .ints .u32 []], .int .i64 (11)])) else (bif cdec (Ends T orc L1 D1 (st1 s b26 (0) b27 b28 x40 ([])) (.exit 2) (st1 s b29 x41 b30 b31 x42 l4)) then (bif few l4 && okB (4294967296) l4 then (bif cn (4294967296) (sg (num (4294967296) b29 l4)) (lb (4294967296) (num (4294967296) b29 l4)) then some (.val (.tup [R (hz (N (4294967296) (num (4294967296) b29 l4))), .int .i64 (he (N (4294967296) (num (4294967296) b29 l4)))])) else none) else none) else none)) else none)) else none))) := by kernel_rfl
end Parse
end Go.Abs
end
section
/- States and rounds of arith's functions, as a program of this session printed them (4). -/
set_option maxRecDepth 10000
namespace Go.Abs
open Go.Proofs Go.Dig
namespace Text
abbrev ans : Ans := [(68, ansPart)]
abbrev orc : Orc := orcOf ans
noncomputable def L1 : Code := lp Try.f24 1
theorem isL1 : ∃ a, L1 = .loop a := ⟨_, rfl⟩
abbrev D1 : List Nat := [0, 1, 2, 3, 4, 5, 6, 9, 10, 11, 12, 13, 14, 15, 16, 17, 18, 19, 20, 21, 22]
abbrev st1 (s : Bool) (l : List Int) (l2 : List Int) (x4 : Int) (x5 : Int) (l4 : List Int) : St := ⟨.agg [.bool s, .ints .u32 l] :: .ptr 1 0 0 :: .str { data := #[] } :: .sl 3 0 0 :: .ints .u32 (limbs (4294967296) (val (4294967296) l2 / 1000000000)) :: .int .u32 x4 :: .int .i64 x5 :: tops 2 (.ptr 1 0 1 :: .ints .u32 l :: .int .i64 (↑l.length : Int) :: .bool ((↑l.length : Int) == 0) :: .ptr 1 0 1 :: .ints .u32 l :: .ints .u32 l2 :: .int .i64 (↑l2.length : Int) :: .bool (decide ((↑l2.length : Int) > 0)) :: .tup [.ints .u32 (limbs (4294967296) (val (4294967296) l2 / 1000000000)), .int .u32 (val (4294967296) l2 % 1000000000)] :: .ints .u32 l2 :: .tup [.ints .u32 (limbs (4294967296) (val (4294967296) l2 / 1000000000)), .int .u32 (val (4294967296) l2 % 1000000000)] :: .ints .u32 (limbs (4294967296) (val (4294967296) l2 / 1000000000)) :: .int .u32 (val (4294967296) l2 % 1000000000) :: tops 53 ([])), nos 1 (varE [(false, .bool s), (false, .ints .u32 l)] :: nos 1 (rowE (.ints .u8 l4) :: nos 72 ([])))⟩
theorem round1 (s : Bool) (l : List Int) (l2 : List Int) (x4 : Int) (x5 : Int) (l4 : List Int) : goL T orc (noTab) D1 L1 (st1 s l l2 x4 x5 l4) =
    (bif decide (x5 < 9) then (bif decide ((↑(limbs (4294967296) (val (4294967296) l2 / 1000000000)).length : Int) > 0) then (bif true && decide ((l4 ++ [IntKind.u8.wrap (IntKind.u32.wrap (48 + x4.tmod (10)))]).length * 1 ≤ 140737488355328) then some (.normal, st1 s l l2 (IntKind.u32.wrap (x4.tdiv (10))) (IntKind.i64.wrap (x5 + 1)) (l4 ++ [IntKind.u8.wrap (IntKind.u32.wrap (48 + x4.tmod (10)))])) else none) else (bif decide (x4 > 0) then (bif true && decide ((l4 ++ [IntKind.u8.wrap (IntKind.u32.wrap (48 + x4.tmod (10)))]).length * 1 ≤ 140737488355328) then some (.normal, st1 s l l2 (IntKind.u32.wrap (x4.tdiv (10))) (IntKind.i64.wrap (x5 + 1)) (l4 ++ [IntKind.u8.wrap (IntKind.u32.wrap (48 + x4.tmod (10)))])) else none) else some (.exit 2, st1 s l l2 x4 x5 l4))) else some (.exit 2, st1 s l l2 x4 x5 l4)) := by kernel_rfl
-- loop 1 ends exit2 st1 s l l2 x4 x5 l4
noncomputable def L0 : Code := lp Try.f24 0
theorem isL0 : ∃ a, L0 = .loop a := ⟨_, rfl⟩
abbrev D0 : List Nat := [0, 1, 2, 3, 4, 9, 10, 11, 12, 13, 14]
abbrev st0 (s : Bool) (l : List Int) (l2 : List Int) (l3 : List Int) : St := ⟨.agg [.bool s, .ints .u32 l] :: .ptr 1 0 0 :: .str { data := #[] } :: .sl 3 0 0 :: .ints .u32 l2 :: tops 4 (.ptr 1 0 1 :: .ints .u32 l :: .int .i64 (↑l.length : Int) :: .bool ((↑l.length : Int) == 0) :: .ptr 1 0 1 :: .ints .u32 l :: tops 61 ([])), nos 1 (varE [(false, .bool s), (false, .ints .u32 l)] :: nos 1 (rowE (.ints .u8 l3) :: nos 72 ([])))⟩
theorem round0 (s : Bool) (l : List Int) (l2 : List Int) (l3 : List Int) (l5 : List Int) (x6 : Int) (x7 : Int) : goL T orc (tabOf T orc [(9, 15434055826790135822470426309716605157525547871637213005085072231847775149465239827614985966, .exit 2, st1 s l l2 x6 x7 l5)]) D0 L0 (st0 s l l2 l3) =
    (bif decide ((↑l2.length : Int) > 0) then (bif few l2 && okB (4294967296) l2 && true && true then (bif cdec (Ends T orc L1 D1 (st1 s l l2 (val (4294967296) l2 % 1000000000) (0) l3) (.exit 2) (st1 s l l2 x6 x7 l5)) then some (.normal, st0 s l (limbs (4294967296) (val (4294967296) l2 / 1000000000)) l5) else none) else none) else some (.exit 0, st0 s l l2 l3)) := by kernel_rfl
-- loop 0 ends exit0 st0 s l l2 l3
noncomputable def L2 : Code := lp Try.f24 2
theorem isL2 : ∃ a, L2 = .loop a := ⟨_, rfl⟩
abbrev D2 : List Nat := [0, 1, 2, 3, 4, 7, 8, 9, 10, 11, 12, 13, 14, 45, 46, 47, 48, 49, 50, 51, 52]
abbrev st2 (s : Bool) (l : List Int) (l6 : List Int) (x8 : Int) (x9 : Int) (l7 : List Int) (l8 : List Int) : St := ⟨.agg [.bool s, .ints .u32 l] :: .ptr 1 0 0 :: .str { data := #[] } :: .sl 3 0 0 :: .ints .u32 l6 :: tops 2 (.int .i64 x8 :: .int .i64 x9 :: .ptr 1 0 1 :: .ints .u32 l :: .int .i64 (↑l.length : Int) :: .bool ((↑l.length : Int) == 0) :: .ptr 1 0 1 :: .ints .u32 l :: tops 30 (.ptr 1 0 0 :: .bool s :: tops 1 (.sl 48 0 0 :: .sl 49 0 0 :: .sl 3 0 0 :: .int .i64 (↑(l7 ++ [45]).length : Int) :: .int .i64 (IntKind.i64.wrap ((↑(l7 ++ [45]).length : Int) - 1)) :: tops 23 ([])))), nos 1 (varE [(false, .bool s), (false, .ints .u32 l)] :: nos 1 (rowE (.ints .u8 l8) :: nos 44 (rowE (.ints .u8 [45]) :: { g := 0, pg := 0, o := some (AObj.row { g := 0, own := false, v := .top }) } :: nos 26 ([]))))⟩
theorem round2 (s : Bool) (l : List Int) (l6 : List Int) (x8 : Int) (x9 : Int) (l7 : List Int) (l8 : List Int) : goL T orc (noTab) D2 L2 (st2 s l l6 x8 x9 l7 l8) =
    (bif decide (x8 < x9) then (bif inB x9 l8.length then (bif inB x8 l8.length then (bif inB x8 l8.length then (bif inB x9 (l8.set x8.toNat (rd l8 x9)).length then some (.normal, st2 s l l6 (IntKind.i64.wrap (x8 + 1)) (IntKind.i64.wrap (x9 - 1)) l7 ((l8.set x8.toNat (rd l8 x9)).set x9.toNat (rd l8 x8))) else none) else none) else none) else none) else some (.exit 4, st2 s l l6 x8 x9 l7 l8)) := by kernel_rfl
-- loop 2 ends exit4 st2 s l l6 x8 x9 l7 l8
noncomputable def L2a : Code := lp Try.f24 2
theorem isL2a : ∃ a, L2a = .loop a := ⟨_, rfl⟩
abbrev D2a : List Nat := [0, 1, 2, 3, 4, 7, 8, 9, 10, 11, 12, 13, 14, 45, 46, 50, 51, 52]
abbrev st2a (s : Bool) (l : List Int) (l6 : List Int) (x12 : Int) (x13 : Int) (l7 : List Int) (l10 : List Int) : St := ⟨.agg [.bool s, .ints .u32 l] :: .ptr 1 0 0 :: .str { data := #[] } :: .sl 3 0 0 :: .ints .u32 l6 :: tops 2 (.int .i64 x12 :: .int .i64 x13 :: .ptr 1 0 1 :: .ints .u32 l :: .int .i64 (↑l.length : Int) :: .bool ((↑l.length : Int) == 0) :: .ptr 1 0 1 :: .ints .u32 l :: tops 30 (.ptr 1 0 0 :: .bool s :: tops 3 (.sl 3 0 0 :: .int .i64 (↑l7.length : Int) :: .int .i64 (IntKind.i64.wrap ((↑l7.length : Int) - 1)) :: tops 23 ([])))), nos 1 (varE [(false, .bool s), (false, .ints .u32 l)] :: nos 1 (rowE (.ints .u8 l10) :: nos 72 ([])))⟩
theorem round2a (s : Bool) (l : List Int) (l6 : List Int) (x12 : Int) (x13 : Int) (l7 : List Int) (l10 : List Int) : goL T orc (noTab) D2a L2a (st2a s l l6 x12 x13 l7 l10) =
    (bif decide (x12 < x13) then (bif inB x13 l10.length then (bif inB x12 l10.length then (bif inB x12 l10.length then (bif inB x13 (l10.set x12.toNat (rd l10 x13)).length then some (.normal, st2a s l l6 (IntKind.i64.wrap (x12 + 1)) (IntKind.i64.wrap (x13 - 1)) l7 ((l10.set x12.toNat (rd l10 x13)).set x13.toNat (rd l10 x12))) else none) else none) else none) else none) else some (.exit 4, st2a s l l6 x12 x13 l7 l10)) := by kernel_rfl
-- loop 2a ends exit4 st2a s l l6 x12 x13 l7 l10
theorem rest (s : Bool) (l : List Int) (l11 : List Int) (l6 : List Int) (l7 : List Int) (x14 : Int) (x15 : Int) (l9 : List Int) (x10 : Int) (x11 : Int) : runT T orc (tabOf T orc [(5, 15434082659904209709542942231877832302031806041980364213475750064431526063267439400497114862, .exit 0, st0 s l l6 l7), (16, 15434082555087357858496525075334599536407372846674721766738814902332179473980859833014742766, .exit 4, st2 s l l6 x10 x11 l7 l9), (16, 15434082555087357858496525075334599536407372846674721766740194106185227787569688246102191854, .exit 4, st2a s l l6 x14 x15 l7 l11)]) Try.f24 [.agg [.bool s, .ints .u32 l]] =
    (bif (↑l.length : Int) == 0 then some (.val (.str { data := #[48] })) else (bif cdec (Ends T orc L0 D0 (st0 s l l ([])) (.exit 0) (st0 s l l6 l7)) then (bif s then (bif true && decide ((l7 ++ [45]).length * 1 ≤ 140737488355328) then (bif cdec (Ends T orc L2 D2 (st2 s l l6 (0) (IntKind.i64.wrap ((↑(l7 ++ [45]).length : Int) - 1)) l7 (l7 ++ [45])) (.exit 4) (st2 s l l6 x10 x11 l7 l9)) then some (.val (.str (strOf l9))) else none) else none) else (bif cdec (Ends T orc L2a D2a (st2a s l l6 (0) (IntKind.i64.wrap ((↑l7.length : Int) - 1)) l7 l7) (.exit 4) (st2a s l l6 x14 x15 l7 l11)) then some (.val (.str (strOf l11))) else none)) else none)) := by kernel_rfl
end Text
end Go.Abs
end
section
/- What arith's functions answer, in whole numbers: sums of lists, powers, texts. -/
namespace Go.Abs
open Go.Proofs Go.Dig
theorem rowOk_iff {B : Int} (hB : 2 ≤ B) {k : IntKind} {c : List AV} : rowOk B k c = true ↔ ∃ z : Int, c = [.bool (sg z), .ints k (lb B z)] ∧ z.natAbs < Lim := by
  unfold rowOk
  constructor
  · intro h
    split at h
    · rename_i s k' l
      rw [Bool.and_eq_true] at h
      obtain ⟨h1, h2⟩ := h
      obtain ⟨z, rfl, rfl, hz⟩ := (cn_iff hB).1 h2
      exact ⟨z, by rw [show k = k' by simpa using h1], hz⟩
    · cases h
  · rintro ⟨z, rfl, hz⟩
    simp [cn_lb hB, hz]
theorem rowN_row {B : Int} (hB : 2 ≤ B) (k : IntKind) (z : Int) : rowN B [.bool (sg z), .ints k (lb B z)] = z := num_lb hB z
theorem sumZ_err {a : Int} {l : List Int} : sumZ a l = none → ∀ pre : List Int, True := fun _ _ => trivial
theorem fits_pow_mono {x : Int} (h2 : 2 ≤ x.natAbs) {m n : Nat} (hmn : m ≤ n) (h : fits (x ^ m) = false) : fits (x ^ n) = false := by
  rw [Bool.eq_false_iff] at h ⊢
  rw [ne_eq, fits_iff, Int.natAbs_pow] at h ⊢
  intro hn
  refine h (Nat.lt_of_le_of_lt ?_ hn)
  exact Nat.pow_le_pow_right (by omega) hmn
theorem neg_one_pow (n : Nat) : (-1 : Int) ^ n = if n % 2 = 0 then 1 else -1 := by
  induction n with
  | zero => rfl
  | succ n ih =>
    rw [Int.pow_succ, ih]
    by_cases h : n % 2 = 0
    · rw [if_pos h, if_neg (by omega)]; rfl
    · rw [if_neg h, if_pos (by omega)]; rfl
end Go.Abs
end
section
/- What arith.Text and arith.Small answer. -/
namespace Go.Abs
open Go.Proofs Go.Dig
/-- A number's digits, cut at a place. -/
theorem limbs_split {B : Int} (hB : 2 ≤ B) {v : Int} (h0 : 0 ≤ v) (k : Nat) (h : 0 < v / B ^ k) : limbs B v = digN B k v ++ limbs B (v / B ^ k) := by
  have hq : 0 ≤ v / B ^ k := by omega
  have hn : limbs B (v / B ^ k) ≠ [] := fun hc => by have := (limbs_nil hB hq).1 hc; omega
  have ok : okB B (digN B k v ++ limbs B (v / B ^ k)) = true := okB_app (digN_ok (by omega) _ _) (limbs_ok (by omega) _)
  have hl : (digN B k v ++ limbs B (v / B ^ k)).getLast? ≠ some 0 := by
    rw [List.getLast?_append]
    cases hg : (limbs B (v / B ^ k)).getLast? with
    | none => exact absurd (List.getLast?_eq_none_iff.1 hg) hn
    | some d =>
      intro h
      simp at h
      exact limbs_last B (v / B ^ k) (by rw [hg, h])
  have hp : (0 : Int) < B ^ k := Int.pow_pos (by omega)
  have hv : val B (digN B k v ++ limbs B (v / B ^ k)) = v := by
    rw [val_append, digN_length, limbs_val hB hq]
    have h1 : digN B k v = digN B k (v % B ^ k) := by
      have : ∀ (k : Nat) (v w : Int), digN B k (v + B ^ k * w) = digN B k v := by
        intro k
        induction k with
        | zero => intro v w; rfl
        | succ k ih =>
          intro v w
          simp only [digN]
          have e : B ^ (k + 1) * w = B * (B ^ k * w) := by rw [Int.pow_succ, Int.mul_comm (B ^ k) B, Int.mul_assoc]
          rw [e, Int.add_mul_emod_self_left, Int.add_mul_ediv_left _ _ (by omega), ih]
      have h2 := this k (v % B ^ k) (v / B ^ k)
      rw [Int.emod_add_mul_ediv] at h2
      exact h2
    rw [h1, val_digN (by omega) _ _ (Int.emod_nonneg _ (by omega)) (Int.emod_lt_of_pos _ hp), Int.emod_add_mul_ediv]
  have := limbs_self hB ok hl
  rw [hv] at this
  exact this
theorem digN_emod {B : Int} (hB : 0 < B) (k : Nat) (v : Int) : digN B k (v % B ^ k) = digN B k v := by
  have : ∀ (k : Nat) (v w : Int), digN B k (v + B ^ k * w) = digN B k v := by
    intro k
    induction k with
    | zero => intro v w; rfl
    | succ k ih =>
      intro v w
      simp only [digN]
      have e : B ^ (k + 1) * w = B * (B ^ k * w) := by rw [Int.pow_succ, Int.mul_comm (B ^ k) B, Int.mul_assoc]
      rw [e, Int.add_mul_emod_self_left, Int.add_mul_ediv_left _ _ (by omega), ih]
  have h2 := this k (v % B ^ k) (v / B ^ k)
  rw [Int.emod_add_mul_ediv] at h2
  exact h2.symm
def asc (l : List Int) : List Int := l.map (· + 48)
theorem asc_len (l : List Int) : (asc l).length = l.length := List.length_map ..
theorem asc_app (l m : List Int) : asc (l ++ m) = asc l ++ asc m := List.map_append ..
namespace Text
/-- The digits of a piece, behind what was found. -/
theorem inner (s : Bool) (l : List Int) (v : Int) (l3 : List Int) (hv : 0 ≤ v) (h3 : l3.length ≤ 100000) :
    ∃ e S1, Ends T orc L1 D1 (st1 s l (limbs 4294967296 v) (v % 1000000000) 0 l3) e S1 ∧ (e = .exit 2 ∧ ∃ x k, S1 = st1 s l (limbs 4294967296 v) x k (l3 ++ asc (if 0 < v / 1000000000 then digN 10 9 v else limbs 10 v))) := by
  have hq : 0 ≤ v / 1000000000 := by omega
  have hvl : val 4294967296 (limbs 4294967296 v) = v := limbs_val W_two hv
  have hnl : ((limbs 4294967296 (v / 1000000000)).length : Int) > 0 ↔ 0 < v / 1000000000 := by
    have := limbs_nil W_two hq
    constructor
    · intro h
      refine Int.lt_of_not_ge (fun hc => ?_)
      have : v / 1000000000 = 0 := by omega
      rw [this] at h
      simp [limbs, digN, strip] at h
    · intro h
      have : limbs 4294967296 (v / 1000000000) ≠ [] := fun hc => by have := this.1 hc; omega
      have := List.length_pos_iff.2 this
      omega
  obtain ⟨r, hr⟩ : ∃ r, v % 1000000000 = r := ⟨_, rfl⟩
  rw [hr]
  refine loop_inv3 (fun x (k : Nat) l4 => st1 s l (limbs 4294967296 v) x k l4) (fun x k l4 => k ≤ 9 ∧ x = r / 10 ^ k ∧ l4 = l3 ++ asc (digN 10 k r) ∧ (0 < v / 1000000000 ∨ k = 0 ∨ 0 < r / 10 ^ (k - 1))) (fun x k l4 => 9 - k)
    (fun e S1 => e = .exit 2 ∧ ∃ x k, S1 = st1 s l (limbs 4294967296 v) x k (l3 ++ asc (if 0 < v / 1000000000 then digN 10 9 v else limbs 10 v))) isL1 ?_ r 0 l3 ?_
  · intro x k l4 ⟨k1, k2, k3, k4⟩
    refine ⟨noTab, noTab_all, lands_of (round1 ..) ?_⟩
    rw [hvl]
    have hp : (0 : Int) < 10 ^ k := Int.pow_pos (by decide)
    have hx0 : 0 ≤ x := by rw [k2]; exact Int.ediv_nonneg (by omega) (by omega)
    have hx1 : x ≤ r := by rw [k2]; exact Int.ediv_le_self _ (by omega)
    have em : x.tmod 10 = x % 10 := Int.tmod_eq_emod_of_nonneg hx0
    have ed : x.tdiv 10 = x / 10 := Int.tdiv_eq_ediv_of_nonneg hx0
    have ew : IntKind.u8.wrap (IntKind.u32.wrap (48 + x.tmod 10)) = x % 10 + 48 := by
      rw [em, wu32 (by omega) (by omega), IntWalk.u8_in _ ⟨by omega, by omega⟩]; omega
    have ed2 : IntKind.u32.wrap (x.tdiv 10) = x / 10 := by rw [ed, wu32 (by omega) (by omega)]
    have hlen : (l4 ++ [x % 10 + 48]).length * 1 ≤ 140737488355328 := by
      rw [List.length_append, k3, List.length_append, asc_len, digN_length, List.length_singleton]; omega
    have next : k < 9 → 0 < x ∨ 0 < v / 1000000000 → k + 1 ≤ 9 ∧ x / 10 = r / 10 ^ (k + 1) ∧ l4 ++ [x % 10 + 48] = l3 ++ asc (digN 10 (k + 1) r) ∧ (0 < v / 1000000000 ∨ k + 1 = 0 ∨ 0 < r / 10 ^ (k + 1 - 1)) := by
      intro hk hor
      refine ⟨by omega, ?_, ?_, ?_⟩
      · rw [k2, Int.pow_succ, Int.ediv_ediv_of_nonneg (by omega)]
      · rw [k3, digN_succ (by decide), asc_app, List.append_assoc, k2]; rfl
      · rw [Nat.add_sub_cancel, ← k2]; omega
    have fin : (0 < v / 1000000000 → k = 9) → (¬ 0 < v / 1000000000 → x = 0) → l4 = l3 ++ asc (if 0 < v / 1000000000 then digN 10 9 v else limbs 10 v) := by
      intro f1 f2
      rw [k3]
      by_cases hb : 0 < v / 1000000000
      · rw [if_pos hb, f1 hb, ← hr]
        have := digN_emod (B := 10) (by decide) 9 v
        rw [show (10 : Int) ^ 9 = 1000000000 from rfl] at this
        rw [this]
      · rw [if_neg hb]
        have hvr : r = v := by omega
        have hx := f2 hb
        rw [hvr] at k2 k4 ⊢
        have hlt : v < 10 ^ k := by
          refine Int.not_le.1 (fun hc => ?_)
          have : 1 ≤ v / 10 ^ k := (Int.le_ediv_iff_mul_le hp).2 (by omega)
          omega
        rw [← limbs_of (by decide) hv hlt, strip_of_last]
        rcases k4 with k4 | k4 | k4
        · exact absurd k4 hb
        · rw [k4]; simp [digN]
        · cases k with
          | zero => simp [digN]
          | succ k =>
            rw [digN_succ (by decide), List.getLast?_append]
            rw [Nat.add_sub_cancel] at k4
            have : v / 10 ^ k < 10 := by
              have hp2 : (0 : Int) < 10 ^ k := Int.pow_pos (by decide)
              refine Int.ediv_lt_of_lt_mul hp2 ?_
              rw [Int.mul_comm, ← Int.pow_succ]; exact hlt
            have : v / 10 ^ k % 10 ≠ 0 := by omega
            simpa using this
    rw [ew, ed2]
    by_cases hk : k < 9
    · rw [decide_eq_true (show (k : Int) < 9 by omega), decide_eq_true hlen, wi_succ (show k < 4611686018427387904 by omega)]
      by_cases hb : 0 < v / 1000000000
      · rw [decide_eq_true (hnl.2 hb)]
        simp only [Bool.and_self, cond_true, lands_some, Turns3]
        exact ⟨_, k + 1, _, rfl, next hk (.inr hb), by omega⟩
      · rw [decide_eq_false (fun h => hb (hnl.1 h))]
        by_cases hx : x > 0
        · rw [decide_eq_true hx]
          simp only [Bool.and_self, cond_true, cond_false, lands_some, Turns3]
          exact ⟨_, k + 1, _, rfl, next hk (.inl hx), by omega⟩
        · rw [decide_eq_false hx]
          simp only [cond_true, cond_false, lands_some, Turns3]
          exact ⟨trivial, _, _, by rw [fin (fun h => absurd h hb) (fun _ => by omega)]⟩
    · rw [decide_eq_false (show ¬ (k : Int) < 9 by omega)]
      simp only [cond_false, lands_some, Turns3]
      have h9 : k = 9 := by omega
      have hx0 : x = 0 := by
        rw [k2, h9, show (10 : Int) ^ 9 = 1000000000 from rfl]
        omega
      exact ⟨trivial, _, _, by rw [fin (fun _ => h9) (fun _ => hx0)]⟩
  · exact ⟨by omega, by simp, by simp [digN, asc], .inr (.inl rfl)⟩
theorem outer (s : Bool) (l : List Int) (V : Int) (hV : 0 ≤ V) (hd : (limbs 10 V).length ≤ 20000) (hl : l = limbs 4294967296 V) (hlen : (limbs 4294967296 V).length ≤ 10000) :
    ∃ e S1, Ends T orc L0 D0 (st0 s l l []) e S1 ∧ (e = .exit 0 ∧ ∃ m, S1 = st0 s l m (asc (limbs 10 V))) := by
  have key := loop_inv2 (T := T) (orc := orc) (L := L0) (D := D0) (fun (v : Int) l3 => st0 s l (limbs 4294967296 v) l3) (fun v l3 => 0 ≤ v ∧ v ≤ V ∧ ∃ ds, l3 = asc ds ∧ ds ++ limbs 10 v = limbs 10 V) (fun v l3 => v.toNat)
    (fun e S1 => e = .exit 0 ∧ ∃ m, S1 = st0 s l m (asc (limbs 10 V))) isL0 ?_ V [] ⟨hV, Int.le_refl _, [], rfl, rfl⟩
  · rw [← hl] at key; exact key
  · intro v l3 ⟨v0, v1, ds, hds, hap⟩
    have hdl : ds.length ≤ 20000 := by
      have := congrArg List.length hap
      rw [List.length_append] at this
      omega
    have hvl : val 4294967296 (limbs 4294967296 v) = v := limbs_val W_two v0
    by_cases hv : v = 0
    · subst hv
      refine ⟨_, tabOf_all _, lands_of (round0 s l _ l3 [] 0 0) ?_⟩
      have e0 : limbs 4294967296 0 = [] := rfl
      have e1 : limbs 10 0 = [] := rfl
      rw [e0]
      simp only [List.length_nil, lands_bif, lands_some, lands_none, Turns1, Turns2, Turns3, Turns4, Turns5, Turns6, Turns7, Turns8, eq_bif, Option.some.injEq, reduceCtorEq, cond_true, cond_false, Bool.eq_false_iff, ne_eq, inB_iff, decide_eq_true_eq, Bool.and_eq_true, Bool.or_eq_true, Bool.not_eq_true', beq_iff_eq, bne_iff_ne, true_and, and_true, true_implies, implies_true, not_true_eq_false, not_false_eq_true, false_implies, few_iff]
      refine ⟨fun h => absurd h (by decide), fun _ => ⟨[], ?_⟩⟩
      rw [e1, List.append_nil] at hap
      rw [← hap, hds]
    · obtain ⟨e1, S1, hE1, rfl, x, k, rfl⟩ := inner s l v l3 v0 (by rw [hds, asc_len]; omega)
      refine ⟨_, tabOf_all _, lands_of (round0 s l _ l3 (l3 ++ asc (if 0 < v / 1000000000 then digN 10 9 v else limbs 10 v)) x k) ?_⟩
      have hne : limbs 4294967296 v ≠ [] := fun h => hv ((limbs_nil W_two v0).1 h)
      have hpos := List.length_pos_iff.2 hne
      have hfew : few (limbs 4294967296 v) = true := by
        refine few_iff.2 ?_
        have := limbs_length W_two v0 (n := (limbs 4294967296 V).length) (by
          have := val_lt W_pos (limbs_ok W_pos V)
          rw [limbs_val W_two hV] at this
          omega)
        omega
      rw [hvl, hfew, limbs_ok W_pos, decide_eq_true (show ((limbs 4294967296 v).length : Int) > 0 by omega), cdec_true hE1]
      simp only [Bool.and_self, cond_true, lands_some, Turns2]
      refine ⟨v / 1000000000, _, rfl, ⟨by omega, by omega, ds ++ (if 0 < v / 1000000000 then digN 10 9 v else limbs 10 v), by rw [hds, asc_app], ?_⟩, by omega⟩
      rw [← hap, List.append_assoc]
      congr 1
      by_cases hb : 0 < v / 1000000000
      · rw [if_pos hb]
        exact (limbs_split (by decide) v0 9 hb).symm
      · rw [if_neg hb, show v / 1000000000 = 0 by omega]
        exact List.append_nil _
/-- A row turned about in its place. -/
def Turned (L : List Int) (i : Nat) (l : List Int) : Prop := l.length = L.length ∧ ∀ k, k < L.length → l.getD k 0 = if k < i ∨ L.length < i + k + 1 then L.getD (L.length - 1 - k) 0 else L.getD k 0
theorem turned_next {L l : List Int} {i : Nat} (h : Turned L i l) (hi : i + i + 1 < L.length) : Turned L (i + 1) ((l.set i (l.getD (L.length - 1 - i) 0)).set (L.length - 1 - i) (l.getD i 0)) := by
  obtain ⟨h1, h2⟩ := h
  refine ⟨by simp [h1], fun k hk => ?_⟩
  by_cases e1 : k = L.length - 1 - i
  · subst e1
    rw [getD_set_self (by rw [List.length_set]; omega), h2 i (by omega), if_neg (by omega), if_pos (by omega)]
    congr 1; omega
  · rw [getD_set_ne (Ne.symm e1)]
    by_cases e2 : k = i
    · subst e2
      rw [getD_set_self (by omega), h2 _ (by omega), if_neg (by omega), if_pos (by omega)]
    · rw [getD_set_ne (Ne.symm e2), h2 k hk]
      by_cases e3 : k < i ∨ L.length < i + k + 1
      · rw [if_pos e3, if_pos (by omega)]
      · rw [if_neg e3, if_neg (by omega)]
theorem turned_end {L l : List Int} {i : Nat} (h : Turned L i l) (hi : L.length ≤ i + i + 1) : l = L.reverse := by
  obtain ⟨h1, h2⟩ := h
  apply List.ext_getElem (by simp [h1])
  intro k q1 q2
  have := h2 k (by omega)
  rw [getD_at q1] at this
  rw [this, List.getElem_reverse]
  by_cases e : k < i ∨ L.length < i + k + 1
  · rw [if_pos e, getD_at (by omega)]
  · rw [if_neg e, getD_at (by omega)]
    congr 1; omega
theorem turned_zero (L : List Int) : Turned L 0 L := ⟨rfl, fun k hk => by rw [if_neg (by omega)]⟩
theorem turn (s : Bool) (l m l7 : List Int) (L : List Int) (hL : L.length ≤ 100000) :
    ∃ e S1, Ends T orc L2 D2 (st2 s l m 0 ((L.length : Int) - 1) l7 L) e S1 ∧ (e = .exit 4 ∧ ∃ x y, S1 = st2 s l m x y l7 L.reverse) := by
  refine loop_inv2 (fun (i : Nat) l8 => st2 s l m i ((L.length : Int) - 1 - i) l7 l8) (fun i l8 => Turned L i l8 ∧ i ≤ L.length) (fun i l8 => L.length - i)
    (fun e S1 => e = .exit 4 ∧ ∃ x y, S1 = st2 s l m x y l7 L.reverse) isL2 ?_ 0 L ⟨turned_zero L, by omega⟩ |> fun h => by simpa using h
  intro i l8 ⟨h, hi⟩
  refine ⟨noTab, noTab_all, lands_of (round2 ..) ?_⟩
  have hl := h.1
  by_cases hc : i + i + 1 < L.length
  · have e1 : ((L.length : Int) - 1 - i) = ((L.length - 1 - i : Nat) : Int) := by omega
    have e2 : IntKind.i64.wrap (((L.length - 1 - i : Nat) : Int) - 1) = (L.length : Int) - 1 - ((i + 1 : Nat) : Int) := by rw [w64 (by omega) (by omega)]; omega
    rw [e1, e2, wi_succ (show i < 4611686018427387904 by omega), decide_eq_true (show (i : Int) < ((L.length - 1 - i : Nat) : Int) by omega)]
    simp only [lands_bif, lands_some, lands_none, Turns1, Turns2, Turns3, Turns4, Turns5, Turns6, Turns7, Turns8, eq_bif, Option.some.injEq, reduceCtorEq, cond_true, cond_false, Bool.eq_false_iff, ne_eq, inB_iff, decide_eq_true_eq, Bool.and_eq_true, Bool.or_eq_true, Bool.not_eq_true', beq_iff_eq, bne_iff_ne, true_and, and_true, true_implies, implies_true, not_true_eq_false, not_false_eq_true, false_implies, few_iff, List.length_set]
    simp only [rd_toNat, Int.toNat_natCast]
    repeat' (first | apply And.intro | intro _)
    all_goals try omega
    exact ⟨i + 1, _, rfl, ⟨turned_next h hc, by omega⟩, by omega⟩
  · rw [decide_eq_false (show ¬ (i : Int) < ((L.length : Int) - 1 - i) by omega)]
    simp only [cond_false, lands_some, Turns2]
    exact ⟨trivial, _, _, by rw [turned_end h (by omega)]⟩
theorem turna (s : Bool) (l m l7 : List Int) (L : List Int) (hL : L.length ≤ 100000) :
    ∃ e S1, Ends T orc L2a D2a (st2a s l m 0 ((L.length : Int) - 1) l7 L) e S1 ∧ (e = .exit 4 ∧ ∃ x y, S1 = st2a s l m x y l7 L.reverse) := by
  refine loop_inv2 (fun (i : Nat) l8 => st2a s l m i ((L.length : Int) - 1 - i) l7 l8) (fun i l8 => Turned L i l8 ∧ i ≤ L.length) (fun i l8 => L.length - i)
    (fun e S1 => e = .exit 4 ∧ ∃ x y, S1 = st2a s l m x y l7 L.reverse) isL2a ?_ 0 L ⟨turned_zero L, by omega⟩ |> fun h => by simpa using h
  intro i l8 ⟨h, hi⟩
  refine ⟨noTab, noTab_all, lands_of (round2a ..) ?_⟩
  have hl := h.1
  by_cases hc : i + i + 1 < L.length
  · have e1 : ((L.length : Int) - 1 - i) = ((L.length - 1 - i : Nat) : Int) := by omega
    have e2 : IntKind.i64.wrap (((L.length - 1 - i : Nat) : Int) - 1) = (L.length : Int) - 1 - ((i + 1 : Nat) : Int) := by rw [w64 (by omega) (by omega)]; omega
    rw [e1, e2, wi_succ (show i < 4611686018427387904 by omega), decide_eq_true (show (i : Int) < ((L.length - 1 - i : Nat) : Int) by omega)]
    simp only [lands_bif, lands_some, lands_none, Turns1, Turns2, Turns3, Turns4, Turns5, Turns6, Turns7, Turns8, eq_bif, Option.some.injEq, reduceCtorEq, cond_true, cond_false, Bool.eq_false_iff, ne_eq, inB_iff, decide_eq_true_eq, Bool.and_eq_true, Bool.or_eq_true, Bool.not_eq_true', beq_iff_eq, bne_iff_ne, true_and, and_true, true_implies, implies_true, not_true_eq_false, not_false_eq_true, false_implies, few_iff, List.length_set]
    simp only [rd_toNat, Int.toNat_natCast]
    repeat' (first | apply And.intro | intro _)
    all_goals try omega
    exact ⟨i + 1, _, rfl, ⟨turned_next h hc, by omega⟩, by omega⟩
  · rw [decide_eq_false (show ¬ (i : Int) < ((L.length : Int) - 1 - i) by omega)]
    simp only [cond_false, lands_some, Turns2]
    exact ⟨trivial, _, _, by rw [turned_end h (by omega)]⟩
end Text
theorem asc_dig (l : List Int) : (asc l).reverse = dig l := by
  unfold asc dig
  rw [List.map_reverse]
theorem small_digits {z : Int} (h : z.natAbs < Lim) : (limbs 10 (az z)).length ≤ 10000 := lb10_length h
theorem meets_text : Meets Try.prog 24 ansText := by
  refine meets_fn (orc_ok (l := Text.ans) ⟨meets_part, trivial⟩) Try.f24 rfl (by kernel_rfl) (fun args r h => ?_)
  unfold ansText at h
  split at h
  · rename_i s l
    simp only [Option.some.injEq, Prod.mk.injEq] at h
    obtain ⟨h, rfl⟩ := h
    obtain ⟨z, hs, hl, hz⟩ := (cn_iff W_two).1 h
    have nz : num 4294967296 s l = z := by rw [hs, hl]; exact num_lbW z
    rw [nz]
    refine ⟨rfl, ?_⟩
    by_cases h0 : z = 0
    · refine ⟨_, tabOf_all _, (Text.rest s l [] [] [] 0 0 [] 0 0).trans ?_⟩
      rw [hl, h0]
      have : (((lb 4294967296 0).length : Int) == 0) = true := rfl
      have ht : txt 0 = ⟨#[48]⟩ := by kernel_rfl
      rw [this, cond_true, ht]
    · have hn : lb 4294967296 z ≠ [] := fun h => h0 ((lb_nil W_two).1 h)
      have hlz : l = limbs 4294967296 (az z) := hl
      have hlp : 0 < l.length := by rw [hl]; exact List.length_pos_iff.2 hn
      have hd := small_digits hz
      have hlw : (limbs 4294967296 (az z)).length ≤ 1100 := lb_length hz
      obtain ⟨e1, S1, hE1, rfl, m, rfl⟩ := Text.outer s l (az z) (az_nonneg z) (by omega) hlz (by omega)
      have hne : ((l.length : Int) == 0) = false := by rw [beq_eq_false_iff_ne]; omega
      have htx : txtL z = (if z < 0 then [45] else []) ++ dig (limbs 10 (az z)) := by unfold txtL; rw [if_neg h0]; rfl
      have hal : (asc (limbs 10 (az z))).length ≤ 10000 := by rw [asc_len]; exact hd
      by_cases hneg : z < 0
      · have hs1 : s = true := by rw [hs]; exact decide_eq_true hneg
        obtain ⟨e2, S2, hE2, rfl, x, y, rfl⟩ := Text.turn s l m (asc (limbs 10 (az z))) (asc (limbs 10 (az z)) ++ [45]) (by rw [List.length_append, List.length_singleton]; omega)
        refine ⟨_, tabOf_all _, (Text.rest s l [] m (asc (limbs 10 (az z))) 0 0 ((asc (limbs 10 (az z)) ++ [45]).reverse) x y).trans ?_⟩
        have hw : IntKind.i64.wrap (((asc (limbs 10 (az z)) ++ [45]).length : Int) - 1) = ((asc (limbs 10 (az z)) ++ [45]).length : Int) - 1 := by
          rw [w64 (by omega) (by rw [List.length_append, List.length_singleton]; omega)]
        have hlen : ((asc (limbs 10 (az z)) ++ [45]).length * 1 ≤ 140737488355328) := by rw [List.length_append, List.length_singleton]; omega
        rw [hne, cdec_true hE1, hw, cdec_true hE2, decide_eq_true hlen]
        have ht : (asc (limbs 10 (az z)) ++ [45]).reverse = txtL z := by rw [htx, if_pos hneg, List.reverse_append, asc_dig]; rfl
        rw [ht, hs1]
        rfl
      · have hs1 : s = false := by rw [hs]; exact decide_eq_false hneg
        obtain ⟨e2, S2, hE2, rfl, x, y, rfl⟩ := Text.turna s l m (asc (limbs 10 (az z))) (asc (limbs 10 (az z))) (by omega)
        refine ⟨_, tabOf_all _, (Text.rest s l ((asc (limbs 10 (az z))).reverse) m (asc (limbs 10 (az z))) x y [] 0 0).trans ?_⟩
        have hw : IntKind.i64.wrap (((asc (limbs 10 (az z))).length : Int) - 1) = ((asc (limbs 10 (az z))).length : Int) - 1 := by
          rw [w64 (by omega) (by omega)]
        rw [hne, cdec_true hE1, hw, cdec_true hE2]
        have ht : (asc (limbs 10 (az z))).reverse = txtL z := by rw [htx, if_neg hneg, asc_dig]; rfl
        rw [ht, hs1]
        rfl
  · cases h
end Go.Abs
end
section
/- What arith.Parse answers. -/
namespace Go.Abs
open Go.Proofs Go.Dig
theorem bytes_len (s : ByteArray) : (bytesOf s).length = s.size := by
  unfold bytesOf
  rw [List.length_map]
  rfl
theorem bt_nat (s : ByteArray) (i : Nat) : bt s (i : Int) = (bytesOf s).getD i 0 := by
  unfold bt bytesOf
  rw [Int.toNat_natCast, List.getD_eq_getElem?_getD, List.getD_eq_getElem?_getD, List.getElem?_map]
  cases s.data.toList[i]? <;> rfl
theorem bytes_extract (s : ByteArray) (a b : Nat) : bytesOf (s.extract a b) = ((bytesOf s).take b).drop a := by
  unfold bytesOf
  rw [ByteArray.data_extract, Array.toList_extract, ← List.map_take, ← List.map_drop]
  congr 1
  simp [List.extract, List.drop_take]
theorem dval_app (l m : List Int) : dval (l ++ m) = dval l * 10 ^ m.length + dval m := by
  unfold dval
  rw [List.reverse_append, List.map_append, val_append, List.length_map, List.length_reverse, Int.mul_comm]
  omega
theorem dval_one (c : Int) : dval [c] = c - 48 := by simp [dval, val]
theorem dig_iff {c : Int} : isDig c = true ↔ 48 ≤ c ∧ c ≤ 57 := by unfold isDig; simp
theorem dval_bound : ∀ (l : List Int), l.all isDig = true → 0 ≤ dval l ∧ dval l < 10 ^ l.length := by
  intro l h
  have ok : okB 10 (l.reverse.map (· - 48)) = true := by
    refine okB_iff.2 (fun d hd => ?_)
    obtain ⟨c, hc, rfl⟩ := List.mem_map.1 hd
    have := dig_iff.1 (List.all_eq_true.1 h c (List.mem_reverse.1 hc))
    omega
  have h1 := val_lt (by decide) ok
  rw [List.length_map, List.length_reverse] at h1
  exact ⟨val_nonneg (by decide) ok, h1⟩
theorem all_take {l : List Int} (h : l.all isDig = true) (n : Nat) : (l.take n).all isDig = true := List.all_eq_true.2 fun x hx => List.all_eq_true.1 h x (List.mem_of_mem_take hx)
theorem all_drop {l : List Int} (h : l.all isDig = true) (n : Nat) : (l.drop n).all isDig = true := List.all_eq_true.2 fun x hx => List.all_eq_true.1 h x (List.mem_of_mem_drop hx)
theorem pow10_le {k : Nat} (h : k ≤ 9) : (1 : Int) ≤ 10 ^ k ∧ (10 : Int) ^ k ≤ 1000000000 := by
  have h1 : (10 : Int) ^ k * 10 ^ (9 - k) = 1000000000 := by rw [← Int.pow_add, show k + (9 - k) = 9 by omega]; rfl
  have h2 : (0 : Int) < 10 ^ k := Int.pow_pos (by decide)
  have h3 : (0 : Int) < 10 ^ (9 - k) := Int.pow_pos (by decide)
  refine ⟨by omega, ?_⟩
  have : (10 : Int) ^ k * 1 ≤ 10 ^ k * 10 ^ (9 - k) := Int.mul_le_mul_of_nonneg_left (by omega) (by omega)
  omega
theorem scaleL_ok (l : List Int) (m a : Int) : okB 4294967296 (scaleL l m a) = true := by
  unfold scaleL
  cases decide (val 4294967296 l * m + a < 4294967296 ^ l.length) <;> exact digN_ok W_pos _ _
theorem scaleL_len (l : List Int) (m a : Int) : (scaleL l m a).length ≤ l.length + 1 := by
  unfold scaleL
  cases decide (val 4294967296 l * m + a < 4294967296 ^ l.length) <;> simp only [cond_true, cond_false] <;> rw [digN_length] <;> omega
theorem scaleL_val {l : List Int} {m a : Int} (ol : okB 4294967296 l = true) (hm : 0 ≤ m ∧ m < 4294967296) (ha : 0 ≤ a ∧ a < 4294967296) : val 4294967296 (scaleL l m a) = val 4294967296 l * m + a := by
  have v0 := val_nonneg W_pos ol
  have v1 := val_lt W_pos ol
  have h0 : 0 ≤ val 4294967296 l * m := Int.mul_nonneg v0 hm.1
  have hP : (0 : Int) < 4294967296 ^ l.length := Int.pow_pos (by decide)
  unfold scaleL
  by_cases h : val 4294967296 l * m + a < 4294967296 ^ l.length
  · rw [decide_eq_true h]
    exact val_digN W_pos _ _ (by omega) h
  · rw [decide_eq_false h]
    refine val_digN W_pos _ _ (by omega) ?_
    rw [Int.pow_succ]
    have h1 : val 4294967296 l * m ≤ (4294967296 ^ l.length - 1) * 4294967295 := Int.mul_le_mul (by omega) (by omega) hm.1 (by omega)
    rw [Int.sub_mul] at h1
    omega
theorem min_eq (n i : Nat) (hn : n ≤ 100000) (hi : i ≤ n) : (bif false then if (n : Int) > IntKind.i64.wrap ((i : Int) + 9) then (n : Int) else IntKind.i64.wrap ((i : Int) + 9) else if (n : Int) < IntKind.i64.wrap ((i : Int) + 9) then (n : Int) else IntKind.i64.wrap ((i : Int) + 9)) = ((min (i + 9) n : Nat) : Int) := by
  rw [w64 (by omega) (by omega)]
  simp only [cond_false]
  split <;> omega
namespace Parse
theorem validA (s : ByteArray) (hD : s.size ≤ 10000) (b6 b7 b8 : Bool) :
    ∃ e S1, Ends T orc L0a D0a (st0a s b6 b7 b8 0) e S1 ∧ ((e = .exit 0 ∧ (bytesOf s).all isDig = true ∧ ∃ x, S1 = st0a s b6 b7 b8 x) ∨ (e = .ret ∧ (bytesOf s).all isDig = false ∧ ∃ x, S1 = st0ax0 s 10 b6 b7 b8 x)) := by
  refine loop_inv1 (fun (i : Nat) => st0a s b6 b7 b8 i) (fun i => i ≤ s.size ∧ ((bytesOf s).take i).all isDig = true) (fun i => s.size - i)
    (fun e S1 => (e = .exit 0 ∧ (bytesOf s).all isDig = true ∧ ∃ x, S1 = st0a s b6 b7 b8 x) ∨ (e = .ret ∧ (bytesOf s).all isDig = false ∧ ∃ x, S1 = st0ax0 s 10 b6 b7 b8 x)) isL0a ?_ 0 ⟨by omega, rfl⟩
  intro i ⟨h1, h2⟩
  refine ⟨noTab, noTab_all, lands_of (round0a ..) ?_⟩
  have hlen := bytes_len s
  by_cases hi : i < s.size
  · have hmem : (bytesOf s).getD i 0 ∈ bytesOf s := by rw [getD_at (by omega)]; exact List.getElem_mem _
    have bad : isDig ((bytesOf s).getD i 0) = false → (bytesOf s).all isDig = false := by
      intro hb
      rw [Bool.eq_false_iff]
      intro hall
      rw [List.all_eq_true.1 hall _ hmem] at hb
      cases hb
    simp only [lands_bif, lands_some, lands_none, Turns1, Turns2, Turns3, Turns4, Turns5, Turns6, Turns7, Turns8, eq_bif, Option.some.injEq, reduceCtorEq, cond_true, cond_false, Bool.eq_false_iff, ne_eq, inB_iff, decide_eq_true_eq, Bool.and_eq_true, Bool.or_eq_true, Bool.not_eq_true', beq_iff_eq, bne_iff_ne, true_and, and_true, true_implies, implies_true, not_true_eq_false, not_false_eq_true, false_implies, few_iff, bt_nat, wi_succ (show i < 4611686018427387904 by omega)]
    repeat' (first | apply And.intro | intro _)
    all_goals try omega
    · refine .inr ⟨Bool.eq_false_iff.1 (bad ?_), _, rfl⟩
      rw [Bool.eq_false_iff, ne_eq, dig_iff]; omega
    · refine .inr ⟨Bool.eq_false_iff.1 (bad ?_), _, rfl⟩
      rw [Bool.eq_false_iff, ne_eq, dig_iff]; omega
    · refine ⟨i + 1, rfl, ⟨by omega, ?_⟩, by omega⟩
      rw [take_succ_getD _ (by omega), List.all_append, h2, Bool.true_and]
      simp only [List.all_cons, List.all_nil, Bool.and_true]
      rw [dig_iff]; omega
  · obtain rfl : i = s.size := by omega
    rw [decide_eq_false (by omega)]
    simp only [cond_false, lands_some, Turns1]
    rw [List.take_of_length_le (by omega)] at h2
    exact .inl ⟨trivial, h2, _, rfl⟩
theorem pieceA (s : ByteArray) (i : Nat) (l0 : List Int) (b12 b13 b14 : Bool) (x8 : Int) (hD : s.size ≤ 10000) (hi : i ≤ s.size) (hall : (bytesOf s).all isDig = true) (a : List Int) (ha : a = ((bytesOf s).drop i).take 9) :
    ∃ e S1, Ends T orc L2 D2 (st2 s b12 i 0 1 b13 b14 x8 0 l0) e S1 ∧ (e = .exit 4 ∧ S1 = (st2 s b12 i (dval a) (10 ^ a.length) b13 b14 x8 (a.length : Nat) l0)) := by
  have hlen := bytes_len s
  have hm := min_eq s.size i (by omega) hi
  have hex : bytesOf (s.extract i (min (i + 9) s.size)) = a := by
    rw [bytes_extract, ha, List.take_drop]
    by_cases h9 : i + 9 ≤ s.size
    · rw [Nat.min_eq_left h9]
    · rw [Nat.min_eq_right (by omega), List.take_of_length_le (by omega), List.take_of_length_le (by omega)]
  have hsz : (s.extract i (min (i + 9) s.size)).size = a.length := by rw [← bytes_len, hex]
  have hal : a.length ≤ 9 := by rw [ha, List.length_take]; omega
  have haall : a.all isDig = true := by rw [ha]; exact all_take (all_drop hall i) 9
  refine loop_inv1 (fun (k : Nat) => (st2 s b12 i (dval (a.take k)) (10 ^ k) b13 b14 x8 k l0)) (fun k => k ≤ a.length) (fun k => a.length - k)
    (fun e S1 => e = .exit 4 ∧ S1 = (st2 s b12 i (dval a) (10 ^ a.length) b13 b14 x8 (a.length : Nat) l0)) isL2 ?_ 0 (by omega)
  intro k hk
  refine ⟨noTab, noTab_all, lands_of (round2 ..) ?_⟩
  rw [hm, Int.toNat_natCast, Int.toNat_natCast, hsz]
  by_cases hk2 : k < a.length
  · have hc := dig_iff.1 (List.all_eq_true.1 haall (a.getD k 0) (by rw [getD_at hk2]; exact List.getElem_mem _))
    obtain ⟨d0, d1⟩ := dval_bound _ (all_take haall k)
    rw [List.length_take, Nat.min_eq_left hk] at d1
    obtain ⟨p1, p2⟩ := pow10_le (show k ≤ 9 by omega)
    obtain ⟨q1, q2⟩ := pow10_le (show k + 1 ≤ 9 by omega)
    have hb : bt (s.extract i (min (i + 9) s.size)) (k : Int) = a.getD k 0 := by rw [bt_nat, hex]
    have e1 : IntKind.u8.wrap (a.getD k 0 - 48) = a.getD k 0 - 48 := IntWalk.u8_in _ ⟨by omega, by omega⟩
    have e2 : dval (a.take (k + 1)) = dval (a.take k) * 10 + (a.getD k 0 - 48) := by
      rw [take_succ_getD a hk2, dval_app, dval_one]; rfl
    have hk8 : k ≤ 8 := by omega
    obtain ⟨_, p3⟩ := pow10_le (show k + 1 ≤ 9 by omega)
    rw [Int.pow_succ] at q2 p3
    rw [hb, e1, wu32 (n := a.getD k 0 - 48) (by omega) (by omega), wu32 (n := dval (a.take k) * 10) (by omega) (by omega), wu32 (n := dval (a.take k) * 10 + (a.getD k 0 - 48)) (by omega) (by omega), wu32 (n := (10 : Int) ^ k * 10) (by omega) (by omega), ← e2, ← Int.pow_succ, wi_succ (show k < 4611686018427387904 by omega), decide_eq_true (show (k : Int) < (a.length : Int) by omega), bT (inB_iff.2 (by omega))]
    simp only [cond_true, lands_some, Turns1]
    exact ⟨k + 1, rfl, by omega, by omega⟩
  · obtain rfl : k = a.length := by omega
    rw [decide_eq_false (by omega), List.take_length]
    simp only [cond_false, lands_some, Turns1]
    exact ⟨trivial, trivial⟩
theorem mainA (s : ByteArray) (b12 b13 b14 : Bool) (x8 : Int) (hD : s.size ≤ 10000) (hall : (bytesOf s).all isDig = true) :
    ∃ e S1, Ends T orc L1 D1 (st1 s b12 0 b13 b14 x8 []) e S1 ∧ (e = .exit 2 ∧ ∃ x l, S1 = (st1 s b12 x b13 b14 x8 l) ∧ okB 4294967296 l = true ∧ l.length ≤ 20000 ∧ val 4294967296 l = dval (bytesOf s)) := by
  have hlen := bytes_len s
  refine loop_inv2 (fun (i : Nat) l0 => (st1 s b12 i b13 b14 x8 l0)) (fun i l0 => okB 4294967296 l0 = true ∧ l0.length ≤ i ∧ i ≤ s.size + 9 ∧ val 4294967296 l0 = dval ((bytesOf s).take i)) (fun i l0 => s.size + 9 - i)
    (fun e S1 => e = .exit 2 ∧ ∃ x l, S1 = (st1 s b12 x b13 b14 x8 l) ∧ okB 4294967296 l = true ∧ l.length ≤ 20000 ∧ val 4294967296 l = dval (bytesOf s)) isL1 ?_ 0 [] ⟨rfl, by simp, by omega, rfl⟩
  intro i l0 ⟨h1, h2, h3, h4⟩
  by_cases hi : i < s.size
  · obtain ⟨a, ha⟩ : ∃ a, a = ((bytesOf s).drop i).take 9 := ⟨_, rfl⟩
    obtain ⟨e1, S1, hE1, rfl, rfl⟩ := pieceA s i l0 b12 b13 b14 x8 hD (by omega) hall a ha
    obtain ⟨m, hm9⟩ : ∃ m, a.length = m := ⟨_, rfl⟩
    rw [hm9] at hE1
    refine ⟨_, tabOf_all _, lands_of (round1 s b12 i b13 b14 x8 l0 (10 ^ m) (dval a) m) ?_⟩
    have hm := min_eq s.size i (by omega) (by omega)
    have hal : a.length ≤ 9 := by rw [ha, List.length_take]; omega
    have haall : a.all isDig = true := by rw [ha]; exact all_take (all_drop hall i) 9
    obtain ⟨d0, d1⟩ := dval_bound _ haall
    obtain ⟨p1, p2⟩ := pow10_le hal
    rw [hm9] at d1 p1 p2
    have ew : IntKind.i64.wrap ((i : Int) + 9) = ((i + 9 : Nat) : Int) := by rw [w64 (by omega) (by omega)]; omega
    rw [hm, cdec_true hE1, decide_eq_true (show (i : Int) < (s.size : Int) by omega), decide_eq_true (show (0 : Int) ≤ (i : Int) by omega), decide_eq_true (show (i : Int) ≤ ((min (i + 9) s.size : Nat) : Int) by omega), decide_eq_true (show ((min (i + 9) s.size : Nat) : Int) ≤ (s.size : Int) by omega), h1, few_iff.2 (show l0.length ≤ 100000 by omega), decide_eq_true (show (0 : Int) ≤ 10 ^ m by omega), decide_eq_true (show (10 : Int) ^ m < 4294967296 by omega), decide_eq_true d0, decide_eq_true (show dval a < 4294967296 by omega), ew]
    simp only [Bool.and_self, cond_true, lands_some, Turns2]
    have hsl := scaleL_len l0 (10 ^ m) (dval a)
    refine ⟨i + 9, _, rfl, ⟨scaleL_ok _ _ _, by omega, by omega, ?_⟩, by omega⟩
    rw [scaleL_val h1 ⟨by omega, by omega⟩ ⟨d0, by omega⟩, h4, List.take_add, ← ha, dval_app, hm9]
  · refine ⟨_, tabOf_all _, lands_of (round1 s b12 i b13 b14 x8 l0 1 0 0) ?_⟩
    rw [decide_eq_false (by omega)]
    simp only [cond_false, lands_some, Turns2]
    rw [List.take_of_length_le (by omega)] at h4
    exact ⟨trivial, _, _, rfl, h1, by omega, h4⟩
theorem validB (s : ByteArray) (hD : (s.extract 1 s.size).size ≤ 10000) (b0 : Bool) :
    ∃ e S1, Ends T orc L0 D0 (st0 s b0 0) e S1 ∧ ((e = .exit 0 ∧ (bytesOf (s.extract 1 s.size)).all isDig = true ∧ ∃ x, S1 = st0 s b0 x) ∨ (e = .ret ∧ (bytesOf (s.extract 1 s.size)).all isDig = false ∧ ∃ x, S1 = st0x0 s 10 b0 x)) := by
  refine loop_inv1 (fun (i : Nat) => st0 s b0 i) (fun i => i ≤ (s.extract 1 s.size).size ∧ ((bytesOf (s.extract 1 s.size)).take i).all isDig = true) (fun i => (s.extract 1 s.size).size - i)
    (fun e S1 => (e = .exit 0 ∧ (bytesOf (s.extract 1 s.size)).all isDig = true ∧ ∃ x, S1 = st0 s b0 x) ∨ (e = .ret ∧ (bytesOf (s.extract 1 s.size)).all isDig = false ∧ ∃ x, S1 = st0x0 s 10 b0 x)) isL0 ?_ 0 ⟨by omega, rfl⟩
  intro i ⟨h1, h2⟩
  refine ⟨noTab, noTab_all, lands_of (round0 ..) ?_⟩
  have hlen := bytes_len (s.extract 1 s.size)
  by_cases hi : i < (s.extract 1 s.size).size
  · have hmem : (bytesOf (s.extract 1 s.size)).getD i 0 ∈ bytesOf (s.extract 1 s.size) := by rw [getD_at (by omega)]; exact List.getElem_mem _
    have bad : isDig ((bytesOf (s.extract 1 s.size)).getD i 0) = false → (bytesOf (s.extract 1 s.size)).all isDig = false := by
      intro hb
      rw [Bool.eq_false_iff]
      intro hall
      rw [List.all_eq_true.1 hall _ hmem] at hb
      cases hb
    simp only [lands_bif, lands_some, lands_none, Turns1, Turns2, Turns3, Turns4, Turns5, Turns6, Turns7, Turns8, eq_bif, Option.some.injEq, reduceCtorEq, cond_true, cond_false, Bool.eq_false_iff, ne_eq, inB_iff, decide_eq_true_eq, Bool.and_eq_true, Bool.or_eq_true, Bool.not_eq_true', beq_iff_eq, bne_iff_ne, true_and, and_true, true_implies, implies_true, not_true_eq_false, not_false_eq_true, false_implies, few_iff, bt_nat, wi_succ (show i < 4611686018427387904 by omega)]
    repeat' (first | apply And.intro | intro _)
    all_goals try omega
    · refine .inr ⟨Bool.eq_false_iff.1 (bad ?_), _, rfl⟩
      rw [Bool.eq_false_iff, ne_eq, dig_iff]; omega
    · refine .inr ⟨Bool.eq_false_iff.1 (bad ?_), _, rfl⟩
      rw [Bool.eq_false_iff, ne_eq, dig_iff]; omega
    · refine ⟨i + 1, rfl, ⟨by omega, ?_⟩, by omega⟩
      rw [take_succ_getD _ (by omega), List.all_append, h2, Bool.true_and]
      simp only [List.all_cons, List.all_nil, Bool.and_true]
      rw [dig_iff]; omega
  · obtain rfl : i = (s.extract 1 s.size).size := by omega
    rw [decide_eq_false (by omega)]
    simp only [cond_false, lands_some, Turns1]
    rw [List.take_of_length_le (by omega)] at h2
    exact .inl ⟨trivial, h2, _, rfl⟩
theorem pieceB (s : ByteArray) (i : Nat) (l0 : List Int) (b15 : Bool) (x23 : Int) (hD : (s.extract 1 s.size).size ≤ 10000) (hi : i ≤ (s.extract 1 s.size).size) (hall : (bytesOf (s.extract 1 s.size)).all isDig = true) (a : List Int) (ha : a = ((bytesOf (s.extract 1 s.size)).drop i).take 9) :
    ∃ e S1, Ends T orc L2a D2a (st2a s i 0 1 b15 x23 0 l0) e S1 ∧ (e = .exit 4 ∧ S1 = (st2a s i (dval a) (10 ^ a.length) b15 x23 (a.length : Nat) l0)) := by
  have hlen := bytes_len (s.extract 1 s.size)
  have hm := min_eq (s.extract 1 s.size).size i (by omega) hi
  have hex : bytesOf ((s.extract 1 s.size).extract i (min (i + 9) (s.extract 1 s.size).size)) = a := by
    rw [bytes_extract, ha, List.take_drop]
    by_cases h9 : i + 9 ≤ (s.extract 1 s.size).size
    · rw [Nat.min_eq_left h9]
    · rw [Nat.min_eq_right (by omega), List.take_of_length_le (by omega), List.take_of_length_le (by omega)]
  have hsz : ((s.extract 1 s.size).extract i (min (i + 9) (s.extract 1 s.size).size)).size = a.length := by rw [← bytes_len, hex]
  have hal : a.length ≤ 9 := by rw [ha, List.length_take]; omega
  have haall : a.all isDig = true := by rw [ha]; exact all_take (all_drop hall i) 9
  refine loop_inv1 (fun (k : Nat) => (st2a s i (dval (a.take k)) (10 ^ k) b15 x23 k l0)) (fun k => k ≤ a.length) (fun k => a.length - k)
    (fun e S1 => e = .exit 4 ∧ S1 = (st2a s i (dval a) (10 ^ a.length) b15 x23 (a.length : Nat) l0)) isL2a ?_ 0 (by omega)
  intro k hk
  refine ⟨noTab, noTab_all, lands_of (round2a ..) ?_⟩
  rw [hm, Int.toNat_natCast, Int.toNat_natCast, hsz]
  by_cases hk2 : k < a.length
  · have hc := dig_iff.1 (List.all_eq_true.1 haall (a.getD k 0) (by rw [getD_at hk2]; exact List.getElem_mem _))
    obtain ⟨d0, d1⟩ := dval_bound _ (all_take haall k)
    rw [List.length_take, Nat.min_eq_left hk] at d1
    obtain ⟨p1, p2⟩ := pow10_le (show k ≤ 9 by omega)
    obtain ⟨q1, q2⟩ := pow10_le (show k + 1 ≤ 9 by omega)
    have hb : bt ((s.extract 1 s.size).extract i (min (i + 9) (s.extract 1 s.size).size)) (k : Int) = a.getD k 0 := by rw [bt_nat, hex]
    have e1 : IntKind.u8.wrap (a.getD k 0 - 48) = a.getD k 0 - 48 := IntWalk.u8_in _ ⟨by omega, by omega⟩
    have e2 : dval (a.take (k + 1)) = dval (a.take k) * 10 + (a.getD k 0 - 48) := by
      rw [take_succ_getD a hk2, dval_app, dval_one]; rfl
    have hk8 : k ≤ 8 := by omega
    obtain ⟨_, p3⟩ := pow10_le (show k + 1 ≤ 9 by omega)
    rw [Int.pow_succ] at q2 p3
    rw [hb, e1, wu32 (n := a.getD k 0 - 48) (by omega) (by omega), wu32 (n := dval (a.take k) * 10) (by omega) (by omega), wu32 (n := dval (a.take k) * 10 + (a.getD k 0 - 48)) (by omega) (by omega), wu32 (n := (10 : Int) ^ k * 10) (by omega) (by omega), ← e2, ← Int.pow_succ, wi_succ (show k < 4611686018427387904 by omega), decide_eq_true (show (k : Int) < (a.length : Int) by omega), bT (inB_iff.2 (by omega))]
    simp only [cond_true, lands_some, Turns1]
    exact ⟨k + 1, rfl, by omega, by omega⟩
  · obtain rfl : k = a.length := by omega
    rw [decide_eq_false (by omega), List.take_length]
    simp only [cond_false, lands_some, Turns1]
    exact ⟨trivial, trivial⟩
theorem mainB (s : ByteArray) (b15 : Bool) (x23 : Int) (hD : (s.extract 1 s.size).size ≤ 10000) (hall : (bytesOf (s.extract 1 s.size)).all isDig = true) :
    ∃ e S1, Ends T orc L1a D1a (st1a s 0 b15 x23 []) e S1 ∧ (e = .exit 2 ∧ ∃ x l, S1 = (st1a s x b15 x23 l) ∧ okB 4294967296 l = true ∧ l.length ≤ 20000 ∧ val 4294967296 l = dval (bytesOf (s.extract 1 s.size))) := by
  have hlen := bytes_len (s.extract 1 s.size)
  refine loop_inv2 (fun (i : Nat) l0 => (st1a s i b15 x23 l0)) (fun i l0 => okB 4294967296 l0 = true ∧ l0.length ≤ i ∧ i ≤ (s.extract 1 s.size).size + 9 ∧ val 4294967296 l0 = dval ((bytesOf (s.extract 1 s.size)).take i)) (fun i l0 => (s.extract 1 s.size).size + 9 - i)
    (fun e S1 => e = .exit 2 ∧ ∃ x l, S1 = (st1a s x b15 x23 l) ∧ okB 4294967296 l = true ∧ l.length ≤ 20000 ∧ val 4294967296 l = dval (bytesOf (s.extract 1 s.size))) isL1a ?_ 0 [] ⟨rfl, by simp, by omega, rfl⟩
  intro i l0 ⟨h1, h2, h3, h4⟩
  by_cases hi : i < (s.extract 1 s.size).size
  · obtain ⟨a, ha⟩ : ∃ a, a = ((bytesOf (s.extract 1 s.size)).drop i).take 9 := ⟨_, rfl⟩
    obtain ⟨e1, S1, hE1, rfl, rfl⟩ := pieceB s i l0 b15 x23 hD (by omega) hall a ha
    obtain ⟨m, hm9⟩ : ∃ m, a.length = m := ⟨_, rfl⟩
    rw [hm9] at hE1
    refine ⟨_, tabOf_all _, lands_of (round1a s i b15 x23 l0 (10 ^ m) (dval a) m) ?_⟩
    have hm := min_eq (s.extract 1 s.size).size i (by omega) (by omega)
    have hal : a.length ≤ 9 := by rw [ha, List.length_take]; omega
    have haall : a.all isDig = true := by rw [ha]; exact all_take (all_drop hall i) 9
    obtain ⟨d0, d1⟩ := dval_bound _ haall
    obtain ⟨p1, p2⟩ := pow10_le hal
    rw [hm9] at d1 p1 p2
    have ew : IntKind.i64.wrap ((i : Int) + 9) = ((i + 9 : Nat) : Int) := by rw [w64 (by omega) (by omega)]; omega
    rw [hm, cdec_true hE1, decide_eq_true (show (i : Int) < ((s.extract 1 s.size).size : Int) by omega), decide_eq_true (show (0 : Int) ≤ (i : Int) by omega), decide_eq_true (show (i : Int) ≤ ((min (i + 9) (s.extract 1 s.size).size : Nat) : Int) by omega), decide_eq_true (show ((min (i + 9) (s.extract 1 s.size).size : Nat) : Int) ≤ ((s.extract 1 s.size).size : Int) by omega), h1, few_iff.2 (show l0.length ≤ 100000 by omega), decide_eq_true (show (0 : Int) ≤ 10 ^ m by omega), decide_eq_true (show (10 : Int) ^ m < 4294967296 by omega), decide_eq_true d0, decide_eq_true (show dval a < 4294967296 by omega), ew]
    simp only [Bool.and_self, cond_true, lands_some, Turns2]
    have hsl := scaleL_len l0 (10 ^ m) (dval a)
    refine ⟨i + 9, _, rfl, ⟨scaleL_ok _ _ _, by omega, by omega, ?_⟩, by omega⟩
    rw [scaleL_val h1 ⟨by omega, by omega⟩ ⟨d0, by omega⟩, h4, List.take_add, ← ha, dval_app, hm9]
  · refine ⟨_, tabOf_all _, lands_of (round1a s i b15 x23 l0 1 0 0) ?_⟩
    rw [decide_eq_false (by omega)]
    simp only [cond_false, lands_some, Turns2]
    rw [List.take_of_length_le (by omega)] at h4
    exact ⟨trivial, _, _, rfl, h1, by omega, h4⟩
end Parse
theorem dval_cons (c : Int) (l : List Int) : dval (c :: l) = (c - 48) * 10 ^ l.length + dval l := by
  have := dval_app [c] l
  rw [dval_one] at this
  exact this
theorem ten_343 : (2 : Nat) ^ 1024 ≤ 10 ^ 343 := Nat.le_of_ble_eq_true (by kernel_rfl)
set_option exponentiation.threshold 20000 in
theorem ten_Lim : (10 : Nat) ^ 343 < Lim := Nat.lt_of_not_le (fun h => by
  have h2 : Nat.ble Lim (10 ^ 343) = true := Nat.ble_eq_true_of_le h
  have h3 : Nat.ble Lim (10 ^ 343) = false := by kernel_rfl
  rw [h3] at h2; cases h2)
set_option exponentiation.threshold 20000 in
theorem big_fits {z : Int} (h : (10 : Int) ^ 343 ≤ az z) : fits z = false := by
  unfold fits
  rw [decide_eq_false_iff_not]
  intro h2
  have h3 := ten_343
  unfold az at h
  have h4 : ((10 ^ 343 : Nat) : Int) ≤ ((z.natAbs : Nat) : Int) := by rw [Int.natCast_pow]; exact h
  have h5 : (10 ^ 343 : Nat) ≤ z.natAbs := Int.ofNat_le.1 h4
  exact Nat.lt_irrefl _ (Nat.lt_of_lt_of_le h2 (Nat.le_trans h3 h5))
theorem dval_big {l : List Int} (hall : l.all isDig = true) (h0 : l.getD 0 0 ≠ 48) (hl : l.length > 343) : (10 : Int) ^ 343 ≤ dval l := by
  cases l with
  | nil => simp at hl
  | cons c l =>
    rw [List.all_cons, Bool.and_eq_true] at hall
    have hc := dig_iff.1 hall.1
    have h0 : c ≠ 48 := h0
    have hb := dval_bound l hall.2
    rw [List.length_cons] at hl
    have hp := pow_mono (B := 10) (by decide) (show 343 ≤ l.length by omega)
    rw [dval_cons]
    have : 1 * (10 : Int) ^ l.length ≤ (c - 48) * 10 ^ l.length := Int.mul_le_mul_of_nonneg_right (by omega) (by have := hb.1; omega)
    omega
set_option exponentiation.threshold 20000 in
theorem dval_lim {l : List Int} (hall : l.all isDig = true) (hl : l.length ≤ 343) : (dval l).natAbs < Lim := by
  have hb := dval_bound l hall
  have hp := pow_mono (B := 10) (by decide) hl
  have h1 : dval l < ((10 ^ 343 : Nat) : Int) := by rw [Int.natCast_pow]; exact Int.lt_of_lt_of_le hb.2 hp
  exact Nat.lt_trans (by omega) ten_Lim
def formD (d : List Int) (n : Bool) : Bool := !d.isEmpty && !(d.getD 0 0 == 48 && (decide (d.length > 1) || n)) && d.all isDig
theorem rv_bad {s : ByteArray} {d : List Int} {n : Bool} (hd : digs (bytesOf s) = d) (hn : hasNeg (bytesOf s) = n) (h : formD d n = false) : some (Res.val (.tup [.agg [.bool false, .ints .u32 []], .int .i64 10])) = some (.val (.tup [R (rv s), .int .i64 (re s)])) := by
  unfold rv re form
  rw [hd, hn, show (!d.isEmpty && !(d.getD 0 0 == 48 && (decide (d.length > 1) || n)) && d.all isDig) = false from h]
  rfl
theorem rv_good {s : ByteArray} {d : List Int} {n : Bool} (hd : digs (bytesOf s) = d) (hn : hasNeg (bytesOf s) = n) (h : formD d n = true) : rv s = hz (bif n then - dval d else dval d) ∧ re s = he (bif n then - dval d else dval d) := by
  unfold rv re form tval
  rw [hd, hn, show (!d.isEmpty && !(d.getD 0 0 == 48 && (decide (d.length > 1) || n)) && d.all isDig) = true from h, cond_true, cond_true]
  exact ⟨rfl, rfl⟩
theorem rv_long {s : ByteArray} {d : List Int} {n : Bool} (hd : digs (bytesOf s) = d) (hn : hasNeg (bytesOf s) = n) (h : formD d n = true) (hl : d.length > 343) : some (Res.val (.tup [.agg [.bool false, .ints .u32 []], .int .i64 11])) = some (.val (.tup [R (rv s), .int .i64 (re s)])) := by
  obtain ⟨h1, h2⟩ := rv_good hd hn h
  have h0 : d.getD 0 0 ≠ 48 := by
    intro h0
    unfold formD at h
    rw [h0, decide_eq_true (show d.length > 1 by omega)] at h
    simp at h
  have hall : d.all isDig = true := by unfold formD at h; rw [Bool.and_eq_true] at h; exact h.2
  have hb := dval_big hall h0 hl
  have hf : fits (bif n then - dval d else dval d) = false := big_fits (by cases n <;> simp only [cond_true, cond_false, az] <;> omega)
  rw [h1, h2]
  unfold hz he
  rw [hf]
  rfl
theorem rv_read {s : ByteArray} {d : List Int} {n : Bool} (hd : digs (bytesOf s) = d) (hn : hasNeg (bytesOf s) = n) (h : formD d n = true) (hl : d.length ≤ 343) {l : List Int} (ok : okB 4294967296 l = true) (hll : l.length ≤ 20000) (hv : val 4294967296 l = dval d) :
    (bif few l && okB (4294967296) l then (bif cn (4294967296) (sg (num (4294967296) n l)) (lb (4294967296) (num (4294967296) n l)) then some (Res.val (.tup [R (hz (N (4294967296) (num (4294967296) n l))), .int .i64 (he (N (4294967296) (num (4294967296) n l)))])) else none) else none) = some (.val (.tup [R (rv s), .int .i64 (re s)])) := by
  obtain ⟨h1, h2⟩ := rv_good hd hn h
  have hall : d.all isDig = true := by unfold formD at h; rw [Bool.and_eq_true] at h; exact h.2
  have hlim := dval_lim hall hl
  have hs : (bif n then - dval d else dval d).natAbs < Lim := by cases n <;> simp only [cond_true, cond_false, Int.natAbs_neg] <;> exact hlim
  rw [few_iff.2 (show l.length ≤ 100000 by omega), ok, num_of hv, cnW, decide_eq_true hs, N_eq, h1, h2]
  rfl
theorem neg_of (s : ByteArray) (h : bt s 0 = 45) : 0 < s.size ∧ hasNeg (bytesOf s) = true ∧ digs (bytesOf s) = bytesOf (s.extract 1 s.size) := by
  have h1 := bt_nat s 0
  rw [show ((0 : Nat) : Int) = 0 from rfl, h] at h1
  have h2 := bytes_len s
  rw [bytes_extract]
  unfold digs hasNeg
  cases hl : bytesOf s with
  | nil => rw [hl] at h1; simp at h1
  | cons c l =>
    rw [hl] at h1 h2
    have h1 : (45 : Int) = c := h1
    rw [← h1, ← h2]
    refine ⟨by simp, by simp, by simp⟩
theorem pos_of (s : ByteArray) (h : bt s 0 ≠ 45) : hasNeg (bytesOf s) = false ∧ digs (bytesOf s) = bytesOf s := by
  have h1 := bt_nat s 0
  rw [show ((0 : Nat) : Int) = 0 from rfl] at h1
  unfold digs hasNeg
  cases hl : bytesOf s with
  | nil => exact ⟨rfl, rfl⟩
  | cons c l =>
    rw [hl] at h1
    have h1 : bt s 0 = c := h1
    have : (c == 45) = false := by rw [beq_eq_false_iff_ne]; omega
    simp [this]
theorem formD_eq (d : List Int) (n : Bool) : formD d n = true ↔ (d ≠ [] ∧ ¬ (d.getD 0 0 = 48 ∧ (d.length > 1 ∨ n = true)) ∧ d.all isDig = true) := by
  unfold formD
  rw [Bool.and_eq_true, Bool.and_eq_true, and_assoc]
  refine and_congr ?_ (and_congr ?_ Iff.rfl)
  · cases d <;> simp
  · rw [Bool.not_eq_true', ← Bool.not_eq_true, Bool.and_eq_true, Bool.or_eq_true, beq_iff_eq, decide_eq_true_eq]
theorem meets_parse : Meets Try.prog 15 ansParse := by
  refine meets_fn (orc_ok (l := Parse.ans) ⟨meets_norm, meets_held, meets_scale, trivial⟩) Try.f15 rfl (by kernel_rfl) (fun args r h => ?_)
  unfold ansParse at h
  split at h
  · rename_i s
    simp only [Option.some.injEq, Prod.mk.injEq] at h
    obtain ⟨h, rfl⟩ := h
    have hsz := of_decide_eq_true h
    refine ⟨rfl, ?_⟩
    by_cases h45 : bt s 0 = 45
    · obtain ⟨h0, hn, hd⟩ := neg_of s h45
      obtain ⟨D, hD⟩ : ∃ D, D = s.extract 1 s.size := ⟨_, rfl⟩
      have hDs : D.size ≤ 10000 := by rw [hD, ByteArray.size_extract]; omega
      have hlen := bytes_len D
      have hb0 := bt_nat D 0
      rw [show ((0 : Nat) : Int) = 0 from rfl] at hb0
      rw [← hD] at hd
      have e0 : (bt s 0 == 45) = true := by rw [h45]; rfl
      by_cases hz0 : D.size = 0
      · refine ⟨_, tabOf_all _, (Parse.rest_0 s 0 true true true 0 0 true 0).trans ?_⟩
        rw [← hD, e0, decide_eq_true (show (s.size : Int) > 0 by omega), bT (inB_iff.2 (by omega : (0 : Int) ≤ 0 ∧ (0 : Int) < s.size)), decide_eq_true (show 1 ≤ (s.size : Int) by omega), show ((D.size : Int) == 0) = true by rw [beq_iff_eq]; omega]
        simp only [Bool.and_self, cond_true]
        exact rv_bad hd hn (by rw [← Bool.not_eq_true, formD_eq]; intro hh; exact hh.1 (List.eq_nil_of_length_eq_zero (by omega)))
      · by_cases h48 : bt D 0 = 48
        · refine ⟨_, tabOf_all _, (Parse.rest_0 s 0 true true true 0 0 true 0).trans ?_⟩
          rw [← hD, e0, decide_eq_true (show (s.size : Int) > 0 by omega), bT (inB_iff.2 (by omega : (0 : Int) ≤ 0 ∧ (0 : Int) < s.size)), decide_eq_true (show 1 ≤ (s.size : Int) by omega), show ((D.size : Int) == 0) = false by rw [beq_eq_false_iff_ne]; omega, bT (inB_iff.2 (by omega : (0 : Int) ≤ 0 ∧ (0 : Int) < D.size)), h48]
          have hbad : formD (bytesOf D) true = false := by rw [← Bool.not_eq_true, formD_eq]; intro hh; exact hh.2.1 ⟨by omega, .inr rfl⟩
          by_cases hg : (D.size : Int) > 1
          · rw [decide_eq_true hg]
            exact rv_bad hd hn hbad
          · rw [decide_eq_false hg]
            exact rv_bad hd hn hbad
        · have e48 : (bt D 0 == 48) = false := by rw [beq_eq_false_iff_ne]; exact h48
          obtain ⟨e1, S1, hE1, ⟨rfl, hall, x, rfl⟩ | ⟨rfl, hall, x, rfl⟩⟩ := Parse.validB s (by rw [← hD]; exact hDs) false
          · rw [← hD] at hall
            have hform : formD (bytesOf D) true = true := (formD_eq _ _).2 ⟨fun hh => by rw [hh] at hlen; exact hz0 hlen.symm, fun hh => h48 (by omega), hall⟩
            by_cases hbig : D.size > 343
            · refine ⟨_, tabOf_all _, (Parse.rest_2 s 0 true true true 0 [] false x 0).trans ?_⟩
              rw [cdec_true hE1, ← hD, e0, decide_eq_true (show (s.size : Int) > 0 by omega), bT (inB_iff.2 (by omega : (0 : Int) ≤ 0 ∧ (0 : Int) < s.size)), decide_eq_true (show 1 ≤ (s.size : Int) by omega), show ((D.size : Int) == 0) = false by rw [beq_eq_false_iff_ne]; omega, bT (inB_iff.2 (by omega : (0 : Int) ≤ 0 ∧ (0 : Int) < D.size)), e48, decide_eq_true (show (D.size : Int) > 343 by omega)]
              exact rv_long hd hn hform (by omega)
            · obtain ⟨e2, S2, hE2, rfl, y, l, rfl, ok, hll, hv⟩ := Parse.mainB s false x (by rw [← hD]; exact hDs) (by rw [← hD]; exact hall)
              rw [← hD] at hv
              refine ⟨_, tabOf_all _, (Parse.rest_2 s 0 true true true 0 l false x y).trans ?_⟩
              rw [cdec_true hE1, cdec_true hE2, ← hD, e0, decide_eq_true (show (s.size : Int) > 0 by omega), bT (inB_iff.2 (by omega : (0 : Int) ≤ 0 ∧ (0 : Int) < s.size)), decide_eq_true (show 1 ≤ (s.size : Int) by omega), show ((D.size : Int) == 0) = false by rw [beq_eq_false_iff_ne]; omega, bT (inB_iff.2 (by omega : (0 : Int) ≤ 0 ∧ (0 : Int) < D.size)), e48, decide_eq_false (show ¬ (D.size : Int) > 343 by omega)]
              exact rv_read hd hn hform (by omega) ok hll hv
          · rw [← hD] at hall
            refine ⟨_, tabOf_all _, (Parse.rest_0 s 0 true true true 0 10 false x).trans ?_⟩
            rw [cdec_true hE1, ← hD, e0, decide_eq_true (show (s.size : Int) > 0 by omega), bT (inB_iff.2 (by omega : (0 : Int) ≤ 0 ∧ (0 : Int) < s.size)), decide_eq_true (show 1 ≤ (s.size : Int) by omega), show ((D.size : Int) == 0) = false by rw [beq_eq_false_iff_ne]; omega, bT (inB_iff.2 (by omega : (0 : Int) ≤ 0 ∧ (0 : Int) < D.size)), e48]
            exact rv_bad hd hn (by rw [← Bool.not_eq_true, formD_eq]; intro hh; rw [hall] at hh; cases hh.2.2)
    · obtain ⟨hn, hd⟩ := pos_of s h45
      have hlen := bytes_len s
      have hb0 := bt_nat s 0
      rw [show ((0 : Nat) : Int) = 0 from rfl] at hb0
      have e0 : (bt s 0 == 45) = false := by rw [beq_eq_false_iff_ne]; exact h45
      by_cases hz0 : s.size = 0
      · refine ⟨_, tabOf_all _, (Parse.rest_0 s 0 true true true 0 0 true 0).trans ?_⟩
        rw [decide_eq_false (show ¬ (s.size : Int) > 0 by omega), show ((s.size : Int) == 0) = true by rw [beq_iff_eq]; omega]
        exact rv_bad hd hn (by rw [← Bool.not_eq_true, formD_eq]; intro hh; exact hh.1 (List.eq_nil_of_length_eq_zero (by omega)))
      · have hin : inB 0 s.size = true := inB_iff.2 (by omega)
        have key : (bt s 0 == 48 && decide ((s.size : Int) > 1)) = true ∨ (bt s 0 == 48 && decide ((s.size : Int) > 1)) = false := by cases (bt s 0 == 48 && decide ((s.size : Int) > 1)) <;> simp
        rcases key with key | key
        · rw [Bool.and_eq_true] at key
          have h48 : bt s 0 = 48 := by simpa using key.1
          have hg := of_decide_eq_true key.2
          refine ⟨_, tabOf_all _, (Parse.rest_0 s 0 true true true 0 0 true 0).trans ?_⟩
          rw [e0, decide_eq_true (show (s.size : Int) > 0 by omega), hin, show ((s.size : Int) == 0) = false by rw [beq_eq_false_iff_ne]; omega, key.1, key.2]
          simp only [hin, cond_true, cond_false]
          exact rv_bad hd hn (by rw [← Bool.not_eq_true, formD_eq]; intro hh; exact hh.2.1 ⟨by omega, .inl (by omega)⟩)
        · have join : ∀ (b c : Bool) (X Y : Option Res), (b && c) = false → (bif b then (bif c then X else Y) else Y) = Y := by intro b c X Y h; cases b <;> cases c <;> first | rfl | cases h
          have hno : ¬ ((bytesOf s).getD 0 0 = 48 ∧ ((bytesOf s).length > 1 ∨ false = true)) := by
            intro ⟨q1, q2⟩
            rw [← hb0] at q1
            rcases q2 with q2 | q2
            · rw [q1, decide_eq_true (show (s.size : Int) > 1 by omega)] at key; cases key
            · cases q2
          obtain ⟨e1, S1, hE1, ⟨rfl, hall, x, rfl⟩ | ⟨rfl, hall, x, rfl⟩⟩ := Parse.validA s hsz false true false
          · have hform : formD (bytesOf s) false = true := (formD_eq _ _).2 ⟨fun hh => by rw [hh] at hlen; exact hz0 hlen.symm, hno, hall⟩
            by_cases hbig : s.size > 343
            · refine ⟨_, tabOf_all _, (Parse.rest_1 s false [] true false x 0 0 true 0).trans ?_⟩
              rw [e0, decide_eq_true (show (s.size : Int) > 0 by omega), hin, show ((s.size : Int) == 0) = false by rw [beq_eq_false_iff_ne]; omega, cdec_true hE1, decide_eq_true (show (s.size : Int) > 343 by omega)]
              simp only [hin, cond_true, cond_false]
              exact (join _ _ _ _ key).trans (rv_long hd hn hform (by omega))
            · obtain ⟨e2, S2, hE2, rfl, y, l, rfl, ok, hll, hv⟩ := Parse.mainA s false true false x hsz hall
              refine ⟨_, tabOf_all _, (Parse.rest_1 s false l true false x y 0 true 0).trans ?_⟩
              rw [e0, decide_eq_true (show (s.size : Int) > 0 by omega), hin, show ((s.size : Int) == 0) = false by rw [beq_eq_false_iff_ne]; omega, cdec_true hE1, cdec_true hE2, decide_eq_false (show ¬ (s.size : Int) > 343 by omega)]
              simp only [hin, cond_true, cond_false]
              exact (join _ _ _ _ key).trans (rv_read hd hn hform (by omega) ok hll hv)
          · refine ⟨_, tabOf_all _, (Parse.rest_0 s 10 false true false x 0 true 0).trans ?_⟩
            rw [e0, decide_eq_true (show (s.size : Int) > 0 by omega), hin, show ((s.size : Int) == 0) = false by rw [beq_eq_false_iff_ne]; omega, cdec_true hE1]
            simp only [hin, cond_true, cond_false]
            exact (join _ _ _ _ key).trans (rv_bad hd hn (by rw [← Bool.not_eq_true, formD_eq]; intro hh; rw [hall] at hh; cases hh.2.2))
  · cases h
end Go.Abs
end
section
/- What the reference's functions of layer 1 answer: texts. -/
namespace Go.Abs
open Go.Proofs Go.Dig
namespace RShow
theorem loop (s : Bool) (l : List Int) (s0 : ByteArray) (ol : okB 10 l = true) (hl : l.length ≤ 10000) (h0 : (bytesOf s0).length ≤ 1) :
    ∃ e S1, Ends T noOrc L0 D0 (st0 s l s0 ((l.length : Int) - 1) (bytesOf s0)) e S1 ∧ (e = .exit 0 ∧ ∃ x, S1 = st0 s l s0 x (bytesOf s0 ++ dig l)) := by
  refine loop_inv2 (fun (i : Nat) l1 => st0 s l s0 ((i : Int) - 1) l1) (fun i l1 => i ≤ l.length ∧ l1 = bytesOf s0 ++ dig (l.drop i)) (fun i l1 => i)
    (fun e S1 => e = .exit 0 ∧ ∃ x, S1 = st0 s l s0 x (bytesOf s0 ++ dig l)) isL0 ?_ l.length (bytesOf s0) ⟨Nat.le_refl _, by rw [List.drop_length]; simp [dig]⟩
  intro i l1 ⟨h1, h2⟩
  refine ⟨noTab, noTab_all, lands_of (round0 ..) ?_⟩
  cases i with
  | zero =>
    rw [decide_eq_false (by omega)]
    rw [h2]
    exact lands_some.2 ⟨rfl, _, rfl⟩
  | succ i =>
    have ei : (((i + 1 : Nat) : Int) - 1) = (i : Int) := by omega
    rw [ei]
    have hd := getD_ok T_pos ol i
    have ew : IntKind.u8.wrap (IntKind.i64.wrap (48 + rd l (i : Int))) = l.getD i 0 + 48 := by
      rw [rd_toNat, Int.toNat_natCast, w64 (by omega) (by omega), IntWalk.u8_in _ ⟨by omega, by omega⟩]; omega
    rw [ew]
    have hlen : (l1 ++ [l.getD i 0 + 48]).length * 1 ≤ 140737488355328 := by
      rw [List.length_append, h2, List.length_append]; unfold dig; rw [List.length_map, List.length_reverse, List.length_drop, List.length_singleton]; omega
    refine (lands_of (bT (decide_eq_true (by omega))) ?_)
    refine (lands_of (bT (inB_iff.2 (by omega))) ?_)
    refine (lands_of (bT (by rw [Bool.true_and]; exact decide_eq_true hlen)) ?_)
    refine lands_some.2 ⟨i, _, by rw [w64 (by omega) (by omega)], ⟨by omega, ?_⟩, by show i < i + 1; omega⟩
    rw [h2, List.append_assoc]
    congr 1
    unfold dig
    rw [List.drop_eq_getElem_cons (by omega : i < l.length), List.reverse_cons, List.map_append, getD_at (by omega)]
    rfl
end RShow
theorem meets_rshow : Meets Try.prog 45 anrShow := by
  refine meets_fn noOrc_ok Try.f45 rfl (by kernel_rfl) (fun args r h => ?_)
  unfold anrShow at h
  split at h
  · rename_i s l
    simp only [Option.some.injEq, Prod.mk.injEq] at h
    obtain ⟨h1, rfl⟩ := h
    obtain ⟨z, hs, hl, hz⟩ := (cn_iff T_two).1 h1
    have nz : num 10 s l = z := by rw [hs, hl]; exact num_lb10 z
    rw [nz]
    have ol : okB 10 l = true := by rw [hl]; exact ok10_lb z
    have ll : l.length ≤ 10000 := by rw [hl]; exact lb10_length hz
    refine ⟨rfl, ?_⟩
    by_cases h0 : z = 0
    · subst h0
      have hl0 : l = [] := by rw [hl]; rfl
      subst hl0
      exact ⟨_, tabOf_all _, RShow.rest s [] [] ⟨#[]⟩ 0⟩
    · have hne : l.length ≠ 0 := fun h => h0 ((lb_nil T_two).1 (by rw [← hl]; exact List.eq_nil_of_length_eq_zero h))
      have e0 : ((l.length : Int) == 0) = false := by rw [beq_eq_false_iff_ne]; omega
      have ew : IntKind.i64.wrap ((l.length : Int) - 1) = (l.length : Int) - 1 := w64 (by omega) (by omega)
      have hd : dig l = dig (limbs 10 z.natAbs) := by rw [hl]; rfl
      cases hsb : s with
      | true =>
        have hneg : z < 0 := by rw [hsb] at hs; exact sg_neg.1 hs.symm
        obtain ⟨e1, S1, hE1, rfl, x, rfl⟩ := RShow.loop true l ⟨#[45]⟩ ol ll (by decide)
        refine ⟨_, tabOf_all _, (RShow.rest true l (bytesOf ⟨#[45]⟩ ++ dig l) ⟨#[45]⟩ x).trans ?_⟩
        rw [ew]
        refine (bF e0).trans ((bT rfl).trans ((bT (cdec_true hE1)).trans ?_))
        unfold txt txtL
        rw [if_neg h0, if_pos hneg, hd]
        rfl
      | false =>
        have hneg : ¬ z < 0 := by rw [hsb] at hs; intro hh; rw [sg_neg.2 hh] at hs; cases hs
        obtain ⟨e1, S1, hE1, rfl, x, rfl⟩ := RShow.loop false l ⟨#[]⟩ ol ll (by decide)
        refine ⟨_, tabOf_all _, (RShow.rest false l (bytesOf ⟨#[]⟩ ++ dig l) ⟨#[]⟩ x).trans ?_⟩
        rw [ew]
        refine (bF e0).trans ((bF rfl).trans ((bT (cdec_true hE1)).trans ?_))
        unfold txt txtL
        rw [if_neg h0, if_neg hneg, hd]
        rfl
  · cases h
namespace RFrom
def Inv (U x : Int) (l : List Int) : Prop := okB 10 l = true ∧ 0 ≤ x ∧ l.length ≤ 20 ∧ val 10 l + 10 ^ l.length * x = U
theorem ten20 {k : Nat} {U : Int} (hU : U < 18446744073709551616) (h : (10 : Int) ^ k ≤ U) : k < 20 := by
  refine Nat.lt_of_not_le (fun hk => ?_)
  have := pow_mono (B := 10) (by decide) hk
  have e : (10 : Int) ^ 20 = 100000000000000000000 := rfl
  omega
theorem Inv.next {U x : Int} {l : List Int} (hU : U < 18446744073709551616) (h : Inv U x l) (hx : x > 0) : Inv U (x / 10) (l ++ [x % 10]) := by
  obtain ⟨h1, h2, h3, h4⟩ := h
  have h5 := val_nonneg T_pos h1
  have h6 : (10 : Int) ^ l.length * 1 ≤ 10 ^ l.length * x := Int.mul_le_mul_of_nonneg_left (by omega) (Int.pow_nonneg (by decide))
  have h7 := ten20 hU (k := l.length) (by omega)
  refine ⟨okB_snoc h1 (by omega), by omega, by rw [List.length_append, List.length_singleton]; omega, ?_⟩
  rw [val_snoc, List.length_append, List.length_singleton, Int.pow_succ]
  have := carry_step 10 (10 ^ l.length) (val 10 l) U x (x % 10) (x / 10) 0 h4 (by omega)
  omega
theorem loop (n : Int) (U : Int) (h0 : 0 ≤ U) (hU : U < 18446744073709551616) :
    ∃ e S1, Ends T orc L0 D0 (st0 n U []) e S1 ∧ (e = .exit 0 ∧ ∃ x l, S1 = st0 n x l ∧ okB 10 l = true ∧ l.length ≤ 20 ∧ val 10 l = U) := by
  refine loop_inv2 (fun (x : Int) l => st0 n x l) (fun x l => Inv U x l) (fun x l => x.toNat)
    (fun e S1 => e = .exit 0 ∧ ∃ x l, S1 = st0 n x l ∧ okB 10 l = true ∧ l.length ≤ 20 ∧ val 10 l = U) isL0 ?_ U [] ⟨rfl, h0, by simp, by simp [val]⟩
  intro x l h
  obtain ⟨h1, h2, h3, h4⟩ := id h
  refine ⟨noTab, noTab_all, lands_of (round0 ..) ?_⟩
  have h5 := val_nonneg T_pos h1
  by_cases hx : x > 0
  · have h6 : (1 : Int) * x ≤ 10 ^ l.length * x := Int.mul_le_mul_of_nonneg_right (by have : (0 : Int) < 10 ^ l.length := Int.pow_pos (by decide); omega) h2
    rw [tm10 h2, td10 h2, w64 (n := x % 10) (by omega) (by omega), wu64 (n := x / 10) (by omega) (by omega)]
    refine (lands_of (bT (decide_eq_true hx)) ?_)
    refine (lands_of (bT (by rw [Bool.true_and]; exact decide_eq_true (by rw [List.length_append, List.length_singleton]; omega))) ?_)
    exact lands_some.2 ⟨_, _, rfl, h.next hU hx, by show (x / 10).toNat < x.toNat; omega⟩
  · obtain rfl : x = 0 := by omega
    rw [Int.mul_zero, Int.add_zero] at h4
    exact lands_some.2 ⟨rfl, _, _, rfl, h1, h3, h4⟩
theorem loopa (n : Int) (U : Int) (h0 : 0 ≤ U) (hU : U < 18446744073709551616) :
    ∃ e S1, Ends T orc L0a D0a (st0a n U []) e S1 ∧ (e = .exit 0 ∧ ∃ x l, S1 = st0a n x l ∧ okB 10 l = true ∧ l.length ≤ 20 ∧ val 10 l = U) := by
  refine loop_inv2 (fun (x : Int) l => st0a n x l) (fun x l => Inv U x l) (fun x l => x.toNat)
    (fun e S1 => e = .exit 0 ∧ ∃ x l, S1 = st0a n x l ∧ okB 10 l = true ∧ l.length ≤ 20 ∧ val 10 l = U) isL0a ?_ U [] ⟨rfl, h0, by simp, by simp [val]⟩
  intro x l h
  obtain ⟨h1, h2, h3, h4⟩ := id h
  refine ⟨noTab, noTab_all, lands_of (round0a ..) ?_⟩
  have h5 := val_nonneg T_pos h1
  by_cases hx : x > 0
  · have h6 : (1 : Int) * x ≤ 10 ^ l.length * x := Int.mul_le_mul_of_nonneg_right (by have : (0 : Int) < 10 ^ l.length := Int.pow_pos (by decide); omega) h2
    rw [tm10 h2, td10 h2, w64 (n := x % 10) (by omega) (by omega), wu64 (n := x / 10) (by omega) (by omega)]
    refine (lands_of (bT (decide_eq_true hx)) ?_)
    refine (lands_of (bT (by rw [Bool.true_and]; exact decide_eq_true (by rw [List.length_append, List.length_singleton]; omega))) ?_)
    exact lands_some.2 ⟨_, _, rfl, h.next hU hx, by show (x / 10).toNat < x.toNat; omega⟩
  · obtain rfl : x = 0 := by omega
    rw [Int.mul_zero, Int.add_zero] at h4
    exact lands_some.2 ⟨rfl, _, _, rfl, h1, h3, h4⟩
end RFrom
theorem meets_rfrom : Meets Try.prog 92 anrFrom := by
  refine meets_fn (orc_ok (l := RFrom.ans) ⟨meets_rtrim, trivial⟩) Try.f92 rfl (by kernel_rfl) (fun args r h => ?_)
  unfold anrFrom at h
  split at h
  · rename_i n
    simp only [Option.some.injEq, Prod.mk.injEq, i64B, Bool.and_eq_true, decide_eq_true_eq] at h
    obtain ⟨⟨h1, h2⟩, rfl⟩ := h
    refine ⟨rfl, ?_⟩
    by_cases hn : n < 0
    · obtain ⟨e1, S1, hE1, rfl, x, l, rfl, k1, k2, k3⟩ := RFrom.loop n (-n) (by omega) (by omega)
      have ew : IntKind.u64.wrap (0 - IntKind.u64.wrap n) = -n := by rw [wu64_mod, wu64_mod]; omega
      refine ⟨_, tabOf_all _, (RFrom.rest n [] 0 l x).trans ?_⟩
      rw [ew]
      refine (bT (decide_eq_true hn)).trans ((bT (cdec_true hE1)).trans ((bT ?_).trans ?_))
      · rw [k1, few_iff.2 (show l.length ≤ 100000 by omega)]; rfl
      · rw [num_of k3, decide_eq_true hn, cond_true, Int.neg_neg]
    · obtain ⟨e1, S1, hE1, rfl, x, l, rfl, k1, k2, k3⟩ := RFrom.loopa n n (by omega) (by omega)
      have ew : IntKind.u64.wrap n = n := wu64 (by omega) (by omega)
      refine ⟨_, tabOf_all _, (RFrom.rest n l x [] 0).trans ?_⟩
      rw [ew]
      refine (bF (decide_eq_false hn)).trans ((bT (cdec_true hE1)).trans ((bT ?_).trans ?_))
      · rw [k1, few_iff.2 (show l.length ≤ 100000 by omega)]; rfl
      · rw [num_of k3, decide_eq_false hn, cond_false]
  · cases h
end Go.Abs
end
section
/- What the reference's functions of layer 1 answer: division, powers of two, bounds. -/
namespace Go.Abs
open Go.Proofs Go.Dig
theorem splitD_vals {x y : Int} (hx : x.natAbs < Lim) (hy : y.natAbs < Lim) (h0 : y ≠ 0) :
    okB 10 (splitD (lb 10 x) (lb 10 y)) = true ∧ few (splitD (lb 10 x) (lb 10 y)) = true ∧ val 10 (splitD (lb 10 x) (lb 10 y)) = az x / az y ∧
    okB 10 (limbs 10 (az x % az y)) = true ∧ few (limbs 10 (az x % az y)) = true ∧ val 10 (limbs 10 (az x % az y)) = az x % az y := by
  have lx := lb10_length hx
  have ax := az_nonneg x
  have ay : 0 < az y := by unfold az; omega
  have m0 := Int.emod_nonneg (az x) (show az y ≠ 0 by omega)
  have hle : az x % az y ≤ az x := by
    have h3 := Int.mul_ediv_add_emod (az x) (az y)
    have h4 : 0 ≤ az y * (az x / az y) := Int.mul_nonneg (by omega) (Int.ediv_nonneg ax (by omega))
    omega
  have v1 := val_lt T_pos (ok10_lb x)
  rw [val_lb10] at v1
  have d0 : 0 ≤ az x / az y := Int.ediv_nonneg (az_nonneg x) (by omega)
  have d1 : az x / az y ≤ az x := Int.ediv_le_self _ (az_nonneg x)
  refine ⟨digN_ok T_pos _ _, few_iff.2 (by unfold splitD; rw [digN_length]; omega), ?_, limbs_ok T_pos _, few_iff.2 (by have := limbs_length T_two (n := (lb 10 x).length) m0 (by omega); omega), limbs_val T_two m0⟩
  unfold splitD
  rw [val_lb10, val_lb10]
  exact val_digN T_pos _ _ d0 (by omega)
theorem meets_rdiv : Meets Try.prog 79 anrDiv := by
  refine meets_fn (orc_ok (l := RDiv.ans) ⟨meets_rtrim, meets_rsplit, meets_rfrom, meets_rsub, meets_radd, trivial⟩) Try.f79 rfl (by kernel_rfl) (fun args r h => ?_)
  unfold anrDiv at h
  split at h
  · rename_i s l t m
    simp only [Option.some.injEq, Prod.mk.injEq, Bool.and_eq_true] at h
    obtain ⟨⟨h1, h2⟩, rfl⟩ := h
    obtain ⟨x, hs, hl, hx⟩ := (cn_iff T_two).1 h1
    obtain ⟨y, ht, hm, hy⟩ := (cn_iff T_two).1 h2
    subst hs hl ht hm
    rw [num_lb10, num_lb10]
    refine ⟨rfl, _, noTab_all, (RDiv.rest (sg x) (lb 10 x) (sg y) (lb 10 y)).trans ?_⟩
    rw [num_lb10]
    by_cases h0 : y = 0
    · subst h0
      unfold dq dr dc
      rw [if_pos rfl, if_pos rfl, if_pos rfl]
      exact bT rfl
    · obtain ⟨q1, q2, q3, r1, r2, r3⟩ := splitD_vals hx hy h0
      have hne : (((lb 10 y).length : Int) == 0) = false := by
        rw [beq_eq_false_iff_ne]
        intro h
        exact h0 ((lb_nil T_two).1 (List.eq_nil_of_length_eq_zero (by omega)))
      have ay : 0 < az y := by unfold az; omega
      have lx := lb10_length hx
      have m0 := Int.emod_nonneg (az x) (show az y ≠ 0 by omega)
      have m1 := Int.emod_lt_of_pos (az x) ay
      have d0 : 0 ≤ az x / az y := Int.ediv_nonneg (az_nonneg x) (by omega)
      have d1 : az x / az y ≤ az x := Int.ediv_le_self _ (az_nonneg x)
      have hde := Int.emod_add_mul_ediv (az x) (az y)
      have hR := num_of (s := sg x) r3
      have hQ := num_of (s := (!sg x == sg y)) q3
      have hxx : az x = x.natAbs := rfl
      have hyy : az y = y.natAbs := rfl
      have sR : (num 10 (sg x) (limbs 10 (az x % az y))).natAbs < Lim := by
        refine nat_le_of_lt ?_ hy
        rw [hR]; cases sg x <;> simp only [cond_true, cond_false] <;> omega
      have sQ : (num 10 (!sg x == sg y) (splitD (lb 10 x) (lb 10 y))).natAbs < Lim := by
        refine nat_le_of_lt ?_ hx
        rw [hQ]; cases (!sg x == sg y) <;> simp only [cond_true, cond_false] <;> omega
      have hlen : decide (((lb 10 (num 10 (sg x) (limbs 10 (az x % az y)))).length : Int) > 0) = decide (num 10 (sg x) (limbs 10 (az x % az y)) ≠ 0) := by
        rw [Bool.eq_iff_iff, decide_eq_true_eq, decide_eq_true_eq]
        have := lb_nil T_two (z := num 10 (sg x) (limbs 10 (az x % az y)))
        constructor
        · intro h h3; rw [this.2 h3] at h; simp at h
        · intro h
          have := List.length_pos_iff.2 (fun hh => h (this.1 hh))
          omega
      rw [hne, cl_lb10 hx, cl_lb10 hy, val_lb10, val_lb10, decide_eq_true ay, decide_eq_true (show (lb 10 x).length ≤ 50000 by omega), q1, q2, r1, r2, hlen, N10_eq, N10_eq, cn10, cn10, h2, decide_eq_true sR, decide_eq_true sQ, hR, hQ, num_lb10 1 |> (fun h => (show num 10 false (lb 10 1) = 1 from h))]
      simp only [Bool.and_self, Bool.and_true, Bool.true_and, cond_true, cond_false, dc, if_neg h0]
      generalize hA : az x / az y = A at *
      generalize hB : az x % az y = B at *
      rcases sg_cases x with ⟨a1, a2, a3⟩ | ⟨a1, a2, a3⟩ <;> rcases sg_cases y with ⟨b1, b2, b3⟩ | ⟨b1, b2, b3⟩ <;> rw [a1, b1] <;> rw [a3, b3] at hde <;> rw [b3] at m1 <;> by_cases hB0 : B = 0
      all_goals simp only [beq_self_eq_true, Bool.true_beq, Bool.false_beq, Bool.not_true, Bool.not_false, cond_true, cond_false, Bool.not_eq_true', ne_eq]
      · obtain ⟨u1, u2⟩ := div_of (x := x) (y := y) (q := A) (r := -B) (by rw [Int.neg_mul] at hde; omega) (by omega)
        rw [u1, u2, hB0]; simp
      · obtain ⟨u1, u2⟩ := div_of (x := x) (y := y) (q := A) (r := -B) (by rw [Int.neg_mul] at hde; omega) (by omega)
        rw [u1, u2, decide_eq_true (by omega)]; simp
      · obtain ⟨u1, u2⟩ := div_of (x := x) (y := y) (q := -A) (r := -B) (by rw [Int.mul_neg]; omega) (by omega)
        rw [u1, u2, hB0]; simp
      · obtain ⟨u1, u2⟩ := div_of (x := x) (y := y) (q := -A - 1) (r := -B + y) (by rw [Int.mul_sub, Int.mul_neg, Int.mul_one]; omega) (by omega)
        rw [u1, u2, decide_eq_true (by omega)]; simp
      · obtain ⟨u1, u2⟩ := div_of (x := x) (y := y) (q := -A) (r := B) (by rw [Int.neg_mul] at hde; rw [Int.mul_neg]; omega) (by omega)
        rw [u1, u2, hB0]; simp
      · obtain ⟨u1, u2⟩ := div_of (x := x) (y := y) (q := -A - 1) (r := B + y) (by rw [Int.neg_mul] at hde; rw [Int.mul_sub, Int.mul_neg, Int.mul_one]; omega) (by omega)
        rw [u1, u2, decide_eq_true (by omega)]; simp
      · obtain ⟨u1, u2⟩ := div_of (x := x) (y := y) (q := A) (r := B) hde (by omega)
        rw [u1, u2, hB0]; simp
      · obtain ⟨u1, u2⟩ := div_of (x := x) (y := y) (q := A) (r := B) hde (by omega)
        rw [u1, u2, decide_eq_true (by omega)]; simp
  · cases h
namespace RGcd
theorem loop (s : Bool) (l : List Int) (t : Bool) (m : List Int) (x y : Nat) (hx : x < Lim) (hy : y < Lim) :
    ∃ e S1, Ends T orc L0 D0 (st0 s l t m false (lb 10 x) false (lb 10 y)) e S1 ∧ (e = .exit 0 ∧ ∃ b k, S1 = st0 s l t m (sg (Nat.gcd x y : Nat)) (lb 10 (Nat.gcd x y : Nat)) b k) := by
  have sgn : ∀ n : Nat, sg (n : Int) = false := fun n => by unfold sg; rw [decide_eq_false_iff_not]; omega
  refine loop_inv2 (fun (a b : Nat) => st0 s l t m false (lb 10 a) false (lb 10 b)) (fun a b => a < Lim ∧ b < Lim ∧ Nat.gcd a b = Nat.gcd x y) (fun a b => b)
    (fun e S1 => e = .exit 0 ∧ ∃ b k, S1 = st0 s l t m (sg (Nat.gcd x y : Nat)) (lb 10 (Nat.gcd x y : Nat)) b k) isL0 ?_ x y ⟨hx, hy, rfl⟩
  intro a b ⟨ha, hb, hg⟩
  refine ⟨noTab, noTab_all, lands_of (round0 ..) ?_⟩
  have sa : ((a : Int)).natAbs < Lim := by rw [Int.natAbs_natCast]; exact ha
  have sb : ((b : Int)).natAbs < Lim := by rw [Int.natAbs_natCast]; exact hb
  by_cases h0 : b = 0
  · subst h0
    rw [← hg, Nat.gcd_zero_right, sgn]
    exact lands_some.2 ⟨rfl, _, _, rfl⟩
  · have hlb : ((lb 10 (b : Int)).length : Int) > 0 := by
      have := List.length_pos_iff.2 (fun hh => h0 (by have := (lb_nil T_two (z := (b : Int))).1 hh; omega))
      omega
    obtain ⟨q1, q2, q3, r1, r2, r3⟩ := splitD_vals sa sb (by omega)
    have lx := lb10_length sa
    have eb : az (b : Int) = (b : Int) := rfl
    have ea : az (a : Int) = (a : Int) := rfl
    have hR := num_of (s := false) r3
    rw [ea, eb] at hR r1 r2
    have e3 : ((a : Int) % (b : Int)) = ((a % b : Nat) : Int) := by rw [Int.natCast_emod]
    have hR : num 10 false (limbs 10 ((a : Int) % (b : Int))) = ((a % b : Nat) : Int) := by rw [hR, e3]; rfl
    rw [decide_eq_true hlb, cl_lb10 sa, cl_lb10 sb, val_lb10, val_lb10, eb, ea, decide_eq_true (show (0 : Int) < (b : Int) by omega), decide_eq_true (show (lb 10 (a : Int)).length ≤ 50000 by omega), r1, r2, hR, sgn]
    refine lands_some.2 ⟨b, a % b, rfl, ⟨hb, Nat.lt_of_le_of_lt (Nat.mod_le a b) ha, ?_⟩, Nat.mod_lt _ (by omega)⟩
    rw [← hg, Nat.gcd_comm b, ← Nat.gcd_rec, Nat.gcd_comm]
end RGcd
theorem meets_rgcd : Meets Try.prog 71 anrGcd := by
  refine meets_fn (orc_ok (l := RGcd.ans) ⟨meets_rabs, meets_rsplit, meets_rtrim, trivial⟩) Try.f71 rfl (by kernel_rfl) (fun args r h => ?_)
  unfold anrGcd at h
  split at h
  · rename_i s l t m
    simp only [Option.some.injEq, Prod.mk.injEq, Bool.and_eq_true] at h
    obtain ⟨⟨h1, h2⟩, rfl⟩ := h
    obtain ⟨x, hs, hl, hx⟩ := (cn_iff T_two).1 h1
    obtain ⟨y, ht, hm, hy⟩ := (cn_iff T_two).1 h2
    have nx : num 10 s l = x := by rw [hs, hl]; exact num_lb10 x
    have ny : num 10 t m = y := by rw [ht, hm]; exact num_lb10 y
    rw [nx, ny]
    obtain ⟨e1, S1, hE1, rfl, b, k, rfl⟩ := RGcd.loop s l t m x.natAbs y.natAbs hx hy
    refine ⟨rfl, _, tabOf_all _, (RGcd.rest s l t m (sg ((Nat.gcd x.natAbs y.natAbs : Nat) : Int)) (lb 10 ((Nat.gcd x.natAbs y.natAbs : Nat) : Int)) b k).trans ?_⟩
    have hE1 : Ends T RGcd.orc RGcd.L0 RGcd.D0 (RGcd.st0 s l t m false (lb 10 (az x)) false (lb 10 (az y))) (.exit 0) _ := hE1
    rw [nx, ny]
    exact (bT h1).trans ((bT h2).trans (bT (cdec_true hE1)))
  · cases h
theorem digN_last {v : Int} {k : Nat} (h0 : (10 : Int) ^ k ≤ v) (h1 : v < 10 ^ (k + 1)) : (digN 10 (k + 1) v).getLast? ≠ some 0 := by
  have hp : (0 : Int) < 10 ^ k := Int.pow_pos (by decide)
  rw [digN_succ T_pos, List.getLast?_append]
  have a1 : 1 ≤ v / 10 ^ k := (Int.le_ediv_iff_mul_le hp).2 (by omega)
  have a2 : v / 10 ^ k < 10 := Int.ediv_lt_of_lt_mul hp (by rw [Int.mul_comm, ← Int.pow_succ]; exact h1)
  have : v / 10 ^ k % 10 ≠ 0 := by omega
  simpa using this
theorem plusD_double {v : Int} (hv : 0 < v) : plusD (limbs 10 v) (limbs 10 v) = limbs 10 (v + v) := by
  have ol := limbs_ok T_pos v
  have vl : val 10 (limbs 10 v) = v := limbs_val T_two (by omega)
  have hne : limbs 10 v ≠ [] := fun h => by have := (limbs_nil T_two (by omega)).1 h; omega
  have hpos := List.length_pos_iff.2 hne
  have hge := last_ge T_two ol (limbs_last _ _) hne
  have hlt := val_lt T_pos ol
  rw [vl] at hge hlt
  have hval := plusD_val ol ol
  rw [vl] at hval
  have key := limbs_self T_two (plusD_ok (limbs 10 v) (limbs 10 v)) (by
    unfold plusD
    rw [vl, Nat.max_self]
    obtain ⟨n, hn⟩ : ∃ n, (limbs 10 v).length = n + 1 := ⟨_, (Nat.sub_add_cancel hpos).symm⟩
    rw [hn] at hge hlt ⊢
    rw [Nat.add_sub_cancel] at hge
    by_cases h : v + v < 10 ^ (n + 1)
    · rw [decide_eq_true h]
      exact digN_last (by omega) h
    · rw [decide_eq_false h]
      exact digN_last (by omega) (by rw [Int.pow_succ]; omega))
  rw [hval] at key
  exact key.symm
theorem two_le_ten (n : Nat) : (2 : Int) ^ n ≤ 10 ^ n := by
  induction n with
  | zero => simp
  | succ n ih =>
    rw [Int.pow_succ, Int.pow_succ]
    have : (0 : Int) < 10 ^ n := Int.pow_pos (by decide)
    omega
theorem ten_le_two (n : Nat) : (10 : Int) ^ n ≤ 2 ^ (4 * n) := by
  induction n with
  | zero => simp
  | succ n ih =>
    rw [Int.pow_succ, show 4 * (n + 1) = 4 * n + 1 + 1 + 1 + 1 by omega, Int.pow_succ, Int.pow_succ, Int.pow_succ, Int.pow_succ]
    have : (0 : Int) < 10 ^ n := Int.pow_pos (by decide)
    omega
theorem limbs_one : limbs 10 1 = [1] := by decide
namespace RPower
theorem loop (n : Nat) (hn : n ≤ 2000) :
    ∃ e S1, Ends T orc L0 D0 (st0 n 0 [1]) e S1 ∧ (e = .exit 0 ∧ ∃ x, S1 = st0 n x (limbs 10 (2 ^ n))) := by
  have key := loop_inv1 (T := T) (orc := orc) (L := L0) (D := D0) (fun (i : Nat) => st0 n i (limbs 10 (2 ^ i))) (fun i => i ≤ n) (fun i => n - i)
    (fun e S1 => e = .exit 0 ∧ ∃ x, S1 = st0 n x (limbs 10 (2 ^ n))) isL0 ?_ 0 (by omega)
  · rw [Int.pow_zero, limbs_one] at key
    exact key
  · intro i h1
    refine ⟨noTab, noTab_all, lands_of (round0 ..) ?_⟩
    have hp : (0 : Int) < 2 ^ i := Int.pow_pos (by decide)
    have hp10 : (0 : Int) < 10 ^ i := Int.pow_pos (by decide)
    by_cases hi : i < n
    · have hlen := limbs_length T_two (v := 2 ^ i) (n := i + 1) (by omega) (by have := two_le_ten i; rw [Int.pow_succ]; omega)
      rw [decide_eq_true (show (i : Int) < (n : Int) by omega), few_iff.2 (show (limbs 10 (2 ^ i)).length ≤ 100000 by omega), limbs_ok T_pos, plusD_double hp, wi_succ (show i < 4611686018427387904 by omega)]
      refine lands_some.2 ⟨i + 1, ?_, by show i + 1 ≤ n; omega, by show n - (i + 1) < n - i; omega⟩
      show _ = st0 n ((i + 1 : Nat) : Int) (limbs 10 (2 ^ (i + 1)))
      rw [Int.pow_succ, show (2 : Int) ^ i + 2 ^ i = 2 ^ i * 2 by omega]
    · obtain rfl : i = n := by omega
      rw [decide_eq_false (by omega)]
      exact lands_some.2 ⟨rfl, _, rfl⟩
end RPower
theorem meets_rpower : Meets Try.prog 87 anrPower := by
  refine meets_fn (orc_ok (l := RPower.ans) ⟨meets_rplus, trivial⟩) Try.f87 rfl (by kernel_rfl) (fun args r h => ?_)
  unfold anrPower at h
  split at h
  · rename_i n
    simp only [Option.some.injEq, Prod.mk.injEq, Bool.and_eq_true, decide_eq_true_eq] at h
    obtain ⟨⟨h1, h2⟩, rfl⟩ := h
    obtain ⟨n, rfl⟩ := Int.eq_ofNat_of_zero_le h1
    obtain ⟨e1, S1, hE1, rfl, x, rfl⟩ := RPower.loop n (by omega)
    rw [Int.toNat_natCast]
    exact ⟨rfl, _, tabOf_all _, (RPower.rest n (limbs 10 (2 ^ n)) x).trans (bT (cdec_true hE1))⟩
  · cases h
set_option exponentiation.threshold 20000 in
theorem top_facts : ∃ W : Nat, (∀ z : Int, fits z = decide (z.natAbs < W)) ∧ (2 : Int) ^ 1024 = (W : Int) ∧ (10 : Int) ^ 308 ≤ (W : Int) ∧ (W : Int) < 10 ^ 309 := by
  refine ⟨2 ^ 1024, fun z => by unfold fits; with_reducible rfl, (Int.natCast_pow 2 1024).symm, ?_, ?_⟩
  · have : (10 : Nat) ^ 308 ≤ 2 ^ 1024 := Nat.le_of_ble_eq_true (by kernel_rfl)
    have h := Int.ofNat_le.2 this
    rw [Int.natCast_pow 10 308] at h
    exact h
  · have : (2 : Nat) ^ 1024 < 10 ^ 309 := Nat.lt_of_not_le (fun h => by
      have h2 : Nat.ble (10 ^ 309) (2 ^ 1024) = true := Nat.ble_eq_true_of_le h
      have h3 : Nat.ble (10 ^ 309) (2 ^ 1024) = false := by kernel_rfl
      rw [h3] at h2; cases h2)
    have h := Int.ofNat_lt.2 this
    rw [Int.natCast_pow 10 309] at h
    exact h
theorem meets_rtoobig : Meets Try.prog 61 anrTooBig := by
  refine meets_fn (orc_ok (l := RTooBig.ans) ⟨meets_rcmpMag, meets_rpower, trivial⟩) Try.f61 rfl (by kernel_rfl) (fun args r h => ?_)
  unfold anrTooBig at h
  split at h
  · rename_i s l
    simp only [Option.some.injEq, Prod.mk.injEq] at h
    obtain ⟨h1, rfl⟩ := h
    obtain ⟨z, hs, hl, hz⟩ := (cn_iff T_two).1 h1
    have nz : num 10 s l = z := by rw [hs, hl]; exact num_lb10 z
    have vz : val 10 l = az z := by rw [hl]; exact val_lb10 z
    have ol : okB 10 l = true := by rw [hl]; exact ok10_lb z
    have hlast : l.getLast? ≠ some 0 := by rw [hl]; exact lb_last _ _
    have hlt := val_lt T_pos ol
    rw [vz] at hlt
    obtain ⟨W, w1, w2, w3, w4⟩ := top_facts
    refine ⟨rfl, _, noTab_all, (RTooBig.rest s l).trans ?_⟩
    rw [nz, w1]
    have haz : az z = (z.natAbs : Int) := rfl
    by_cases hA : l.length > 309
    · refine (bT (decide_eq_true (by omega))).trans ?_
      have hge := last_ge T_two ol hlast (fun h => by rw [h] at hA; simp at hA)
      rw [vz] at hge
      have := pow_mono (B := 10) (by decide) (show 309 ≤ l.length - 1 by omega)
      rw [decide_eq_false (show ¬ z.natAbs < W by omega)]
      rfl
    · refine (bF (decide_eq_false (by omega))).trans ?_
      by_cases hB : l.length = 309
      · refine (bT (by rw [beq_iff_eq]; omega)).trans ((bT (by rw [cl_of_num hl hz]; rfl)).trans ?_)
        have hv : val 10 (limbs 10 (2 ^ 1024)) = (W : Int) := by rw [w2]; exact limbs_val T_two (by omega)
        rw [hv, vz]
        by_cases hlt : z.natAbs < W
        · rw [decide_eq_true hlt, decide_eq_false (show ¬ cmpZ (az z) W ≥ 0 by unfold cmpZ; (repeat' split) <;> omega)]
          rfl
        · rw [decide_eq_false hlt, decide_eq_true (show cmpZ (az z) W ≥ 0 by unfold cmpZ; (repeat' split) <;> omega)]
          rfl
      · refine (bF (by rw [beq_eq_false_iff_ne]; omega)).trans ?_
        have := pow_mono (B := 10) (by decide) (show l.length ≤ 308 by omega)
        rw [decide_eq_true (show z.natAbs < W by omega)]
        rfl
  · cases h
end Go.Abs
end
section
/- What the reference's functions of layer 1 answer: texts read, sums, powers. -/
namespace Go.Abs
open Go.Proofs Go.Dig
end Go.Abs
end
section
/- What the reference's functions of layer 1 answer: texts read. -/
namespace Go.Abs
open Go.Proofs Go.Dig
theorem drop_all {l : List Int} {i : Nat} (hi : i < l.length) : (l.drop i).all isDig = (isDig (l.getD i 0) && (l.drop (i + 1)).all isDig) := by
  rw [List.drop_eq_getElem_cons hi, List.all_cons, getD_at hi]
namespace RForm
theorem loop (s : ByteArray) (i0 : Nat) (b9 b10 : Bool) (x3 : Int) (b11 b12 : Bool) (hs : s.size ≤ 10000) (h0 : i0 ≤ s.size) :
    ∃ e S1, Ends T noOrc L0 D0 (st0 s i0 b9 b10 x3 b11 b12) e S1 ∧ ((e = .exit 0 ∧ ((bytesOf s).drop i0).all isDig = true ∧ ∃ x, S1 = st0 s x b9 b10 x3 b11 b12) ∨ (e = .ret ∧ ((bytesOf s).drop i0).all isDig = false ∧ ∃ x, S1 = st0 s x b9 b10 x3 b11 b12)) := by
  refine loop_inv1 (fun (i : Nat) => st0 s i b9 b10 x3 b11 b12) (fun i => i ≤ s.size ∧ ((bytesOf s).drop i0).all isDig = ((bytesOf s).drop i).all isDig) (fun i => s.size - i)
    (fun e S1 => (e = .exit 0 ∧ ((bytesOf s).drop i0).all isDig = true ∧ ∃ x, S1 = st0 s x b9 b10 x3 b11 b12) ∨ (e = .ret ∧ ((bytesOf s).drop i0).all isDig = false ∧ ∃ x, S1 = st0 s x b9 b10 x3 b11 b12)) isL0 ?_ i0 ⟨h0, rfl⟩
  intro i ⟨h1, h2⟩
  have hlen := bytes_len s
  refine ⟨noTab, noTab_all, lands_of (round0 ..) ?_⟩
  by_cases hi : i < s.size
  · have hd := drop_all (l := bytesOf s) (i := i) (by omega)
    rw [bt_nat]
    refine (lands_of (bT (decide_eq_true (by omega))) ?_)
    refine (lands_of (bT (inB_iff.2 (by omega))) ?_)
    by_cases ha : (bytesOf s).getD i 0 < 48
    · refine (lands_of (bT (decide_eq_true ha)) ?_)
      refine lands_some.2 (.inr ⟨rfl, ?_, _, rfl⟩)
      rw [h2, hd, show isDig ((bytesOf s).getD i 0) = false by rw [Bool.eq_false_iff, ne_eq, dig_iff]; omega]
      rfl
    · refine (lands_of (bF (decide_eq_false ha)) ?_)
      refine (lands_of (bT (inB_iff.2 (by omega))) ?_)
      by_cases hb : (bytesOf s).getD i 0 > 57
      · refine (lands_of (bT (decide_eq_true hb)) ?_)
        refine lands_some.2 (.inr ⟨rfl, ?_, _, rfl⟩)
        rw [h2, hd, show isDig ((bytesOf s).getD i 0) = false by rw [Bool.eq_false_iff, ne_eq, dig_iff]; omega]
        rfl
      · refine (lands_of (bF (decide_eq_false hb)) ?_)
        rw [wi_succ (show i < 4611686018427387904 by omega)]
        refine lands_some.2 ⟨i + 1, rfl, ⟨by omega, ?_⟩, by show s.size - (i + 1) < s.size - i; omega⟩
        rw [h2, hd, show isDig ((bytesOf s).getD i 0) = true by rw [dig_iff]; omega]
        rfl
  · refine (lands_of (bF (decide_eq_false (by omega))) ?_)
    refine lands_some.2 (.inl ⟨rfl, ?_, _, rfl⟩)
    rw [h2, List.drop_of_length_le (by omega)]
    rfl
end RForm
theorem form_D {s : ByteArray} {d : List Int} {n : Bool} (hd : digs (bytesOf s) = d) (hn : hasNeg (bytesOf s) = n) : form (bytesOf s) = formD d n := by
  unfold form formD
  rw [hd, hn]
theorem neg_drop (s : ByteArray) (h : bt s 0 = 45) : digs (bytesOf s) = (bytesOf s).drop 1 := by
  obtain ⟨h0, hn, hd⟩ := neg_of s h
  unfold digs
  rw [hn]; rfl
theorem meets_rform : Meets Try.prog 59 anrForm := by
  refine meets_fn noOrc_ok Try.f59 rfl (by kernel_rfl) (fun args r h => ?_)
  unfold anrForm at h
  split at h
  · rename_i s
    simp only [Option.some.injEq, Prod.mk.injEq] at h
    obtain ⟨h, rfl⟩ := h
    have hsz := of_decide_eq_true h
    have hlen := bytes_len s
    refine ⟨rfl, ?_⟩
    by_cases h45 : bt s 0 = 45
    · obtain ⟨h0, hn, _⟩ := neg_of s h45
      have hd := neg_drop s h45
      have e45 : (bt s 0 == 45) = true := by rw [h45]; rfl
      have hb1 : bt s 1 = ((bytesOf s).drop 1).getD 0 0 := by
        have := bt_nat s 1
        rw [show ((1 : Nat) : Int) = 1 from rfl] at this
        rw [this, List.getD_eq_getElem?_getD, List.getD_eq_getElem?_getD, List.getElem?_drop]
      have hl1 : ((bytesOf s).drop 1).length = s.size - 1 := by rw [List.length_drop, hlen]
      rw [form_D hd hn]
      by_cases h1 : s.size = 1
      · refine ⟨_, tabOf_all _, (RForm.rest_0 s 0 true true 0 true true).trans ?_⟩
        refine (bT (decide_eq_true (by omega))).trans ((bT (inB_iff.2 (by omega))).trans ((bT e45).trans ((bT (by rw [beq_iff_eq]; omega)).trans ?_)))
        rw [show formD ((bytesOf s).drop 1) true = false by rw [← Bool.not_eq_true, formD_eq]; intro hh; exact hh.1 (List.eq_nil_of_length_eq_zero (by omega))]
      · have e1 : (1 == (s.size : Int)) = false := by rw [beq_eq_false_iff_ne]; omega
        by_cases h48 : bt s 1 = 48
        · refine ⟨_, tabOf_all _, (RForm.rest_0 s 0 true true 0 true true).trans ?_⟩
          refine (bT (decide_eq_true (by omega))).trans ((bT (inB_iff.2 (by omega))).trans ((bT e45).trans ((bF e1).trans ((bT (inB_iff.2 (by omega))).trans ((bT (by rw [beq_iff_eq]; exact h48)).trans ((bT (decide_eq_true (by omega))).trans ?_))))))
          rw [show formD ((bytesOf s).drop 1) true = false by rw [← Bool.not_eq_true, formD_eq]; intro hh; exact hh.2.1 ⟨by omega, .inr rfl⟩]
        · have e48 : (bt s 1 == 48) = false := by rw [beq_eq_false_iff_ne]; exact h48
          obtain ⟨e2, S1, hE1, ⟨rfl, hall, x, rfl⟩ | ⟨rfl, hall, x, rfl⟩⟩ := RForm.loop s 1 true (bt s 0 == 45) 1 (1 == (s.size : Int)) false hsz (by omega)
          · refine ⟨_, tabOf_all _, (RForm.rest_1 s x true (bt s 0 == 45) 1 (1 == (s.size : Int)) false).trans ?_⟩
            refine (bT (decide_eq_true (by omega))).trans ((bT (inB_iff.2 (by omega))).trans ((bT e45).trans ((bF e1).trans ((bT (inB_iff.2 (by omega))).trans ((bF e48).trans ((bT (cdec_true hE1)).trans ?_))))))
            rw [show formD ((bytesOf s).drop 1) true = true from (formD_eq _ _).2 ⟨fun hh => by rw [hh] at hl1; simp at hl1; omega, fun hh => h48 (by rw [hb1]; exact hh.1), hall⟩]
          · refine ⟨_, tabOf_all _, (RForm.rest_0 s x true (bt s 0 == 45) 1 (1 == (s.size : Int)) false).trans ?_⟩
            refine (bT (decide_eq_true (by omega))).trans ((bT (inB_iff.2 (by omega))).trans ((bT e45).trans ((bF e1).trans ((bT (inB_iff.2 (by omega))).trans ((bF e48).trans ((bT (cdec_true hE1)).trans ?_))))))
            rw [show formD ((bytesOf s).drop 1) true = false by rw [← Bool.not_eq_true, formD_eq]; intro hh; rw [hall] at hh; cases hh.2.2]
    · obtain ⟨hn, hd⟩ := pos_of s h45
      have e45 : (bt s 0 == 45) = false := by rw [beq_eq_false_iff_ne]; exact h45
      have hb0 : bt s 0 = (bytesOf s).getD 0 0 := bt_nat s 0
      rw [form_D hd hn]
      by_cases h0 : s.size = 0
      · refine ⟨_, tabOf_all _, (RForm.rest_0 s 0 true true 0 true true).trans ?_⟩
        refine (bF (decide_eq_false (by omega))).trans ((bT (by rw [beq_iff_eq]; omega)).trans ?_)
        rw [show formD (bytesOf s) false = false by rw [← Bool.not_eq_true, formD_eq]; intro hh; exact hh.1 (List.eq_nil_of_length_eq_zero (by omega))]
      · have e1 : (0 == (s.size : Int)) = false := by rw [beq_eq_false_iff_ne]; omega
        by_cases hbad : bt s 0 = 48 ∧ s.size > 1
        · refine ⟨_, tabOf_all _, (RForm.rest_0 s 0 true true 0 true true).trans ?_⟩
          refine (bT (decide_eq_true (by omega))).trans ((bT (inB_iff.2 (by omega))).trans ((bF e45).trans ((bF e1).trans ((bT (inB_iff.2 (by omega))).trans ((bT (by rw [beq_iff_eq]; exact hbad.1)).trans ((bT (decide_eq_true (by omega))).trans ?_))))))
          rw [show formD (bytesOf s) false = false by rw [← Bool.not_eq_true, formD_eq]; intro hh; exact hh.2.1 ⟨by omega, .inl (by omega)⟩]
        · have join : ∀ (X Y Z : Option Res), (s.size ≤ 1 → X = Z) → (¬ bt s 0 = 48 → Y = Z) → (bif bt s 0 == 48 then (bif decide ((s.size : Int) > 1) then some (.val (.bool false)) else X) else Y) = Z := by
            intro X Y Z hX hY
            by_cases h48 : bt s 0 = 48
            · rw [bT (by rw [beq_iff_eq]; exact h48), bF (decide_eq_false (by omega))]
              exact hX (by omega)
            · rw [bF (by rw [beq_eq_false_iff_ne]; exact h48)]
              exact hY h48
          obtain ⟨e2, S1, hE1, ⟨rfl, hall, x, rfl⟩ | ⟨rfl, hall, x, rfl⟩⟩ := RForm.loop s 0 true (bt s 0 == 45) 0 (0 == (s.size : Int)) false hsz (by omega)
          · refine ⟨_, tabOf_all _, (RForm.rest_1 s x true (bt s 0 == 45) 0 (0 == (s.size : Int)) false).trans ?_⟩
            refine (bT (decide_eq_true (by omega))).trans ((bT (inB_iff.2 (by omega))).trans ((bF e45).trans ((bF e1).trans ((bT (inB_iff.2 (by omega))).trans ?_))))
            rw [List.drop_zero] at hall
            rw [show formD (bytesOf s) false = true from (formD_eq _ _).2 ⟨fun hh => by rw [hh] at hlen; exact h0 hlen.symm, fun hh => hbad ⟨by omega, by rcases hh.2 with h | h; omega; cases h⟩, hall⟩]
            refine join _ _ _ (fun hle => ?_) (fun _ => bT (cdec_true hE1))
            rw [decide_eq_false (show ¬ (s.size : Int) > 1 by omega)]
            exact bT (cdec_true hE1)
          · refine ⟨_, tabOf_all _, (RForm.rest_0 s x true (bt s 0 == 45) 0 (0 == (s.size : Int)) false).trans ?_⟩
            refine (bT (decide_eq_true (by omega))).trans ((bT (inB_iff.2 (by omega))).trans ((bF e45).trans ((bF e1).trans ((bT (inB_iff.2 (by omega))).trans ?_))))
            rw [List.drop_zero] at hall
            rw [show formD (bytesOf s) false = false by rw [← Bool.not_eq_true, formD_eq]; intro hh; rw [hall] at hh; cases hh.2.2]
            refine join _ _ _ (fun hle => ?_) (fun _ => bT (cdec_true hE1))
            rw [decide_eq_false (show ¬ (s.size : Int) > 1 by omega)]
            exact bT (cdec_true hE1)
  · cases h
namespace RExact
theorem loop (s : ByteArray) (hs : s.size ≤ 10000) (i0 : Nat) (h0 : i0 ≤ s.size) (hall : ((bytesOf s).drop i0).all isDig = true) (hi0 : i0 = 0 ∨ (i0 = 1 ∧ bt s 0 = 45)) :
    ∃ e S1, Ends T orc L0 D0 (st0 s ((s.size : Int) - 1) []) e S1 ∧ (e = .exit 0 ∧ ∃ x, S1 = st0 s x (((bytesOf s).drop i0).reverse.map (· - 48))) := by
  have hlen := bytes_len s
  refine loop_inv2 (fun (i : Nat) l0 => st0 s ((i : Int) - 1) l0) (fun i l0 => i0 ≤ i ∧ i ≤ s.size ∧ l0 = ((bytesOf s).drop i).reverse.map (· - 48)) (fun i l0 => i)
    (fun e S1 => e = .exit 0 ∧ ∃ x, S1 = st0 s x (((bytesOf s).drop i0).reverse.map (· - 48))) isL0 ?_ s.size [] ⟨h0, Nat.le_refl _, by rw [List.drop_of_length_le (by omega)]; rfl⟩
  intro i l0 ⟨h1, h2, h3⟩
  refine ⟨noTab, noTab_all, lands_of (round0 ..) ?_⟩
  by_cases hi : i = i0
  · subst hi
    rcases hi0 with hi0 | ⟨hi0, hb⟩
    · refine (lands_of (bF (decide_eq_false (by omega))) ?_)
      rw [h3]
      exact lands_some.2 ⟨rfl, _, rfl⟩
    · have e0 : ((i : Int) - 1) = 0 := by omega
      rw [e0]
      refine (lands_of (bT (decide_eq_true (by omega))) ?_)
      refine (lands_of (bT (inB_iff.2 (by omega))) ?_)
      refine (lands_of (bF (by rw [hb]; rfl)) ?_)
      rw [h3]
      exact lands_some.2 ⟨rfl, _, rfl⟩
  · obtain ⟨j, rfl⟩ : ∃ j, i = j + 1 := ⟨i - 1, by omega⟩
    have ej : (((j + 1 : Nat) : Int) - 1) = (j : Int) := by omega
    rw [ej, bt_nat]
    have hc : isDig ((bytesOf s).getD j 0) = true := by
      refine List.all_eq_true.1 hall _ ?_
      rw [getD_at (by omega)]
      refine List.mem_iff_getElem.2 ⟨j - i0, by rw [List.length_drop]; omega, ?_⟩
      rw [List.getElem_drop]
      congr 1
      omega
    have hc := dig_iff.1 hc
    have ew : IntKind.i64.wrap (IntKind.u8.wrap ((bytesOf s).getD j 0 - 48)) = (bytesOf s).getD j 0 - 48 := by
      rw [IntWalk.u8_in _ ⟨by omega, by omega⟩, w64 (by omega) (by omega)]
    rw [ew]
    refine (lands_of (bT (decide_eq_true (by omega))) ?_)
    refine (lands_of (bT (inB_iff.2 (by omega))) ?_)
    refine (lands_of (bT (by rw [bne_iff_ne]; omega)) ?_)
    refine (lands_of (bT (inB_iff.2 (by omega))) ?_)
    refine (lands_of (bT (by rw [Bool.true_and]; exact decide_eq_true (by rw [List.length_append, h3, List.length_map, List.length_reverse, List.length_drop, List.length_singleton]; omega))) ?_)
    refine lands_some.2 ⟨j, _, by rw [w64 (by omega) (by omega)], ⟨by omega, by omega, ?_⟩, by show j < j + 1; omega⟩
    rw [h3, List.drop_eq_getElem_cons (by omega : j < (bytesOf s).length), List.reverse_cons, List.map_append, getD_at (by omega)]
    rfl
end RExact
theorem meets_rexact : Meets Try.prog 60 anrExact := by
  refine meets_fn (orc_ok (l := RExact.ans) ⟨meets_rtrim, trivial⟩) Try.f60 rfl (by kernel_rfl) (fun args r h => ?_)
  unfold anrExact at h
  split at h
  · rename_i s
    simp only [Option.some.injEq, Prod.mk.injEq, Bool.and_eq_true, decide_eq_true_eq] at h
    obtain ⟨⟨hsz, hf⟩, rfl⟩ := h
    have hlen := bytes_len s
    have hall : (digs (bytesOf s)).all isDig = true := by unfold form at hf; rw [Bool.and_eq_true] at hf; exact hf.2
    have hne : digs (bytesOf s) ≠ [] := by
      intro h0
      unfold form at hf
      rw [h0] at hf
      cases hf
    have hok : okB 10 ((digs (bytesOf s)).reverse.map (· - 48)) = true := by
      refine okB_iff.2 (fun d hd => ?_)
      obtain ⟨c, hc, rfl⟩ := List.mem_map.1 hd
      have := dig_iff.1 (List.all_eq_true.1 hall c (List.mem_reverse.1 hc))
      omega
    have hdl : (digs (bytesOf s)).length ≤ s.size := by
      unfold digs
      cases hasNeg (bytesOf s) <;> simp only [cond_true, cond_false, List.length_drop] <;> omega
    have h0 : 0 < s.size := by
      have := List.length_pos_iff.2 hne
      omega
    have ew : IntKind.i64.wrap ((s.size : Int) - 1) = (s.size : Int) - 1 := w64 (by omega) (by omega)
    have fin : ∀ (b : Bool) (x : Int), hasNeg (bytesOf s) = b → (bt s 0 == 45) = b → Ends T RExact.orc RExact.L0 RExact.D0 (RExact.st0 s ((s.size : Int) - 1) []) (.exit 0) (RExact.st0 s x ((digs (bytesOf s)).reverse.map (· - 48))) →
        ∃ tab, (∀ C, TabOk T RExact.orc tab C) ∧ runT T RExact.orc tab Try.f60 [.str s] = some (.val (M (tval (bytesOf s)))) := by
      intro b x hb hbt hE
      refine ⟨_, tabOf_all _, (RExact.rest s ((digs (bytesOf s)).reverse.map (· - 48)) x).trans ?_⟩
      rw [ew]
      refine (bT (cdec_true hE)).trans ((bT (inB_iff.2 (by omega))).trans ((bT ?_).trans ?_))
      · rw [hok, few_iff.2 (by rw [List.length_map, List.length_reverse]; omega)]; rfl
      · rw [hbt]
        unfold tval
        rw [hb]
        rfl
    refine ⟨rfl, ?_⟩
    by_cases h45 : bt s 0 = 45
    · obtain ⟨_, hn, _⟩ := neg_of s h45
      have hd := neg_drop s h45
      obtain ⟨e1, S1, hE1, rfl, x, rfl⟩ := RExact.loop s hsz 1 (by omega) (by rw [← hd]; exact hall) (.inr ⟨rfl, h45⟩)
      rw [← hd] at hE1
      exact fin true x hn (by rw [h45]; rfl) hE1
    · obtain ⟨hn, hd⟩ := pos_of s h45
      obtain ⟨e1, S1, hE1, rfl, x, rfl⟩ := RExact.loop s hsz 0 (by omega) (by rw [List.drop_zero, ← hd]; exact hall) (.inl rfl)
      rw [List.drop_zero, ← hd] at hE1
      exact fin false x hn (by rw [beq_eq_false_iff_ne]; exact h45) (by rw [hd]; rw [hd] at hE1; exact hE1)
  · cases h
set_option exponentiation.threshold 20000 in
theorem ten400_Lim : (10 : Nat) ^ 400 < Lim := Nat.lt_of_not_le (fun h => by
  have h2 : Nat.ble Lim (10 ^ 400) = true := Nat.ble_eq_true_of_le h
  have h3 : Nat.ble Lim (10 ^ 400) = false := by kernel_rfl
  rw [h3] at h2; cases h2)
set_option exponentiation.threshold 20000 in
theorem tval_lim {l : List Int} (hf : form l = true) (hl : l.length ≤ 400) : (tval l).natAbs < Lim := by
  have hall : (digs l).all isDig = true := by unfold form at hf; rw [Bool.and_eq_true] at hf; exact hf.2
  have hdl : (digs l).length ≤ 400 := by
    unfold digs
    cases hasNeg l <;> simp only [cond_true, cond_false, List.length_drop] <;> omega
  have hb := dval_bound _ hall
  have hp := pow_mono (B := 10) (by decide) hdl
  have h1 : dval (digs l) < ((10 ^ 400 : Nat) : Int) := by rw [Int.natCast_pow]; exact Int.lt_of_lt_of_le hb.2 hp
  have h2 : (dval (digs l)).natAbs < Lim := Nat.lt_trans (by omega) ten400_Lim
  unfold tval
  cases hasNeg l <;> simp only [cond_true, cond_false, Int.natAbs_neg] <;> exact h2
theorem meets_rparse : Meets Try.prog 16 anrParse := by
  refine meets_fn (orc_ok (l := RParse.ans) ⟨meets_rform, meets_rexact, meets_rtoobig, trivial⟩) Try.f16 rfl (by kernel_rfl) (fun args r h => ?_)
  unfold anrParse at h
  split at h
  · rename_i s
    simp only [Option.some.injEq, Prod.mk.injEq] at h
    obtain ⟨h, rfl⟩ := h
    have hsz := of_decide_eq_true h
    have hlen := bytes_len s
    refine ⟨rfl, _, noTab_all, (RParse.rest s).trans ((bT h).trans ?_)⟩
    cases hf : form (bytesOf s) with
    | false =>
      unfold rv re
      rw [hf]; rfl
    | true =>
      refine (bF rfl).trans ?_
      by_cases hbig : s.size > 400
      · refine (bT (decide_eq_true (by omega))).trans ?_
        have hdl : (digs (bytesOf s)).length > 343 := by
          unfold digs
          cases hasNeg (bytesOf s) <;> simp only [cond_true, cond_false, List.length_drop] <;> omega
        have hD : formD (digs (bytesOf s)) (hasNeg (bytesOf s)) = true := by rw [← form_D rfl rfl]; exact hf
        have hall : (digs (bytesOf s)).all isDig = true := ((formD_eq _ _).1 hD).2.2
        have h0 : (digs (bytesOf s)).getD 0 0 ≠ 48 := fun h0 => ((formD_eq _ _).1 hD).2.1 ⟨h0, .inl (by omega)⟩
        have hb := dval_big hall h0 hdl
        have hfz : fits (tval (bytesOf s)) = false := by
          refine big_fits ?_
          unfold tval
          cases hasNeg (bytesOf s) <;> simp only [cond_true, cond_false, az] <;> omega
        unfold rv re
        rw [hf]
        simp only [cond_true]
        unfold hz he
        rw [hfz]; rfl
      · refine (bF (decide_eq_false (by omega))).trans ((bT (by rw [h]; rfl)).trans ((bT ?_).trans ?_))
        · rw [cn10]; exact decide_eq_true (tval_lim hf (by omega))
        · rw [N10_eq]
          unfold rv re
          rw [hf]
          simp only [cond_true]
          unfold hz he
          cases fits (tval (bytesOf s)) <;> rfl
  · cases h
end Go.Abs
end
section
/- Rationals in the core's own form, and their parts in limbs and digits. -/
namespace Go.Abs
open Go.Proofs Go.Dig
theorem zd_nn {d : Int} (h : 0 ≤ d) : 0 ≤ zd d := by unfold zd; cases hb : d == 1 <;> simp only [cond_true, cond_false] <;> omega
theorem dn_zd {d : Int} (h : 1 ≤ d) : dn (zd d) = d := by
  unfold zd dn
  cases hb : d == 1 with
  | true => rw [beq_iff_eq] at hb; subst hb; rfl
  | false =>
    rw [cond_false]
    have : (d == 0) = false := by rw [beq_eq_false_iff_ne]; omega
    rw [this, cond_false]
theorem den_pos' (q : Rat) : 1 ≤ (q.den : Int) := by have := q.den_nz; omega
theorem sg_nn {z : Int} (h : 0 ≤ z) : sg z = false := by unfold sg; rw [decide_eq_false_iff_not]; omega
theorem num_nnW {z : Int} (h : 0 ≤ z) : num 4294967296 false (lb 4294967296 z) = z := by have := num_lbW z; rw [sg_nn h] at this; exact this
theorem num_nn10 {z : Int} (h : 0 ≤ z) : num 10 false (lb 10 z) = z := by have := num_lb10 z; rw [sg_nn h] at this; exact this
theorem rq_Q (q : Rat) : rq (sg q.num) (lb 4294967296 q.num) (lb 4294967296 (zd q.den)) = q := by
  rw [rq_eq, num_lbW, num_nnW (zd_nn (by omega)), dn_zd (den_pos' q), Int.toNat_natCast, Rat.mkRat_self]
theorem isQ_Q (q : Rat) : isQ (sg q.num) (lb 4294967296 q.num) false (lb 4294967296 (zd q.den)) = fitsQ q := by
  rw [isQ_eq, rq_Q, decide_eq_true rfl, decide_eq_true rfl, decide_eq_true rfl, decide_eq_true rfl, Bool.true_and, Bool.true_and, Bool.true_and, Bool.true_and]
theorem isQ_iff {s : Bool} {l : List Int} {t : Bool} {m : List Int} : isQ s l t m = true ↔ ∃ q : Rat, fitsQ q = true ∧ s = sg q.num ∧ l = lb 4294967296 q.num ∧ t = false ∧ m = lb 4294967296 (zd q.den) := by
  constructor
  · intro h
    rw [isQ_eq] at h
    simp only [Bool.and_eq_true, decide_eq_true_eq] at h
    obtain ⟨⟨⟨⟨h1, h2⟩, h3⟩, h4⟩, h5⟩ := h
    exact ⟨_, h5, h1, h2, h3, h4⟩
  · rintro ⟨q, h, rfl, rfl, rfl, rfl⟩
    rw [isQ_Q]; exact h
theorem rm_of {s : Bool} {l m : List Int} {q : Rat} (hs : s = sg q.num) (hl : l = lb 10 q.num) (hm : dn (num 10 false m) = q.den) : rm s l m = q := by
  rw [rm_eq, hs, hl, num_lb10, hm, Int.toNat_natCast, Rat.mkRat_self]
theorem fits_0 : fits 0 = true := by kernel_rfl
theorem dn_pos {d : Int} (h : 1 ≤ d) : dn d = d := by
  unfold dn
  have : (d == 0) = false := by rw [beq_eq_false_iff_ne]; omega
  rw [this, cond_false]
theorem fitsQ_iff {q : Rat} : fitsQ q = true ↔ fits q.num = true ∧ fits q.den = true := by rw [fitsQ_eq, Bool.and_eq_true]
theorem isM_iff {s : Bool} {l : List Int} {t : Bool} {m : List Int} (h : isM s l t m = true) : ∃ q : Rat, fitsQ q = true ∧ s = sg q.num ∧ l = lb 10 q.num ∧ t = false ∧ rm s l m = q ∧ cn 10 false m = true ∧ dn (num 10 false m) = q.den ∧ (m = lb 10 q.den ∨ (q.den = 1 ∧ m = [])) := by
  rw [isM_eq] at h
  simp only [Bool.and_eq_true, Bool.or_eq_true, decide_eq_true_eq] at h
  obtain ⟨⟨⟨⟨h1, h2⟩, h3⟩, h4⟩, h5⟩ := h
  obtain ⟨q, hq⟩ : ∃ q, q = rm s l m := ⟨_, rfl⟩
  rw [← hq] at h1 h2 h4 h5
  have hn := (fitsQ_iff.1 h5).2
  have hp := den_pos' q
  refine ⟨q, h5, h1, h2, h3, hq.symm, ?_, ?_, h4⟩
  · rcases h4 with rfl | ⟨h4, rfl⟩
    · have := cn10 (q.den : Int)
      rw [sg_nn (by omega), decide_eq_true (small_of_fits hn)] at this
      exact this
    · have := cn10 0
      rw [decide_eq_true (show (0 : Int).natAbs < Lim from small_of_fits fits_0)] at this
      exact this
  · rcases h4 with rfl | ⟨h4, rfl⟩
    · rw [num_nn10 (by omega), dn_pos hp]
    · rw [h4]; rfl
theorem isM_of {q : Rat} (h : fitsQ q = true) {m : List Int} (hm : m = lb 10 q.den ∨ (q.den = 1 ∧ m = [])) : isM (sg q.num) (lb 10 q.num) false m = true ∧ rm (sg q.num) (lb 10 q.num) m = q := by
  have e : rm (sg q.num) (lb 10 q.num) m = q := by
    refine rm_of rfl rfl ?_
    rcases hm with rfl | ⟨h1, rfl⟩
    · have hp := den_pos' q
      rw [num_nn10 (by omega), dn_pos hp]
    · rw [h1]; rfl
  refine ⟨?_, e⟩
  rw [isM_eq, e, h]
  simp only [Bool.and_eq_true, Bool.or_eq_true, decide_eq_true_eq, true_and, and_true]
  exact hm
end Go.Abs
end
section
/- Sums, products, opposites, quotients of rationals by their parts, as the program reckons them. -/
namespace Go.Abs
open Go.Proofs Go.Dig
/-- The parts of a sum. -/
theorem add_parts (x y : Rat) (g : Nat) (t : Int) (hg : g = Nat.gcd x.den y.den) (ht : t = x.num * (y.den / g : Nat) + y.num * (x.den / g : Nat)) :
    (x + y).num = t / (Nat.gcd t.natAbs g : Nat) ∧ (x + y).den = (x.den / g) * (y.den / (Nat.gcd t.natAbs g)) := by
  have e : x + y = Rat.add x y := rfl
  have hd : Nat.gcd t.natAbs g ∣ y.den := Nat.dvd_trans (Nat.gcd_dvd_right ..) (hg ▸ Nat.gcd_dvd_right ..)
  subst ht
  subst hg
  rw [e]
  unfold Rat.add
  dsimp only
  by_cases h1 : Nat.gcd x.den y.den = 1
  · rw [dif_pos h1]
    rw [h1]
    simp only [Nat.div_one, Nat.gcd_one_right, Int.natCast_one, Int.ediv_one]
    exact ⟨trivial, trivial⟩
  · rw [dif_neg h1, Rat.maybeNormalize_eq]
    dsimp only
    exact ⟨Int.divExact_eq_ediv .., (Nat.mul_div_assoc _ hd)⟩
/-- The parts of a product. -/
theorem mul_parts (x y : Rat) : (x * y).num = (x.num / (Nat.gcd x.num.natAbs y.den : Nat)) * (y.num / (Nat.gcd y.num.natAbs x.den : Nat)) ∧ (x * y).den = (x.den / (Nat.gcd y.num.natAbs x.den)) * (y.den / (Nat.gcd x.num.natAbs y.den)) := by
  have e : x * y = Rat.mul x y := rfl
  rw [e]
  unfold Rat.mul
  dsimp only
  exact ⟨by rw [Int.divExact_eq_ediv, Int.divExact_eq_ediv], by rw [Nat.divExact_eq_div, Nat.divExact_eq_div]⟩
theorem ofQ_num {a b : Int} (hb : 0 < b) : (ofQ a b).num = a / (Int.gcd a b : Int) := by
  rw [ofQ_eq, Rat.num_divInt, Int.sign_eq_one_of_pos hb, Int.one_mul, Int.gcd_comm]
theorem ofQ_den {a b : Int} (hb : 0 < b) : ((ofQ a b).den : Int) = b / (Int.gcd a b : Int) := by
  rw [ofQ_eq, Rat.den_divInt, if_neg (by omega), Int.gcd_comm, Int.natCast_ediv, Int.natAbs_of_nonneg (by omega)]
theorem ofQ_zero (a : Int) : ofQ a 0 = 0 := by rw [ofQ_eq]; exact Rat.divInt_zero a
theorem ofQ_neg (a b : Int) : ofQ (-a) (-b) = ofQ a b := by rw [ofQ_eq, ofQ_eq]; exact Rat.neg_divInt_neg a b
theorem ofQ_self (q : Rat) : ofQ q.num q.den = q := by rw [ofQ_eq]; exact Rat.num_divInt_den q
theorem ofQ_inv (q : Rat) : ofQ q.den q.num = q⁻¹ := by rw [ofQ_eq]; exact (Rat.inv_def q).symm
theorem fits_le' {x y : Int} (h : fits y = true) (hle : x.natAbs ≤ y.natAbs) : fits x = true := fits_iff.2 (Nat.lt_of_le_of_lt hle (fits_iff.1 h))
theorem fits_neg {x : Int} (h : fits x = true) : fits (-x) = true := fits_le' h (by omega)
theorem ofQ_fits_pos {a b : Int} (ha : fits a = true) (hb : fits b = true) (h0 : 0 < b) : fitsQ (ofQ a b) = true := by
  rw [fitsQ_iff, ofQ_num h0, ofQ_den h0]
  exact ⟨fits_le' ha (Int.natAbs_ediv_le_natAbs ..), fits_le' hb (Int.natAbs_ediv_le_natAbs ..)⟩
theorem fitsQ_0 : fitsQ 0 = true := by rw [fitsQ_eq]; kernel_rfl
theorem ofQ_fits {a b : Int} (ha : fits a = true) (hb : fits b = true) : fitsQ (ofQ a b) = true := by
  rcases Int.lt_trichotomy b 0 with h | h | h
  · rw [← ofQ_neg]; exact ofQ_fits_pos (fits_neg ha) (fits_neg hb) (by omega)
  · subst h; rw [ofQ_zero]; exact fitsQ_0
  · exact ofQ_fits_pos ha hb h
theorem fitsQ_neg {q : Rat} (h : fitsQ q = true) : fitsQ (-q) = true := by
  rw [fitsQ_iff] at h ⊢
  exact ⟨fits_neg h.1, h.2⟩
theorem fitsQ_inv {q : Rat} (h : fitsQ q = true) : fitsQ q⁻¹ = true := by
  rw [← ofQ_inv]
  rw [fitsQ_iff] at h
  exact ofQ_fits h.2 h.1
theorem add_mk (x y : Rat) : x + y = ofQ (x.num * y.den + y.num * x.den) (x.den * y.den) := by
  rw [ofQ_eq, Rat.add_def', ← Int.natCast_mul, Rat.divInt_ofNat]
theorem mul_mk (x y : Rat) : x * y = ofQ (x.num * y.num) (x.den * y.den) := by
  rw [ofQ_eq, Rat.mul_def', ← Int.natCast_mul, Rat.divInt_ofNat]
end Go.Abs
end
section
/- States and rounds of the statements of layer 1, as a program of this session printed them (4). -/
set_option maxRecDepth 10000
namespace Go.Abs
open Go.Proofs Go.Dig
end Go.Abs
end
section
/- States and rounds of the statements of layer 1, as a program of this session printed them (5). -/
set_option maxRecDepth 10000
namespace Go.Abs
open Go.Proofs Go.Dig
end Go.Abs
end
section
/- States and rounds of the statements of layer 1, as a program of this session printed them (6). -/
set_option maxRecDepth 10000
namespace Go.Abs
open Go.Proofs Go.Dig
end Go.Abs
end
section
/- States and rounds of the statements of layer 1, as a program of this session printed them (2). -/
set_option maxRecDepth 10000
namespace Go.Abs
open Go.Proofs Go.Dig
end Go.Abs
end
section
/- States and rounds of the statements of layer 1, as a program of this session printed them (3). -/
set_option maxRecDepth 10000
namespace Go.Abs
open Go.Proofs Go.Dig
end Go.Abs
end
section
/- States and rounds of the statements of layer 1, as a program of this session printed them (1). -/
set_option maxRecDepth 10000
namespace Go.Abs
open Go.Proofs Go.Dig
end Go.Abs
end
section
/- The statements of layer 1: their helpers. -/
namespace Go.Abs
open Go.Proofs Go.Dig
theorem cut_size (s : ByteArray) : (s.extract 0 400).size ≤ 400 := by rw [ByteArray.size_extract]; omega
/-- A number's text tells the number. -/
theorem txt_digits {z : Int} (h : z ≠ 0) : form (txtL z) = true ∧ tval (txtL z) = z := by
  have hne : limbs 10 (z.natAbs : Int) ≠ [] := fun hh => by have := (limbs_nil T_two (by omega)).1 hh; omega
  have ok := limbs_ok T_pos (z.natAbs : Int)
  have hlast := limbs_last 10 (z.natAbs : Int)
  have hall : (dig (limbs 10 (z.natAbs : Int))).all isDig = true := by
    refine List.all_eq_true.2 (fun c hc => ?_)
    unfold dig at hc
    obtain ⟨d, hd, rfl⟩ := List.mem_map.1 hc
    have := okB_iff.1 ok d (List.mem_reverse.1 hd)
    exact dig_iff.2 (by omega)
  have hv : dval (dig (limbs 10 (z.natAbs : Int))) = z.natAbs := by
    unfold dval dig
    simp only [List.map_reverse, List.reverse_reverse, List.map_map]
    have : ((fun x : Int => x - 48) ∘ fun x => x + 48) = id := by funext x; simp
    rw [this, List.map_id]
    exact limbs_val T_two (by omega)
  have hdn : dig (limbs 10 (z.natAbs : Int)) ≠ [] := by
    unfold dig
    simpa using hne
  have h48 : (dig (limbs 10 (z.natAbs : Int))).getD 0 0 ≠ 48 := by
    intro h48
    have e : (dig (limbs 10 (z.natAbs : Int))).getD 0 0 = (limbs 10 (z.natAbs : Int)).getLast hne + 48 := by
      unfold dig
      rw [List.getD_eq_getElem?_getD, ← List.head?_eq_getElem?, List.head?_map, List.head?_reverse, List.getLast?_eq_some_getLast hne]
      rfl
    rw [e] at h48
    exact hlast (by rw [List.getLast?_eq_some_getLast hne]; congr 1; omega)
  have h45 : hasNeg (dig (limbs 10 (z.natAbs : Int))) = false := by
    cases hd : dig (limbs 10 (z.natAbs : Int)) with
    | nil => rfl
    | cons c l =>
      rw [hd, List.all_cons, Bool.and_eq_true] at hall
      have := dig_iff.1 hall.1
      show (c == 45) = false
      rw [beq_eq_false_iff_ne]; omega
  have key : ∀ n, formD (dig (limbs 10 (z.natAbs : Int))) n = true := fun n => (formD_eq _ _).2 ⟨hdn, fun hh => h48 hh.1, hall⟩
  unfold txtL
  rw [if_neg h]
  by_cases hneg : z < 0
  · rw [if_pos hneg]
    have e1 : digs ([45] ++ dig (limbs 10 (z.natAbs : Int))) = dig (limbs 10 (z.natAbs : Int)) := rfl
    have e2 : hasNeg ([45] ++ dig (limbs 10 (z.natAbs : Int))) = true := rfl
    unfold form tval
    rw [e1, e2]
    refine ⟨key true, ?_⟩
    rw [cond_true, hv]; omega
  · rw [if_neg hneg, List.nil_append]
    have e1 : digs (dig (limbs 10 (z.natAbs : Int))) = dig (limbs 10 (z.natAbs : Int)) := by unfold digs; rw [h45]; rfl
    unfold form tval
    rw [e1, h45]
    refine ⟨key false, ?_⟩
    rw [cond_false, hv]; omega
theorem txtL_inj {x y : Int} (h : txtL x = txtL y) : x = y := by
  by_cases hx : x = 0
  · by_cases hy : y = 0
    · rw [hx, hy]
    · have := (txt_digits hy).2
      rw [← h, hx, show tval (txtL 0) = 0 from by decide] at this
      omega
  · by_cases hy : y = 0
    · have := (txt_digits hx).2
      rw [h, hy, show tval (txtL 0) = 0 from by decide] at this
      omega
    · rw [← (txt_digits hx).2, h, (txt_digits hy).2]
theorem txtL_byte (z : Int) : ∀ c ∈ txtL z, 0 ≤ c ∧ c < 256 := by
  intro c hc
  unfold txtL at hc
  by_cases h : z = 0
  · rw [if_pos h] at hc
    have := List.mem_singleton.1 hc
    omega
  · rw [if_neg h] at hc
    rcases List.mem_append.1 hc with hc | hc
    · split at hc
      · have := List.mem_singleton.1 hc; omega
      · cases hc
    · unfold dig at hc
      obtain ⟨d, hd, rfl⟩ := List.mem_map.1 hc
      have := okB_iff.1 (limbs_ok T_pos (z.natAbs : Int)) d (List.mem_reverse.1 hd)
      omega
theorem bytesOf_strOf {l : List Int} (h : ∀ c ∈ l, 0 ≤ c ∧ c < 256) : bytesOf (strOf l) = l := by
  unfold bytesOf strOf
  simp only [List.map_map]
  refine (List.map_congr_left (g := id) (fun c hc => ?_)).trans (List.map_id l)
  have := h c hc
  show ((UInt8.ofNat c.toNat).toNat : Int) = c
  rw [UInt8.toNat_ofNat']
  omega
theorem toList_inj {a b : ByteArray} (h : a.toList = b.toList) : a = b := by
  rw [ByteArray.toList_eq, ByteArray.toList_eq] at h
  exact ByteArray.ext (Array.toList_inj.1 h)
theorem bytesOf_txt (z : Int) : bytesOf (txt z) = txtL z := bytesOf_strOf (txtL_byte z)
theorem txt_inj {x y : Int} (h : txt x = txt y) : x = y := txtL_inj (by rw [← bytesOf_txt, ← bytesOf_txt, h])
theorem txt_beq (x y : Int) : ((txt x).toList == (txt y).toList) = decide (x = y) := by
  by_cases h : x = y
  · rw [h, decide_eq_true rfl]; exact beq_self_eq_true _
  · rw [decide_eq_false h, beq_eq_false_iff_ne]
    exact fun hh => h (txt_inj (toList_inj hh))
/-- What num gives is held. -/
theorem fits_rv (s : ByteArray) : fits (rv s) = true := by
  have f0 : fits 0 = true := by kernel_rfl
  unfold rv
  cases form (bytesOf s) with
  | false => exact f0
  | true =>
    rw [cond_true]
    unfold hz
    cases hf : fits (tval (bytesOf s)) with
    | false => exact f0
    | true => exact hf
theorem fits_nv (s : ByteArray) : fits (nv s) = true := fits_rv _
end Go.Abs
end
section
/- The statements of layer 1: texts read, numbers reckoned. -/
namespace Go.Abs
open Go.Proofs Go.Dig
/-- A text of the right form is its number's text. -/
theorem txtL_tval {l : List Int} (h : form l = true) : txtL (tval l) = l := by
  have hD : formD (digs l) (hasNeg l) = true := h
  obtain ⟨hne, h48, hall⟩ := (formD_eq _ _).1 hD
  have hok : okB 10 ((digs l).reverse.map (· - 48)) = true := by
    refine okB_iff.2 (fun d hd => ?_)
    obtain ⟨c, hc, rfl⟩ := List.mem_map.1 hd
    have := dig_iff.1 (List.all_eq_true.1 hall c (List.mem_reverse.1 hc))
    omega
  have hback : dig ((digs l).reverse.map (· - 48)) = digs l := by
    unfold dig
    simp only [List.map_reverse, List.reverse_reverse, List.map_map]
    have : ((fun x : Int => x + 48) ∘ fun x => x - 48) = id := by funext x; simp
    rw [this, List.map_id]
  have hl : l = (if hasNeg l = true then [45] else []) ++ digs l := by
    unfold digs hasNeg
    cases l with
    | nil => rfl
    | cons c l =>
      by_cases hc : c = 45
      · subst hc; rfl
      · have : (c == 45) = false := by rw [beq_eq_false_iff_ne]; exact hc
        simp [this]
  cases hd : digs l with
  | nil => exact absurd hd hne
  | cons c r =>
    rw [hd] at hall
    rw [List.all_cons, Bool.and_eq_true] at hall
    have hc := dig_iff.1 hall.1
    have hr := dval_bound r hall.2
    have hdv := dval_cons c r
    by_cases h0 : c = 48
    · have hh : r = [] ∧ hasNeg l = false := by
        rw [hd] at h48
        have h48' : ¬ (r.length + 1 > 1 ∨ hasNeg l = true) := fun hh => h48 ⟨h0, hh⟩
        refine ⟨List.eq_nil_of_length_eq_zero (by omega), ?_⟩
        cases hn : hasNeg l with
        | false => rfl
        | true => exact absurd (.inr hn) h48'
      have ht : tval l = 0 := by
        unfold tval
        rw [hh.2, hd, hh.1, h0]; decide
      rw [ht, hl, hh.2, hd, hh.1, h0]; rfl
    · have hlast : ((digs l).reverse.map (· - 48)).getLast? ≠ some 0 := by
        rw [hd, List.reverse_cons, List.map_append, List.getLast?_append]
        simp
        omega
      have hself := limbs_self T_two hok hlast
      have hv : val 10 ((digs l).reverse.map (· - 48)) = dval (digs l) := rfl
      rw [hv] at hself
      have hpos : 0 < dval (digs l) := by
        rw [hd, hdv]
        have hp : (0 : Int) < 10 ^ r.length := Int.pow_pos (by decide)
        have : 1 * (10 : Int) ^ r.length ≤ (c - 48) * 10 ^ r.length := Int.mul_le_mul_of_nonneg_right (by omega) (by omega)
        omega
      unfold txtL tval
      cases hn : hasNeg l with
      | true =>
        rw [hn] at hl
        rw [cond_true, if_neg (by omega), if_pos (by omega), show ((- dval (digs l)).natAbs : Int) = dval (digs l) by omega, hself, hback]
        rw [if_pos rfl] at hl
        exact hl.symm
      | false =>
        rw [hn] at hl
        rw [cond_false, if_neg (by omega), if_neg (by omega), show ((dval (digs l)).natAbs : Int) = dval (digs l) by omega, hself, hback]
        rw [if_neg (by decide)] at hl
        exact hl.symm
theorem bytesOf_inj {a b : ByteArray} (h : bytesOf a = bytesOf b) : a = b := by
  have hs : a.size = b.size := by rw [← bytes_len, ← bytes_len, h]
  unfold bytesOf at h
  have : a.data.toList = b.data.toList := by
    refine (List.map_inj_right (fun x y hxy => ?_)).1 h
    have hxy : (x.toNat : Int) = y.toNat := hxy
    exact UInt8.toNat_inj.1 (by omega)
  exact ByteArray.ext (Array.toList_inj.1 this)
theorem small_rv (s : ByteArray) : (rv s).natAbs < Lim := small_of_fits (fits_rv s)
end Go.Abs
end
section
/- The statements of layer 1: powers multiplied. -/
namespace Go.Abs
open Go.Proofs Go.Dig
theorem small_hz (z : Int) : (hz z).natAbs < Lim := small_of_fits (fits_hz z)
theorem small_nv (s : ByteArray) : (nv s).natAbs < Lim := small_of_fits (fits_nv s)
theorem cmpZ_self (z : Int) : cmpZ z z = 0 := by unfold cmpZ; rw [if_neg (by omega), if_neg (by omega)]
theorem pz_of {a n : Int} (h : 0 ≤ n) : pz a n = hz (a ^ n.toNat) ∧ pc a n = he (a ^ n.toNat) := by
  unfold pz pc
  rw [if_neg (by omega), if_neg (by omega)]
  exact ⟨rfl, rfl⟩
end Go.Abs
end
section
/- The statements of layer 1: order, small numbers, powers. -/
namespace Go.Abs
open Go.Proofs Go.Dig
theorem sg_az (z : Int) : sg (az z) = false := by unfold sg; rw [decide_eq_false_iff_not]; have := az_nonneg z; omega
theorem cnW_az (z : Int) : cn 4294967296 false (lb 4294967296 (az z)) = decide (z.natAbs < Lim) := by
  have := cnW (az z)
  rw [sg_az] at this
  rw [this]; rfl
theorem cn10_az (z : Int) : cn 10 false (lb 10 (az z)) = decide (z.natAbs < Lim) := by
  have := cn10 (az z)
  rw [sg_az] at this
  rw [this]; rfl
theorem numW_az (z : Int) : num 4294967296 false (lb 4294967296 (az z)) = az z := by
  have := num_lbW (az z)
  rw [sg_az] at this; exact this
theorem num10_az (z : Int) : num 10 false (lb 10 (az z)) = az z := by
  have := num_lb10 (az z)
  rw [sg_az] at this; exact this
theorem small_pz (a n : Int) : (pz a n).natAbs < Lim := by
  unfold pz
  split
  · exact Nat.lt_of_le_of_lt (Nat.zero_le _) (small_of_fits (z := 0) (by kernel_rfl))
  · exact small_hz _
theorem cmpZ_swap (x y : Int) : cmpZ y x = 0 - cmpZ x y := by unfold cmpZ; (repeat' split) <;> omega
theorem cmpZ_bound (x y : Int) : -1 ≤ cmpZ x y ∧ cmpZ x y ≤ 1 := by unfold cmpZ; (repeat' split) <;> omega
end Go.Abs
end
section
/- The statements of layer 1: numbers reckoned. -/
namespace Go.Abs
open Go.Proofs Go.Dig
theorem lim_twice {a b : Nat} (ha : a < 2 ^ 1024) (hb : b < 2 ^ 1024) : a + b + 1 < Lim := by
  have h := big_1024
  have h1 : (4 : Nat) ≤ 2 ^ 1024 := Nat.le_of_ble_eq_true (by kernel_rfl)
  generalize (2 : Nat) ^ 1024 = W at *
  have : 4 * W ≤ W * W := Nat.mul_le_mul_right W h1
  omega
theorem natAbs_ediv (a b : Int) : (a / b).natAbs ≤ a.natAbs := Int.natAbs_ediv_le_natAbs a b
theorem small_dq {x y : Int} (hx : fits x = true) : (dq x y).natAbs < Lim := by
  have h1 := lim_twice (fits_iff.1 hx) (fits_iff.1 hx)
  unfold dq
  split
  · exact Nat.lt_of_le_of_lt (Nat.zero_le _) h1
  · have h2 := natAbs_ediv x y
    rw [Int.fdiv_eq_ediv]
    split <;> omega
theorem small_dr {x y : Int} (hx : fits x = true) (hy : fits y = true) : (dr x y).natAbs < Lim := by
  have h1 := lim_twice (fits_iff.1 hy) (fits_iff.1 hy)
  unfold dr
  split
  · exact Nat.lt_of_le_of_lt (Nat.zero_le _) h1
  · rename_i h0
    have h2 := Int.emod_nonneg x h0
    have h3 := Int.emod_lt x h0
    rw [Int.fmod_eq_emod]
    split <;> omega
theorem gz_nonneg (x y : Int) : 0 ≤ gz x y := by unfold gz; omega
theorem az_gz (x y : Int) : az (gz x y) = gz x y := by unfold az gz; omega
theorem gz_le (x y : Int) : (gz x y).natAbs ≤ x.natAbs + y.natAbs := by
  unfold gz
  rw [Int.natAbs_natCast]
  by_cases h : x = 0
  · subst h
    rw [Int.gcd_zero_left]; omega
  · have : Int.gcd x y ≤ x.natAbs := Nat.le_of_dvd (by omega) (Nat.gcd_dvd_left _ _)
    omega
theorem small_gz {x y : Int} (hx : fits x = true) (hy : fits y = true) : (gz x y).natAbs < Lim := by
  have h1 := lim_twice (fits_iff.1 hx) (fits_iff.1 hy)
  have := gz_le x y
  omega
theorem cnW_gz (x y : Int) : cn 4294967296 false (lb 4294967296 (gz x y)) = decide ((gz x y).natAbs < Lim) := by have := cnW_az (gz x y); rw [az_gz] at this; exact this
theorem cn10_gz (x y : Int) : cn 10 false (lb 10 (gz x y)) = decide ((gz x y).natAbs < Lim) := by have := cn10_az (gz x y); rw [az_gz] at this; exact this
theorem numW_gz (x y : Int) : num 4294967296 false (lb 4294967296 (gz x y)) = gz x y := by have := numW_az (gz x y); rw [az_gz] at this; exact this
theorem num10_gz (x y : Int) : num 10 false (lb 10 (gz x y)) = gz x y := by have := num10_az (gz x y); rw [az_gz] at this; exact this
theorem small_sub {x y : Int} (hx : fits x = true) (hy : fits y = true) : (x - y).natAbs < Lim := by
  have h1 := lim_twice (fits_iff.1 hx) (fits_iff.1 hy)
  omega
end Go.Abs
end
section
/- The statements of layer 1: rings, moves. -/
namespace Go.Abs
open Go.Proofs Go.Dig
theorem hz_he {z : Int} (h : he z = 0) : hz z = z := hz_of (he_zero.1 h)
theorem he_fits {z : Int} (h : fits z = true) : he z = 0 := he_of h
theorem ne_b {x y : Int} (h : x ≠ y) : (x != y) = true := by rw [bne_iff_ne]; exact h
theorem eq_b {x y : Int} (h : x = y) : (x != y) = false := by subst h; exact bne_self_eq_false x
theorem cmpZ_add (x y z : Int) : cmpZ (x + z) (y + z) = cmpZ x y := by unfold cmpZ; (repeat' split) <;> omega
theorem cmpZ_mul (x y z : Int) : cmpZ (x * z) (y * z) = cmpZ x y * cmpZ z 0 := by
  have key : ∀ {x y : Int}, x < y → cmpZ (x * z) (y * z) = - cmpZ z 0 := by
    intro x y h
    rcases Int.lt_trichotomy z 0 with hz | hz | hz
    · have := Int.mul_lt_mul_of_neg_right h hz
      unfold cmpZ; rw [if_neg (by omega), if_pos (by omega), if_pos hz]
      rfl
    · subst hz; rw [Int.mul_zero, Int.mul_zero]; rfl
    · have := Int.mul_lt_mul_of_pos_right h hz
      unfold cmpZ; rw [if_pos (by omega), if_neg (by omega), if_pos (by omega)]
  rcases Int.lt_trichotomy x y with h | h | h
  · rw [key h, show cmpZ x y = -1 by unfold cmpZ; rw [if_pos h]]; omega
  · subst h; rw [cmpZ_self, cmpZ_self]; omega
  · rw [cmpZ_swap, key h, show cmpZ x y = 1 by unfold cmpZ; rw [if_neg (by omega), if_pos h]]; omega
end Go.Abs
end
section
/- The statements of layer 1: quotients and rests, divisors. -/
namespace Go.Abs
open Go.Proofs Go.Dig
/-- Quotient and rest, as the page has them. -/
theorem dq_dr (x : Int) {y : Int} (h : y ≠ 0) : dr x y + y * dq x y = x ∧ ((0 < y ∧ 0 ≤ dr x y ∧ dr x y < y) ∨ (y < 0 ∧ y < dr x y ∧ dr x y ≤ 0)) := by
  unfold dq dr
  rw [if_neg h, if_neg h]
  refine ⟨Int.fmod_add_mul_fdiv x y, ?_⟩
  rcases Int.lt_or_gt_of_ne h with hy | hy
  · refine .inr ⟨hy, ?_⟩
    have h2 := Int.emod_nonneg x h
    have h3 := Int.emod_lt x h
    rw [Int.fmod_eq_emod]
    split
    · rename_i h4
      have h5 : x % y = 0 := Int.emod_eq_zero_of_dvd (by rcases h4 with h4 | h4; omega; exact h4)
      omega
    · rename_i h4
      have h5 : x % y ≠ 0 := fun h5 => h4 (.inr (Int.dvd_of_emod_eq_zero h5))
      omega
  · exact .inl ⟨hy, Int.fmod_nonneg_of_pos x hy, Int.fmod_lt_of_pos x hy⟩
theorem dq_le (x : Int) {y : Int} (h : y ≠ 0) : (dq x y).natAbs ≤ x.natAbs := by
  obtain ⟨h1, h2⟩ := dq_dr x h
  generalize dq x y = q at *
  generalize dr x y = r at *
  by_cases hq0 : q = 0
  · subst hq0; simp
  by_cases hq1 : q = -1
  · subst hq1
    rw [Int.mul_neg, Int.mul_one] at h1
    omega
  have hyq : y * q = x - r := by omega
  rcases h2 with ⟨y0, r0, r1⟩ | ⟨y0, r0, r1⟩
  · rcases (by omega : 1 ≤ q ∨ q ≤ -2) with hq | hq
    · have : 1 * q ≤ y * q := Int.mul_le_mul_of_nonneg_right (by omega) (by omega)
      omega
    · have h3 : y * q ≤ y * (q + 1) - y := by rw [Int.mul_add]; omega
      have h4 : y * (q + 1) ≤ 1 * (q + 1) := Int.mul_le_mul_of_nonpos_right (by omega) (by omega)
      omega
  · rcases (by omega : 1 ≤ q ∨ q ≤ -2) with hq | hq
    · have : y * q ≤ (-1) * q := Int.mul_le_mul_of_nonneg_right (by omega) (by omega)
      omega
    · have h4 : (-1) * (q + 1) ≤ y * (q + 1) := Int.mul_le_mul_of_nonpos_right (by omega) (by omega)
      have h5 : y * (q + 1) = y * q + y := by rw [Int.mul_add, Int.mul_one]
      omega
theorem fits_le {x y : Int} (h : fits y = true) (hle : x.natAbs ≤ y.natAbs) : fits x = true := fits_iff.2 (Nat.lt_of_le_of_lt hle (fits_iff.1 h))
theorem fits_dq {x y : Int} (hx : fits x = true) : fits (dq x y) = true := by
  by_cases h : y = 0
  · unfold dq; rw [if_pos h]; kernel_rfl
  · exact fits_le hx (dq_le x h)
theorem fits_dr {x y : Int} (hy : fits y = true) : fits (dr x y) = true := by
  by_cases h : y = 0
  · unfold dr; rw [if_pos h]; kernel_rfl
  · obtain ⟨h1, h2⟩ := dq_dr x h
    exact fits_le hy (by omega)
theorem fits_gz {x y : Int} (hx : fits x = true) (hy : fits y = true) : fits (gz x y) = true := by
  unfold gz
  by_cases h : x = 0
  · subst h
    rw [Int.gcd_zero_left]
    exact fits_le hy (by omega)
  · have : Int.gcd x y ≤ x.natAbs := Nat.le_of_dvd (by omega) (Nat.gcd_dvd_left _ _)
    exact fits_le hx (by omega)
/-- Where the quotient times the divisor is too large, the number is nearly so. -/
theorem big_back {x y : Int} (hx : fits x = true) (hy : fits y = true) (h0 : y ≠ 0) (h : fits (dq x y * y) = false) : blen (az x) ≥ 1024 := by
  obtain ⟨h1, h2⟩ := dq_dr x h0
  refine Int.not_lt.1 (fun hlt => ?_)
  have hb : blen (az x) ≤ ((1023 : Nat) : Int) := by omega
  rw [blen_le (az_nonneg x)] at hb
  have hx2 : az x * 2 < 2 ^ 1024 := by rw [show (1024 : Nat) = 1023 + 1 from rfl, Int.pow_succ]; omega
  rw [Bool.eq_false_iff, ne_eq, fits_iff] at h
  have hyf := fits_iff.1 hy
  have e : ((2 ^ 1024 : Nat) : Int) = (2 : Int) ^ 1024 := Int.natCast_pow 2 1024
  rw [← e] at hx2
  generalize (2 : Nat) ^ 1024 = W at *
  rw [Int.mul_comm] at h
  generalize dq x y = q at *
  generalize dr x y = r at *
  unfold az at hx2
  by_cases hq0 : q = 0
  · subst hq0; simp at h; omega
  by_cases hq1 : q = -1
  · subst hq1; rw [Int.mul_neg, Int.mul_one] at h; omega
  rcases h2 with ⟨y0, r0, r1⟩ | ⟨y0, r0, r1⟩
  · rcases (by omega : 1 ≤ q ∨ q ≤ -2) with hq | hq
    · have : y * 1 ≤ y * q := Int.mul_le_mul_of_nonneg_left (by omega) (by omega)
      omega
    · have : y * q ≤ y * (-2) := Int.mul_le_mul_of_nonneg_left (by omega) (by omega)
      omega
  · rcases (by omega : 1 ≤ q ∨ q ≤ -2) with hq | hq
    · have : y * q ≤ y * 1 := Int.mul_le_mul_of_nonpos_left (by omega) (by omega)
      omega
    · have : y * (-2) ≤ y * q := Int.mul_le_mul_of_nonpos_left (by omega) (by omega)
      omega
end Go.Abs
end
section
/- States and rounds of ratio, as a program of this session printed them. -/
set_option maxRecDepth 10000
namespace Go.Abs
open Go.Proofs Go.Dig
noncomputable section
namespace QWhole
abbrev ans : Ans := []
abbrev orc : Orc := orcOf ans
theorem rest (s : Bool) (l : List Int) : runT T orc (noTab) Try.f30 [.agg [.bool s, .ints .u32 l]] =
    some (.val (.agg [.bool s, .ints .u32 l, .bool false, .ints .u32 []])) := by kernel_rfl
end QWhole
namespace QNum
abbrev ans : Ans := []
abbrev orc : Orc := orcOf ans
theorem rest (s : Bool) (l : List Int) (t : Bool) (m : List Int) : runT T orc (noTab) Try.f23 [.agg [.bool s, .ints .u32 l, .bool t, .ints .u32 m]] =
    some (.val (.agg [.bool s, .ints .u32 l])) := by kernel_rfl
end QNum
namespace QDen
abbrev ans : Ans := [(21, ansSign), (47, ansFrom)]
abbrev orc : Orc := orcOf ans
theorem rest (s : Bool) (l : List Int) (t : Bool) (m : List Int) : runT T orc (noTab) Try.f20 [.agg [.bool s, .ints .u32 l, .bool t, .ints .u32 m]] =
    (bif cn (4294967296) t m then (bif cmpZ (num (4294967296) t m) (0) == 0 then some (.val (.agg [.bool false, .ints .u32 (lb (4294967296) (1))])) else some (.val (.agg [.bool t, .ints .u32 m]))) else none) := by kernel_rfl
end QDen
namespace QMade
abbrev ans : Ans := [(47, ansFrom), (34, ansCmp)]
abbrev orc : Orc := orcOf ans
theorem rest (s : Bool) (l : List Int) (sy : Bool) (ly : List Int) : runT T orc (noTab) Try.f63 [.agg [.bool s, .ints .u32 l], .agg [.bool sy, .ints .u32 ly]] =
    (bif cn (4294967296) sy ly && true then (bif cmpZ (num (4294967296) sy ly) (num (4294967296) false (lb (4294967296) (1))) == 0 then some (.val (.agg [.bool s, .ints .u32 l, .bool false, .ints .u32 []])) else some (.val (.agg [.bool s, .ints .u32 l, .bool sy, .ints .u32 ly]))) else none) := by kernel_rfl
end QMade
namespace QOver
abbrev ans : Ans := [(74, ansDiv)]
abbrev orc : Orc := orcOf ans
theorem rest (s : Bool) (l : List Int) (sy : Bool) (ly : List Int) : runT T orc (noTab) Try.f64 [.agg [.bool s, .ints .u32 l], .agg [.bool sy, .ints .u32 ly]] =
    (bif cn (4294967296) s l && cn (4294967296) sy ly then some (.val (R (dq (num (4294967296) s l) (num (4294967296) sy ly)))) else none) := by kernel_rfl
end QOver
namespace QOf
abbrev ans : Ans := [(21, ansSign), (62, ansNeg), (22, ansGcd), (64, ansOver), (63, ansMade)]
abbrev orc : Orc := orcOf ans
theorem rest (s : Bool) (l : List Int) (sy : Bool) (ly : List Int) : runT T orc (noTab) Try.f17 [.agg [.bool s, .ints .u32 l], .agg [.bool sy, .ints .u32 ly]] =
    (bif cn (4294967296) sy ly then (bif cmpZ (num (4294967296) sy ly) (0) == 0 then some (.val (.tup [.agg [.bool false, .ints .u32 [], .bool false, .ints .u32 []], .int .i64 (12)])) else (bif cn (4294967296) sy ly then (bif decide (cmpZ (num (4294967296) sy ly) (0) < 0) then (bif cn (4294967296) s l then (bif cn (4294967296) sy ly then (bif cn (4294967296) (sg (-num (4294967296) s l)) (lb (4294967296) (-num (4294967296) s l)) && cn (4294967296) (sg (-num (4294967296) sy ly)) (lb (4294967296) (-num (4294967296) sy ly)) then (bif cn (4294967296) (sg (-num (4294967296) s l)) (lb (4294967296) (-num (4294967296) s l)) && cn (4294967296) false (lb (4294967296) (gz (N (4294967296) (-num (4294967296) s l)) (N (4294967296) (-num (4294967296) sy ly)))) then (bif cn (4294967296) (sg (-num (4294967296) sy ly)) (lb (4294967296) (-num (4294967296) sy ly)) && cn (4294967296) false (lb (4294967296) (gz (N (4294967296) (-num (4294967296) s l)) (N (4294967296) (-num (4294967296) sy ly)))) then (bif cn (4294967296) (sg (dq (N (4294967296) (-num (4294967296) sy ly)) (num (4294967296) false (lb (4294967296) (gz (N (4294967296) (-num (4294967296) s l)) (N (4294967296) (-num (4294967296) sy ly))))))) (lb (4294967296) (dq (N (4294967296) (-num (4294967296) sy ly)) (num (4294967296) false (lb (4294967296) (gz (N (4294967296) (-num (4294967296) s l)) (N (4294967296) (-num (4294967296) sy ly))))))) then some (.val (.tup [.agg [.bool (sg (dq (N (4294967296) (-num (4294967296) s l)) (num (4294967296) false (lb (4294967296) (gz (N (4294967296) (-num (4294967296) s l)) (N (4294967296) (-num (4294967296) sy ly))))))), .ints .u32 (lb (4294967296) (dq (N (4294967296) (-num (4294967296) s l)) (num (4294967296) false (lb (4294967296) (gz (N (4294967296) (-num (4294967296) s l)) (N (4294967296) (-num (4294967296) sy ly))))))), .bool (sg (zd (N (4294967296) (dq (N (4294967296) (-num (4294967296) sy ly)) (num (4294967296) false (lb (4294967296) (gz (N (4294967296) (-num (4294967296) s l)) (N (4294967296) (-num (4294967296) sy ly))))))))), .ints .u32 (lb (4294967296) (zd (N (4294967296) (dq (N (4294967296) (-num (4294967296) sy ly)) (num (4294967296) false (lb (4294967296) (gz (N (4294967296) (-num (4294967296) s l)) (N (4294967296) (-num (4294967296) sy ly)))))))))], .int .i64 (0)])) else none) else none) else none) else none) else none) else none) else (bif cn (4294967296) s l && cn (4294967296) sy ly then (bif cn (4294967296) s l && cn (4294967296) false (lb (4294967296) (gz (num (4294967296) s l) (num (4294967296) sy ly))) then (bif cn (4294967296) sy ly && cn (4294967296) false (lb (4294967296) (gz (num (4294967296) s l) (num (4294967296) sy ly))) then (bif cn (4294967296) (sg (dq (num (4294967296) sy ly) (num (4294967296) false (lb (4294967296) (gz (num (4294967296) s l) (num (4294967296) sy ly)))))) (lb (4294967296) (dq (num (4294967296) sy ly) (num (4294967296) false (lb (4294967296) (gz (num (4294967296) s l) (num (4294967296) sy ly)))))) then some (.val (.tup [.agg [.bool (sg (dq (num (4294967296) s l) (num (4294967296) false (lb (4294967296) (gz (num (4294967296) s l) (num (4294967296) sy ly)))))), .ints .u32 (lb (4294967296) (dq (num (4294967296) s l) (num (4294967296) false (lb (4294967296) (gz (num (4294967296) s l) (num (4294967296) sy ly)))))), .bool (sg (zd (N (4294967296) (dq (num (4294967296) sy ly) (num (4294967296) false (lb (4294967296) (gz (num (4294967296) s l) (num (4294967296) sy ly)))))))), .ints .u32 (lb (4294967296) (zd (N (4294967296) (dq (num (4294967296) sy ly) (num (4294967296) false (lb (4294967296) (gz (num (4294967296) s l) (num (4294967296) sy ly))))))))], .int .i64 (0)])) else none) else none) else none) else none)) else none)) else none) := by kernel_rfl
end QOf
namespace QIsWhole
abbrev ans : Ans := [(21, ansSign)]
abbrev orc : Orc := orcOf ans
theorem rest (s : Bool) (l : List Int) (t : Bool) (m : List Int) : runT T orc (noTab) Try.f48 [.agg [.bool s, .ints .u32 l, .bool t, .ints .u32 m]] =
    (bif cn (4294967296) t m then some (.val (.bool (cmpZ (num (4294967296) t m) (0) == 0))) else none) := by kernel_rfl
end QIsWhole
namespace QText
abbrev ans : Ans := [(48, ansIsWhole), (24, ansText)]
abbrev orc : Orc := orcOf ans
theorem rest (s : Bool) (l : List Int) (t : Bool) (m : List Int) : runT T orc (noTab) Try.f27 [.agg [.bool s, .ints .u32 l, .bool t, .ints .u32 m]] =
    (bif cn (4294967296) t m then (bif decide (num (4294967296) t m = 0) then (bif cn (4294967296) s l then some (.val (.str (txt (num (4294967296) s l)))) else none) else (bif cn (4294967296) s l then (bif decide ((txt (num (4294967296) s l)).size + 1 ≤ 9223372036854775807) then (bif cn (4294967296) t m then (bif decide ((txt (num (4294967296) s l) ++ { data := #[47] }).size + (txt (num (4294967296) t m)).size ≤ 9223372036854775807) then some (.val (.str (txt (num (4294967296) s l) ++ { data := #[47] } ++ txt (num (4294967296) t m)))) else none) else none) else none) else none)) else none) := by kernel_rfl
end QText
namespace QSign
abbrev ans : Ans := [(21, ansSign)]
abbrev orc : Orc := orcOf ans
theorem rest (s : Bool) (l : List Int) (t : Bool) (m : List Int) : runT T orc (noTab) Try.f39 [.agg [.bool s, .ints .u32 l, .bool t, .ints .u32 m]] =
    (bif cn (4294967296) s l then some (.val (.int .i64 (cmpZ (num (4294967296) s l) (0)))) else none) := by kernel_rfl
end QSign
namespace QNeg
abbrev ans : Ans := [(62, ansNeg)]
abbrev orc : Orc := orcOf ans
theorem rest (s : Bool) (l : List Int) (t : Bool) (m : List Int) : runT T orc (noTab) Try.f42 [.agg [.bool s, .ints .u32 l, .bool t, .ints .u32 m]] =
    (bif cn (4294967296) s l then some (.val (.agg [.bool (sg (-num (4294967296) s l)), .ints .u32 (lb (4294967296) (-num (4294967296) s l)), .bool t, .ints .u32 m])) else none) := by kernel_rfl
end QNeg
namespace QFloor
abbrev ans : Ans := [(20, ansDen), (74, ansDiv)]
abbrev orc : Orc := orcOf ans
theorem rest (s : Bool) (l : List Int) (t : Bool) (m : List Int) : runT T orc (noTab) Try.f32 [.agg [.bool s, .ints .u32 l, .bool t, .ints .u32 m]] =
    (bif cn (4294967296) t m then (bif cn (4294967296) s l && cn (4294967296) (sg (dn (num (4294967296) t m))) (lb (4294967296) (dn (num (4294967296) t m))) then some (.val (R (dq (num (4294967296) s l) (N (4294967296) (dn (num (4294967296) t m)))))) else none) else none) := by kernel_rfl
end QFloor
namespace QCeil
abbrev ans : Ans := [(42, ansQNeg), (32, ansFloor), (62, ansNeg)]
abbrev orc : Orc := orcOf ans
theorem rest (s : Bool) (l : List Int) (t : Bool) (m : List Int) : runT T orc (noTab) Try.f33 [.agg [.bool s, .ints .u32 l, .bool t, .ints .u32 m]] =
    (bif cn (4294967296) s l then (bif isQ (sg (-num (4294967296) s l)) (lb (4294967296) (-num (4294967296) s l)) t m then (bif cn (4294967296) (sg (rq (sg (-num (4294967296) s l)) (lb (4294967296) (-num (4294967296) s l)) m).floor) (lb (4294967296) (rq (sg (-num (4294967296) s l)) (lb (4294967296) (-num (4294967296) s l)) m).floor) then some (.val (R (-N (4294967296) (rq (sg (-num (4294967296) s l)) (lb (4294967296) (-num (4294967296) s l)) m).floor))) else none) else none) else none) := by kernel_rfl
end QCeil
namespace QSub
abbrev ans : Ans := [(42, ansQNeg), (29, ansQAdd)]
abbrev orc : Orc := orcOf ans
theorem rest (s : Bool) (l : List Int) (t : Bool) (m : List Int) (sy : Bool) (ly : List Int) (ty : Bool) (my : List Int) : runT T orc (noTab) Try.f51 [.agg [.bool s, .ints .u32 l, .bool t, .ints .u32 m], .agg [.bool sy, .ints .u32 ly, .bool ty, .ints .u32 my]] =
    (bif cn (4294967296) sy ly then (bif isQ s l t m && isQ (sg (-num (4294967296) sy ly)) (lb (4294967296) (-num (4294967296) sy ly)) ty my then some (.val (.tup [.agg [.bool (sg (qadd (rq s l m) (rq (sg (-num (4294967296) sy ly)) (lb (4294967296) (-num (4294967296) sy ly)) my)).num), .ints .u32 (lb (4294967296) (qadd (rq s l m) (rq (sg (-num (4294967296) sy ly)) (lb (4294967296) (-num (4294967296) sy ly)) my)).num), .bool false, .ints .u32 (lb (4294967296) (zd (↑(qadd (rq s l m) (rq (sg (-num (4294967296) sy ly)) (lb (4294967296) (-num (4294967296) sy ly)) my)).den : Int)))], .int .i64 (eadd (rq s l m) (rq (sg (-num (4294967296) sy ly)) (lb (4294967296) (-num (4294967296) sy ly)) my))])) else none) else none) := by kernel_rfl
end QSub
namespace QInv
abbrev ans : Ans := [(20, ansDen), (17, ansOf)]
abbrev orc : Orc := orcOf ans
theorem rest (s : Bool) (l : List Int) (t : Bool) (m : List Int) : runT T orc (noTab) Try.f49 [.agg [.bool s, .ints .u32 l, .bool t, .ints .u32 m]] =
    (bif cn (4294967296) t m then (bif cn (4294967296) (sg (dn (num (4294967296) t m))) (lb (4294967296) (dn (num (4294967296) t m))) && cn (4294967296) s l then some (.val (.tup [.agg [.bool (sg (ofQ (N (4294967296) (dn (num (4294967296) t m))) (num (4294967296) s l)).num), .ints .u32 (lb (4294967296) (ofQ (N (4294967296) (dn (num (4294967296) t m))) (num (4294967296) s l)).num), .bool false, .ints .u32 (lb (4294967296) (zd (↑(ofQ (N (4294967296) (dn (num (4294967296) t m))) (num (4294967296) s l)).den : Int)))], .int .i64 (dc (num (4294967296) s l))])) else none) else none) := by kernel_rfl
end QInv
namespace QQuo
abbrev ans : Ans := [(49, ansInv), (52, ansQMul)]
abbrev orc : Orc := orcOf ans
theorem rest (s : Bool) (l : List Int) (t : Bool) (m : List Int) (sy : Bool) (ly : List Int) (ty : Bool) (my : List Int) : runT T orc (noTab) Try.f50 [.agg [.bool s, .ints .u32 l, .bool t, .ints .u32 m], .agg [.bool sy, .ints .u32 ly, .bool ty, .ints .u32 my]] =
    (bif isQ sy ly ty my then (bif einv (rq sy ly my) != 0 then some (.val (.tup [.agg [.bool false, .ints .u32 [], .bool false, .ints .u32 []], .int .i64 (einv (rq sy ly my))])) else (bif isQ s l t m && isQ (sg (rq sy ly my)⁻¹.num) (lb (4294967296) (rq sy ly my)⁻¹.num) false (lb (4294967296) (zd (↑(rq sy ly my)⁻¹.den : Int))) then some (.val (.tup [.agg [.bool (sg (qmul (rq s l m) (rq (sg (rq sy ly my)⁻¹.num) (lb (4294967296) (rq sy ly my)⁻¹.num) (lb (4294967296) (zd (↑(rq sy ly my)⁻¹.den : Int))))).num), .ints .u32 (lb (4294967296) (qmul (rq s l m) (rq (sg (rq sy ly my)⁻¹.num) (lb (4294967296) (rq sy ly my)⁻¹.num) (lb (4294967296) (zd (↑(rq sy ly my)⁻¹.den : Int))))).num), .bool false, .ints .u32 (lb (4294967296) (zd (↑(qmul (rq s l m) (rq (sg (rq sy ly my)⁻¹.num) (lb (4294967296) (rq sy ly my)⁻¹.num) (lb (4294967296) (zd (↑(rq sy ly my)⁻¹.den : Int))))).den : Int)))], .int .i64 (emul (rq s l m) (rq (sg (rq sy ly my)⁻¹.num) (lb (4294967296) (rq sy ly my)⁻¹.num) (lb (4294967296) (zd (↑(rq sy ly my)⁻¹.den : Int)))))])) else none)) else none) := by kernel_rfl
end QQuo
end
end Go.Abs
end
section
/- The functions of ratio that are short: they answer as the tables say. -/
namespace Go.Abs
open Go.Proofs Go.Dig
theorem fit_lim {z : Int} (h : fits z = true) : decide (z.natAbs < Lim) = true := decide_eq_true (small_of_fits h)
theorem cn_nm {q : Rat} (h : fitsQ q = true) : cn 4294967296 (sg q.num) (lb 4294967296 q.num) = true := by rw [cnW]; exact fit_lim (fitsQ_iff.1 h).1
theorem cn_den {q : Rat} (h : fitsQ q = true) : cn 4294967296 (sg (q.den : Int)) (lb 4294967296 q.den) = true := by rw [cnW]; exact fit_lim (fitsQ_iff.1 h).2
theorem zd_le (d : Nat) : (zd (d : Int)).natAbs ≤ d := by unfold zd; cases hb : (d : Int) == 1 <;> simp only [cond_true, cond_false] <;> omega
theorem cn_zd {q : Rat} (h : fitsQ q = true) : cn 4294967296 false (lb 4294967296 (zd q.den)) = true := by
  have := cnW (zd q.den)
  rw [sg_nn (zd_nn (by omega))] at this
  rw [this]
  exact fit_lim (fits_le' (fitsQ_iff.1 h).2 (by have := zd_le q.den; omega))
theorem num_zd (q : Rat) : num 4294967296 false (lb 4294967296 (zd q.den)) = zd q.den := num_nnW (zd_nn (by omega))
theorem dn_den (q : Rat) : dn (zd q.den) = q.den := dn_zd (den_pos' q)
theorem zd_zero {d : Int} (h : 1 ≤ d) : zd d = 0 ↔ d = 1 := by
  unfold zd
  cases hb : d == 1 with
  | true => rw [beq_iff_eq] at hb; simp [hb]
  | false => rw [beq_eq_false_iff_ne] at hb; rw [cond_false]; omega
theorem meets_whole : Meets Try.prog 30 ansWhole := by
  refine meets_fn (orc_ok (l := QWhole.ans) trivial) Try.f30 rfl (by kernel_rfl) (fun args r h => ?_)
  unfold ansWhole at h
  split at h
  · rename_i s l
    simp only [Option.some.injEq, Prod.mk.injEq] at h
    obtain ⟨_, rfl⟩ := h
    exact ⟨rfl, _, noTab_all, QWhole.rest s l⟩
  · cases h
theorem meets_qnum : Meets Try.prog 23 ansNum := by
  refine meets_fn (orc_ok (l := QNum.ans) trivial) Try.f23 rfl (by kernel_rfl) (fun args r h => ?_)
  unfold ansNum at h
  split at h
  · rename_i s l t m
    simp only [Option.some.injEq, Prod.mk.injEq] at h
    obtain ⟨_, rfl⟩ := h
    exact ⟨rfl, _, noTab_all, QNum.rest s l t m⟩
  · cases h
theorem cmp0 (z : Int) : (cmpZ z 0 == 0) = decide (z = 0) := by
  rw [Bool.eq_iff_iff, beq_iff_eq, decide_eq_true_eq]
  unfold cmpZ; (repeat' split) <;> omega
theorem meets_qden : Meets Try.prog 20 ansDen := by
  refine meets_fn (orc_ok (l := QDen.ans) ⟨meets_sign, meets_from, trivial⟩) Try.f20 rfl (by kernel_rfl) (fun args r h => ?_)
  unfold ansDen at h
  split at h
  · rename_i s l t m
    simp only [Option.some.injEq, Prod.mk.injEq] at h
    obtain ⟨h1, rfl⟩ := h
    refine ⟨rfl, _, noTab_all, (QDen.rest s l t m).trans ((bT h1).trans ?_)⟩
    obtain ⟨z, rfl, rfl, hz⟩ := (cn_iff W_two).1 h1
    rw [num_lbW, cmp0]
    by_cases h0 : z = 0
    · subst h0; exact bT rfl
    · refine (bF (decide_eq_false h0)).trans ?_
      have : dn z = z := by unfold dn; rw [show (z == 0) = false from by rw [beq_eq_false_iff_ne]; exact h0, cond_false]
      rw [this]
  · cases h
theorem meets_made : Meets Try.prog 63 ansMade := by
  refine meets_fn (orc_ok (l := QMade.ans) ⟨meets_from, meets_cmp, trivial⟩) Try.f63 rfl (by kernel_rfl) (fun args r h => ?_)
  unfold ansMade at h
  split at h
  · rename_i s l t m
    simp only [Option.some.injEq, Prod.mk.injEq] at h
    obtain ⟨h1, rfl⟩ := h
    refine ⟨rfl, _, noTab_all, (QMade.rest s l t m).trans ((bT (by rw [h1]; rfl)).trans ?_)⟩
    obtain ⟨z, rfl, rfl, hz⟩ := (cn_iff W_two).1 h1
    have n1 : num 4294967296 false (lb 4294967296 1) = 1 := num_nnW (by decide)
    rw [num_lbW, n1]
    by_cases h0 : z = 1
    · subst h0; exact bT rfl
    · refine (bF (by rw [beq_eq_false_iff_ne]; unfold cmpZ; (repeat' split) <;> omega)).trans ?_
      have : zd z = z := by unfold zd; rw [show (z == 1) = false from by rw [beq_eq_false_iff_ne]; exact h0, cond_false]
      rw [this]
  · cases h
theorem meets_over : Meets Try.prog 64 ansOver := by
  refine meets_fn (orc_ok (l := QOver.ans) ⟨meets_div, trivial⟩) Try.f64 rfl (by kernel_rfl) (fun args r h => ?_)
  unfold ansOver at h
  split at h
  · rename_i s l t m
    simp only [Option.some.injEq, Prod.mk.injEq] at h
    obtain ⟨h1, rfl⟩ := h
    exact ⟨rfl, _, noTab_all, (QOver.rest s l t m).trans (bT h1)⟩
  · cases h
theorem meets_iswhole : Meets Try.prog 48 ansIsWhole := by
  refine meets_fn (orc_ok (l := QIsWhole.ans) ⟨meets_sign, trivial⟩) Try.f48 rfl (by kernel_rfl) (fun args r h => ?_)
  unfold ansIsWhole at h
  split at h
  · rename_i s l t m
    simp only [Option.some.injEq, Prod.mk.injEq] at h
    obtain ⟨h1, rfl⟩ := h
    refine ⟨rfl, _, noTab_all, (QIsWhole.rest s l t m).trans ((bT h1).trans ?_)⟩
    rw [cmp0]
  · cases h
theorem meets_qsign : Meets Try.prog 39 ansQSign := by
  refine meets_fn (orc_ok (l := QSign.ans) ⟨meets_sign, trivial⟩) Try.f39 rfl (by kernel_rfl) (fun args r h => ?_)
  unfold ansQSign at h
  split at h
  · rename_i s l t m
    simp only [Option.some.injEq, Prod.mk.injEq] at h
    obtain ⟨h1, rfl⟩ := h
    exact ⟨rfl, _, noTab_all, (QSign.rest s l t m).trans (bT h1)⟩
  · cases h
theorem meets_qneg : Meets Try.prog 42 ansQNeg := by
  refine meets_fn (orc_ok (l := QNeg.ans) ⟨meets_neg, trivial⟩) Try.f42 rfl (by kernel_rfl) (fun args r h => ?_)
  unfold ansQNeg at h
  split at h
  · rename_i s l t m
    simp only [Option.some.injEq, Prod.mk.injEq] at h
    obtain ⟨h1, rfl⟩ := h
    exact ⟨rfl, _, noTab_all, (QNeg.rest s l t m).trans (bT h1)⟩
  · cases h
theorem floor_dq (q : Rat) : dq q.num q.den = q.floor := by
  have := den_pos' q
  unfold dq
  rw [if_neg (by omega), Rat.floor_def, Int.fdiv_eq_ediv_of_nonneg _ (by omega)]
theorem meets_floor : Meets Try.prog 32 ansFloor := by
  refine meets_fn (orc_ok (l := QFloor.ans) ⟨meets_qden, meets_div, trivial⟩) Try.f32 rfl (by kernel_rfl) (fun args r h => ?_)
  unfold ansFloor at h
  split at h
  · rename_i s l t m
    simp only [Option.some.injEq, Prod.mk.injEq] at h
    obtain ⟨h1, rfl⟩ := h
    refine ⟨rfl, _, noTab_all, (QFloor.rest s l t m).trans ?_⟩
    obtain ⟨q, hq, rfl, rfl, rfl, rfl⟩ := isQ_iff.1 h1
    simp only [cn_zd hq, cn_nm hq, num_zd, dn_den, cn_den hq, num_lbW, N_eq, rq_Q, floor_dq, Bool.and_self, cond_true]
  · cases h
theorem rq_neg (q : Rat) : rq (sg (-q.num)) (lb 4294967296 (-q.num)) (lb 4294967296 (zd q.den)) = -q := rq_Q (-q)
theorem isQ_neg (q : Rat) : isQ (sg (-q.num)) (lb 4294967296 (-q.num)) false (lb 4294967296 (zd q.den)) = fitsQ (-q) := isQ_Q (-q)
theorem floor_le_fits {q : Rat} (h : fitsQ q = true) : fits q.floor = true := by
  rw [Rat.floor_def]
  exact fits_le' (fitsQ_iff.1 h).1 (Int.natAbs_ediv_le_natAbs ..)
theorem meets_ceil : Meets Try.prog 33 ansCeil := by
  refine meets_fn (orc_ok (l := QCeil.ans) ⟨meets_qneg, meets_floor, meets_neg, trivial⟩) Try.f33 rfl (by kernel_rfl) (fun args r h => ?_)
  unfold ansCeil at h
  split at h
  · rename_i s l t m
    simp only [Option.some.injEq, Prod.mk.injEq] at h
    obtain ⟨h1, rfl⟩ := h
    refine ⟨rfl, _, noTab_all, (QCeil.rest s l t m).trans ?_⟩
    obtain ⟨q, hq, rfl, rfl, rfl, rfl⟩ := isQ_iff.1 h1
    simp only [cn_nm hq, num_lbW, rq_neg, isQ_neg, fitsQ_neg hq, cnW, fit_lim (floor_le_fits (fitsQ_neg hq)), N_eq, rq_Q, cond_true]
  · cases h
theorem meets_qsub (hadd : Meets Try.prog 29 ansQAdd) : Meets Try.prog 51 ansQSub := by
  refine meets_fn (orc_ok (l := QSub.ans) ⟨meets_qneg, hadd, trivial⟩) Try.f51 rfl (by kernel_rfl) (fun args r h => ?_)
  unfold ansQSub at h
  split at h
  · rename_i s l t m s' l' t' m'
    simp only [Option.some.injEq, Prod.mk.injEq] at h
    obtain ⟨h1, rfl⟩ := h
    rw [Bool.and_eq_true] at h1
    refine ⟨rfl, _, noTab_all, (QSub.rest s l t m s' l' t' m').trans ?_⟩
    obtain ⟨q, hq, rfl, rfl, rfl, rfl⟩ := isQ_iff.1 h1.1
    obtain ⟨p, hp, rfl, rfl, rfl, rfl⟩ := isQ_iff.1 h1.2
    simp only [cn_nm hp, num_lbW, rq_neg, isQ_neg, isQ_Q, hq, fitsQ_neg hp, rq_Q, Bool.and_self, cond_true]
  · cases h
theorem ofQ_dq (a : Int) {b : Int} (hb : 0 < b) : dq a (gz a b) = (ofQ a b).num ∧ dq b (gz a b) = (ofQ a b).den := by
  have hp : 0 < Int.gcd a b := Nat.pos_of_ne_zero (fun h0 => by rw [Int.gcd_eq_zero_iff] at h0; omega)
  rw [ofQ_num hb, ofQ_den hb]
  unfold gz dq
  rw [if_neg (by omega), if_neg (by omega), Int.fdiv_eq_ediv_of_nonneg _ (by omega), Int.fdiv_eq_ediv_of_nonneg _ (by omega)]
  exact ⟨rfl, rfl⟩
theorem meets_of : Meets Try.prog 17 ansOf := by
  refine meets_fn (orc_ok (l := QOf.ans) ⟨meets_sign, meets_neg, meets_gcd, meets_over, meets_made, trivial⟩) Try.f17 rfl (by kernel_rfl) (fun args r h => ?_)
  unfold ansOf at h
  split at h
  · rename_i s l t m
    simp only [Option.some.injEq, Prod.mk.injEq] at h
    obtain ⟨h1, rfl⟩ := h
    rw [Bool.and_eq_true] at h1
    refine ⟨rfl, _, noTab_all, (QOf.rest s l t m).trans ?_⟩
    obtain ⟨x, rfl, rfl, hx⟩ := (cn_iff W_two).1 h1.1
    obtain ⟨y, rfl, rfl, hy⟩ := (cn_iff W_two).1 h1.2
    have hg : ∀ a b : Int, b ≠ 0 → b.natAbs < Lim → (gz a b).natAbs < Lim := fun a b h0 hb => by
      refine Nat.lt_of_le_of_lt ?_ hb
      unfold gz
      rw [Int.natAbs_natCast]
      exact Nat.le_of_dvd (by omega) (Nat.gcd_dvd_right ..)
    have hq : ∀ a b : Int, a.natAbs < Lim → (dq a b).natAbs < Lim := fun a b ha => by
      by_cases h0 : b = 0
      · unfold dq; rw [if_pos h0]; exact Nat.lt_of_le_of_lt (by omega) ha
      · exact Nat.lt_of_le_of_lt (dq_le a h0) ha
    have hn : ∀ a : Int, a.natAbs < Lim → (-a).natAbs < Lim := fun a ha => by omega
    simp only [cnW, cnW_gz, numW_gz, num_lbW, N_eq, cmp0, decide_eq_true hx, decide_eq_true hy, decide_eq_true (hn x hx), decide_eq_true (hn y hy), Bool.and_self, cond_true]
    by_cases h0 : y = 0
    · subst h0; rw [ofQ_zero]; rfl
    · simp only [decide_eq_false h0, cond_false, decide_eq_true (hg _ _ h0 hy), decide_eq_true (hg (-x) (-y) (by omega) (hn y hy)), decide_eq_true (hq x _ hx), decide_eq_true (hq y _ hy), decide_eq_true (hq (-y) _ (hn y hy)), Bool.and_self, cond_true]
      have hdc : dc y = 0 := by unfold dc; rw [if_neg h0]
      by_cases h1 : y < 0
      · refine (bT (decide_eq_true ((cmpZ_lt y 0).2 h1))).trans ?_
        obtain ⟨e1, e2⟩ := ofQ_dq (-x) (b := -y) (by omega)
        rw [ofQ_neg] at e1 e2
        rw [e1, e2, hdc, sg_nn (zd_nn (Int.natCast_nonneg _))]
      · refine (bF (decide_eq_false (fun h => h1 ((cmpZ_lt y 0).1 h)))).trans ?_
        obtain ⟨e1, e2⟩ := ofQ_dq x (b := y) (by omega)
        rw [e1, e2, hdc, sg_nn (zd_nn (Int.natCast_nonneg _))]
  · cases h
theorem meets_inv : Meets Try.prog 49 ansInv := by
  refine meets_fn (orc_ok (l := QInv.ans) ⟨meets_qden, meets_of, trivial⟩) Try.f49 rfl (by kernel_rfl) (fun args r h => ?_)
  unfold ansInv at h
  split at h
  · rename_i s l t m
    simp only [Option.some.injEq, Prod.mk.injEq] at h
    obtain ⟨h1, rfl⟩ := h
    refine ⟨rfl, _, noTab_all, (QInv.rest s l t m).trans ?_⟩
    obtain ⟨q, hq, rfl, rfl, rfl, rfl⟩ := isQ_iff.1 h1
    simp only [cn_zd hq, cn_nm hq, num_zd, dn_den, cn_den hq, num_lbW, N_eq, rq_Q, ofQ_inv, einv_eq, Bool.and_self, cond_true]
  · cases h
theorem qmul_err {x y : Rat} : emul x y ≠ 0 → qmul x y = 0 := fun h => by rw [qmul_eq, show (emul x y == 0) = false from by rw [beq_eq_false_iff_ne]; exact h, cond_false]
theorem meets_quo (hmul : Meets Try.prog 52 ansQMul) : Meets Try.prog 50 ansQuo := by
  refine meets_fn (orc_ok (l := QQuo.ans) ⟨meets_inv, hmul, trivial⟩) Try.f50 rfl (by kernel_rfl) (fun args r h => ?_)
  unfold ansQuo at h
  split at h
  · rename_i s l t m s' l' t' m'
    simp only [Option.some.injEq, Prod.mk.injEq] at h
    obtain ⟨h1, rfl⟩ := h
    rw [Bool.and_eq_true] at h1
    refine ⟨rfl, _, noTab_all, (QQuo.rest s l t m s' l' t' m').trans ?_⟩
    obtain ⟨q, hq, rfl, rfl, rfl, rfl⟩ := isQ_iff.1 h1.1
    obtain ⟨p, hp, rfl, rfl, rfl, rfl⟩ := isQ_iff.1 h1.2
    simp only [isQ_Q, hq, hp, fitsQ_inv hp, rq_Q, Bool.and_self, cond_true]
    rw [qquo_eq, equo_eq]
    by_cases h0 : einv p = 0
    · rw [h0]
      refine (bF rfl).trans ?_
      rw [show ((0 : Int) == 0) = true from rfl, cond_true, qmul_eq]
    · have hb : (einv p == 0) = false := by rw [beq_eq_false_iff_ne]; exact h0
      rw [hb, cond_false, hb, cond_false]
      exact bT (ne_b h0)
  · cases h
theorem txtL_length {z : Int} (h : z.natAbs < Lim) : (txtL z).length ≤ 10002 := by
  have h1 := lb10_length h
  unfold lb at h1
  unfold txtL dig
  split
  · simp
  · rw [List.length_append, List.length_map, List.length_reverse]
    split <;> simp only [List.length_cons, List.length_nil] <;> omega
theorem txt_size {z : Int} (h : z.natAbs < Lim) : (txt z).size ≤ 10002 := by
  have := txtL_length h
  unfold txt strOf
  show (((txtL z).map _).toArray).size ≤ _
  rw [List.size_toArray, List.length_map]
  exact this
theorem meets_qtext : Meets Try.prog 27 ansQText := by
  refine meets_fn (orc_ok (l := QText.ans) ⟨meets_iswhole, meets_text, trivial⟩) Try.f27 rfl (by kernel_rfl) (fun args r h => ?_)
  unfold ansQText at h
  split at h
  · rename_i s l t m
    simp only [Option.some.injEq, Prod.mk.injEq] at h
    obtain ⟨h1, rfl⟩ := h
    refine ⟨rfl, _, noTab_all, (QText.rest s l t m).trans ?_⟩
    obtain ⟨q, hq, rfl, rfl, rfl, rfl⟩ := isQ_iff.1 h1
    simp only [cn_zd hq, cn_nm hq, num_zd, num_lbW, rq_Q, cond_true, qtxt_eq]
    by_cases h0 : q.den = 1
    · rw [h0]; exact bT rfl
    · have hz : ¬ (zd q.den = 0) := fun h => h0 (by have := (zd_zero (den_pos' q)).1 h; omega)
      have hzd : zd q.den = q.den := by unfold zd; rw [show ((q.den : Int) == 1) = false from by rw [beq_eq_false_iff_ne]; omega, cond_false]
      have f1 := small_of_fits (fitsQ_iff.1 hq).1
      have f2 := small_of_fits (fitsQ_iff.1 hq).2
      have s1 := txt_size f1
      have s2 := txt_size f2
      refine (bF (decide_eq_false hz)).trans ((bT (decide_eq_true (by omega))).trans ?_)
      rw [hzd, decide_eq_false h0, cond_false, ByteArray.append_assoc]
      refine bT (decide_eq_true ?_)
      rw [ByteArray.size_append]
      show (txt q.num).size + 1 + _ ≤ _
      omega
  · cases h
end Go.Abs
end
section
/- States and rounds of ratio, its longer functions, as a program of this session printed them. -/
set_option maxRecDepth 10000
namespace Go.Abs
open Go.Proofs Go.Dig
noncomputable section
namespace QAdd
abbrev ans : Ans := [(20, ansDen), (22, ansGcd), (64, ansOver), (72, ansMul), (31, ansAdd), (63, ansMade)]
abbrev orc : Orc := orcOf ans
theorem rest (s : Bool) (l : List Int) (t : Bool) (m : List Int) (sy : Bool) (ly : List Int) (ty : Bool) (my : List Int) : runT T orc (noTab) Try.f29 [.agg [.bool s, .ints .u32 l, .bool t, .ints .u32 m], .agg [.bool sy, .ints .u32 ly, .bool ty, .ints .u32 my]] =
    (bif cn (4294967296) t m then (bif cn (4294967296) ty my then (bif cn (4294967296) (sg (dn (num (4294967296) t m))) (lb (4294967296) (dn (num (4294967296) t m))) && cn (4294967296) (sg (dn (num (4294967296) ty my))) (lb (4294967296) (dn (num (4294967296) ty my))) then (bif cn (4294967296) (sg (dn (num (4294967296) ty my))) (lb (4294967296) (dn (num (4294967296) ty my))) && cn (4294967296) false (lb (4294967296) (gz (N (4294967296) (dn (num (4294967296) t m))) (N (4294967296) (dn (num (4294967296) ty my))))) then (bif cn (4294967296) s l && cn (4294967296) (sg (dq (N (4294967296) (dn (num (4294967296) ty my))) (num (4294967296) false (lb (4294967296) (gz (N (4294967296) (dn (num (4294967296) t m))) (N (4294967296) (dn (num (4294967296) ty my)))))))) (lb (4294967296) (dq (N (4294967296) (dn (num (4294967296) ty my))) (num (4294967296) false (lb (4294967296) (gz (N (4294967296) (dn (num (4294967296) t m))) (N (4294967296) (dn (num (4294967296) ty my)))))))) && fits (num (4294967296) s l) && fits (N (4294967296) (dq (N (4294967296) (dn (num (4294967296) ty my))) (num (4294967296) false (lb (4294967296) (gz (N (4294967296) (dn (num (4294967296) t m))) (N (4294967296) (dn (num (4294967296) ty my)))))))) then (bif he (num (4294967296) s l * N (4294967296) (dq (N (4294967296) (dn (num (4294967296) ty my))) (num (4294967296) false (lb (4294967296) (gz (N (4294967296) (dn (num (4294967296) t m))) (N (4294967296) (dn (num (4294967296) ty my)))))))) != 0 then some (.val (.tup [.agg [.bool false, .ints .u32 [], .bool false, .ints .u32 []], .int .i64 (he (num (4294967296) s l * N (4294967296) (dq (N (4294967296) (dn (num (4294967296) ty my))) (num (4294967296) false (lb (4294967296) (gz (N (4294967296) (dn (num (4294967296) t m))) (N (4294967296) (dn (num (4294967296) ty my)))))))))])) else (bif cn (4294967296) (sg (dn (num (4294967296) t m))) (lb (4294967296) (dn (num (4294967296) t m))) && cn (4294967296) false (lb (4294967296) (gz (N (4294967296) (dn (num (4294967296) t m))) (N (4294967296) (dn (num (4294967296) ty my))))) then (bif cn (4294967296) sy ly && cn (4294967296) (sg (dq (N (4294967296) (dn (num (4294967296) t m))) (num (4294967296) false (lb (4294967296) (gz (N (4294967296) (dn (num (4294967296) t m))) (N (4294967296) (dn (num (4294967296) ty my)))))))) (lb (4294967296) (dq (N (4294967296) (dn (num (4294967296) t m))) (num (4294967296) false (lb (4294967296) (gz (N (4294967296) (dn (num (4294967296) t m))) (N (4294967296) (dn (num (4294967296) ty my)))))))) && fits (num (4294967296) sy ly) && fits (N (4294967296) (dq (N (4294967296) (dn (num (4294967296) t m))) (num (4294967296) false (lb (4294967296) (gz (N (4294967296) (dn (num (4294967296) t m))) (N (4294967296) (dn (num (4294967296) ty my)))))))) then (bif he (num (4294967296) sy ly * N (4294967296) (dq (N (4294967296) (dn (num (4294967296) t m))) (num (4294967296) false (lb (4294967296) (gz (N (4294967296) (dn (num (4294967296) t m))) (N (4294967296) (dn (num (4294967296) ty my)))))))) != 0 then some (.val (.tup [.agg [.bool false, .ints .u32 [], .bool false, .ints .u32 []], .int .i64 (he (num (4294967296) sy ly * N (4294967296) (dq (N (4294967296) (dn (num (4294967296) t m))) (num (4294967296) false (lb (4294967296) (gz (N (4294967296) (dn (num (4294967296) t m))) (N (4294967296) (dn (num (4294967296) ty my)))))))))])) else (bif cn (4294967296) (sg (hz (num (4294967296) s l * N (4294967296) (dq (N (4294967296) (dn (num (4294967296) ty my))) (num (4294967296) false (lb (4294967296) (gz (N (4294967296) (dn (num (4294967296) t m))) (N (4294967296) (dn (num (4294967296) ty my)))))))))) (lb (4294967296) (hz (num (4294967296) s l * N (4294967296) (dq (N (4294967296) (dn (num (4294967296) ty my))) (num (4294967296) false (lb (4294967296) (gz (N (4294967296) (dn (num (4294967296) t m))) (N (4294967296) (dn (num (4294967296) ty my)))))))))) && cn (4294967296) (sg (hz (num (4294967296) sy ly * N (4294967296) (dq (N (4294967296) (dn (num (4294967296) t m))) (num (4294967296) false (lb (4294967296) (gz (N (4294967296) (dn (num (4294967296) t m))) (N (4294967296) (dn (num (4294967296) ty my)))))))))) (lb (4294967296) (hz (num (4294967296) sy ly * N (4294967296) (dq (N (4294967296) (dn (num (4294967296) t m))) (num (4294967296) false (lb (4294967296) (gz (N (4294967296) (dn (num (4294967296) t m))) (N (4294967296) (dn (num (4294967296) ty my)))))))))) && fits (N (4294967296) (hz (num (4294967296) s l * N (4294967296) (dq (N (4294967296) (dn (num (4294967296) ty my))) (num (4294967296) false (lb (4294967296) (gz (N (4294967296) (dn (num (4294967296) t m))) (N (4294967296) (dn (num (4294967296) ty my)))))))))) && fits (N (4294967296) (hz (num (4294967296) sy ly * N (4294967296) (dq (N (4294967296) (dn (num (4294967296) t m))) (num (4294967296) false (lb (4294967296) (gz (N (4294967296) (dn (num (4294967296) t m))) (N (4294967296) (dn (num (4294967296) ty my)))))))))) then (bif he (N (4294967296) (hz (num (4294967296) s l * N (4294967296) (dq (N (4294967296) (dn (num (4294967296) ty my))) (num (4294967296) false (lb (4294967296) (gz (N (4294967296) (dn (num (4294967296) t m))) (N (4294967296) (dn (num (4294967296) ty my))))))))) + N (4294967296) (hz (num (4294967296) sy ly * N (4294967296) (dq (N (4294967296) (dn (num (4294967296) t m))) (num (4294967296) false (lb (4294967296) (gz (N (4294967296) (dn (num (4294967296) t m))) (N (4294967296) (dn (num (4294967296) ty my)))))))))) != 0 then some (.val (.tup [.agg [.bool false, .ints .u32 [], .bool false, .ints .u32 []], .int .i64 (he (N (4294967296) (hz (num (4294967296) s l * N (4294967296) (dq (N (4294967296) (dn (num (4294967296) ty my))) (num (4294967296) false (lb (4294967296) (gz (N (4294967296) (dn (num (4294967296) t m))) (N (4294967296) (dn (num (4294967296) ty my))))))))) + N (4294967296) (hz (num (4294967296) sy ly * N (4294967296) (dq (N (4294967296) (dn (num (4294967296) t m))) (num (4294967296) false (lb (4294967296) (gz (N (4294967296) (dn (num (4294967296) t m))) (N (4294967296) (dn (num (4294967296) ty my)))))))))))])) else (bif cn (4294967296) (sg (hz (N (4294967296) (hz (num (4294967296) s l * N (4294967296) (dq (N (4294967296) (dn (num (4294967296) ty my))) (num (4294967296) false (lb (4294967296) (gz (N (4294967296) (dn (num (4294967296) t m))) (N (4294967296) (dn (num (4294967296) ty my))))))))) + N (4294967296) (hz (num (4294967296) sy ly * N (4294967296) (dq (N (4294967296) (dn (num (4294967296) t m))) (num (4294967296) false (lb (4294967296) (gz (N (4294967296) (dn (num (4294967296) t m))) (N (4294967296) (dn (num (4294967296) ty my)))))))))))) (lb (4294967296) (hz (N (4294967296) (hz (num (4294967296) s l * N (4294967296) (dq (N (4294967296) (dn (num (4294967296) ty my))) (num (4294967296) false (lb (4294967296) (gz (N (4294967296) (dn (num (4294967296) t m))) (N (4294967296) (dn (num (4294967296) ty my))))))))) + N (4294967296) (hz (num (4294967296) sy ly * N (4294967296) (dq (N (4294967296) (dn (num (4294967296) t m))) (num (4294967296) false (lb (4294967296) (gz (N (4294967296) (dn (num (4294967296) t m))) (N (4294967296) (dn (num (4294967296) ty my)))))))))))) && cn (4294967296) false (lb (4294967296) (gz (N (4294967296) (dn (num (4294967296) t m))) (N (4294967296) (dn (num (4294967296) ty my))))) then (bif cn (4294967296) (sg (dn (num (4294967296) t m))) (lb (4294967296) (dn (num (4294967296) t m))) && cn (4294967296) false (lb (4294967296) (gz (N (4294967296) (dn (num (4294967296) t m))) (N (4294967296) (dn (num (4294967296) ty my))))) then (bif cn (4294967296) (sg (dn (num (4294967296) ty my))) (lb (4294967296) (dn (num (4294967296) ty my))) && cn (4294967296) false (lb (4294967296) (gz (N (4294967296) (hz (N (4294967296) (hz (num (4294967296) s l * N (4294967296) (dq (N (4294967296) (dn (num (4294967296) ty my))) (num (4294967296) false (lb (4294967296) (gz (N (4294967296) (dn (num (4294967296) t m))) (N (4294967296) (dn (num (4294967296) ty my))))))))) + N (4294967296) (hz (num (4294967296) sy ly * N (4294967296) (dq (N (4294967296) (dn (num (4294967296) t m))) (num (4294967296) false (lb (4294967296) (gz (N (4294967296) (dn (num (4294967296) t m))) (N (4294967296) (dn (num (4294967296) ty my)))))))))))) (num (4294967296) false (lb (4294967296) (gz (N (4294967296) (dn (num (4294967296) t m))) (N (4294967296) (dn (num (4294967296) ty my)))))))) then (bif cn (4294967296) (sg (dq (N (4294967296) (dn (num (4294967296) t m))) (num (4294967296) false (lb (4294967296) (gz (N (4294967296) (dn (num (4294967296) t m))) (N (4294967296) (dn (num (4294967296) ty my)))))))) (lb (4294967296) (dq (N (4294967296) (dn (num (4294967296) t m))) (num (4294967296) false (lb (4294967296) (gz (N (4294967296) (dn (num (4294967296) t m))) (N (4294967296) (dn (num (4294967296) ty my)))))))) && cn (4294967296) (sg (dq (N (4294967296) (dn (num (4294967296) ty my))) (num (4294967296) false (lb (4294967296) (gz (N (4294967296) (hz (N (4294967296) (hz (num (4294967296) s l * N (4294967296) (dq (N (4294967296) (dn (num (4294967296) ty my))) (num (4294967296) false (lb (4294967296) (gz (N (4294967296) (dn (num (4294967296) t m))) (N (4294967296) (dn (num (4294967296) ty my))))))))) + N (4294967296) (hz (num (4294967296) sy ly * N (4294967296) (dq (N (4294967296) (dn (num (4294967296) t m))) (num (4294967296) false (lb (4294967296) (gz (N (4294967296) (dn (num (4294967296) t m))) (N (4294967296) (dn (num (4294967296) ty my)))))))))))) (num (4294967296) false (lb (4294967296) (gz (N (4294967296) (dn (num (4294967296) t m))) (N (4294967296) (dn (num (4294967296) ty my))))))))))) (lb (4294967296) (dq (N (4294967296) (dn (num (4294967296) ty my))) (num (4294967296) false (lb (4294967296) (gz (N (4294967296) (hz (N (4294967296) (hz (num (4294967296) s l * N (4294967296) (dq (N (4294967296) (dn (num (4294967296) ty my))) (num (4294967296) false (lb (4294967296) (gz (N (4294967296) (dn (num (4294967296) t m))) (N (4294967296) (dn (num (4294967296) ty my))))))))) + N (4294967296) (hz (num (4294967296) sy ly * N (4294967296) (dq (N (4294967296) (dn (num (4294967296) t m))) (num (4294967296) false (lb (4294967296) (gz (N (4294967296) (dn (num (4294967296) t m))) (N (4294967296) (dn (num (4294967296) ty my)))))))))))) (num (4294967296) false (lb (4294967296) (gz (N (4294967296) (dn (num (4294967296) t m))) (N (4294967296) (dn (num (4294967296) ty my))))))))))) && fits (N (4294967296) (dq (N (4294967296) (dn (num (4294967296) t m))) (num (4294967296) false (lb (4294967296) (gz (N (4294967296) (dn (num (4294967296) t m))) (N (4294967296) (dn (num (4294967296) ty my)))))))) && fits (N (4294967296) (dq (N (4294967296) (dn (num (4294967296) ty my))) (num (4294967296) false (lb (4294967296) (gz (N (4294967296) (hz (N (4294967296) (hz (num (4294967296) s l * N (4294967296) (dq (N (4294967296) (dn (num (4294967296) ty my))) (num (4294967296) false (lb (4294967296) (gz (N (4294967296) (dn (num (4294967296) t m))) (N (4294967296) (dn (num (4294967296) ty my))))))))) + N (4294967296) (hz (num (4294967296) sy ly * N (4294967296) (dq (N (4294967296) (dn (num (4294967296) t m))) (num (4294967296) false (lb (4294967296) (gz (N (4294967296) (dn (num (4294967296) t m))) (N (4294967296) (dn (num (4294967296) ty my)))))))))))) (num (4294967296) false (lb (4294967296) (gz (N (4294967296) (dn (num (4294967296) t m))) (N (4294967296) (dn (num (4294967296) ty my))))))))))) then (bif he (N (4294967296) (dq (N (4294967296) (dn (num (4294967296) t m))) (num (4294967296) false (lb (4294967296) (gz (N (4294967296) (dn (num (4294967296) t m))) (N (4294967296) (dn (num (4294967296) ty my))))))) * N (4294967296) (dq (N (4294967296) (dn (num (4294967296) ty my))) (num (4294967296) false (lb (4294967296) (gz (N (4294967296) (hz (N (4294967296) (hz (num (4294967296) s l * N (4294967296) (dq (N (4294967296) (dn (num (4294967296) ty my))) (num (4294967296) false (lb (4294967296) (gz (N (4294967296) (dn (num (4294967296) t m))) (N (4294967296) (dn (num (4294967296) ty my))))))))) + N (4294967296) (hz (num (4294967296) sy ly * N (4294967296) (dq (N (4294967296) (dn (num (4294967296) t m))) (num (4294967296) false (lb (4294967296) (gz (N (4294967296) (dn (num (4294967296) t m))) (N (4294967296) (dn (num (4294967296) ty my)))))))))))) (num (4294967296) false (lb (4294967296) (gz (N (4294967296) (dn (num (4294967296) t m))) (N (4294967296) (dn (num (4294967296) ty my))))))))))) != 0 then some (.val (.tup [.agg [.bool false, .ints .u32 [], .bool false, .ints .u32 []], .int .i64 (he (N (4294967296) (dq (N (4294967296) (dn (num (4294967296) t m))) (num (4294967296) false (lb (4294967296) (gz (N (4294967296) (dn (num (4294967296) t m))) (N (4294967296) (dn (num (4294967296) ty my))))))) * N (4294967296) (dq (N (4294967296) (dn (num (4294967296) ty my))) (num (4294967296) false (lb (4294967296) (gz (N (4294967296) (hz (N (4294967296) (hz (num (4294967296) s l * N (4294967296) (dq (N (4294967296) (dn (num (4294967296) ty my))) (num (4294967296) false (lb (4294967296) (gz (N (4294967296) (dn (num (4294967296) t m))) (N (4294967296) (dn (num (4294967296) ty my))))))))) + N (4294967296) (hz (num (4294967296) sy ly * N (4294967296) (dq (N (4294967296) (dn (num (4294967296) t m))) (num (4294967296) false (lb (4294967296) (gz (N (4294967296) (dn (num (4294967296) t m))) (N (4294967296) (dn (num (4294967296) ty my)))))))))))) (num (4294967296) false (lb (4294967296) (gz (N (4294967296) (dn (num (4294967296) t m))) (N (4294967296) (dn (num (4294967296) ty my))))))))))))])) else (bif cn (4294967296) (sg (hz (N (4294967296) (hz (num (4294967296) s l * N (4294967296) (dq (N (4294967296) (dn (num (4294967296) ty my))) (num (4294967296) false (lb (4294967296) (gz (N (4294967296) (dn (num (4294967296) t m))) (N (4294967296) (dn (num (4294967296) ty my))))))))) + N (4294967296) (hz (num (4294967296) sy ly * N (4294967296) (dq (N (4294967296) (dn (num (4294967296) t m))) (num (4294967296) false (lb (4294967296) (gz (N (4294967296) (dn (num (4294967296) t m))) (N (4294967296) (dn (num (4294967296) ty my)))))))))))) (lb (4294967296) (hz (N (4294967296) (hz (num (4294967296) s l * N (4294967296) (dq (N (4294967296) (dn (num (4294967296) ty my))) (num (4294967296) false (lb (4294967296) (gz (N (4294967296) (dn (num (4294967296) t m))) (N (4294967296) (dn (num (4294967296) ty my))))))))) + N (4294967296) (hz (num (4294967296) sy ly * N (4294967296) (dq (N (4294967296) (dn (num (4294967296) t m))) (num (4294967296) false (lb (4294967296) (gz (N (4294967296) (dn (num (4294967296) t m))) (N (4294967296) (dn (num (4294967296) ty my)))))))))))) && cn (4294967296) false (lb (4294967296) (gz (N (4294967296) (hz (N (4294967296) (hz (num (4294967296) s l * N (4294967296) (dq (N (4294967296) (dn (num (4294967296) ty my))) (num (4294967296) false (lb (4294967296) (gz (N (4294967296) (dn (num (4294967296) t m))) (N (4294967296) (dn (num (4294967296) ty my))))))))) + N (4294967296) (hz (num (4294967296) sy ly * N (4294967296) (dq (N (4294967296) (dn (num (4294967296) t m))) (num (4294967296) false (lb (4294967296) (gz (N (4294967296) (dn (num (4294967296) t m))) (N (4294967296) (dn (num (4294967296) ty my)))))))))))) (num (4294967296) false (lb (4294967296) (gz (N (4294967296) (dn (num (4294967296) t m))) (N (4294967296) (dn (num (4294967296) ty my)))))))) then (bif cn (4294967296) (sg (hz (N (4294967296) (dq (N (4294967296) (dn (num (4294967296) t m))) (num (4294967296) false (lb (4294967296) (gz (N (4294967296) (dn (num (4294967296) t m))) (N (4294967296) (dn (num (4294967296) ty my))))))) * N (4294967296) (dq (N (4294967296) (dn (num (4294967296) ty my))) (num (4294967296) false (lb (4294967296) (gz (N (4294967296) (hz (N (4294967296) (hz (num (4294967296) s l * N (4294967296) (dq (N (4294967296) (dn (num (4294967296) ty my))) (num (4294967296) false (lb (4294967296) (gz (N (4294967296) (dn (num (4294967296) t m))) (N (4294967296) (dn (num (4294967296) ty my))))))))) + N (4294967296) (hz (num (4294967296) sy ly * N (4294967296) (dq (N (4294967296) (dn (num (4294967296) t m))) (num (4294967296) false (lb (4294967296) (gz (N (4294967296) (dn (num (4294967296) t m))) (N (4294967296) (dn (num (4294967296) ty my)))))))))))) (num (4294967296) false (lb (4294967296) (gz (N (4294967296) (dn (num (4294967296) t m))) (N (4294967296) (dn (num (4294967296) ty my))))))))))))) (lb (4294967296) (hz (N (4294967296) (dq (N (4294967296) (dn (num (4294967296) t m))) (num (4294967296) false (lb (4294967296) (gz (N (4294967296) (dn (num (4294967296) t m))) (N (4294967296) (dn (num (4294967296) ty my))))))) * N (4294967296) (dq (N (4294967296) (dn (num (4294967296) ty my))) (num (4294967296) false (lb (4294967296) (gz (N (4294967296) (hz (N (4294967296) (hz (num (4294967296) s l * N (4294967296) (dq (N (4294967296) (dn (num (4294967296) ty my))) (num (4294967296) false (lb (4294967296) (gz (N (4294967296) (dn (num (4294967296) t m))) (N (4294967296) (dn (num (4294967296) ty my))))))))) + N (4294967296) (hz (num (4294967296) sy ly * N (4294967296) (dq (N (4294967296) (dn (num (4294967296) t m))) (num (4294967296) false (lb (4294967296) (gz (N (4294967296) (dn (num (4294967296) t m))) (N (4294967296) (dn (num (4294967296) ty my)))))))))))) (num (4294967296) false (lb (4294967296) (gz (N (4294967296) (dn (num (4294967296) t m))) (N (4294967296) (dn (num (4294967296) ty my))))))))))))) then some (.val (.tup [.agg [.bool (sg (dq (N (4294967296) (hz (N (4294967296) (hz (num (4294967296) s l * N (4294967296) (dq (N (4294967296) (dn (num (4294967296) ty my))) (num (4294967296) false (lb (4294967296) (gz (N (4294967296) (dn (num (4294967296) t m))) (N (4294967296) (dn (num (4294967296) ty my))))))))) + N (4294967296) (hz (num (4294967296) sy ly * N (4294967296) (dq (N (4294967296) (dn (num (4294967296) t m))) (num (4294967296) false (lb (4294967296) (gz (N (4294967296) (dn (num (4294967296) t m))) (N (4294967296) (dn (num (4294967296) ty my)))))))))))) (num (4294967296) false (lb (4294967296) (gz (N (4294967296) (hz (N (4294967296) (hz (num (4294967296) s l * N (4294967296) (dq (N (4294967296) (dn (num (4294967296) ty my))) (num (4294967296) false (lb (4294967296) (gz (N (4294967296) (dn (num (4294967296) t m))) (N (4294967296) (dn (num (4294967296) ty my))))))))) + N (4294967296) (hz (num (4294967296) sy ly * N (4294967296) (dq (N (4294967296) (dn (num (4294967296) t m))) (num (4294967296) false (lb (4294967296) (gz (N (4294967296) (dn (num (4294967296) t m))) (N (4294967296) (dn (num (4294967296) ty my)))))))))))) (num (4294967296) false (lb (4294967296) (gz (N (4294967296) (dn (num (4294967296) t m))) (N (4294967296) (dn (num (4294967296) ty my))))))))))), .ints .u32 (lb (4294967296) (dq (N (4294967296) (hz (N (4294967296) (hz (num (4294967296) s l * N (4294967296) (dq (N (4294967296) (dn (num (4294967296) ty my))) (num (4294967296) false (lb (4294967296) (gz (N (4294967296) (dn (num (4294967296) t m))) (N (4294967296) (dn (num (4294967296) ty my))))))))) + N (4294967296) (hz (num (4294967296) sy ly * N (4294967296) (dq (N (4294967296) (dn (num (4294967296) t m))) (num (4294967296) false (lb (4294967296) (gz (N (4294967296) (dn (num (4294967296) t m))) (N (4294967296) (dn (num (4294967296) ty my)))))))))))) (num (4294967296) false (lb (4294967296) (gz (N (4294967296) (hz (N (4294967296) (hz (num (4294967296) s l * N (4294967296) (dq (N (4294967296) (dn (num (4294967296) ty my))) (num (4294967296) false (lb (4294967296) (gz (N (4294967296) (dn (num (4294967296) t m))) (N (4294967296) (dn (num (4294967296) ty my))))))))) + N (4294967296) (hz (num (4294967296) sy ly * N (4294967296) (dq (N (4294967296) (dn (num (4294967296) t m))) (num (4294967296) false (lb (4294967296) (gz (N (4294967296) (dn (num (4294967296) t m))) (N (4294967296) (dn (num (4294967296) ty my)))))))))))) (num (4294967296) false (lb (4294967296) (gz (N (4294967296) (dn (num (4294967296) t m))) (N (4294967296) (dn (num (4294967296) ty my))))))))))), .bool (sg (zd (N (4294967296) (hz (N (4294967296) (dq (N (4294967296) (dn (num (4294967296) t m))) (num (4294967296) false (lb (4294967296) (gz (N (4294967296) (dn (num (4294967296) t m))) (N (4294967296) (dn (num (4294967296) ty my))))))) * N (4294967296) (dq (N (4294967296) (dn (num (4294967296) ty my))) (num (4294967296) false (lb (4294967296) (gz (N (4294967296) (hz (N (4294967296) (hz (num (4294967296) s l * N (4294967296) (dq (N (4294967296) (dn (num (4294967296) ty my))) (num (4294967296) false (lb (4294967296) (gz (N (4294967296) (dn (num (4294967296) t m))) (N (4294967296) (dn (num (4294967296) ty my))))))))) + N (4294967296) (hz (num (4294967296) sy ly * N (4294967296) (dq (N (4294967296) (dn (num (4294967296) t m))) (num (4294967296) false (lb (4294967296) (gz (N (4294967296) (dn (num (4294967296) t m))) (N (4294967296) (dn (num (4294967296) ty my)))))))))))) (num (4294967296) false (lb (4294967296) (gz (N (4294967296) (dn (num (4294967296) t m))) (N (4294967296) (dn (num (4294967296) ty my))))))))))))))), .ints .u32 (lb (4294967296) (zd (N (4294967296) (hz (N (4294967296) (dq (N (4294967296) (dn (num (4294967296) t m))) (num (4294967296) false (lb (4294967296) (gz (N (4294967296) (dn (num (4294967296) t m))) (N (4294967296) (dn (num (4294967296) ty my))))))) * N (4294967296) (dq (N (4294967296) (dn (num (4294967296) ty my))) (num (4294967296) false (lb (4294967296) (gz (N (4294967296) (hz (N (4294967296) (hz (num (4294967296) s l * N (4294967296) (dq (N (4294967296) (dn (num (4294967296) ty my))) (num (4294967296) false (lb (4294967296) (gz (N (4294967296) (dn (num (4294967296) t m))) (N (4294967296) (dn (num (4294967296) ty my))))))))) + N (4294967296) (hz (num (4294967296) sy ly * N (4294967296) (dq (N (4294967296) (dn (num (4294967296) t m))) (num (4294967296) false (lb (4294967296) (gz (N (4294967296) (dn (num (4294967296) t m))) (N (4294967296) (dn (num (4294967296) ty my)))))))))))) (num (4294967296) false (lb (4294967296) (gz (N (4294967296) (dn (num (4294967296) t m))) (N (4294967296) (dn (num (4294967296) ty my)))))))))))))))], .int .i64 (0)])) else none) else none)) else none) else none) else none) else none)) else none)) else none) else none)) else none) else none) else none) else none) else none) := by kernel_rfl
end QAdd
namespace QMul
abbrev ans : Ans := [(20, ansDen), (22, ansGcd), (64, ansOver), (72, ansMul), (63, ansMade)]
abbrev orc : Orc := orcOf ans
theorem rest (s : Bool) (l : List Int) (t : Bool) (m : List Int) (sy : Bool) (ly : List Int) (ty : Bool) (my : List Int) : runT T orc (noTab) Try.f52 [.agg [.bool s, .ints .u32 l, .bool t, .ints .u32 m], .agg [.bool sy, .ints .u32 ly, .bool ty, .ints .u32 my]] =
    (bif cn (4294967296) ty my then (bif cn (4294967296) s l && cn (4294967296) (sg (dn (num (4294967296) ty my))) (lb (4294967296) (dn (num (4294967296) ty my))) then (bif cn (4294967296) t m then (bif cn (4294967296) sy ly && cn (4294967296) (sg (dn (num (4294967296) t m))) (lb (4294967296) (dn (num (4294967296) t m))) then (bif cn (4294967296) s l && cn (4294967296) false (lb (4294967296) (gz (num (4294967296) s l) (N (4294967296) (dn (num (4294967296) ty my))))) then (bif cn (4294967296) sy ly && cn (4294967296) false (lb (4294967296) (gz (num (4294967296) sy ly) (N (4294967296) (dn (num (4294967296) t m))))) then (bif cn (4294967296) (sg (dq (num (4294967296) s l) (num (4294967296) false (lb (4294967296) (gz (num (4294967296) s l) (N (4294967296) (dn (num (4294967296) ty my)))))))) (lb (4294967296) (dq (num (4294967296) s l) (num (4294967296) false (lb (4294967296) (gz (num (4294967296) s l) (N (4294967296) (dn (num (4294967296) ty my)))))))) && cn (4294967296) (sg (dq (num (4294967296) sy ly) (num (4294967296) false (lb (4294967296) (gz (num (4294967296) sy ly) (N (4294967296) (dn (num (4294967296) t m)))))))) (lb (4294967296) (dq (num (4294967296) sy ly) (num (4294967296) false (lb (4294967296) (gz (num (4294967296) sy ly) (N (4294967296) (dn (num (4294967296) t m)))))))) && fits (N (4294967296) (dq (num (4294967296) s l) (num (4294967296) false (lb (4294967296) (gz (num (4294967296) s l) (N (4294967296) (dn (num (4294967296) ty my)))))))) && fits (N (4294967296) (dq (num (4294967296) sy ly) (num (4294967296) false (lb (4294967296) (gz (num (4294967296) sy ly) (N (4294967296) (dn (num (4294967296) t m)))))))) then (bif cn (4294967296) t m then (bif cn (4294967296) (sg (dn (num (4294967296) t m))) (lb (4294967296) (dn (num (4294967296) t m))) && cn (4294967296) false (lb (4294967296) (gz (num (4294967296) sy ly) (N (4294967296) (dn (num (4294967296) t m))))) then (bif cn (4294967296) ty my then (bif cn (4294967296) (sg (dn (num (4294967296) ty my))) (lb (4294967296) (dn (num (4294967296) ty my))) && cn (4294967296) false (lb (4294967296) (gz (num (4294967296) s l) (N (4294967296) (dn (num (4294967296) ty my))))) then (bif cn (4294967296) (sg (dq (N (4294967296) (dn (num (4294967296) t m))) (num (4294967296) false (lb (4294967296) (gz (num (4294967296) sy ly) (N (4294967296) (dn (num (4294967296) t m)))))))) (lb (4294967296) (dq (N (4294967296) (dn (num (4294967296) t m))) (num (4294967296) false (lb (4294967296) (gz (num (4294967296) sy ly) (N (4294967296) (dn (num (4294967296) t m)))))))) && cn (4294967296) (sg (dq (N (4294967296) (dn (num (4294967296) ty my))) (num (4294967296) false (lb (4294967296) (gz (num (4294967296) s l) (N (4294967296) (dn (num (4294967296) ty my)))))))) (lb (4294967296) (dq (N (4294967296) (dn (num (4294967296) ty my))) (num (4294967296) false (lb (4294967296) (gz (num (4294967296) s l) (N (4294967296) (dn (num (4294967296) ty my)))))))) && fits (N (4294967296) (dq (N (4294967296) (dn (num (4294967296) t m))) (num (4294967296) false (lb (4294967296) (gz (num (4294967296) sy ly) (N (4294967296) (dn (num (4294967296) t m)))))))) && fits (N (4294967296) (dq (N (4294967296) (dn (num (4294967296) ty my))) (num (4294967296) false (lb (4294967296) (gz (num (4294967296) s l) (N (4294967296) (dn (num (4294967296) ty my)))))))) then (bif he (N (4294967296) (dq (num (4294967296) s l) (num (4294967296) false (lb (4294967296) (gz (num (4294967296) s l) (N (4294967296) (dn (num (4294967296) ty my))))))) * N (4294967296) (dq (num (4294967296) sy ly) (num (4294967296) false (lb (4294967296) (gz (num (4294967296) sy ly) (N (4294967296) (dn (num (4294967296) t m)))))))) != 0 then some (.val (.tup [.agg [.bool false, .ints .u32 [], .bool false, .ints .u32 []], .int .i64 (11)])) else (bif he (N (4294967296) (dq (N (4294967296) (dn (num (4294967296) t m))) (num (4294967296) false (lb (4294967296) (gz (num (4294967296) sy ly) (N (4294967296) (dn (num (4294967296) t m))))))) * N (4294967296) (dq (N (4294967296) (dn (num (4294967296) ty my))) (num (4294967296) false (lb (4294967296) (gz (num (4294967296) s l) (N (4294967296) (dn (num (4294967296) ty my)))))))) != 0 then some (.val (.tup [.agg [.bool false, .ints .u32 [], .bool false, .ints .u32 []], .int .i64 (11)])) else (bif cn (4294967296) (sg (hz (N (4294967296) (dq (N (4294967296) (dn (num (4294967296) t m))) (num (4294967296) false (lb (4294967296) (gz (num (4294967296) sy ly) (N (4294967296) (dn (num (4294967296) t m))))))) * N (4294967296) (dq (N (4294967296) (dn (num (4294967296) ty my))) (num (4294967296) false (lb (4294967296) (gz (num (4294967296) s l) (N (4294967296) (dn (num (4294967296) ty my)))))))))) (lb (4294967296) (hz (N (4294967296) (dq (N (4294967296) (dn (num (4294967296) t m))) (num (4294967296) false (lb (4294967296) (gz (num (4294967296) sy ly) (N (4294967296) (dn (num (4294967296) t m))))))) * N (4294967296) (dq (N (4294967296) (dn (num (4294967296) ty my))) (num (4294967296) false (lb (4294967296) (gz (num (4294967296) s l) (N (4294967296) (dn (num (4294967296) ty my)))))))))) then some (.val (.tup [.agg [.bool (sg (hz (N (4294967296) (dq (num (4294967296) s l) (num (4294967296) false (lb (4294967296) (gz (num (4294967296) s l) (N (4294967296) (dn (num (4294967296) ty my))))))) * N (4294967296) (dq (num (4294967296) sy ly) (num (4294967296) false (lb (4294967296) (gz (num (4294967296) sy ly) (N (4294967296) (dn (num (4294967296) t m)))))))))), .ints .u32 (lb (4294967296) (hz (N (4294967296) (dq (num (4294967296) s l) (num (4294967296) false (lb (4294967296) (gz (num (4294967296) s l) (N (4294967296) (dn (num (4294967296) ty my))))))) * N (4294967296) (dq (num (4294967296) sy ly) (num (4294967296) false (lb (4294967296) (gz (num (4294967296) sy ly) (N (4294967296) (dn (num (4294967296) t m)))))))))), .bool (sg (zd (N (4294967296) (hz (N (4294967296) (dq (N (4294967296) (dn (num (4294967296) t m))) (num (4294967296) false (lb (4294967296) (gz (num (4294967296) sy ly) (N (4294967296) (dn (num (4294967296) t m))))))) * N (4294967296) (dq (N (4294967296) (dn (num (4294967296) ty my))) (num (4294967296) false (lb (4294967296) (gz (num (4294967296) s l) (N (4294967296) (dn (num (4294967296) ty my)))))))))))), .ints .u32 (lb (4294967296) (zd (N (4294967296) (hz (N (4294967296) (dq (N (4294967296) (dn (num (4294967296) t m))) (num (4294967296) false (lb (4294967296) (gz (num (4294967296) sy ly) (N (4294967296) (dn (num (4294967296) t m))))))) * N (4294967296) (dq (N (4294967296) (dn (num (4294967296) ty my))) (num (4294967296) false (lb (4294967296) (gz (num (4294967296) s l) (N (4294967296) (dn (num (4294967296) ty my))))))))))))], .int .i64 (0)])) else none))) else none) else none) else none) else none) else none) else none) else none) else none) else none) else none) else none) else none) := by kernel_rfl
end QMul
end
end Go.Abs
end
section
/- Sums and products in ratio answer as the tables say. -/
namespace Go.Abs
open Go.Proofs Go.Dig
theorem dq_gz (a b : Int) (c : Nat) (hc : c ≠ 0) (x : Int) : dq x (gz b (c : Int)) = x / (Nat.gcd b.natAbs c : Nat) := by
  have hp : 0 < Nat.gcd b.natAbs c := Nat.gcd_pos_of_pos_right _ (by omega)
  unfold dq gz
  rw [show Int.gcd b (c : Int) = Nat.gcd b.natAbs c from rfl, if_neg (by omega), Int.fdiv_eq_ediv_of_nonneg _ (by omega)]
theorem mul_dq (q p : Rat) : dq q.num (gz q.num p.den) * dq p.num (gz p.num q.den) = (q * p).num ∧ dq (q.den : Int) (gz p.num q.den) * dq (p.den : Int) (gz q.num p.den) = ((q * p).den : Int) := by
  obtain ⟨h1, h2⟩ := mul_parts q p
  rw [h1, h2, dq_gz 0 _ _ p.den_nz, dq_gz 0 _ _ q.den_nz, dq_gz 0 _ _ p.den_nz, dq_gz 0 _ _ q.den_nz]
  exact ⟨rfl, by rw [Int.natCast_mul, Int.natCast_ediv, Int.natCast_ediv]⟩
theorem fitsQ_he {q : Rat} : fitsQ q = true ↔ he q.num = 0 ∧ he (q.den : Int) = 0 := by rw [fitsQ_iff, he_zero, he_zero]
theorem meets_qmul : Meets Try.prog 52 ansQMul := by
  refine meets_fn (orc_ok (l := QMul.ans) ⟨meets_qden, meets_gcd, meets_over, meets_mul, meets_made, trivial⟩) Try.f52 rfl (by kernel_rfl) (fun args r h => ?_)
  unfold ansQMul at h
  split at h
  · rename_i s l t m s' l' t' m'
    simp only [Option.some.injEq, Prod.mk.injEq] at h
    obtain ⟨h1, rfl⟩ := h
    rw [Bool.and_eq_true] at h1
    refine ⟨rfl, _, noTab_all, (QMul.rest s l t m s' l' t' m').trans ?_⟩
    obtain ⟨q, hq, rfl, rfl, rfl, rfl⟩ := isQ_iff.1 h1.1
    obtain ⟨p, hp, rfl, rfl, rfl, rfl⟩ := isQ_iff.1 h1.2
    have fqn := (fitsQ_iff.1 hq).1
    have fqd := (fitsQ_iff.1 hq).2
    have fpn := (fitsQ_iff.1 hp).1
    have fpd := (fitsQ_iff.1 hp).2
    have fg := fits_gz fqn fpd
    have fh := fits_gz fpn fqd
    have f1 := fits_dq (y := gz q.num p.den) fqn
    have f2 := fits_dq (y := gz p.num q.den) fpn
    have f3 := fits_dq (y := gz p.num q.den) fqd
    have f4 := fits_dq (y := gz q.num p.den) fpd
    simp only [cn_zd hq, cn_zd hp, cn_nm hq, cn_nm hp, num_zd, dn_den, cn_den hq, cn_den hp, num_lbW, N_eq, rq_Q, cnW_gz, numW_gz, cnW, fit_lim fg, fit_lim fh, fit_lim f1, fit_lim f2, fit_lim f3, fit_lim f4, f1, f2, f3, f4, decide_eq_true (small_hz _), Bool.and_self, cond_true]
    obtain ⟨e1, e2⟩ := mul_dq q p
    rw [e1, e2, qmul_eq, emul_eq]
    generalize q * p = v at *
    by_cases a1 : he v.num = 0
    · refine (bF (eq_b a1)).trans ?_
      by_cases a2 : he (v.den : Int) = 0
      · refine (bF (eq_b a2)).trans ?_
        rw [fitsQ_he.2 ⟨a1, a2⟩, hz_he a1, hz_he a2, sg_nn (zd_nn (Int.natCast_nonneg _))]
        rfl
      · refine (bT (ne_b a2)).trans ?_
        rw [show fitsQ v = false from by rw [Bool.eq_false_iff, ne_eq, fitsQ_he]; exact fun h => a2 h.2]
        rfl
    · refine (bT (ne_b a1)).trans ?_
      rw [show fitsQ v = false from by rw [Bool.eq_false_iff, ne_eq, fitsQ_he]; exact fun h => a1 h.1]
      rfl
  · cases h
theorem meets_qadd : Meets Try.prog 29 ansQAdd := by
  refine meets_fn (orc_ok (l := QAdd.ans) ⟨meets_qden, meets_gcd, meets_over, meets_mul, meets_add, meets_made, trivial⟩) Try.f29 rfl (by kernel_rfl) (fun args r h => ?_)
  unfold ansQAdd at h
  split at h
  · rename_i s l t m s' l' t' m'
    simp only [Option.some.injEq, Prod.mk.injEq] at h
    obtain ⟨h1, rfl⟩ := h
    rw [Bool.and_eq_true] at h1
    refine ⟨rfl, _, noTab_all, (QAdd.rest s l t m s' l' t' m').trans ?_⟩
    obtain ⟨q, hq, rfl, rfl, rfl, rfl⟩ := isQ_iff.1 h1.1
    obtain ⟨p, hp, rfl, rfl, rfl, rfl⟩ := isQ_iff.1 h1.2
    have fqn := (fitsQ_iff.1 hq).1
    have fqd := (fitsQ_iff.1 hq).2
    have fpn := (fitsQ_iff.1 hp).1
    have fpd := (fitsQ_iff.1 hp).2
    have fg := fits_gz fqd fpd
    have f3 := fits_dq (y := gz q.den p.den) fqd
    have f4 := fits_dq (y := gz q.den p.den) fpd
    simp only [cn_zd hq, cn_zd hp, cn_nm hq, cn_nm hp, num_zd, dn_den, cn_den hq, cn_den hp, num_lbW, N_eq, rq_Q, cnW_gz, numW_gz, cnW, fqn, fpn, fit_lim fg, fit_lim f3, fit_lim f4, f3, f4, decide_eq_true (small_hz _), fits_hz, Bool.and_self, cond_true]
    have hgz : gz (q.den : Int) p.den = ((Nat.gcd q.den p.den : Nat) : Int) := rfl
    rw [hgz] at fg f3 f4 ⊢
    obtain ⟨g, hg⟩ : ∃ g, g = Nat.gcd q.den p.den := ⟨_, rfl⟩
    have hgp : 0 < g := hg ▸ Nat.gcd_pos_of_pos_right _ (by have := p.den_nz; omega)
    have hE := eadd_eq q p
    rw [← hg] at fg f3 f4 hE ⊢
    have hdq : ∀ x : Int, dq x (g : Int) = x / (g : Int) := fun x => by unfold dq; rw [if_neg (by omega), Int.fdiv_eq_ediv_of_nonneg _ (by omega)]
    rw [hdq] at f3 f4
    rw [hdq, hdq]
    dsimp only at hE
    obtain ⟨n1, n2⟩ := add_parts q p g (q.num * (p.den / g : Nat) + p.num * (q.den / g : Nat)) hg rfl
    have n2' : ((q + p).den : Int) = ((q.den : Int) / g) * ((p.den : Int) / (Nat.gcd (q.num * ((p.den : Int) / g) + p.num * ((q.den : Int) / g)).natAbs g : Nat)) := by
      simp only [n2, Int.natCast_mul, Int.natCast_ediv]
    have hgc : ∀ T : Int, Int.gcd T (g : Int) = Nat.gcd T.natAbs g := fun _ => rfl
    rw [hgc, ← n2'] at hE
    rw [Int.natCast_ediv, Int.natCast_ediv] at n1
    have hgg : ∀ x : Int, dq x (gz (q.num * ((p.den : Int) / g) + p.num * ((q.den : Int) / g)) (g : Int)) = x / (Nat.gcd (q.num * ((p.den : Int) / g) + p.num * ((q.den : Int) / g)).natAbs g : Nat) := fun x => dq_gz 0 _ _ (by omega) x
    have hsm : ∀ T : Int, (gz T (g : Int)).natAbs < Lim := fun T => by
      refine Nat.lt_of_le_of_lt ?_ (small_of_fits fg)
      unfold gz
      rw [Int.natAbs_natCast]
      exact Nat.le_of_dvd (by omega) (Nat.gcd_dvd_right ..)
    rw [qadd_eq]
    generalize (q.den : Int) / g = B at *
    generalize (p.den : Int) / g = D at *
    by_cases a1 : he (q.num * D) = 0
    · refine (bF (eq_b a1)).trans ?_
      by_cases a2 : he (p.num * B) = 0
      · refine (bF (eq_b a2)).trans ?_
        rw [hz_he a1, hz_he a2]
        by_cases a3 : he (q.num * D + p.num * B) = 0
        · refine (bF (eq_b a3)).trans ?_
          rw [hz_he a3, hgg, hgg]
          have fk : fits ((p.den : Int) / (Nat.gcd (q.num * D + p.num * B).natAbs g : Nat)) = true := fits_le' fpd (Int.natAbs_ediv_le_natAbs ..)
          rw [fk, decide_eq_true (hsm _), fit_lim fk]
          refine (bT rfl).trans ((bT rfl).trans ?_)
          rw [← n2', ← n1]
          by_cases a4 : he ((q + p).den : Int) = 0
          · refine (bF (eq_b a4)).trans ((bT rfl).trans ?_)
            have : eadd q p = 0 := by
              rw [hE, he_zero.1 a1, he_zero.1 a2, he_zero.1 a3]
              exact bT (by rw [he_zero.1 a4]; rfl)
            rw [this, hz_he a4, sg_nn (zd_nn (Int.natCast_nonneg _))]
            rfl
          · refine (bT (ne_b a4)).trans ?_
            have : eadd q p = 11 := by
              rw [hE, he_zero.1 a1, he_zero.1 a2, he_zero.1 a3]
              refine bF ?_
              rw [show fits ((q + p).den : Int) = false from by rw [Bool.eq_false_iff, ne_eq, ← he_zero]; exact a4]
              rfl
            rw [this, (he_cases _).resolve_left a4]
            rfl
        · refine (bT (ne_b a3)).trans ?_
          have : eadd q p = 11 := by
            rw [hE, he_zero.1 a1, he_zero.1 a2, show fits (q.num * D + p.num * B) = false from by rw [Bool.eq_false_iff, ne_eq, ← he_zero]; exact a3]
            rfl
          rw [this, (he_cases _).resolve_left a3]
          rfl
      · refine (bT (ne_b a2)).trans ?_
        have : eadd q p = 11 := by
          rw [hE, he_zero.1 a1, show fits (p.num * B) = false from by rw [Bool.eq_false_iff, ne_eq, ← he_zero]; exact a2]
          rfl
        rw [this, (he_cases _).resolve_left a2]
        rfl
    · refine (bT (ne_b a1)).trans ?_
      have : eadd q p = 11 := by
        rw [hE, show fits (q.num * D) = false from by rw [Bool.eq_false_iff, ne_eq, ← he_zero]; exact a1]
        rfl
      rw [this, (he_cases _).resolve_left a1]
      rfl
  · cases h
end Go.Abs
end
